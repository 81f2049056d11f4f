/- geoderef03: Of, Extend, asks, divide. -/
import Derived.Test.YtdoejkdckokjdaaDoorRefA
namespace Go.Proofs.YtdoejkdckokjdaaDoor
open Go.RowKit

theorem Of_69_69 (w : World) : Calls Tryd.prog 19 #[.int .i64 69] w fun e w' => e = .returned (.agg #[.int .i64 0, .int .i64 32, .int .i64 32, .int .i64 1]) ∧ Below w.heap.size w w' := by
  go_enter Tryd.func19, Tryd.ntmps19
  go_wp2
  refine bodyPost_ret (v := .agg #[.int .i64 0, .int .i64 32, .int .i64 32, .int .i64 1]) (by simp [results, Tryd.results19, go_sem]) rfl ⟨rfl, ?_⟩
  exact (Below.refl _ _).alloc (Nat.le_refl _) _
theorem Of_70_79 (i : Int) (h1 : 70 ≤ i) (h2 : i ≤ 79) (w : World) : Calls Tryd.prog 19 #[.int .i64 i] w fun e w' => e = .returned (.agg #[.int .i64 (i - 60), .int .i64 32, .int .i64 32, .int .i64 2]) ∧ Below w.heap.size w w' := by
  have q69 : (i == 69) = false := by simp; omega
  have q80 : (i == 80) = false := by simp; omega
  have q167 : (i == 167) = false := by simp; omega
  have q172 : (i == 172) = false := by simp; omega
  have q173 : (i == 173) = false := by simp; omega
  have q192 : (i == 192) = false := by simp; omega
  have q193 : (i == 193) = false := by simp; omega
  have g70 : decide ((70 : Int) ≤ i) = true := by simp; omega
  have l79 : decide (i ≤ 79) = true := by simp; omega
  have g81 : decide ((81 : Int) ≤ i) = false := by simp; omega
  have l90 : decide (i ≤ 90) = true := by simp; omega
  have g103 : decide ((103 : Int) ≤ i) = false := by simp; omega
  have l105 : decide (i ≤ 105) = true := by simp; omega
  have g106 : decide ((106 : Int) ≤ i) = false := by simp; omega
  have l120 : decide (i ≤ 120) = true := by simp; omega
  have g121 : decide ((121 : Int) ≤ i) = false := by simp; omega
  have l123 : decide (i ≤ 123) = true := by simp; omega
  have g124 : decide ((124 : Int) ≤ i) = false := by simp; omega
  have l138 : decide (i ≤ 138) = true := by simp; omega
  have g194 : decide ((194 : Int) ≤ i) = false := by simp; omega
  have l196 : decide (i ≤ 196) = true := by simp; omega
  have hA : wrap64 (10 + i) = 10 + i := by unfold wrap64; omega
  have hB : wrap64 (10 + i - 70) = i - 60 := by unfold wrap64; omega
  clear h1 h2
  go_enter Tryd.func19, Tryd.ntmps19
  go_wp2
  refine bodyPost_ret (v := .agg #[.int .i64 (i - 60), .int .i64 32, .int .i64 32, .int .i64 2]) (by simp [results, Tryd.results19, go_sem]) rfl ⟨rfl, ?_⟩
  exact (Below.refl _ _).alloc (Nat.le_refl _) _
theorem Of_80_80 (w : World) : Calls Tryd.prog 19 #[.int .i64 80] w fun e w' => e = .returned (.agg #[.int .i64 0, .int .i64 64, .int .i64 32, .int .i64 1]) ∧ Below w.heap.size w w' := by
  go_enter Tryd.func19, Tryd.ntmps19
  go_wp2
  refine bodyPost_ret (v := .agg #[.int .i64 0, .int .i64 64, .int .i64 32, .int .i64 1]) (by simp [results, Tryd.results19, go_sem]) rfl ⟨rfl, ?_⟩
  exact (Below.refl _ _).alloc (Nat.le_refl _) _
theorem Of_81_90 (i : Int) (h1 : 81 ≤ i) (h2 : i ≤ 90) (w : World) : Calls Tryd.prog 19 #[.int .i64 i] w fun e w' => e = .returned (.agg #[.int .i64 (i - 71), .int .i64 64, .int .i64 32, .int .i64 2]) ∧ Below w.heap.size w w' := by
  have q69 : (i == 69) = false := by simp; omega
  have q80 : (i == 80) = false := by simp; omega
  have q167 : (i == 167) = false := by simp; omega
  have q172 : (i == 172) = false := by simp; omega
  have q173 : (i == 173) = false := by simp; omega
  have q192 : (i == 192) = false := by simp; omega
  have q193 : (i == 193) = false := by simp; omega
  have g70 : decide ((70 : Int) ≤ i) = true := by simp; omega
  have l79 : decide (i ≤ 79) = false := by simp; omega
  have g81 : decide ((81 : Int) ≤ i) = true := by simp; omega
  have l90 : decide (i ≤ 90) = true := by simp; omega
  have g103 : decide ((103 : Int) ≤ i) = false := by simp; omega
  have l105 : decide (i ≤ 105) = true := by simp; omega
  have g106 : decide ((106 : Int) ≤ i) = false := by simp; omega
  have l120 : decide (i ≤ 120) = true := by simp; omega
  have g121 : decide ((121 : Int) ≤ i) = false := by simp; omega
  have l123 : decide (i ≤ 123) = true := by simp; omega
  have g124 : decide ((124 : Int) ≤ i) = false := by simp; omega
  have l138 : decide (i ≤ 138) = true := by simp; omega
  have g194 : decide ((194 : Int) ≤ i) = false := by simp; omega
  have l196 : decide (i ≤ 196) = true := by simp; omega
  have hA : wrap64 (10 + i) = 10 + i := by unfold wrap64; omega
  have hB : wrap64 (10 + i - 81) = i - 71 := by unfold wrap64; omega
  clear h1 h2
  go_enter Tryd.func19, Tryd.ntmps19
  go_wp2
  refine bodyPost_ret (v := .agg #[.int .i64 (i - 71), .int .i64 64, .int .i64 32, .int .i64 2]) (by simp [results, Tryd.results19, go_sem]) rfl ⟨rfl, ?_⟩
  exact (Below.refl _ _).alloc (Nat.le_refl _) _
theorem Of_103_105 (i : Int) (h1 : 103 ≤ i) (h2 : i ≤ 105) (w : World) : Calls Tryd.prog 19 #[.int .i64 i] w fun e w' => e = .returned (.agg #[.int .i64 (i - 102), .int .i64 32, .int .i64 32, .int .i64 1]) ∧ Below w.heap.size w w' := by
  have q69 : (i == 69) = false := by simp; omega
  have q80 : (i == 80) = false := by simp; omega
  have q167 : (i == 167) = false := by simp; omega
  have q172 : (i == 172) = false := by simp; omega
  have q173 : (i == 173) = false := by simp; omega
  have q192 : (i == 192) = false := by simp; omega
  have q193 : (i == 193) = false := by simp; omega
  have g70 : decide ((70 : Int) ≤ i) = true := by simp; omega
  have l79 : decide (i ≤ 79) = false := by simp; omega
  have g81 : decide ((81 : Int) ≤ i) = true := by simp; omega
  have l90 : decide (i ≤ 90) = false := by simp; omega
  have g103 : decide ((103 : Int) ≤ i) = true := by simp; omega
  have l105 : decide (i ≤ 105) = true := by simp; omega
  have g106 : decide ((106 : Int) ≤ i) = false := by simp; omega
  have l120 : decide (i ≤ 120) = true := by simp; omega
  have g121 : decide ((121 : Int) ≤ i) = false := by simp; omega
  have l123 : decide (i ≤ 123) = true := by simp; omega
  have g124 : decide ((124 : Int) ≤ i) = false := by simp; omega
  have l138 : decide (i ≤ 138) = true := by simp; omega
  have g194 : decide ((194 : Int) ≤ i) = false := by simp; omega
  have l196 : decide (i ≤ 196) = true := by simp; omega
  have hA : wrap64 (1 + i) = 1 + i := by unfold wrap64; omega
  have hB : wrap64 (1 + i - 103) = i - 102 := by unfold wrap64; omega
  clear h1 h2
  go_enter Tryd.func19, Tryd.ntmps19
  go_wp2
  refine bodyPost_ret (v := .agg #[.int .i64 (i - 102), .int .i64 32, .int .i64 32, .int .i64 1]) (by simp [results, Tryd.results19, go_sem]) rfl ⟨rfl, ?_⟩
  exact (Below.refl _ _).alloc (Nat.le_refl _) _
theorem Of_106_120 (i : Int) (h1 : 106 ≤ i) (h2 : i ≤ 120) (w : World) : Calls Tryd.prog 19 #[.int .i64 i] w fun e w' => e = .returned (.agg #[.int .i64 (i - 86), .int .i64 32, .int .i64 32, .int .i64 2]) ∧ Below w.heap.size w w' := by
  have q69 : (i == 69) = false := by simp; omega
  have q80 : (i == 80) = false := by simp; omega
  have q167 : (i == 167) = false := by simp; omega
  have q172 : (i == 172) = false := by simp; omega
  have q173 : (i == 173) = false := by simp; omega
  have q192 : (i == 192) = false := by simp; omega
  have q193 : (i == 193) = false := by simp; omega
  have g70 : decide ((70 : Int) ≤ i) = true := by simp; omega
  have l79 : decide (i ≤ 79) = false := by simp; omega
  have g81 : decide ((81 : Int) ≤ i) = true := by simp; omega
  have l90 : decide (i ≤ 90) = false := by simp; omega
  have g103 : decide ((103 : Int) ≤ i) = true := by simp; omega
  have l105 : decide (i ≤ 105) = false := by simp; omega
  have g106 : decide ((106 : Int) ≤ i) = true := by simp; omega
  have l120 : decide (i ≤ 120) = true := by simp; omega
  have g121 : decide ((121 : Int) ≤ i) = false := by simp; omega
  have l123 : decide (i ≤ 123) = true := by simp; omega
  have g124 : decide ((124 : Int) ≤ i) = false := by simp; omega
  have l138 : decide (i ≤ 138) = true := by simp; omega
  have g194 : decide ((194 : Int) ≤ i) = false := by simp; omega
  have l196 : decide (i ≤ 196) = true := by simp; omega
  have hA : wrap64 (20 + i) = 20 + i := by unfold wrap64; omega
  have hB : wrap64 (20 + i - 106) = i - 86 := by unfold wrap64; omega
  clear h1 h2
  go_enter Tryd.func19, Tryd.ntmps19
  go_wp2
  refine bodyPost_ret (v := .agg #[.int .i64 (i - 86), .int .i64 32, .int .i64 32, .int .i64 2]) (by simp [results, Tryd.results19, go_sem]) rfl ⟨rfl, ?_⟩
  exact (Below.refl _ _).alloc (Nat.le_refl _) _
theorem Of_121_123 (i : Int) (h1 : 121 ≤ i) (h2 : i ≤ 123) (w : World) : Calls Tryd.prog 19 #[.int .i64 i] w fun e w' => e = .returned (.agg #[.int .i64 (i - 120), .int .i64 64, .int .i64 64, .int .i64 1]) ∧ Below w.heap.size w w' := by
  have q69 : (i == 69) = false := by simp; omega
  have q80 : (i == 80) = false := by simp; omega
  have q167 : (i == 167) = false := by simp; omega
  have q172 : (i == 172) = false := by simp; omega
  have q173 : (i == 173) = false := by simp; omega
  have q192 : (i == 192) = false := by simp; omega
  have q193 : (i == 193) = false := by simp; omega
  have g70 : decide ((70 : Int) ≤ i) = true := by simp; omega
  have l79 : decide (i ≤ 79) = false := by simp; omega
  have g81 : decide ((81 : Int) ≤ i) = true := by simp; omega
  have l90 : decide (i ≤ 90) = false := by simp; omega
  have g103 : decide ((103 : Int) ≤ i) = true := by simp; omega
  have l105 : decide (i ≤ 105) = false := by simp; omega
  have g106 : decide ((106 : Int) ≤ i) = true := by simp; omega
  have l120 : decide (i ≤ 120) = false := by simp; omega
  have g121 : decide ((121 : Int) ≤ i) = true := by simp; omega
  have l123 : decide (i ≤ 123) = true := by simp; omega
  have g124 : decide ((124 : Int) ≤ i) = false := by simp; omega
  have l138 : decide (i ≤ 138) = true := by simp; omega
  have g194 : decide ((194 : Int) ≤ i) = false := by simp; omega
  have l196 : decide (i ≤ 196) = true := by simp; omega
  have hA : wrap64 (1 + i) = 1 + i := by unfold wrap64; omega
  have hB : wrap64 (1 + i - 121) = i - 120 := by unfold wrap64; omega
  clear h1 h2
  go_enter Tryd.func19, Tryd.ntmps19
  go_wp2
  refine bodyPost_ret (v := .agg #[.int .i64 (i - 120), .int .i64 64, .int .i64 64, .int .i64 1]) (by simp [results, Tryd.results19, go_sem]) rfl ⟨rfl, ?_⟩
  exact (Below.refl _ _).alloc (Nat.le_refl _) _
theorem Of_124_138 (i : Int) (h1 : 124 ≤ i) (h2 : i ≤ 138) (w : World) : Calls Tryd.prog 19 #[.int .i64 i] w fun e w' => e = .returned (.agg #[.int .i64 (i - 104), .int .i64 64, .int .i64 64, .int .i64 2]) ∧ Below w.heap.size w w' := by
  have q69 : (i == 69) = false := by simp; omega
  have q80 : (i == 80) = false := by simp; omega
  have q167 : (i == 167) = false := by simp; omega
  have q172 : (i == 172) = false := by simp; omega
  have q173 : (i == 173) = false := by simp; omega
  have q192 : (i == 192) = false := by simp; omega
  have q193 : (i == 193) = false := by simp; omega
  have g70 : decide ((70 : Int) ≤ i) = true := by simp; omega
  have l79 : decide (i ≤ 79) = false := by simp; omega
  have g81 : decide ((81 : Int) ≤ i) = true := by simp; omega
  have l90 : decide (i ≤ 90) = false := by simp; omega
  have g103 : decide ((103 : Int) ≤ i) = true := by simp; omega
  have l105 : decide (i ≤ 105) = false := by simp; omega
  have g106 : decide ((106 : Int) ≤ i) = true := by simp; omega
  have l120 : decide (i ≤ 120) = false := by simp; omega
  have g121 : decide ((121 : Int) ≤ i) = true := by simp; omega
  have l123 : decide (i ≤ 123) = false := by simp; omega
  have g124 : decide ((124 : Int) ≤ i) = true := by simp; omega
  have l138 : decide (i ≤ 138) = true := by simp; omega
  have g194 : decide ((194 : Int) ≤ i) = false := by simp; omega
  have l196 : decide (i ≤ 196) = true := by simp; omega
  have hA : wrap64 (20 + i) = 20 + i := by unfold wrap64; omega
  have hB : wrap64 (20 + i - 124) = i - 104 := by unfold wrap64; omega
  clear h1 h2
  go_enter Tryd.func19, Tryd.ntmps19
  go_wp2
  refine bodyPost_ret (v := .agg #[.int .i64 (i - 104), .int .i64 64, .int .i64 64, .int .i64 2]) (by simp [results, Tryd.results19, go_sem]) rfl ⟨rfl, ?_⟩
  exact (Below.refl _ _).alloc (Nat.le_refl _) _
theorem Of_167_167 (w : World) : Calls Tryd.prog 19 #[.int .i64 167] w fun e w' => e = .returned (.agg #[.int .i64 7, .int .i64 64, .int .i64 32, .int .i64 1]) ∧ Below w.heap.size w w' := by
  go_enter Tryd.func19, Tryd.ntmps19
  go_wp2
  refine bodyPost_ret (v := .agg #[.int .i64 7, .int .i64 64, .int .i64 32, .int .i64 1]) (by simp [results, Tryd.results19, go_sem]) rfl ⟨rfl, ?_⟩
  exact (Below.refl _ _).alloc (Nat.le_refl _) _
theorem Of_172_172 (w : World) : Calls Tryd.prog 19 #[.int .i64 172] w fun e w' => e = .returned (.agg #[.int .i64 8, .int .i64 32, .int .i64 64, .int .i64 1]) ∧ Below w.heap.size w w' := by
  go_enter Tryd.func19, Tryd.ntmps19
  go_wp2
  refine bodyPost_ret (v := .agg #[.int .i64 8, .int .i64 32, .int .i64 64, .int .i64 1]) (by simp [results, Tryd.results19, go_sem]) rfl ⟨rfl, ?_⟩
  exact (Below.refl _ _).alloc (Nat.le_refl _) _
theorem Of_173_173 (w : World) : Calls Tryd.prog 19 #[.int .i64 173] w fun e w' => e = .returned (.agg #[.int .i64 9, .int .i64 32, .int .i64 64, .int .i64 1]) ∧ Below w.heap.size w w' := by
  go_enter Tryd.func19, Tryd.ntmps19
  go_wp2
  refine bodyPost_ret (v := .agg #[.int .i64 9, .int .i64 32, .int .i64 64, .int .i64 1]) (by simp [results, Tryd.results19, go_sem]) rfl ⟨rfl, ?_⟩
  exact (Below.refl _ _).alloc (Nat.le_refl _) _
theorem Of_192_192 (w : World) : Calls Tryd.prog 19 #[.int .i64 192] w fun e w' => e = .returned (.agg #[.int .i64 4, .int .i64 32, .int .i64 32, .int .i64 1]) ∧ Below w.heap.size w w' := by
  go_enter Tryd.func19, Tryd.ntmps19
  go_wp2
  refine bodyPost_ret (v := .agg #[.int .i64 4, .int .i64 32, .int .i64 32, .int .i64 1]) (by simp [results, Tryd.results19, go_sem]) rfl ⟨rfl, ?_⟩
  exact (Below.refl _ _).alloc (Nat.le_refl _) _
theorem Of_193_193 (w : World) : Calls Tryd.prog 19 #[.int .i64 193] w fun e w' => e = .returned (.agg #[.int .i64 5, .int .i64 32, .int .i64 32, .int .i64 1]) ∧ Below w.heap.size w w' := by
  go_enter Tryd.func19, Tryd.ntmps19
  go_wp2
  refine bodyPost_ret (v := .agg #[.int .i64 5, .int .i64 32, .int .i64 32, .int .i64 1]) (by simp [results, Tryd.results19, go_sem]) rfl ⟨rfl, ?_⟩
  exact (Below.refl _ _).alloc (Nat.le_refl _) _
theorem Of_194_196 (i : Int) (h1 : 194 ≤ i) (h2 : i ≤ 196) (w : World) : Calls Tryd.prog 19 #[.int .i64 i] w fun e w' => e = .returned (.agg #[.int .i64 (i - 190), .int .i64 64, .int .i64 64, .int .i64 1]) ∧ Below w.heap.size w w' := by
  have q69 : (i == 69) = false := by simp; omega
  have q80 : (i == 80) = false := by simp; omega
  have q167 : (i == 167) = false := by simp; omega
  have q172 : (i == 172) = false := by simp; omega
  have q173 : (i == 173) = false := by simp; omega
  have q192 : (i == 192) = false := by simp; omega
  have q193 : (i == 193) = false := by simp; omega
  have g70 : decide ((70 : Int) ≤ i) = true := by simp; omega
  have l79 : decide (i ≤ 79) = false := by simp; omega
  have g81 : decide ((81 : Int) ≤ i) = true := by simp; omega
  have l90 : decide (i ≤ 90) = false := by simp; omega
  have g103 : decide ((103 : Int) ≤ i) = true := by simp; omega
  have l105 : decide (i ≤ 105) = false := by simp; omega
  have g106 : decide ((106 : Int) ≤ i) = true := by simp; omega
  have l120 : decide (i ≤ 120) = false := by simp; omega
  have g121 : decide ((121 : Int) ≤ i) = true := by simp; omega
  have l123 : decide (i ≤ 123) = false := by simp; omega
  have g124 : decide ((124 : Int) ≤ i) = true := by simp; omega
  have l138 : decide (i ≤ 138) = false := by simp; omega
  have g194 : decide ((194 : Int) ≤ i) = true := by simp; omega
  have l196 : decide (i ≤ 196) = true := by simp; omega
  have hA : wrap64 (4 + i) = 4 + i := by unfold wrap64; omega
  have hB : wrap64 (4 + i - 194) = i - 190 := by unfold wrap64; omega
  clear h1 h2
  go_enter Tryd.func19, Tryd.ntmps19
  go_wp2
  refine bodyPost_ret (v := .agg #[.int .i64 (i - 190), .int .i64 64, .int .i64 64, .int .i64 1]) (by simp [results, Tryd.results19, go_sem]) rfl ⟨rfl, ?_⟩
  exact (Below.refl _ _).alloc (Nat.le_refl _) _
theorem Of_lo_68 (i : Int) (h2 : i ≤ 68) (w : World) : Calls Tryd.prog 19 #[.int .i64 i] w fun e w' => e = .returned (.agg #[.int .i64 0, .int .i64 0, .int .i64 0, .int .i64 0]) ∧ Below w.heap.size w w' := by
  have q69 : (i == 69) = false := by simp; omega
  have q80 : (i == 80) = false := by simp; omega
  have q167 : (i == 167) = false := by simp; omega
  have q172 : (i == 172) = false := by simp; omega
  have q173 : (i == 173) = false := by simp; omega
  have q192 : (i == 192) = false := by simp; omega
  have q193 : (i == 193) = false := by simp; omega
  have g70 : decide ((70 : Int) ≤ i) = false := by simp; omega
  have l79 : decide (i ≤ 79) = true := by simp; omega
  have g81 : decide ((81 : Int) ≤ i) = false := by simp; omega
  have l90 : decide (i ≤ 90) = true := by simp; omega
  have g103 : decide ((103 : Int) ≤ i) = false := by simp; omega
  have l105 : decide (i ≤ 105) = true := by simp; omega
  have g106 : decide ((106 : Int) ≤ i) = false := by simp; omega
  have l120 : decide (i ≤ 120) = true := by simp; omega
  have g121 : decide ((121 : Int) ≤ i) = false := by simp; omega
  have l123 : decide (i ≤ 123) = true := by simp; omega
  have g124 : decide ((124 : Int) ≤ i) = false := by simp; omega
  have l138 : decide (i ≤ 138) = true := by simp; omega
  have g194 : decide ((194 : Int) ≤ i) = false := by simp; omega
  have l196 : decide (i ≤ 196) = true := by simp; omega
  clear h2
  go_enter Tryd.func19, Tryd.ntmps19
  go_wp2
  refine bodyPost_ret (v := .agg #[.int .i64 0, .int .i64 0, .int .i64 0, .int .i64 0]) (by simp [results, Tryd.results19, go_sem]) rfl ⟨rfl, ?_⟩
  exact (Below.refl _ _).alloc (Nat.le_refl _) _
theorem Of_91_102 (i : Int) (h1 : 91 ≤ i) (h2 : i ≤ 102) (w : World) : Calls Tryd.prog 19 #[.int .i64 i] w fun e w' => e = .returned (.agg #[.int .i64 0, .int .i64 0, .int .i64 0, .int .i64 0]) ∧ Below w.heap.size w w' := by
  have q69 : (i == 69) = false := by simp; omega
  have q80 : (i == 80) = false := by simp; omega
  have q167 : (i == 167) = false := by simp; omega
  have q172 : (i == 172) = false := by simp; omega
  have q173 : (i == 173) = false := by simp; omega
  have q192 : (i == 192) = false := by simp; omega
  have q193 : (i == 193) = false := by simp; omega
  have g70 : decide ((70 : Int) ≤ i) = true := by simp; omega
  have l79 : decide (i ≤ 79) = false := by simp; omega
  have g81 : decide ((81 : Int) ≤ i) = true := by simp; omega
  have l90 : decide (i ≤ 90) = false := by simp; omega
  have g103 : decide ((103 : Int) ≤ i) = false := by simp; omega
  have l105 : decide (i ≤ 105) = true := by simp; omega
  have g106 : decide ((106 : Int) ≤ i) = false := by simp; omega
  have l120 : decide (i ≤ 120) = true := by simp; omega
  have g121 : decide ((121 : Int) ≤ i) = false := by simp; omega
  have l123 : decide (i ≤ 123) = true := by simp; omega
  have g124 : decide ((124 : Int) ≤ i) = false := by simp; omega
  have l138 : decide (i ≤ 138) = true := by simp; omega
  have g194 : decide ((194 : Int) ≤ i) = false := by simp; omega
  have l196 : decide (i ≤ 196) = true := by simp; omega
  clear h1 h2
  go_enter Tryd.func19, Tryd.ntmps19
  go_wp2
  refine bodyPost_ret (v := .agg #[.int .i64 0, .int .i64 0, .int .i64 0, .int .i64 0]) (by simp [results, Tryd.results19, go_sem]) rfl ⟨rfl, ?_⟩
  exact (Below.refl _ _).alloc (Nat.le_refl _) _
theorem Of_139_166 (i : Int) (h1 : 139 ≤ i) (h2 : i ≤ 166) (w : World) : Calls Tryd.prog 19 #[.int .i64 i] w fun e w' => e = .returned (.agg #[.int .i64 0, .int .i64 0, .int .i64 0, .int .i64 0]) ∧ Below w.heap.size w w' := by
  have q69 : (i == 69) = false := by simp; omega
  have q80 : (i == 80) = false := by simp; omega
  have q167 : (i == 167) = false := by simp; omega
  have q172 : (i == 172) = false := by simp; omega
  have q173 : (i == 173) = false := by simp; omega
  have q192 : (i == 192) = false := by simp; omega
  have q193 : (i == 193) = false := by simp; omega
  have g70 : decide ((70 : Int) ≤ i) = true := by simp; omega
  have l79 : decide (i ≤ 79) = false := by simp; omega
  have g81 : decide ((81 : Int) ≤ i) = true := by simp; omega
  have l90 : decide (i ≤ 90) = false := by simp; omega
  have g103 : decide ((103 : Int) ≤ i) = true := by simp; omega
  have l105 : decide (i ≤ 105) = false := by simp; omega
  have g106 : decide ((106 : Int) ≤ i) = true := by simp; omega
  have l120 : decide (i ≤ 120) = false := by simp; omega
  have g121 : decide ((121 : Int) ≤ i) = true := by simp; omega
  have l123 : decide (i ≤ 123) = false := by simp; omega
  have g124 : decide ((124 : Int) ≤ i) = true := by simp; omega
  have l138 : decide (i ≤ 138) = false := by simp; omega
  have g194 : decide ((194 : Int) ≤ i) = false := by simp; omega
  have l196 : decide (i ≤ 196) = true := by simp; omega
  clear h1 h2
  go_enter Tryd.func19, Tryd.ntmps19
  go_wp2
  refine bodyPost_ret (v := .agg #[.int .i64 0, .int .i64 0, .int .i64 0, .int .i64 0]) (by simp [results, Tryd.results19, go_sem]) rfl ⟨rfl, ?_⟩
  exact (Below.refl _ _).alloc (Nat.le_refl _) _
theorem Of_168_171 (i : Int) (h1 : 168 ≤ i) (h2 : i ≤ 171) (w : World) : Calls Tryd.prog 19 #[.int .i64 i] w fun e w' => e = .returned (.agg #[.int .i64 0, .int .i64 0, .int .i64 0, .int .i64 0]) ∧ Below w.heap.size w w' := by
  have q69 : (i == 69) = false := by simp; omega
  have q80 : (i == 80) = false := by simp; omega
  have q167 : (i == 167) = false := by simp; omega
  have q172 : (i == 172) = false := by simp; omega
  have q173 : (i == 173) = false := by simp; omega
  have q192 : (i == 192) = false := by simp; omega
  have q193 : (i == 193) = false := by simp; omega
  have g70 : decide ((70 : Int) ≤ i) = true := by simp; omega
  have l79 : decide (i ≤ 79) = false := by simp; omega
  have g81 : decide ((81 : Int) ≤ i) = true := by simp; omega
  have l90 : decide (i ≤ 90) = false := by simp; omega
  have g103 : decide ((103 : Int) ≤ i) = true := by simp; omega
  have l105 : decide (i ≤ 105) = false := by simp; omega
  have g106 : decide ((106 : Int) ≤ i) = true := by simp; omega
  have l120 : decide (i ≤ 120) = false := by simp; omega
  have g121 : decide ((121 : Int) ≤ i) = true := by simp; omega
  have l123 : decide (i ≤ 123) = false := by simp; omega
  have g124 : decide ((124 : Int) ≤ i) = true := by simp; omega
  have l138 : decide (i ≤ 138) = false := by simp; omega
  have g194 : decide ((194 : Int) ≤ i) = false := by simp; omega
  have l196 : decide (i ≤ 196) = true := by simp; omega
  clear h1 h2
  go_enter Tryd.func19, Tryd.ntmps19
  go_wp2
  refine bodyPost_ret (v := .agg #[.int .i64 0, .int .i64 0, .int .i64 0, .int .i64 0]) (by simp [results, Tryd.results19, go_sem]) rfl ⟨rfl, ?_⟩
  exact (Below.refl _ _).alloc (Nat.le_refl _) _
theorem Of_174_191 (i : Int) (h1 : 174 ≤ i) (h2 : i ≤ 191) (w : World) : Calls Tryd.prog 19 #[.int .i64 i] w fun e w' => e = .returned (.agg #[.int .i64 0, .int .i64 0, .int .i64 0, .int .i64 0]) ∧ Below w.heap.size w w' := by
  have q69 : (i == 69) = false := by simp; omega
  have q80 : (i == 80) = false := by simp; omega
  have q167 : (i == 167) = false := by simp; omega
  have q172 : (i == 172) = false := by simp; omega
  have q173 : (i == 173) = false := by simp; omega
  have q192 : (i == 192) = false := by simp; omega
  have q193 : (i == 193) = false := by simp; omega
  have g70 : decide ((70 : Int) ≤ i) = true := by simp; omega
  have l79 : decide (i ≤ 79) = false := by simp; omega
  have g81 : decide ((81 : Int) ≤ i) = true := by simp; omega
  have l90 : decide (i ≤ 90) = false := by simp; omega
  have g103 : decide ((103 : Int) ≤ i) = true := by simp; omega
  have l105 : decide (i ≤ 105) = false := by simp; omega
  have g106 : decide ((106 : Int) ≤ i) = true := by simp; omega
  have l120 : decide (i ≤ 120) = false := by simp; omega
  have g121 : decide ((121 : Int) ≤ i) = true := by simp; omega
  have l123 : decide (i ≤ 123) = false := by simp; omega
  have g124 : decide ((124 : Int) ≤ i) = true := by simp; omega
  have l138 : decide (i ≤ 138) = false := by simp; omega
  have g194 : decide ((194 : Int) ≤ i) = false := by simp; omega
  have l196 : decide (i ≤ 196) = true := by simp; omega
  clear h1 h2
  go_enter Tryd.func19, Tryd.ntmps19
  go_wp2
  refine bodyPost_ret (v := .agg #[.int .i64 0, .int .i64 0, .int .i64 0, .int .i64 0]) (by simp [results, Tryd.results19, go_sem]) rfl ⟨rfl, ?_⟩
  exact (Below.refl _ _).alloc (Nat.le_refl _) _
theorem Of_197_hi (i : Int) (h1 : 197 ≤ i) (w : World) : Calls Tryd.prog 19 #[.int .i64 i] w fun e w' => e = .returned (.agg #[.int .i64 0, .int .i64 0, .int .i64 0, .int .i64 0]) ∧ Below w.heap.size w w' := by
  have q69 : (i == 69) = false := by simp; omega
  have q80 : (i == 80) = false := by simp; omega
  have q167 : (i == 167) = false := by simp; omega
  have q172 : (i == 172) = false := by simp; omega
  have q173 : (i == 173) = false := by simp; omega
  have q192 : (i == 192) = false := by simp; omega
  have q193 : (i == 193) = false := by simp; omega
  have g70 : decide ((70 : Int) ≤ i) = true := by simp; omega
  have l79 : decide (i ≤ 79) = false := by simp; omega
  have g81 : decide ((81 : Int) ≤ i) = true := by simp; omega
  have l90 : decide (i ≤ 90) = false := by simp; omega
  have g103 : decide ((103 : Int) ≤ i) = true := by simp; omega
  have l105 : decide (i ≤ 105) = false := by simp; omega
  have g106 : decide ((106 : Int) ≤ i) = true := by simp; omega
  have l120 : decide (i ≤ 120) = false := by simp; omega
  have g121 : decide ((121 : Int) ≤ i) = true := by simp; omega
  have l123 : decide (i ≤ 123) = false := by simp; omega
  have g124 : decide ((124 : Int) ≤ i) = true := by simp; omega
  have l138 : decide (i ≤ 138) = false := by simp; omega
  have g194 : decide ((194 : Int) ≤ i) = true := by simp; omega
  have l196 : decide (i ≤ 196) = false := by simp; omega
  clear h1
  go_enter Tryd.func19, Tryd.ntmps19
  go_wp2
  refine bodyPost_ret (v := .agg #[.int .i64 0, .int .i64 0, .int .i64 0, .int .i64 0]) (by simp [results, Tryd.results19, go_sem]) rfl ⟨rfl, ?_⟩
  exact (Below.refl _ _).alloc (Nat.le_refl _) _
end Go.Proofs.YtdoejkdckokjdaaDoor
