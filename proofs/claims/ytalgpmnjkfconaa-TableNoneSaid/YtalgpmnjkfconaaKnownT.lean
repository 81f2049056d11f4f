/- The chapter's rows of the table answer as they should. -/
import Derived.Test.YtalgpmnjkfconaaTGrowW
namespace Go.Proofs.Ytalgpmnjkfconaa
open Go.RowKit Go.Deep

set_option maxRecDepth 100000 in
set_option maxHeartbeats 2000000 in
theorem knownT_any (w : World) : Calls Try.prog 19 #[] w fun e w' => e = .returned (.bool true) ∧ Below w.heap.size w w' := by
  have h8 : Calls Try.prog 20 #[tt 2 3 true, .int .u64 0] w fun e w' =>
      ∃ p g, e = .returned (.tuple #[.pointer (some ⟨p, 0, none⟩), .int .i64 0]) ∧ TabIs w' p g 2 2 true 2 3 (fun _ => 0) ∧ w.heap.size ≤ p ∧ w.heap.size ≤ g ∧ Below w.heap.size w w' := TNew_any true 2 3 0 w (by omega) (by omega)
  unfold tt at h8
  have h8 := Lib.hid h8
  go_enter Try.func19, Try.ntmps19
  go_wp2_with fail
  refine h8.out.mono ?_
  rintro e w1 ⟨p, g, rfl, m1, hp, hg, b1⟩
  clear h8
  have hs := Lib.hid (Set_ok m1 1 9 (by omega) (by omega))
  have B1 := Lib.hid b1
  have HPG := Lib.hid (And.intro hp hg)
  clear m1 b1 hp hg
  go_wp2_with fail
  refine hs.out.mono ?_
  rintro e w2 ⟨rfl, m2, t2⟩
  have B2 := Lib.hid (B1.out.trans (t2.below HPG.out.2 B1.out.size))
  have g1 : Calls Try.prog 25 #[.pointer (some ⟨p, 0, none⟩), .int .u64 1] w2 fun e w' => e = .returned (.tuple #[.int .u64 9, .int .i64 0]) ∧ w2 = w' := Get_ok m2 1 (by omega)
  have G1 := Lib.hid g1
  have G2 := Lib.hid (Get_bad m2 2 (by omega))
  have g3 : Calls Try.prog 27 #[.pointer (some ⟨p, 0, none⟩), .int .u64 1, .int .u64 5] w2 fun e w' => e = .returned (.tuple #[.int .u64 2, .bool true]) ∧
      TabIs w' p w2.heap.size 3 3 true 2 3 (fun j => if j < 2 then (if j = 1 then 9 else 0) else 5) ∧ Touch p w2 w' := TGrow_ok m2 1 5 (by omega) (by omega) (by omega) (by omega)
  have G3 := Lib.hid g3
  clear hs m2 t2 g1 g3 B1
  go_wp2_with fail
  refine G1.out.mono ?_
  rintro e w3 ⟨rfl, rfl⟩
  go_wp2_with fail
  refine G2.out.mono ?_
  rintro e w3 ⟨rfl, rfl⟩
  go_wp2_with fail
  refine G3.out.mono ?_
  rintro e w3 ⟨rfl, m3, t3⟩
  have B3 := Lib.hid (B2.out.trans (t3.below HPG.out.1 B2.out.size))
  have HG3 := Lib.hid B2.out.size
  obtain ⟨g', hg'⟩ : ∃ g', g' = w2.heap.size := ⟨_, rfl⟩
  rw [← hg'] at m3 HG3
  clear hg'
  have g4 : Calls Try.prog 25 #[.pointer (some ⟨p, 0, none⟩), .int .u64 2] w3 fun e w' => e = .returned (.tuple #[.int .u64 5, .int .i64 0]) ∧ w3 = w' := Get_ok m3 2 (by omega)
  have G4 := Lib.hid g4
  have G5 := Lib.hid (TGrow_no m3 1 5 (by omega) (by omega) (by omega))
  have C1 := Lib.hid (TCopy_ok m3 m3 0 1 2 (by omega) (by omega))
  clear G1 G2 G3 g4 m3 t3 B2
  go_wp2_with fail
  refine G4.out.mono ?_
  rintro e w4 ⟨rfl, rfl⟩
  go_wp2_with fail
  refine G5.out.mono ?_
  rintro e w4 ⟨rfl, rfl⟩
  go_wp2_with fail
  refine C1.out.mono ?_
  rintro e w4 ⟨rfl, m4, t4⟩
  have B4 := Lib.hid (B3.out.trans (t4.below HG3.out B3.out.size))
  have g6 : Calls Try.prog 25 #[.pointer (some ⟨p, 0, none⟩), .int .u64 0] w4 fun e w' => e = .returned (.tuple #[.int .u64 9, .int .i64 0]) ∧ w4 = w' := Get_ok m4 0 (by omega)
  have g7 : Calls Try.prog 25 #[.pointer (some ⟨p, 0, none⟩), .int .u64 1] w4 fun e w' => e = .returned (.tuple #[.int .u64 5, .int .i64 0]) ∧ w4 = w' := Get_ok m4 1 (by omega)
  have G6 := Lib.hid g6
  have G7 := Lib.hid g7
  have F1 := Lib.hid (TFill_ok m4 3 0 1 (by omega) (by omega))
  clear G4 G5 C1 g6 g7 m4 t4 B3
  go_wp2_with fail
  refine G6.out.mono ?_
  rintro e w5 ⟨rfl, rfl⟩
  go_wp2_with fail
  refine G7.out.mono ?_
  rintro e w5 ⟨rfl, rfl⟩
  go_wp2_with fail
  refine F1.out.mono ?_
  rintro e w5 ⟨rfl, m5, t5⟩
  have B5 := Lib.hid (B4.out.trans (t5.below HG3.out B4.out.size))
  have F2 := Lib.hid (TFill_bad m5 3 1 1 (by omega) (by omega) (by omega))
  clear m5 t5 F1 G6 G7 B4
  go_wp2_with fail
  refine F2.out.mono ?_
  rintro e w6 ⟨rfl, rfl⟩
  go_wp2
  go_ret
  exact ⟨rfl, B5.out⟩
end Go.Proofs.Ytalgpmnjkfconaa
