/- num: eqz, extend and what changes the width. -/
import Derived.Test.YtdoejkdckokjdaaDoorShift
namespace Go.Proofs.YtdoejkdckokjdaaDoor
open Go.RowKit

theorem op34 (a : Nat) (W : Int) (w : World) : Calls Tryd.prog 34 #[.int .u64 a, .int .i64 W] w fun e w' => e = .returned (.int .u64 (yes (decide (a = 0)))) ∧ w = w' := by
  go_enter Tryd.func34, Tryd.ntmps34
  go_wp2_with fail
  refine (truth_yes _ _).mono ?_
  rintro e w1 ⟨rfl, rfl⟩
  go_wp2
  go_ret
  exact ⟨ret_i (by rw [show ((a : Int) == 0) = decide (a = 0) by rw [Bool.eq_iff_iff]; simp]), rfl⟩

theorem signed8 (a : Nat) (w : World) : Calls Tryd.prog 39 #[.int .u64 a, .int .i64 8] w fun e w' => e = .returned (.int .i64 (sg 256 (a % 256))) ∧ w = w' := by
  go_enter Tryd.func39, Tryd.ntmps39
  go_wp2
  go_ret
  exact ⟨ret_i (by rw [IntKind.wrap_u64]; unfold sg wrap64; split <;> omega), rfl⟩
theorem signed16 (a : Nat) (w : World) : Calls Tryd.prog 39 #[.int .u64 a, .int .i64 16] w fun e w' => e = .returned (.int .i64 (sg 65536 (a % 65536))) ∧ w = w' := by
  go_enter Tryd.func39, Tryd.ntmps39
  go_wp2
  go_ret
  exact ⟨ret_i (by rw [IntKind.wrap_u64]; unfold sg wrap64; split <;> omega), rfl⟩
theorem signed32' (a : Nat) (w : World) : Calls Tryd.prog 39 #[.int .u64 a, .int .i64 32] w fun e w' => e = .returned (.int .i64 (sg 4294967296 (a % 4294967296))) ∧ w = w' := by
  go_enter Tryd.func39, Tryd.ntmps39
  go_wp2
  go_ret
  exact ⟨ret_i (by rw [IntKind.wrap_u64]; unfold sg wrap64; split <;> omega), rfl⟩

/-- the widths that are extended from -/
def Fd (V N : Nat) : Prop := (V = 8 ∧ N = 256) ∨ (V = 16 ∧ N = 65536) ∨ (V = 32 ∧ N = 4294967296)
theorem signed_from {V N : Nat} (h : Fd V N) (a : Nat) (w : World) : Calls Tryd.prog 39 #[.int .u64 a, .int .i64 V] w fun e w' => e = .returned (.int .i64 (sg N (a % N))) ∧ w = w' := by
  rcases h with ⟨rfl, rfl⟩ | ⟨rfl, rfl⟩ | ⟨rfl, rfl⟩
  · exact signed8 a w
  · exact signed16 a w
  · exact signed32' a w

theorem op67 {V N W M : Nat} (h : Fd V N) (h2 : Wd W M) (a : Nat) (w : World) : Calls Tryd.prog 67 #[.int .u64 a, .int .i64 V, .int .i64 W] w fun e w' => e = .returned (.int .u64 ((un M (sg N (a % N)) : Nat) : Int)) ∧ w = w' := by
  have S1 := Lib.hid (fun w => signed_from h a w)
  generalize sg N (a % N) = q at S1 ⊢
  obtain ⟨r, hr⟩ : ∃ r, r = (q % 18446744073709551616).toNat := ⟨_, rfl⟩
  have hraw : IntKind.u64.wrap q = (r : Int) := by rw [hr, IntKind.wrap_u64]; omega
  have hc := fun w => cut_any h2 r (by rw [hr]; omega) w
  rw [show r % M = un M q by rw [hr]; unfold un; rcases h2 with ⟨_, rfl⟩ | ⟨_, rfl⟩ <;> omega] at hc
  have HC := Lib.hid hc
  clear h h2 hr hc
  go_enter Tryd.func67, Tryd.ntmps67
  go_wp2_with fail
  refine (S1.out _).mono ?_
  rintro e w1 ⟨rfl, rfl⟩
  go_wp2_with fail
  refine (HC.out _).mono ?_
  rintro e w1 ⟨rfl, rfl⟩
  go_wp2
  go_ret
  exact ⟨rfl, rfl⟩

theorem op66 {W M : Nat} (h : Wd W M) (a : Nat) (w : World) : Calls Tryd.prog 66 #[.int .u64 a, .int .i64 W] w fun e w' => e = .returned (.int .u64 ((un M (sg 256 (a % 256)) : Nat) : Int)) ∧ w = w' := by
  have HC : ∀ w : World, Calls Tryd.prog 67 #[.int .u64 a, .int .i64 8, .int .i64 W] w fun e w' => e = .returned (.int .u64 ((un M (sg 256 (a % 256)) : Nat) : Int)) ∧ w = w' := fun w => op67 (V := 8) (by unfold Fd; omega) h a w
  have HC := Lib.hid HC
  clear h
  go_enter Tryd.func66, Tryd.ntmps66
  go_wp2_with fail
  refine (HC.out _).mono ?_
  rintro e w1 ⟨rfl, rfl⟩
  go_wp2
  go_ret
  exact ⟨rfl, rfl⟩

theorem op68 {W M : Nat} (h : Wd W M) (a : Nat) (w : World) : Calls Tryd.prog 68 #[.int .u64 a, .int .i64 W] w fun e w' => e = .returned (.int .u64 ((un M (sg 65536 (a % 65536)) : Nat) : Int)) ∧ w = w' := by
  have HC : ∀ w : World, Calls Tryd.prog 67 #[.int .u64 a, .int .i64 16, .int .i64 W] w fun e w' => e = .returned (.int .u64 ((un M (sg 65536 (a % 65536)) : Nat) : Int)) ∧ w = w' := fun w => op67 (V := 16) (by unfold Fd; omega) h a w
  have HC := Lib.hid HC
  clear h
  go_enter Tryd.func68, Tryd.ntmps68
  go_wp2_with fail
  refine (HC.out _).mono ?_
  rintro e w1 ⟨rfl, rfl⟩
  go_wp2
  go_ret
  exact ⟨rfl, rfl⟩

theorem op69 {W M : Nat} (h : Wd W M) (a : Nat) (w : World) : Calls Tryd.prog 69 #[.int .u64 a, .int .i64 W] w fun e w' => e = .returned (.int .u64 ((un M (sg 4294967296 (a % 4294967296)) : Nat) : Int)) ∧ w = w' := by
  have HC : ∀ w : World, Calls Tryd.prog 67 #[.int .u64 a, .int .i64 32, .int .i64 W] w fun e w' => e = .returned (.int .u64 ((un M (sg 4294967296 (a % 4294967296)) : Nat) : Int)) ∧ w = w' := fun w => op67 (V := 32) (by unfold Fd; omega) h a w
  have HC := Lib.hid HC
  clear h
  go_enter Tryd.func69, Tryd.ntmps69
  go_wp2_with fail
  refine (HC.out _).mono ?_
  rintro e w1 ⟨rfl, rfl⟩
  go_wp2
  go_ret
  exact ⟨rfl, rfl⟩

theorem op70 (a : Nat) (W : Int) (h : a < 18446744073709551616) (w : World) : Calls Tryd.prog 70 #[.int .u64 a, .int .i64 W] w fun e w' => e = .returned (.int .u64 ((a % 4294967296 : Nat) : Int)) ∧ w = w' := by
  have HC := Lib.hid (fun w => cut32 a h w)
  clear h
  go_enter Tryd.func70, Tryd.ntmps70
  go_wp2_with fail
  refine (HC.out _).mono ?_
  rintro e w1 ⟨rfl, rfl⟩
  go_wp2
  go_ret
  exact ⟨rfl, rfl⟩

theorem op71 (a : Nat) (w : World) : Calls Tryd.prog 71 #[.int .u64 a, .int .i64 32] w fun e w' => e = .returned (.int .u64 ((un 18446744073709551616 (sg 4294967296 (a % 4294967296)) : Nat) : Int)) ∧ w = w' := by
  have HC : ∀ w : World, Calls Tryd.prog 67 #[.int .u64 a, .int .i64 32, .int .i64 64] w fun e w' => e = .returned (.int .u64 ((un 18446744073709551616 (sg 4294967296 (a % 4294967296)) : Nat) : Int)) ∧ w = w' := fun w => op67 (V := 32) (W := 64) (by unfold Fd; omega) (by unfold Wd; omega) a w
  have HC := Lib.hid HC
  go_enter Tryd.func71, Tryd.ntmps71
  go_wp2_with fail
  refine (HC.out _).mono ?_
  rintro e w1 ⟨rfl, rfl⟩
  go_wp2
  go_ret
  exact ⟨rfl, rfl⟩

theorem op72 (a W : Int) (w : World) : Calls Tryd.prog 72 #[.int .u64 a, .int .i64 W] w fun e w' => e = .returned (.int .u64 a) ∧ w = w' := by
  go_enter Tryd.func72, Tryd.ntmps72
  go_wp2
  go_ret
  exact ⟨rfl, rfl⟩
end Go.Proofs.YtdoejkdckokjdaaDoor
