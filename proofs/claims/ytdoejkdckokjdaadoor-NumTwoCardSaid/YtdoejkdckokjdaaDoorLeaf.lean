/- num: cut, truth, within, signed. -/
import Derived.Test.YtdoejkdckokjdaaDoorTab
namespace Go.Proofs.YtdoejkdckokjdaaDoor
open Go.RowKit

theorem ret_b {a b : Bool} (h : a = b) : Ending.returned (.bool a) = .returned (.bool b) := by rw [h]
theorem ret_i {k : IntKind} {a b : Int} (h : a = b) : Ending.returned (.int k a) = .returned (.int k b) := by rw [h]

theorem truth_any (b : Bool) (w : World) : Calls Tryd.prog 36 #[.bool b] w fun e w' => e = .returned (.int .u64 (if b then 1 else 0)) ∧ w = w' := by
  cases b
  · go_enter Tryd.func36, Tryd.ntmps36
    go_wp2
    go_ret
    exact ⟨rfl, rfl⟩
  · go_enter Tryd.func36, Tryd.ntmps36
    go_wp2
    go_ret
    exact ⟨rfl, rfl⟩

theorem and32 (a : Nat) (h : a < 18446744073709551616) : bits .and .u64 (a : Int) 4294967295 = ((a % 4294967296 : Nat) : Int) := by
  have := u64_and_nat a 4294967295 h (by omega)
  rw [show (4294967295 : Nat) = 2 ^ 32 - 1 from rfl, Nat.and_two_pow_sub_one_eq_mod] at this
  exact this
theorem and64 (a : Nat) (h : a < 18446744073709551616) : bits .and .u64 (a : Int) 18446744073709551615 = (a : Int) := by
  have := u64_and_nat a 18446744073709551615 h (by omega)
  rw [show (18446744073709551615 : Nat) = 2 ^ 64 - 1 from rfl, Nat.and_two_pow_sub_one_eq_mod, Nat.mod_eq_of_lt (by omega)] at this
  exact this

theorem cut32 (a : Nat) (h : a < 18446744073709551616) (w : World) : Calls Tryd.prog 51 #[.int .u64 a, .int .i64 32] w fun e w' => e = .returned (.int .u64 ((a % 4294967296 : Nat) : Int)) ∧ w = w' := by
  have e := and32 a h
  clear h
  go_enter Tryd.func51, Tryd.ntmps51
  go_wp2
  go_ret
  exact ⟨rfl, rfl⟩
theorem cut64 (a : Nat) (h : a < 18446744073709551616) (w : World) : Calls Tryd.prog 51 #[.int .u64 a, .int .i64 64] w fun e w' => e = .returned (.int .u64 (a : Int)) ∧ w = w' := by
  have e := and64 a h
  clear h
  go_enter Tryd.func51, Tryd.ntmps51
  go_wp2
  go_ret
  exact ⟨rfl, rfl⟩
theorem within32 (a : Nat) (w : World) : Calls Tryd.prog 21 #[.int .u64 a, .int .i64 32] w fun e w' => e = .returned (.bool (decide (a < 4294967296))) ∧ w = w' := by
  go_enter Tryd.func21, Tryd.ntmps21
  go_wp2
  go_ret
  exact ⟨ret_b (by rw [Bool.eq_iff_iff]; simp; omega), rfl⟩
theorem within64 (a : Nat) (h : a < 18446744073709551616) (w : World) : Calls Tryd.prog 21 #[.int .u64 a, .int .i64 64] w fun e w' => e = .returned (.bool true) ∧ w = w' := by
  go_enter Tryd.func21, Tryd.ntmps21
  go_wp2
  go_ret
  exact ⟨ret_b (by rw [Bool.eq_iff_iff]; simp; omega), rfl⟩

/-- the number that the lowest bits stand for as signed ones -/
def sg32 (a : Nat) : Int := if a % 4294967296 < 2147483648 then ((a % 4294967296 : Nat) : Int) else ((a % 4294967296 : Nat) : Int) - 4294967296
def sg64 (a : Nat) : Int := if a < 9223372036854775808 then (a : Int) else (a : Int) - 18446744073709551616

theorem signed64 (a : Nat) (h : a < 18446744073709551616) (w : World) : Calls Tryd.prog 39 #[.int .u64 a, .int .i64 64] w fun e w' => e = .returned (.int .i64 (sg64 a)) ∧ w = w' := by
  go_enter Tryd.func39, Tryd.ntmps39
  go_wp2
  go_ret
  exact ⟨ret_i (by unfold sg64 wrap64; split <;> omega), rfl⟩
theorem signed32 (a : Nat) (_h : a < 18446744073709551616) (w : World) : Calls Tryd.prog 39 #[.int .u64 a, .int .i64 32] w fun e w' => e = .returned (.int .i64 (sg32 a)) ∧ w = w' := by
  go_enter Tryd.func39, Tryd.ntmps39
  go_wp2
  go_ret
  exact ⟨ret_i (by rw [IntKind.wrap_u64]; unfold sg32 wrap64; split <;> omega), rfl⟩
end Go.Proofs.YtdoejkdckokjdaaDoor
