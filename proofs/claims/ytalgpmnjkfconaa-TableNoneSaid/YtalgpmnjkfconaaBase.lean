/- Small helpers of this seat: what a call leaves, Add64, results. -/
import Derived.Test.YtalgpmnjkfconaaRows
import Derived.WalkKit
import Derived.WalkSpells
import Derived.WalkLawsBesides
import Derived.Lib.Hide
import Derived.Laws.Externs
import Derived.Deep.OwnRows
namespace Go.Proofs.Ytalgpmnjkfconaa
open Go.RowKit Go.Deep

theorem ret_b {a b : Bool} (h : a = b) : Ending.returned (.bool a) = .returned (.bool b) := by rw [h]
theorem ret_i {k : IntKind} {a b : Int} (h : a = b) : Ending.returned (.int k a) = .returned (.int k b) := by rw [h]

/-- bits.Add64, the carry 0. -/
theorem add_run (x y : Int) (hx : 0 ≤ x) (hy : 0 ≤ y) (w : World) :
    (callFunc 41 #[.int .u64 x, .int .u64 y, .int .u64 0]).run Try.prog w =
      .ok (.value (.tuple #[.int .u64 ((x + y) % 18446744073709551616), .int .u64 ((x + y) / 18446744073709551616)])) w := by
  rw [run_callFunc_extern Try.func41 (by kernel_rfl) (by kernel_rfl) (by kernel_rfl) (e := add64Entry) (by kernel_rfl), run_add64 x y 0 hx hy (by omega) (by omega), Int.add_zero]
  rfl

/-- geode/mem.in: do n things from at on lie among so many? -/
theorem in_any (x n m : Nat) (h1 : x < 18446744073709551616) (h2 : n < 18446744073709551616) (h3 : m < 9223372036854775808) (w : World) :
    Calls Try.prog 33 #[.int .u64 x, .int .u64 n, .int .i64 m] w fun e w' => e = .returned (.bool (decide (x + n ≤ m))) ∧ w = w' := by
  have ha := add_run x n (by omega) (by omega)
  by_cases h : x + n < 18446744073709551616
  · rw [show ((x : Int) + n) % 18446744073709551616 = ((x + n : Nat) : Int) by omega, show ((x : Int) + n) / 18446744073709551616 = 0 by omega] at ha
    go_enter Try.func33, Try.ntmps33
    go_wp2
    go_ret
    exact ⟨ret_b (by simp; omega), rfl⟩
  · obtain ⟨y, hy⟩ : ∃ y, y = x + n - 18446744073709551616 := ⟨_, rfl⟩
    rw [show ((x : Int) + n) % 18446744073709551616 = ((y : Nat) : Int) by omega, show ((x : Int) + n) / 18446744073709551616 = 1 by omega] at ha
    have HF := Lib.hid (show decide (x + n ≤ m) = false by simp; omega)
    clear hy h
    go_enter Try.func33, Try.ntmps33
    go_wp2
    go_ret
    exact ⟨ret_b HF.out.symm, rfl⟩

/-- geode/table.in, the same. -/
theorem tin_any (x n m : Nat) (h1 : x < 18446744073709551616) (h2 : n < 18446744073709551616) (h3 : m < 9223372036854775808) (w : World) :
    Calls Try.prog 37 #[.int .u64 x, .int .u64 n, .int .i64 m] w fun e w' => e = .returned (.bool (decide (x + n ≤ m))) ∧ w = w' := by
  have ha := add_run x n (by omega) (by omega)
  by_cases h : x + n < 18446744073709551616
  · rw [show ((x : Int) + n) % 18446744073709551616 = ((x + n : Nat) : Int) by omega, show ((x : Int) + n) / 18446744073709551616 = 0 by omega] at ha
    go_enter Try.func37, Try.ntmps37
    go_wp2
    go_ret
    exact ⟨ret_b (by simp; omega), rfl⟩
  · obtain ⟨y, hy⟩ : ∃ y, y = x + n - 18446744073709551616 := ⟨_, rfl⟩
    rw [show ((x : Int) + n) % 18446744073709551616 = ((y : Nat) : Int) by omega, show ((x : Int) + n) / 18446744073709551616 = 1 by omega] at ha
    have HF := Lib.hid (show decide (x + n ≤ m) = false by simp; omega)
    clear hy h
    go_enter Try.func37, Try.ntmps37
    go_wp2
    go_ret
    exact ⟨ret_b HF.out.symm, rfl⟩

/-- numbers of so many bytes stand in memories -/
def wide (n : Int) : Bool := n == 1 || n == 2 || n == 4 || n == 8
theorem isWidth_any (n : Int) (w : World) : Calls Try.prog 40 #[.int .i64 n] w fun e w' => e = .returned (.bool (wide n)) ∧ w = w' := by
  by_cases c1 : n = 1
  · subst c1; go_enter Try.func40, Try.ntmps40; go_wp2; go_ret; exact ⟨rfl, rfl⟩
  by_cases c2 : n = 2
  · subst c2; go_enter Try.func40, Try.ntmps40; go_wp2; go_ret; exact ⟨rfl, rfl⟩
  by_cases c4 : n = 4
  · subst c4; go_enter Try.func40, Try.ntmps40; go_wp2; go_ret; exact ⟨rfl, rfl⟩
  by_cases c8 : n = 8
  · subst c8; go_enter Try.func40, Try.ntmps40; go_wp2; go_ret; exact ⟨rfl, rfl⟩
  have e1 : (n == 1) = false := beq_eq_false_iff_ne.2 c1
  have e2 : (n == 2) = false := beq_eq_false_iff_ne.2 c2
  have e4 : (n == 4) = false := beq_eq_false_iff_ne.2 c4
  have e8 : (n == 8) = false := beq_eq_false_iff_ne.2 c8
  have HW := Lib.hid (show wide n = false by unfold wide; rw [e1, e2, e4, e8]; rfl)
  clear c1 c2 c4 c8
  go_enter Try.func40, Try.ntmps40
  go_wp2
  go_ret
  exact ⟨ret_b HW.out.symm, rfl⟩
end Go.Proofs.Ytalgpmnjkfconaa
