/- num: the operations that ask, and those that add. -/
import Derived.Test.YtdoejkdckokjdaaDoorLeaf
namespace Go.Proofs.YtdoejkdckokjdaaDoor
open Go.RowKit

/-- a width and 2 to the power of it -/
def Wd (W M : Nat) : Prop := (W = 32 ∧ M = 4294967296) ∨ (W = 64 ∧ M = 18446744073709551616)
theorem Wd.lt {W M : Nat} (h : Wd W M) : M ≤ 18446744073709551616 ∧ 4294967296 ≤ M ∧ W ≤ 64 ∧ 32 ≤ W := by rcases h with ⟨rfl, rfl⟩ | ⟨rfl, rfl⟩ <;> omega

/-- as a signed number -/
def sg (M a : Nat) : Int := if 2 * a < M then (a : Int) else (a : Int) - (M : Int)

theorem cut_any {W M : Nat} (h : Wd W M) (a : Nat) (ha : a < 18446744073709551616) (w : World) : Calls Tryd.prog 51 #[.int .u64 a, .int .i64 W] w fun e w' => e = .returned (.int .u64 ((a % M : Nat) : Int)) ∧ w = w' := by
  rcases h with ⟨rfl, rfl⟩ | ⟨rfl, rfl⟩
  · exact cut32 a ha w
  · have := cut64 a ha w
    rw [Nat.mod_eq_of_lt ha]; exact this
theorem within_any {W M : Nat} (h : Wd W M) (a : Nat) (ha : a < 18446744073709551616) (w : World) : Calls Tryd.prog 21 #[.int .u64 a, .int .i64 W] w fun e w' => e = .returned (.bool (decide (a < M))) ∧ w = w' := by
  rcases h with ⟨rfl, rfl⟩ | ⟨rfl, rfl⟩
  · exact within32 a w
  · have := within64 a ha w
    rw [decide_eq_true ha]; exact this
theorem signed_any {W M : Nat} (h : Wd W M) (a : Nat) (ha : a < M) (w : World) : Calls Tryd.prog 39 #[.int .u64 a, .int .i64 W] w fun e w' => e = .returned (.int .i64 (sg M a)) ∧ w = w' := by
  rcases h with ⟨rfl, rfl⟩ | ⟨rfl, rfl⟩
  · have := signed32 a (by omega) w
    rw [show sg32 a = sg 4294967296 a by unfold sg32 sg; rw [Nat.mod_eq_of_lt ha]; split <;> split <;> omega] at this
    exact this
  · have := signed64 a ha w
    rw [show sg64 a = sg 18446744073709551616 a by unfold sg64 sg; split <;> split <;> omega] at this
    exact this
theorem sg_bounds {W M : Nat} (h : Wd W M) (a : Nat) (ha : a < M) : -9223372036854775808 ≤ sg M a ∧ sg M a < 9223372036854775808 := by
  unfold sg
  rcases h with ⟨rfl, rfl⟩ | ⟨rfl, rfl⟩ <;> split <;> omega

/-- 1 of what is so -/
def yes (b : Bool) : Int := if b then 1 else 0
theorem truth_yes (b : Bool) (w : World) : Calls Tryd.prog 36 #[.bool b] w fun e w' => e = .returned (.int .u64 (yes b)) ∧ w = w' := truth_any b w

theorem op35 (a b : Nat) (W : Int) (w : World) : Calls Tryd.prog 35 #[.int .u64 a, .int .u64 b, .int .i64 W] w fun e w' => e = .returned (.int .u64 (yes (decide (a = b)))) ∧ w = w' := by
  go_enter Tryd.func35, Tryd.ntmps35
  go_wp2_with fail
  refine (truth_yes _ _).mono ?_
  rintro e w1 ⟨rfl, rfl⟩
  go_wp2
  go_ret
  exact ⟨ret_i (by rw [show ((a : Int) == (b : Int)) = decide (a = b) by rw [Bool.eq_iff_iff]; simp; try omega]), rfl⟩

theorem op37 (a b : Nat) (W : Int) (w : World) : Calls Tryd.prog 37 #[.int .u64 a, .int .u64 b, .int .i64 W] w fun e w' => e = .returned (.int .u64 (yes (decide (a ≠ b)))) ∧ w = w' := by
  go_enter Tryd.func37, Tryd.ntmps37
  go_wp2_with fail
  refine (truth_yes _ _).mono ?_
  rintro e w1 ⟨rfl, rfl⟩
  go_wp2
  go_ret
  exact ⟨ret_i (by rw [show ((a : Int) != (b : Int)) = decide (a ≠ b) by rw [Bool.eq_iff_iff]; simp; try omega]), rfl⟩

theorem op40 (a b : Nat) (W : Int) (w : World) : Calls Tryd.prog 40 #[.int .u64 a, .int .u64 b, .int .i64 W] w fun e w' => e = .returned (.int .u64 (yes (decide (a < b)))) ∧ w = w' := by
  go_enter Tryd.func40, Tryd.ntmps40
  go_wp2_with fail
  refine (truth_yes _ _).mono ?_
  rintro e w1 ⟨rfl, rfl⟩
  go_wp2
  go_ret
  exact ⟨rfl, rfl⟩

theorem op42 (a b : Nat) (W : Int) (w : World) : Calls Tryd.prog 42 #[.int .u64 a, .int .u64 b, .int .i64 W] w fun e w' => e = .returned (.int .u64 (yes (decide (b < a)))) ∧ w = w' := by
  go_enter Tryd.func42, Tryd.ntmps42
  go_wp2_with fail
  refine (truth_yes _ _).mono ?_
  rintro e w1 ⟨rfl, rfl⟩
  go_wp2
  go_ret
  exact ⟨rfl, rfl⟩

theorem op44 (a b : Nat) (W : Int) (w : World) : Calls Tryd.prog 44 #[.int .u64 a, .int .u64 b, .int .i64 W] w fun e w' => e = .returned (.int .u64 (yes (decide (a ≤ b)))) ∧ w = w' := by
  go_enter Tryd.func44, Tryd.ntmps44
  go_wp2_with fail
  refine (truth_yes _ _).mono ?_
  rintro e w1 ⟨rfl, rfl⟩
  go_wp2
  go_ret
  exact ⟨rfl, rfl⟩

theorem op46 (a b : Nat) (W : Int) (w : World) : Calls Tryd.prog 46 #[.int .u64 a, .int .u64 b, .int .i64 W] w fun e w' => e = .returned (.int .u64 (yes (decide (b ≤ a)))) ∧ w = w' := by
  go_enter Tryd.func46, Tryd.ntmps46
  go_wp2_with fail
  refine (truth_yes _ _).mono ?_
  rintro e w1 ⟨rfl, rfl⟩
  go_wp2
  go_ret
  exact ⟨rfl, rfl⟩

theorem op38 {W M : Nat} (h : Wd W M) (a b : Nat) (ha : a < M) (hb : b < M) (w : World) : Calls Tryd.prog 38 #[.int .u64 a, .int .u64 b, .int .i64 W] w fun e w' => e = .returned (.int .u64 (yes (decide (sg M a < sg M b)))) ∧ w = w' := by
  have S1 := Lib.hid (fun w => signed_any h a ha w)
  have S2 := Lib.hid (fun w => signed_any h b hb w)
  clear h ha hb
  generalize sg M a = x at S1 ⊢
  generalize sg M b = y at S2 ⊢
  go_enter Tryd.func38, Tryd.ntmps38
  go_wp2_with fail
  refine (S1.out _).mono ?_
  rintro e w1 ⟨rfl, rfl⟩
  go_wp2_with fail
  refine (S2.out _).mono ?_
  rintro e w1 ⟨rfl, rfl⟩
  go_wp2_with fail
  refine (truth_yes _ _).mono ?_
  rintro e w1 ⟨rfl, rfl⟩
  go_wp2
  go_ret
  exact ⟨rfl, rfl⟩

theorem op41 {W M : Nat} (h : Wd W M) (a b : Nat) (ha : a < M) (hb : b < M) (w : World) : Calls Tryd.prog 41 #[.int .u64 a, .int .u64 b, .int .i64 W] w fun e w' => e = .returned (.int .u64 (yes (decide (sg M b < sg M a)))) ∧ w = w' := by
  have S1 := Lib.hid (fun w => signed_any h a ha w)
  have S2 := Lib.hid (fun w => signed_any h b hb w)
  clear h ha hb
  generalize sg M a = x at S1 ⊢
  generalize sg M b = y at S2 ⊢
  go_enter Tryd.func41, Tryd.ntmps41
  go_wp2_with fail
  refine (S1.out _).mono ?_
  rintro e w1 ⟨rfl, rfl⟩
  go_wp2_with fail
  refine (S2.out _).mono ?_
  rintro e w1 ⟨rfl, rfl⟩
  go_wp2_with fail
  refine (truth_yes _ _).mono ?_
  rintro e w1 ⟨rfl, rfl⟩
  go_wp2
  go_ret
  exact ⟨rfl, rfl⟩

theorem op43 {W M : Nat} (h : Wd W M) (a b : Nat) (ha : a < M) (hb : b < M) (w : World) : Calls Tryd.prog 43 #[.int .u64 a, .int .u64 b, .int .i64 W] w fun e w' => e = .returned (.int .u64 (yes (decide (sg M a ≤ sg M b)))) ∧ w = w' := by
  have S1 := Lib.hid (fun w => signed_any h a ha w)
  have S2 := Lib.hid (fun w => signed_any h b hb w)
  clear h ha hb
  generalize sg M a = x at S1 ⊢
  generalize sg M b = y at S2 ⊢
  go_enter Tryd.func43, Tryd.ntmps43
  go_wp2_with fail
  refine (S1.out _).mono ?_
  rintro e w1 ⟨rfl, rfl⟩
  go_wp2_with fail
  refine (S2.out _).mono ?_
  rintro e w1 ⟨rfl, rfl⟩
  go_wp2_with fail
  refine (truth_yes _ _).mono ?_
  rintro e w1 ⟨rfl, rfl⟩
  go_wp2
  go_ret
  exact ⟨rfl, rfl⟩

theorem op45 {W M : Nat} (h : Wd W M) (a b : Nat) (ha : a < M) (hb : b < M) (w : World) : Calls Tryd.prog 45 #[.int .u64 a, .int .u64 b, .int .i64 W] w fun e w' => e = .returned (.int .u64 (yes (decide (sg M b ≤ sg M a)))) ∧ w = w' := by
  have S1 := Lib.hid (fun w => signed_any h a ha w)
  have S2 := Lib.hid (fun w => signed_any h b hb w)
  clear h ha hb
  generalize sg M a = x at S1 ⊢
  generalize sg M b = y at S2 ⊢
  go_enter Tryd.func45, Tryd.ntmps45
  go_wp2_with fail
  refine (S1.out _).mono ?_
  rintro e w1 ⟨rfl, rfl⟩
  go_wp2_with fail
  refine (S2.out _).mono ?_
  rintro e w1 ⟨rfl, rfl⟩
  go_wp2_with fail
  refine (truth_yes _ _).mono ?_
  rintro e w1 ⟨rfl, rfl⟩
  go_wp2
  go_ret
  exact ⟨rfl, rfl⟩

theorem op50 {W M : Nat} (h : Wd W M) (a b : Nat) (ha : a < M) (hb : b < M) (w : World) : Calls Tryd.prog 50 #[.int .u64 a, .int .u64 b, .int .i64 W] w fun e w' => e = .returned (.int .u64 (((a + b) % M : Nat) : Int)) ∧ w = w' := by
  have hM := h.lt
  obtain ⟨r, hr⟩ : ∃ r, r = (a + b) % 18446744073709551616 := ⟨_, rfl⟩
  have hraw : IntKind.u64.wrap ((a : Int) + (b : Int)) = (r : Int) := by rw [hr, IntKind.wrap_u64]; omega
  have hc := fun w => cut_any h r (by rw [hr]; exact Nat.mod_lt _ (by omega)) w
  have hrm : r % M = (a + b) % M := by
    rw [hr]
    rcases h with ⟨_, rfl⟩ | ⟨_, rfl⟩
    · omega
    · omega
  rw [hrm] at hc
  have HC := Lib.hid hc
  clear hr hrm hc hM h ha hb
  go_enter Tryd.func50, Tryd.ntmps50
  go_wp2_with fail
  refine (HC.out _).mono ?_
  rintro e w1 ⟨rfl, rfl⟩
  go_wp2
  go_ret
  exact ⟨rfl, rfl⟩

theorem op52 {W M : Nat} (h : Wd W M) (a b : Nat) (ha : a < M) (hb : b < M) (w : World) : Calls Tryd.prog 52 #[.int .u64 a, .int .u64 b, .int .i64 W] w fun e w' => e = .returned (.int .u64 (((a + (M - b)) % M : Nat) : Int)) ∧ w = w' := by
  have hM := h.lt
  obtain ⟨r, hr⟩ : ∃ r, r = (a + (18446744073709551616 - b)) % 18446744073709551616 := ⟨_, rfl⟩
  have hraw : IntKind.u64.wrap ((a : Int) - (b : Int)) = (r : Int) := by rw [hr, IntKind.wrap_u64]; omega
  have hc := fun w => cut_any h r (by rw [hr]; exact Nat.mod_lt _ (by omega)) w
  have hrm : r % M = (a + (M - b)) % M := by
    rw [hr]
    rcases h with ⟨_, rfl⟩ | ⟨_, rfl⟩
    · omega
    · omega
  rw [hrm] at hc
  have HC := Lib.hid hc
  clear hr hrm hc hM h ha hb
  go_enter Tryd.func52, Tryd.ntmps52
  go_wp2_with fail
  refine (HC.out _).mono ?_
  rintro e w1 ⟨rfl, rfl⟩
  go_wp2
  go_ret
  exact ⟨rfl, rfl⟩

theorem op53 {W M : Nat} (h : Wd W M) (a b : Nat) (ha : a < M) (hb : b < M) (w : World) : Calls Tryd.prog 53 #[.int .u64 a, .int .u64 b, .int .i64 W] w fun e w' => e = .returned (.int .u64 ((a * b % M : Nat) : Int)) ∧ w = w' := by
  have hM := h.lt
  obtain ⟨r, hr⟩ : ∃ r, r = a * b % 18446744073709551616 := ⟨_, rfl⟩
  have hraw : IntKind.u64.wrap ((a : Int) * (b : Int)) = (r : Int) := by rw [hr, IntKind.wrap_u64]; rw [← Int.natCast_mul]; generalize a * b = c; omega
  have hc := fun w => cut_any h r (by rw [hr]; exact Nat.mod_lt _ (by omega)) w
  have hrm : r % M = a * b % M := by
    rw [hr]
    rcases h with ⟨_, rfl⟩ | ⟨_, rfl⟩
    · generalize a * b = c; omega
    · generalize a * b = c; omega
  rw [hrm] at hc
  have HC := Lib.hid hc
  clear hr hrm hc hM h ha hb
  go_enter Tryd.func53, Tryd.ntmps53
  go_wp2_with fail
  refine (HC.out _).mono ?_
  rintro e w1 ⟨rfl, rfl⟩
  go_wp2
  go_ret
  exact ⟨rfl, rfl⟩

theorem op58 (a b : Nat) (W : Int) (ha : a < 18446744073709551616) (hb : b < 18446744073709551616) (w : World) : Calls Tryd.prog 58 #[.int .u64 a, .int .u64 b, .int .i64 W] w fun e w' => e = .returned (.int .u64 ((a &&& b : Nat) : Int)) ∧ w = w' := by
  have hx := u64_and_nat a b ha hb
  clear ha hb
  go_enter Tryd.func58, Tryd.ntmps58
  go_wp2
  go_ret
  exact ⟨rfl, rfl⟩

theorem op59 (a b : Nat) (W : Int) (ha : a < 18446744073709551616) (hb : b < 18446744073709551616) (w : World) : Calls Tryd.prog 59 #[.int .u64 a, .int .u64 b, .int .i64 W] w fun e w' => e = .returned (.int .u64 ((a ||| b : Nat) : Int)) ∧ w = w' := by
  have hx := u64_or_nat a b ha hb
  clear ha hb
  go_enter Tryd.func59, Tryd.ntmps59
  go_wp2
  go_ret
  exact ⟨rfl, rfl⟩

theorem op60 (a b : Nat) (W : Int) (ha : a < 18446744073709551616) (hb : b < 18446744073709551616) (w : World) : Calls Tryd.prog 60 #[.int .u64 a, .int .u64 b, .int .i64 W] w fun e w' => e = .returned (.int .u64 ((a ^^^ b : Nat) : Int)) ∧ w = w' := by
  have hx := u64_xor_nat a b ha hb
  clear ha hb
  go_enter Tryd.func60, Tryd.ntmps60
  go_wp2
  go_ret
  exact ⟨rfl, rfl⟩
end Go.Proofs.YtdoejkdckokjdaaDoor
