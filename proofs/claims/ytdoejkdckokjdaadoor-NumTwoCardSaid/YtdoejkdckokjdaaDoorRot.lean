/- num: signed division. -/
import Derived.Test.YtdoejkdckokjdaaDoorExt
namespace Go.Proofs.YtdoejkdckokjdaaDoor
open Go.RowKit

theorem op54_zero (a : Nat) (W : Int) (w : World) : Calls Tryd.prog 54 #[.int .u64 a, .int .u64 0, .int .i64 W] w fun e w' => e = .returned (.tuple #[.int .u64 0, .int .i64 30]) ∧ w = w' := by
  go_enter Tryd.func54, Tryd.ntmps54
  go_wp2
  go_ret2
  exact ⟨rfl, rfl⟩
theorem op56_zero (a : Nat) (W : Int) (w : World) : Calls Tryd.prog 56 #[.int .u64 a, .int .u64 0, .int .i64 W] w fun e w' => e = .returned (.tuple #[.int .u64 0, .int .i64 30]) ∧ w = w' := by
  go_enter Tryd.func56, Tryd.ntmps56
  go_wp2
  go_ret2
  exact ⟨rfl, rfl⟩
theorem op56_minus {W M : Nat} (h : Wd W M) (a b : Nat) (hb : b < M) (h0 : b ≠ 0) (hm : sg M b = -1) (w : World) : Calls Tryd.prog 56 #[.int .u64 a, .int .u64 b, .int .i64 W] w fun e w' => e = .returned (.tuple #[.int .u64 0, .int .i64 0]) ∧ w = w' := by
  have S1 := fun w => signed_any h b hb w
  rw [hm] at S1
  have S1 := Lib.hid S1
  have hz : ((b : Int) == 0) = false := by simp; omega
  clear h hb hm h0
  go_enter Tryd.func56, Tryd.ntmps56
  go_wp2_with fail
  refine (S1.out _).mono ?_
  rintro e w1 ⟨rfl, rfl⟩
  go_wp2
  go_ret2
  exact ⟨rfl, rfl⟩

theorem sg_zero {M : Nat} (b : Nat) (hb : b < M) (h0 : b ≠ 0) : sg M b ≠ 0 := by
  unfold sg
  split <;> omega

theorem op56 {W M : Nat} (h : Wd W M) (a b : Nat) (ha : a < M) (hb : b < M) (h0 : b ≠ 0) (hm : sg M b ≠ -1) (w : World) :
    Calls Tryd.prog 56 #[.int .u64 a, .int .u64 b, .int .i64 W] w fun e w' => e = .returned (.tuple #[.int .u64 ((un M ((sg M a).tmod (sg M b)) : Nat) : Int), .int .i64 0]) ∧ w = w' := by
  have S1 := Lib.hid (fun w => signed_any h a ha w)
  have S2 := Lib.hid (fun w => signed_any h b hb w)
  have hy := sg_zero b hb h0
  have hz : ((b : Int) == 0) = false := by simp; omega
  generalize sg M a = z at S1 ⊢
  generalize sg M b = y at S2 hm hy ⊢
  have hy1 : (y == -1) = false := by simpa using hm
  have hq0 : z.tmod y = z.tmod y := rfl
  obtain ⟨q, hq⟩ : ∃ q, q = z.tmod y := ⟨_, rfl⟩
  rw [← hq]
  obtain ⟨r, hr⟩ : ∃ r, r = (q % 18446744073709551616).toNat := ⟨_, rfl⟩
  have hraw : IntKind.u64.wrap q = (r : Int) := by rw [hr, IntKind.wrap_u64]; omega
  have hc := fun w => cut_any h r (by rw [hr]; omega) w
  rw [show r % M = un M q by rw [hr]; unfold un; rcases h with ⟨_, rfl⟩ | ⟨_, rfl⟩ <;> omega] at hc
  have HC := Lib.hid hc
  have hq' := hq.symm
  clear h hr hc ha hb h0 hm hq hq0
  go_enter Tryd.func56, Tryd.ntmps56
  go_wp2_with fail
  refine (S2.out _).mono ?_
  rintro e w1 ⟨rfl, rfl⟩
  go_wp2_with fail
  refine (S1.out _).mono ?_
  rintro e w1 ⟨rfl, rfl⟩
  go_wp2_with fail
  refine (S2.out _).mono ?_
  rintro e w1 ⟨rfl, rfl⟩
  go_wp2_with fail
  refine (HC.out _).mono ?_
  rintro e w1 ⟨rfl, rfl⟩
  go_wp2
  go_ret2
  exact ⟨rfl, rfl⟩
end Go.Proofs.YtdoejkdckokjdaaDoor
