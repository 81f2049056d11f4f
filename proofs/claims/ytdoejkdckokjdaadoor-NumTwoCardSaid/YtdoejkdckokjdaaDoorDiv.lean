/- num: signed division. -/
import Derived.Test.YtdoejkdckokjdaaDoorRot
namespace Go.Proofs.YtdoejkdckokjdaaDoor
open Go.RowKit

theorem op54 {W M : Nat} (h : Wd W M) (a b : Nat) (ha : a < M) (hb : b < M) (h0 : b ≠ 0) (hm : ¬ (2 * a = M ∧ sg M b = -1)) (w : World) :
    Calls Tryd.prog 54 #[.int .u64 a, .int .u64 b, .int .i64 W] w fun e w' => e = .returned (.tuple #[.int .u64 ((un M ((sg M a).tdiv (sg M b)) : Nat) : Int), .int .i64 0]) ∧ w = w' := by
  have S1 := Lib.hid (fun w => signed_any h a ha w)
  have S2 := Lib.hid (fun w => signed_any h b hb w)
  have hy := sg_zero b hb h0
  have hz : ((b : Int) == 0) = false := by simp; omega
  generalize sg M a = z at S1 ⊢
  generalize sg M b = y at S2 hm hy ⊢
  obtain ⟨q, hq⟩ : ∃ q, q = z.tdiv y := ⟨_, rfl⟩
  rw [← hq]
  obtain ⟨r, hr⟩ : ∃ r, r = (q % 18446744073709551616).toNat := ⟨_, rfl⟩
  have hraw : IntKind.u64.wrap (wrap64 q) = (r : Int) := by rw [hr, IntKind.wrap_u64]; unfold wrap64; omega
  have hc := fun w => cut_any h r (by rw [hr]; omega) w
  rw [show r % M = un M q by rw [hr]; unfold un; rcases h with ⟨_, rfl⟩ | ⟨_, rfl⟩ <;> omega] at hc
  have HC := Lib.hid hc
  have hq' := hq.symm
  rcases h with ⟨rfl, rfl⟩ | ⟨rfl, rfl⟩
  · by_cases ea : a = 2147483648
    · have hy1 : (y == -1) = false := by
        have : ¬ y = -1 := fun e => hm ⟨by omega, e⟩
        simpa using this
      have ht : ((a : Int) == 2147483648) = true := by simp; omega
      clear hc hr hq ha hb hm ea h0
      go_enter Tryd.func54, Tryd.ntmps54
      go_wp2_with fail
      refine (S2.out _).mono ?_
      rintro e w1 ⟨rfl, rfl⟩
      go_wp2_with fail
      refine (S1.out _).mono ?_
      rintro e w1 ⟨rfl, rfl⟩
      go_wp2_with fail
      refine (S2.out _).mono ?_
      rintro e w1 ⟨rfl, rfl⟩
      go_wp2_with fail
      refine (HC.out _).mono ?_
      rintro e w1 ⟨rfl, rfl⟩
      go_wp2
      go_ret2
      exact ⟨rfl, rfl⟩
    · have ht : ((a : Int) == 2147483648) = false := by simp; omega
      clear hc hr hq ha hb hm ea h0
      go_enter Tryd.func54, Tryd.ntmps54
      go_wp2_with fail
      refine (S1.out _).mono ?_
      rintro e w1 ⟨rfl, rfl⟩
      go_wp2_with fail
      refine (S2.out _).mono ?_
      rintro e w1 ⟨rfl, rfl⟩
      go_wp2_with fail
      refine (HC.out _).mono ?_
      rintro e w1 ⟨rfl, rfl⟩
      go_wp2
      go_ret2
      exact ⟨rfl, rfl⟩
  · by_cases ea : a = 9223372036854775808
    · have hy1 : (y == -1) = false := by
        have : ¬ y = -1 := fun e => hm ⟨by omega, e⟩
        simpa using this
      have ht : ((a : Int) == 9223372036854775808) = true := by simp; omega
      clear hc hr hq ha hb hm ea h0
      go_enter Tryd.func54, Tryd.ntmps54
      go_wp2_with fail
      refine (S2.out _).mono ?_
      rintro e w1 ⟨rfl, rfl⟩
      go_wp2_with fail
      refine (S1.out _).mono ?_
      rintro e w1 ⟨rfl, rfl⟩
      go_wp2_with fail
      refine (S2.out _).mono ?_
      rintro e w1 ⟨rfl, rfl⟩
      go_wp2_with fail
      refine (HC.out _).mono ?_
      rintro e w1 ⟨rfl, rfl⟩
      go_wp2
      go_ret2
      exact ⟨rfl, rfl⟩
    · have ht : ((a : Int) == 9223372036854775808) = false := by simp; omega
      clear hc hr hq ha hb hm ea h0
      go_enter Tryd.func54, Tryd.ntmps54
      go_wp2_with fail
      refine (S1.out _).mono ?_
      rintro e w1 ⟨rfl, rfl⟩
      go_wp2_with fail
      refine (S2.out _).mono ?_
      rintro e w1 ⟨rfl, rfl⟩
      go_wp2_with fail
      refine (HC.out _).mono ?_
      rintro e w1 ⟨rfl, rfl⟩
      go_wp2
      go_ret2
      exact ⟨rfl, rfl⟩

theorem op54_over {W M : Nat} (h : Wd W M) (a b : Nat) (ha : 2 * a = M) (hb : b < M) (h0 : b ≠ 0) (hm : sg M b = -1) (w : World) :
    Calls Tryd.prog 54 #[.int .u64 a, .int .u64 b, .int .i64 W] w fun e w' => e = .returned (.tuple #[.int .u64 0, .int .i64 31]) ∧ w = w' := by
  have hm2 := fun w => signed_any h b hb w
  rw [hm] at hm2
  have S2 := Lib.hid hm2
  have hz : ((b : Int) == 0) = false := by simp; omega
  rcases h with ⟨rfl, rfl⟩ | ⟨rfl, rfl⟩
  · have ht : ((a : Int) == 2147483648) = true := by simp; omega
    clear ha hb hm hm2 h0
    go_enter Tryd.func54, Tryd.ntmps54
    go_wp2_with fail
    refine (S2.out _).mono ?_
    rintro e w1 ⟨rfl, rfl⟩
    go_wp2
    go_ret2
    exact ⟨rfl, rfl⟩
  · have ht : ((a : Int) == 9223372036854775808) = true := by simp; omega
    clear ha hb hm hm2 h0
    go_enter Tryd.func54, Tryd.ntmps54
    go_wp2_with fail
    refine (S2.out _).mono ?_
    rintro e w1 ⟨rfl, rfl⟩
    go_wp2
    go_ret2
    exact ⟨rfl, rfl⟩
end Go.Proofs.YtdoejkdckokjdaaDoor
