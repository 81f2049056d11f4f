/- num: shifts and unsigned division. -/
import Derived.Test.YtdoejkdckokjdaaDoorOps
import Derived.Deep.RegionWith
namespace Go.Proofs.YtdoejkdckokjdaaDoor
open Go.RowKit

theorem op55_zero (a : Nat) (W : Int) (w : World) : Calls Tryd.prog 55 #[.int .u64 a, .int .u64 0, .int .i64 W] w fun e w' => e = .returned (.tuple #[.int .u64 0, .int .i64 30]) ∧ w = w' := by
  go_enter Tryd.func55, Tryd.ntmps55
  go_wp2
  go_ret2
  exact ⟨rfl, rfl⟩
theorem op55 (a b : Nat) (W : Int) (ha : a < 18446744073709551616) (hb : 0 < b) (w : World) : Calls Tryd.prog 55 #[.int .u64 a, .int .u64 b, .int .i64 W] w fun e w' => e = .returned (.tuple #[.int .u64 ((a / b : Nat) : Int), .int .i64 0]) ∧ w = w' := by
  have h0 : ¬ b = 0 := by omega
  have hq : IntKind.u64.wrap ((a : Int) / (b : Int)) = ((a / b : Nat) : Int) := by
    rw [← Int.natCast_ediv, IntKind.wrap_u64]
    have := Nat.div_le_self a b
    generalize a / b = c at *
    omega
  clear ha
  go_enter Tryd.func55, Tryd.ntmps55
  go_wp2
  go_ret2
  exact ⟨rfl, rfl⟩
theorem op57_zero (a : Nat) (W : Int) (w : World) : Calls Tryd.prog 57 #[.int .u64 a, .int .u64 0, .int .i64 W] w fun e w' => e = .returned (.tuple #[.int .u64 0, .int .i64 30]) ∧ w = w' := by
  go_enter Tryd.func57, Tryd.ntmps57
  go_wp2
  go_ret2
  exact ⟨rfl, rfl⟩
theorem op57 (a b : Nat) (W : Int) (hb : 0 < b) (w : World) : Calls Tryd.prog 57 #[.int .u64 a, .int .u64 b, .int .i64 W] w fun e w' => e = .returned (.tuple #[.int .u64 ((a % b : Nat) : Int), .int .i64 0]) ∧ w = w' := by
  have h0 : ¬ b = 0 := by omega
  have hq : (a : Int).tmod (b : Int) = ((a % b : Nat) : Int) := by rw [Int.tmod_eq_emod_of_nonneg (by omega)]; exact (Int.natCast_emod a b).symm
  go_enter Tryd.func57, Tryd.ntmps57
  go_wp2
  go_ret2
  exact ⟨rfl, rfl⟩

theorem op63 {W M : Nat} (h : Wd W M) (a b : Nat) (w : World) : Calls Tryd.prog 63 #[.int .u64 a, .int .u64 b, .int .i64 W] w fun e w' => e = .returned (.int .u64 ((a / 2 ^ (b % W) : Nat) : Int)) ∧ w = w' := by
  have hW := h.lt
  obtain ⟨k, hk⟩ : ∃ k, k = b % W := ⟨_, rfl⟩
  have hkW : k < W := by rw [hk]; exact Nat.mod_lt _ (by omega)
  have h0 : ¬ W = 0 := by omega
  have hq : (b : Int).tmod (W : Int) = (k : Int) := by rw [hk, Int.tmod_eq_emod_of_nonneg (by omega)]; exact (Int.natCast_emod b W).symm
  have hw : IntKind.u64.wrap (W : Int) = (W : Int) := by rw [IntKind.wrap_u64]; omega
  rw [← hk]
  clear h hk
  go_enter Tryd.func63, Tryd.ntmps63
  go_wp2
  go_ret
  exact ⟨rfl, rfl⟩

theorem mod_mod_wd {W M : Nat} (h : Wd W M) (c : Nat) : c % 18446744073709551616 % M = c % M := by
  rcases h with ⟨_, rfl⟩ | ⟨_, rfl⟩ <;> omega

theorem op61 {W M : Nat} (h : Wd W M) (a b : Nat) (w : World) : Calls Tryd.prog 61 #[.int .u64 a, .int .u64 b, .int .i64 W] w fun e w' => e = .returned (.int .u64 ((a * 2 ^ (b % W) % M : Nat) : Int)) ∧ w = w' := by
  have hW := h.lt
  obtain ⟨k, hk⟩ : ∃ k, k = b % W := ⟨_, rfl⟩
  have hkW : k < W := by rw [hk]; exact Nat.mod_lt _ (by omega)
  have h0 : ¬ W = 0 := by omega
  have hq : (b : Int).tmod (W : Int) = (k : Int) := by rw [hk, Int.tmod_eq_emod_of_nonneg (by omega)]; exact (Int.natCast_emod b W).symm
  have hw : IntKind.u64.wrap (W : Int) = (W : Int) := by rw [IntKind.wrap_u64]; omega
  rw [← hk]
  obtain ⟨r, hr⟩ : ∃ r, r = a * 2 ^ k % 18446744073709551616 := ⟨_, rfl⟩
  have hraw : IntKind.u64.wrap ((a : Int) * 2 ^ k) = (r : Int) := by
    rw [hr, show ((a : Int) * 2 ^ k) = ((a * 2 ^ k : Nat) : Int) by simp, IntKind.wrap_u64]
    generalize a * 2 ^ k = c
    omega
  have hc := fun w => cut_any h r (by rw [hr]; exact Nat.mod_lt _ (by omega)) w
  rw [show r % M = a * 2 ^ k % M by rw [hr]; exact mod_mod_wd h _] at hc
  have HC := Lib.hid hc
  clear h hk hr hc
  go_enter Tryd.func61, Tryd.ntmps61
  go_wp2_with fail
  refine (HC.out _).mono ?_
  rintro e w1 ⟨rfl, rfl⟩
  go_wp2
  go_ret
  exact ⟨rfl, rfl⟩

/-- a number of the width that stands for an integer -/
def un (M : Nat) (z : Int) : Nat := (z % (M : Int)).toNat

theorem op62 {W M : Nat} (h : Wd W M) (a b : Nat) (ha : a < M) (w : World) : Calls Tryd.prog 62 #[.int .u64 a, .int .u64 b, .int .i64 W] w fun e w' => e = .returned (.int .u64 ((un M (sg M a / 2 ^ (b % W)) : Nat) : Int)) ∧ Below w.heap.size w w' := by
  have hW := h.lt
  have hsb := sg_bounds h a ha
  obtain ⟨k, hk⟩ : ∃ k, k = b % W := ⟨_, rfl⟩
  have hkW : k < W := by rw [hk]; exact Nat.mod_lt _ (by omega)
  have h0 : ¬ W = 0 := by omega
  have hq : (b : Int).tmod (W : Int) = (k : Int) := by rw [hk, Int.tmod_eq_emod_of_nonneg (by omega)]; exact (Int.natCast_emod b W).symm
  have hw : IntKind.u64.wrap (W : Int) = (W : Int) := by rw [IntKind.wrap_u64]; omega
  rw [← hk]
  have S1 := Lib.hid (fun w => signed_any h a ha w)
  generalize sg M a = z at S1 hsb ⊢
  obtain ⟨q, hqq⟩ : ∃ q : Int, q = z / 2 ^ k := ⟨_, rfl⟩
  rw [← hqq]
  obtain ⟨r, hr⟩ : ∃ r, r = (q % 18446744073709551616).toNat := ⟨_, rfl⟩
  have hraw : IntKind.u64.wrap q = (r : Int) := by rw [hr, IntKind.wrap_u64]; omega
  have hc := fun w => cut_any h r (by rw [hr]; omega) w
  rw [show r % M = un M q by rw [hr]; unfold un; rcases h with ⟨_, rfl⟩ | ⟨_, rfl⟩ <;> omega] at hc
  have HC := Lib.hid hc
  have hz := hqq.symm
  clear h hk hr hc ha hqq
  go_enter Tryd.func62, Tryd.ntmps62
  go_wp2_with fail
  go_region_with (first
    | (go_at_call 39; refine (S1.out _).mono ?_; rintro e w1 ⟨rfl, rfl⟩)
    | (go_at_call 51; refine (HC.out _).mono ?_; rintro e w1 ⟨rfl, rfl⟩))
  all_goals go_wp2
  all_goals go_ret
  all_goals exact ⟨rfl, (Below.refl _ _).drew⟩
end Go.Proofs.YtdoejkdckokjdaaDoor
