/- num: bits turned round. -/
import Derived.Test.YtdoejkdckokjdaaDoorDiv
namespace Go.Proofs.YtdoejkdckokjdaaDoor
open Go.RowKit

/-- bits turned to the left by k -/
def rl (W M a k : Nat) : Nat := a * 2 ^ k % M + a / 2 ^ (W - k)
/-- bits turned to the right by k -/
def rr (W M a k : Nat) : Nat := a / 2 ^ k + a * 2 ^ (W - k) % M

theorem Wd.pow {W M : Nat} (h : Wd W M) : M = 2 ^ W := by rcases h with ⟨rfl, rfl⟩ | ⟨rfl, rfl⟩ <;> rfl

/-- a multiple of 2^k, modulo the width, and what is below 2^k beside it -/
theorem or_mod {W M : Nat} (h : Wd W M) (x k c : Nat) (hk : k ≤ W) (hc : c < 2 ^ k) : ((x * 2 ^ k % 18446744073709551616) ||| c) % M = x * 2 ^ k % M + c := by
  obtain ⟨d, hd⟩ : ∃ d, 18446744073709551616 = 2 ^ k * 2 ^ d := ⟨64 - k, by rw [← Nat.pow_add]; have := h.lt; rw [show k + (64 - k) = 64 by omega]⟩
  obtain ⟨f, hf⟩ : ∃ f, M = 2 ^ k * 2 ^ f := ⟨W - k, by rw [← Nat.pow_add, show k + (W - k) = W by omega]; exact h.pow⟩
  have e1 : x * 2 ^ k % 18446744073709551616 = 2 ^ k * (x % 2 ^ d) := by rw [hd, Nat.mul_comm x, Nat.mul_mod_mul_left]
  rw [e1, ← Nat.two_pow_add_eq_or_of_lt hc]
  have hdv : 2 ^ d = 2 ^ f * (2 ^ d / 2 ^ f) := by
    have : f ≤ d := by
      have h1 : 2 ^ k * 2 ^ f ≤ 2 ^ k * 2 ^ d := by rw [← hd, ← hf]; exact h.lt.1
      have h2 := Nat.le_of_mul_le_mul_left h1 (Nat.pow_pos (by omega))
      exact (Nat.pow_le_pow_iff_right (by omega)).1 h2
    rw [Nat.mul_div_cancel' (Nat.pow_dvd_pow 2 this)]
  have e2 : x * 2 ^ k % M = 2 ^ k * (x % 2 ^ f) := by rw [hf, Nat.mul_comm x, Nat.mul_mod_mul_left]
  rw [e2, hf]
  rw [show 2 ^ k * (x % 2 ^ d) + c = c + 2 ^ k * (x % 2 ^ d) by omega, Nat.mod_mul, Nat.add_mul_mod_self_left, Nat.mod_eq_of_lt hc, Nat.add_mul_div_left _ _ (Nat.pow_pos (by omega)), Nat.div_eq_of_lt hc, Nat.zero_add]
  rw [hdv, Nat.mod_mul_right_mod]
  omega

theorem op64 {W M : Nat} (h : Wd W M) (a b : Nat) (ha : a < M) (w : World) : Calls Tryd.prog 64 #[.int .u64 a, .int .u64 b, .int .i64 W] w fun e w' => e = .returned (.int .u64 ((rl W M a (b % W) : Nat) : Int)) ∧ w = w' := by
  have hW := h.lt
  obtain ⟨k, hk⟩ : ∃ k, k = b % W := ⟨_, rfl⟩
  have hkW : k < W := by rw [hk]; exact Nat.mod_lt _ (by omega)
  have h0 : ¬ W = 0 := by omega
  have hq : (b : Int).tmod (W : Int) = (k : Int) := by rw [hk, Int.tmod_eq_emod_of_nonneg (by omega)]; exact (Int.natCast_emod b W).symm
  have hw : IntKind.u64.wrap (W : Int) = (W : Int) := by rw [IntKind.wrap_u64]; omega
  have hs : IntKind.u64.wrap ((W : Int) - (k : Int)) = ((W - k : Nat) : Int) := by rw [IntKind.wrap_u64]; omega
  rw [← hk]
  have hc : a / 2 ^ (W - k) < 2 ^ k := by
    rw [Nat.div_lt_iff_lt_mul (Nat.pow_pos (by omega)), ← Nat.pow_add, show k + (W - k) = W by omega, ← h.pow]; exact ha
  obtain ⟨r, hr⟩ : ∃ r, r = (a * 2 ^ k % 18446744073709551616) ||| (a / 2 ^ (W - k)) := ⟨_, rfl⟩
  have hl : a / 2 ^ (W - k) < 18446744073709551616 := by have := Nat.div_le_self a (2 ^ (W - k)); omega
  have hraw : bits .or .u64 (IntKind.u64.wrap ((a : Int) * 2 ^ k)) ((a : Int) / 2 ^ (W - k)) = (r : Int) := by
    have e1 : IntKind.u64.wrap ((a : Int) * 2 ^ k) = ((a * 2 ^ k % 18446744073709551616 : Nat) : Int) := by
      rw [show ((a : Int) * 2 ^ k) = ((a * 2 ^ k : Nat) : Int) by simp, IntKind.wrap_u64]
      generalize a * 2 ^ k = c
      omega
    rw [e1, show ((a : Int) / 2 ^ (W - k)) = ((a / 2 ^ (W - k) : Nat) : Int) by simp, u64_or_nat _ _ (Nat.mod_lt _ (by omega)) hl, hr]
  have hrb : r < 18446744073709551616 := by
    rw [hr]
    exact Nat.or_lt_two_pow (n := 64) (Nat.mod_lt _ (by omega)) hl
  have hC := fun w => cut_any h r hrb w
  rw [show r % M = rl W M a k by rw [hr]; exact or_mod h a k _ (by omega) hc] at hC
  have HC := Lib.hid hC
  clear h hk hr hC hc hl hrb ha
  go_enter Tryd.func64, Tryd.ntmps64
  go_wp2_with fail
  refine (HC.out _).mono ?_
  rintro e w1 ⟨rfl, rfl⟩
  go_wp2
  go_ret
  exact ⟨rfl, rfl⟩

theorem op65 {W M : Nat} (h : Wd W M) (a b : Nat) (ha : a < M) (w : World) : Calls Tryd.prog 65 #[.int .u64 a, .int .u64 b, .int .i64 W] w fun e w' => e = .returned (.int .u64 ((rr W M a (b % W) : Nat) : Int)) ∧ w = w' := by
  have hW := h.lt
  obtain ⟨k, hk⟩ : ∃ k, k = b % W := ⟨_, rfl⟩
  have hkW : k < W := by rw [hk]; exact Nat.mod_lt _ (by omega)
  have h0 : ¬ W = 0 := by omega
  have hq : (b : Int).tmod (W : Int) = (k : Int) := by rw [hk, Int.tmod_eq_emod_of_nonneg (by omega)]; exact (Int.natCast_emod b W).symm
  have hw : IntKind.u64.wrap (W : Int) = (W : Int) := by rw [IntKind.wrap_u64]; omega
  have hs : IntKind.u64.wrap ((W : Int) - (k : Int)) = ((W - k : Nat) : Int) := by rw [IntKind.wrap_u64]; omega
  rw [← hk]
  have hc : a / 2 ^ k < 2 ^ (W - k) := by
    rw [Nat.div_lt_iff_lt_mul (Nat.pow_pos (by omega)), ← Nat.pow_add, show W - k + k = W by omega, ← h.pow]; exact ha
  obtain ⟨r, hr⟩ : ∃ r, r = (a * 2 ^ (W - k) % 18446744073709551616) ||| (a / 2 ^ k) := ⟨_, rfl⟩
  have hl : a / 2 ^ k < 18446744073709551616 := by have := Nat.div_le_self a (2 ^ k); omega
  have hraw : bits .or .u64 ((a : Int) / 2 ^ k) (IntKind.u64.wrap ((a : Int) * 2 ^ (W - k))) = (r : Int) := by
    have e1 : IntKind.u64.wrap ((a : Int) * 2 ^ (W - k)) = ((a * 2 ^ (W - k) % 18446744073709551616 : Nat) : Int) := by
      rw [show ((a : Int) * 2 ^ (W - k)) = ((a * 2 ^ (W - k) : Nat) : Int) by simp, IntKind.wrap_u64]
      generalize a * 2 ^ (W - k) = c
      omega
    rw [e1, show ((a : Int) / 2 ^ k) = ((a / 2 ^ k : Nat) : Int) by simp, u64_or_nat _ _ hl (Nat.mod_lt _ (by omega)), hr, Nat.or_comm]
  have hrb : r < 18446744073709551616 := by
    rw [hr]
    exact Nat.or_lt_two_pow (n := 64) (Nat.mod_lt _ (by omega)) hl
  have hC := fun w => cut_any h r hrb w
  rw [show r % M = rr W M a k by rw [hr, or_mod h a (W - k) _ (by omega) hc]; unfold rr; omega] at hC
  have HC := Lib.hid hC
  clear h hk hr hC hc hl hrb ha
  go_enter Tryd.func65, Tryd.ntmps65
  go_wp2_with fail
  refine (HC.out _).mono ?_
  rintro e w1 ⟨rfl, rfl⟩
  go_wp2
  go_ret
  exact ⟨rfl, rfl⟩
end Go.Proofs.YtdoejkdckokjdaaDoor
