/- num: plain laws of what the operations come to. -/
import Derived.Test.YtdoejkdckokjdaaDoorLaw0
namespace Go.Proofs.YtdoejkdckokjdaaDoor
open Go.RowKit

theorem bit_le (b : Bool) : bit b ≤ 1 := by cases b <;> decide
theorem un_lt {W M : Nat} (h : Wd W M) (z : Int) : un M z < M := by
  have := h.lt
  unfold un
  have h1 := Int.emod_nonneg z (show (M : Int) ≠ 0 by omega)
  have h2 := Int.emod_lt_of_pos z (show (0 : Int) < M by omega)
  omega
theorem or_lt {W M : Nat} (h : Wd W M) (a b : Nat) (ha : a < M) (hb : b < M) : a ||| b < M := by
  rw [h.pow] at *; exact Nat.or_lt_two_pow ha hb
theorem xor_lt {W M : Nat} (h : Wd W M) (a b : Nat) (ha : a < M) (hb : b < M) : a ^^^ b < M := by
  rw [h.pow] at *; exact Nat.xor_lt_two_pow ha hb
theorem rl_lt {W M : Nat} (h : Wd W M) (a k : Nat) (ha : a < M) (hk : k < W) : rl W M a k < M := by
  have hc : a / 2 ^ (W - k) < 2 ^ k := by
    rw [Nat.div_lt_iff_lt_mul (Nat.pow_pos (by omega)), ← Nat.pow_add, show k + (W - k) = W by omega, ← h.pow]; exact ha
  have := or_mod h a k _ (by omega) hc
  unfold rl
  rw [← this]
  exact Nat.mod_lt _ (by have := h.lt; omega)
theorem rr_lt {W M : Nat} (h : Wd W M) (a k : Nat) (ha : a < M) (hk : k < W) : rr W M a k < M := by
  have hc : a / 2 ^ k < 2 ^ (W - k) := by
    rw [Nat.div_lt_iff_lt_mul (Nat.pow_pos (by omega)), ← Nat.pow_add, show W - k + k = W by omega, ← h.pow]; exact ha
  have := or_mod h a (W - k) _ (by omega) hc
  unfold rr
  rw [Nat.add_comm, ← this]
  exact Nat.mod_lt _ (by have := h.lt; omega)

/-- what an operation comes to has no more bits -/
theorem bin_lt {W M : Nat} (h : Wd W M) (p a b : Nat) (ha : a < M) (hb : b < M) : (bin p W M a b).1 < M := by
  have hM := h.lt
  have hbit : ∀ c, bit c < M := fun c => by have := bit_le c; omega
  have hmod : ∀ c, c % M < M := fun c => Nat.mod_lt _ (by omega)
  have hk : b % W < W := Nat.mod_lt _ (by omega)
  unfold bin
  split
  case h_14 => split; omega; split; omega; exact un_lt h _
  case h_15 => split; omega; have := Nat.div_le_self a b; dsimp only; omega
  case h_16 => split; omega; exact un_lt h _
  case h_17 => split; omega; have := Nat.mod_le a b; dsimp only; omega
  all_goals first
    | exact hbit _
    | exact hmod _
    | exact un_lt h _
    | exact or_lt h _ _ ha hb
    | exact xor_lt h _ _ ha hb
    | exact rl_lt h _ _ ha hk
    | exact rr_lt h _ _ ha hk
    | (have := Nat.and_le_left (n := a) (m := b); dsimp only; omega)
    | (have := Nat.div_le_self a (2 ^ (b % W)); dsimp only; omega)
    | (dsimp only; omega)

/-- all ones less a number -/
theorem xor_ones {W M : Nat} (h : Wd W M) (x : Nat) (hx : x < M) : x ^^^ (M - 1) = M - 1 - x := by
  rw [h.pow] at *
  apply Nat.eq_of_testBit_eq
  intro i
  rw [Nat.testBit_xor, Nat.testBit_two_pow_sub_one, show 2 ^ W - 1 - x = 2 ^ W - (x + 1) by omega, Nat.testBit_two_pow_sub_succ hx]
  by_cases hi : i < W
  · simp [hi]
  · have : x.testBit i = false := Nat.testBit_lt_two_pow (Nat.lt_of_lt_of_le hx (Nat.pow_le_pow_right (by omega) (by omega)))
    simp [hi, this]
end Go.Proofs.YtdoejkdckokjdaaDoor
