/- geoderef03: bits and numbers in plain words. -/
import Derived.Test.YtdoejkdckokjdaaDoorPl
namespace Go.Proofs.YtdoejkdckokjdaaDoor
open Go.RowKit

/-- a number's bits, the lowest first -/
def bitsL (a : Nat) : Nat → List Nat
  | 0 => []
  | w + 1 => a % 2 :: bitsL (a / 2) w
/-- the number of a list of bits -/
def numL : List Nat → Nat
  | [] => 0
  | b :: l => b + 2 * numL l

theorem bitsL_len : ∀ (w a : Nat), (bitsL a w).length = w
  | 0, _ => rfl
  | w + 1, a => by simp [bitsL, bitsL_len w]
theorem bitsL_snoc : ∀ (i a : Nat), bitsL a (i + 1) = bitsL a i ++ [a / 2 ^ i % 2]
  | 0, a => by simp [bitsL]
  | i + 1, a => by
    rw [bitsL, bitsL_snoc i (a / 2), bitsL, Nat.div_div_eq_div_mul, Nat.pow_succ, Nat.mul_comm 2]
    rfl
theorem bitsL_get : ∀ (w a i : Nat), i < w → (bitsL a w)[i]? = some (a / 2 ^ i % 2)
  | 0, _, _, h => by omega
  | w + 1, a, 0, _ => by simp [bitsL]
  | w + 1, a, i + 1, h => by
    rw [bitsL, List.getElem?_cons_succ, bitsL_get w (a / 2) i (by omega), Nat.div_div_eq_div_mul, Nat.pow_succ, Nat.mul_comm 2]
theorem numL_bits : ∀ (w a : Nat), numL (bitsL a w) = a % 2 ^ w
  | 0, a => by simp [bitsL, numL, Nat.mod_one]
  | w + 1, a => by
    rw [bitsL, numL, numL_bits w, Nat.pow_succ, Nat.mul_comm (2 ^ w), Nat.mod_mul]
theorem bitsL_le : ∀ (w a : Nat), ∀ b ∈ bitsL a w, b ≤ 1
  | 0, _, b, h => by cases h
  | w + 1, a, b, h => by
    rw [bitsL, List.mem_cons] at h
    rcases h with rfl | h
    · omega
    · exact bitsL_le w _ b h
theorem numL_lt : ∀ (l : List Nat), (∀ b ∈ l, b ≤ 1) → numL l < 2 ^ l.length
  | [], _ => by simp [numL]
  | b :: l, h => by
    have h1 := h b (List.mem_cons_self ..)
    have h2 := numL_lt l fun c hc => h c (List.mem_cons_of_mem _ hc)
    rw [numL, List.length_cons, Nat.pow_succ]
    omega
theorem numL_append : ∀ (l m : List Nat), numL (l ++ m) = numL l + 2 ^ l.length * numL m
  | [], m => by simp [numL]
  | b :: l, m => by
    rw [List.cons_append, numL, numL_append l m, numL, List.length_cons, Nat.pow_succ, Nat.mul_comm (2 ^ l.length) 2, Nat.mul_assoc]
    omega
/-- a list that has these bits is these bits -/
theorem bitsL_of {l : List Nat} {w a : Nat} (hl : l.length = w) (h : ∀ i, i < w → l[i]? = some (a / 2 ^ i % 2)) : l = bitsL a w := by
  apply List.ext_getElem?
  intro i
  by_cases hi : i < w
  · rw [h i hi, bitsL_get w a i hi]
  · rw [List.getElem?_eq_none (by omega), List.getElem?_eq_none (by rw [bitsL_len]; omega)]
theorem numL_of {l : List Nat} {w a : Nat} (hl : l.length = w) (h : ∀ i, i < w → l[i]? = some (a / 2 ^ i % 2)) : numL l = a % 2 ^ w := by
  rw [bitsL_of hl h, numL_bits]
/-- the number of what is left of a list -/
theorem numL_drop (l : List Nat) (i b : Nat) (h : l[i]? = some b) : numL (l.drop i) = b + 2 * numL (l.drop (i + 1)) := by
  obtain ⟨hi, e⟩ := List.getElem?_eq_some_iff.1 h
  rw [List.drop_eq_getElem_cons hi, numL, e]
theorem bit_top {W M : Nat} (h : Wd W M) (a : Nat) (ha : a < M) : a / 2 ^ (W - 1) % 2 = if 2 * a < M then 0 else 1 := by
  rcases h with ⟨rfl, rfl⟩ | ⟨rfl, rfl⟩ <;> split <;> omega
end Go.Proofs.YtdoejkdckokjdaaDoor
