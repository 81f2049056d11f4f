/- geoderef03.Two: the digits of what comes out, in plain words. -/
import Derived.Test.YtdoejkdckokjdaaDoorRefD
namespace Go.Proofs.YtdoejkdckokjdaaDoor
open Go.RowKit

/-- a number's bit -/
def A (a j : Nat) : Nat := a / 2 ^ j % 2
theorem A_bit (a j : Nat) : A a j = (a.testBit j).toNat := (Nat.toNat_testBit a j).symm
theorem A_le (a j : Nat) : A a j ≤ 1 := by unfold A; omega

/-- the digit at i of what the operation at a place comes to -/
def dg (p W a b k i : Nat) : Nat := match p with
  | 21 => A a i * A b i
  | 22 => (A a i + A b i + 1) / 2
  | 23 => (A a i + A b i) % 2
  | 24 => if k ≤ i then A a (i - k) else 0
  | 25 => if i + k < W then A a (i + k) else A a (W - 1)
  | 26 => if i + k < W then A a (i + k) else 0
  | 27 => A a ((i + W - k) % W)
  | _ => A a ((i + k) % W)

theorem A_high {W M : Nat} (h : Wd W M) (a j : Nat) (ha : a < M) (hj : W ≤ j) : A a j = 0 := by
  unfold A
  rw [Nat.div_eq_of_lt, Nat.zero_mod]
  rw [h.pow] at ha
  exact Nat.lt_of_lt_of_le ha (Nat.pow_le_pow_right (by omega) hj)
theorem A_div (a k i : Nat) : A (a / 2 ^ k) i = A a (i + k) := by
  unfold A
  rw [Nat.div_div_eq_div_mul, ← Nat.pow_add, Nat.add_comm]
theorem A_mod (a n i : Nat) (h : i < n) : A (a % 2 ^ n) i = A a i := by
  rw [A_bit, A_bit, Nat.testBit_mod_two_pow, decide_eq_true h, Bool.true_and]
theorem A_parts (lo hi n i : Nat) (h : lo < 2 ^ n) : A (lo + 2 ^ n * hi) i = if i < n then A lo i else A hi (i - n) := by
  rw [Nat.add_comm, A_bit, Nat.testBit_two_pow_mul_add hi h]
  split <;> rw [← A_bit]

theorem shift_neg (M x k : Nat) (hx : x < M) : un M (((x : Int) - (M : Int)) / 2 ^ k) = M - 1 - (M - 1 - x) / 2 ^ k := by
  obtain ⟨d, hd⟩ : ∃ d : Nat, d = 2 ^ k := ⟨_, rfl⟩
  have hd0 : 0 < d := by rw [hd]; exact Nat.pow_pos (by omega)
  have e : ((x : Int) - (M : Int)) / (d : Int) = -1 - (((M - 1 - x) / d : Nat) : Int) := by
    obtain ⟨y, hy⟩ : ∃ y, y = M - 1 - x := ⟨_, rfl⟩
    rw [← hy, show ((x : Int) - (M : Int)) = -((y : Int) + 1) by omega]
    have h1 := Nat.div_add_mod y d
    have h2 := Nat.mod_lt y hd0
    generalize y / d = q at *
    generalize y % d = r at *
    rw [← h1]
    have : (-(((d * q + r : Nat) : Int) + 1)) = ((d : Int) - 1 - (r : Int)) + (-1 - (q : Int)) * (d : Int) := by
      rw [Int.sub_mul, Int.natCast_add, Int.natCast_mul, Int.mul_comm (d : Int)]
      omega
    rw [this, Int.add_mul_ediv_right _ _ (by omega), Int.ediv_eq_zero_of_lt (by omega) (by omega)]
    omega
  rw [show ((2 : Int) ^ k) = (d : Int) by rw [hd]; simp, e, ← hd]
  have hq : (M - 1 - x) / d ≤ M - 1 - x := Nat.div_le_self _ _
  generalize (M - 1 - x) / d = q at *
  unfold un
  rw [show (-1 - (q : Int)) = ((M - 1 - q : Nat) : Int) + (-1) * (M : Int) by omega, Int.add_mul_emod_self_right, Int.emod_eq_of_lt (by omega) (by omega)]
  omega

theorem A_not {W M : Nat} (h : Wd W M) (y i : Nat) (hy : y < M) (hi : i < W) : A (M - 1 - y) i = 1 - A y i := by
  rw [h.pow] at *
  rw [A_bit, A_bit, show 2 ^ W - 1 - y = 2 ^ W - (y + 1) by omega, Nat.testBit_two_pow_sub_succ hy, decide_eq_true hi]
  cases y.testBit i <;> rfl

theorem dig21 (a b i : Nat) : A (a &&& b) i = A a i * A b i := by
  rw [A_bit, A_bit, A_bit, Nat.testBit_and]
  cases a.testBit i <;> cases b.testBit i <;> rfl
theorem dig22 (a b i : Nat) : A (a ||| b) i = (A a i + A b i + 1) / 2 := by
  rw [A_bit, A_bit, A_bit, Nat.testBit_or]
  cases a.testBit i <;> cases b.testBit i <;> rfl
theorem dig23 (a b i : Nat) : A (a ^^^ b) i = (A a i + A b i) % 2 := by
  rw [A_bit, A_bit, A_bit, Nat.testBit_xor]
  cases a.testBit i <;> cases b.testBit i <;> rfl
theorem dig24 {W M : Nat} (h : Wd W M) (a k i : Nat) (hi : i < W) : A (a * 2 ^ k % M) i = if k ≤ i then A a (i - k) else 0 := by
  rw [h.pow, A_mod _ _ _ hi]
  have := A_parts 0 a k i (Nat.pow_pos (by omega))
  rw [Nat.zero_add, Nat.mul_comm] at this
  rw [this]
  by_cases hk : i < k
  · rw [if_pos hk, if_neg (by omega)]; unfold A; rw [Nat.zero_div]
  · rw [if_neg hk, if_pos (by omega)]
theorem dig26 {W M : Nat} (h : Wd W M) (a k i : Nat) (ha : a < M) : A (a / 2 ^ k) i = if i + k < W then A a (i + k) else 0 := by
  rw [A_div]
  split
  · rfl
  · exact A_high h a _ ha (by omega)
theorem A_top {W M : Nat} (h : Wd W M) (a : Nat) (ha : a < M) : A a (W - 1) = if 2 * a < M then 0 else 1 := bit_top h a ha
theorem dig25 {W M : Nat} (h : Wd W M) (a k i : Nat) (ha : a < M) (hi : i < W) : A (un M (sg M a / 2 ^ k)) i = if i + k < W then A a (i + k) else A a (W - 1) := by
  have hM := h.lt
  rw [A_top h a ha]
  by_cases hs : 2 * a < M
  · rw [if_pos hs, sg_p hs, show un M ((a : Int) / 2 ^ k) = a / 2 ^ k by
      rw [show ((a : Int) / 2 ^ k) = ((a / 2 ^ k : Nat) : Int) by simp]
      exact un_pos _ (Nat.lt_of_le_of_lt (Nat.div_le_self _ _) ha)]
    exact dig26 h a k i ha
  · rw [if_neg hs, show sg M a = (a : Int) - (M : Int) by unfold sg; rw [if_neg hs], shift_neg M a k ha]
    have hy : (M - 1 - a) / 2 ^ k < M := Nat.lt_of_le_of_lt (Nat.div_le_self _ _) (by omega)
    rw [A_not h _ i hy hi, dig26 h (M - 1 - a) k i (by omega)]
    have := A_le a (i + k)
    split
    · rename_i hik
      rw [A_not h a _ ha hik]
      omega
    · rfl
theorem dig27 {W M : Nat} (h : Wd W M) (a k i : Nat) (ha : a < M) (hk : k < W) (hi : i < W) : A (rl W M a k) i = A a ((i + W - k) % W) := by
  have hMp : M = 2 ^ k * 2 ^ (W - k) := by rw [← Nat.pow_add, show k + (W - k) = W by omega]; exact h.pow
  have h1 : a / 2 ^ (W - k) < 2 ^ k := by rw [Nat.div_lt_iff_lt_mul (Nat.pow_pos (by omega)), ← hMp]; exact ha
  have e : rl W M a k = a / 2 ^ (W - k) + 2 ^ k * (a % 2 ^ (W - k)) := by
    unfold rl
    rw [hMp, Nat.mul_comm a, Nat.mul_mod_mul_left, Nat.add_comm]
  rw [e, A_parts _ _ _ _ h1]
  split
  · rw [A_div, Nat.mod_eq_of_lt (by omega)]
    congr 1; omega
  · rw [A_mod _ _ _ (by omega)]
    congr 1
    rw [show i + W - k = (i - k) + W by omega, Nat.add_mod_right, Nat.mod_eq_of_lt (by omega)]
theorem dig28 {W M : Nat} (h : Wd W M) (a k i : Nat) (ha : a < M) (hk : k < W) (hi : i < W) : A (rr W M a k) i = A a ((i + k) % W) := by
  have hMp : M = 2 ^ (W - k) * 2 ^ k := by rw [← Nat.pow_add, show W - k + k = W by omega]; exact h.pow
  have h1 : a / 2 ^ k < 2 ^ (W - k) := by rw [Nat.div_lt_iff_lt_mul (Nat.pow_pos (by omega)), ← hMp]; exact ha
  have e : rr W M a k = a / 2 ^ k + 2 ^ (W - k) * (a % 2 ^ k) := by
    unfold rr
    rw [hMp, Nat.mul_comm a, Nat.mul_mod_mul_left]
  rw [e, A_parts _ _ _ _ h1]
  split
  · rw [A_div, Nat.mod_eq_of_lt (by omega)]
  · rw [A_mod _ _ _ (by omega)]
    congr 1
    rw [show i + k = (i - (W - k)) + W by omega, Nat.add_mod_right, Nat.mod_eq_of_lt (by omega)]

/-- the digits are those of the number -/
theorem dig_any {W M : Nat} (h : Wd W M) (p a b i : Nat) (h1 : 21 ≤ p) (h2 : p ≤ 28) (ha : a < M) (hi : i < W) : dg p W a b (b % W) i = A (bin p W M a b).1 i := by
  have hW := h.lt
  have hk : b % W < W := Nat.mod_lt _ (by omega)
  match p, h1, h2 with
  | 21, _, _ => exact (dig21 a b i).symm
  | 22, _, _ => exact (dig22 a b i).symm
  | 23, _, _ => exact (dig23 a b i).symm
  | 24, _, _ => exact (dig24 h a _ i hi).symm
  | 25, _, _ => exact (dig25 h a _ i ha hi).symm
  | 26, _, _ => exact (dig26 h a _ i ha).symm
  | 27, _, _ => exact (dig27 h a _ i ha hk hi).symm
  | 28, _, _ => exact (dig28 h a _ i ha hk hi).symm
  | n + 29, _, h2 => omega
theorem dg_le (p W a b k i : Nat) : dg p W a b k i ≤ 1 := by
  have l1 := A_le a i
  have l2 := A_le b i
  unfold dg
  split
  · have : A a i * A b i ≤ 1 * 1 := Nat.mul_le_mul l1 l2
    omega
  · omega
  · omega
  · split
    · exact A_le _ _
    · omega
  · split <;> exact A_le _ _
  · split
    · exact A_le _ _
    · omega
  · exact A_le _ _
  · exact A_le _ _

/-- the list of digits is the number's bits -/
theorem dig_num {W M : Nat} (h : Wd W M) (p a b : Nat) (h1 : 21 ≤ p) (h2 : p ≤ 28) (ha : a < M) (hb : b < M) : numL ((List.range W).map (dg p W a b (b % W))) = (bin p W M a b).1 := by
  have e : numL ((List.range W).map (dg p W a b (b % W))) = (bin p W M a b).1 % 2 ^ W := by
    apply numL_of (by simp)
    intro i hi
    rw [List.getElem?_map, List.getElem?_range hi]
    exact congrArg some (dig_any h p a b i h1 h2 ha hi)
  rw [e, ← h.pow, Nat.mod_eq_of_lt (bin_lt h p a b ha hb)]
end Go.Proofs.YtdoejkdckokjdaaDoor
