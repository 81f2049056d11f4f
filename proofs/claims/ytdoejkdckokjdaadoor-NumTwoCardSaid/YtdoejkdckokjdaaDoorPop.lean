/- How many ones a number has: the plain law behind the sum over its parts. -/
import Derived.Lib.BitFns
import Derived.KernelRfl
namespace Go.Proofs.YtdoejkdckokjdaaDoor
open Go

/-- the number of a list of bytes, the lowest first -/
def val : List Nat → Nat
  | [] => 0
  | b :: l => b + 256 * val l

theorem and256 (p q y z : Nat) (hp : p < 256) (hq : q < 256) : (p + 256 * y) &&& (q + 256 * z) = (p &&& q) + 256 * (y &&& z) := by
  have h : p &&& q < 2 ^ 8 := Nat.and_lt_two_pow _ hq
  apply Nat.eq_of_testBit_eq
  intro j
  rw [Nat.testBit_and, show p + 256 * y = 2 ^ 8 * y + p by omega, show q + 256 * z = 2 ^ 8 * z + q by omega, show (p &&& q) + 256 * (y &&& z) = 2 ^ 8 * (y &&& z) + (p &&& q) by omega,
    Nat.testBit_two_pow_mul_add _ hp, Nat.testBit_two_pow_mul_add _ hq, Nat.testBit_two_pow_mul_add _ h]
  split <;> rw [Nat.testBit_and]

def g1 (b : Nat) : Nat := (b / 2 &&& 85) + (b &&& 85)
def g2 (b : Nat) : Nat := (b / 4 &&& 51) + (b &&& 51)
def g3 (b : Nat) : Nat := (b / 16 + b) &&& 15

theorem k1 : ∀ (c : Fin 256) (r : Fin 2), (c.val / 2 + 128 * r.val) &&& 85 = c.val / 2 &&& 85 := by decide +kernel
theorem k2 : ∀ (c : Fin 256) (r : Fin 4), (c.val / 4 + 64 * r.val) &&& 51 = c.val / 4 &&& 51 := by decide +kernel
theorem k3 : ∀ (c : Fin 69) (r : Fin 5), (c.val / 16 + 16 * r.val + c.val) &&& 15 = (c.val / 16 + c.val) &&& 15 := by decide +kernel
theorem kg1 : ∀ c : Fin 256, g1 c.val < 256 := by decide +kernel
theorem kg2 : ∀ c : Fin 256, g2 (g1 c.val) / 16 ≤ 4 ∧ g2 (g1 c.val) % 16 ≤ 4 := by decide +kernel
theorem kg3 : ∀ c : Fin 256, g3 (g2 (g1 c.val)) = Lib.popAux 8 c.val ∧ Lib.popAux 8 c.val ≤ 8 := by decide +kernel

theorem stage1 : ∀ l : List Nat, (∀ b ∈ l, b < 256) → (val l / 2 &&& val (List.replicate l.length 85)) + (val l &&& val (List.replicate l.length 85)) = val (l.map g1)
  | [], _ => rfl
  | b :: l, h => by
    have hb : b < 256 := h b (List.mem_cons_self ..)
    have ih := stage1 l fun c hc => h c (List.mem_cons_of_mem _ hc)
    simp only [val, List.length_cons, List.replicate_succ, List.map_cons]
    rw [show (b + 256 * val l) / 2 = (b / 2 + 128 * (val l % 2)) + 256 * (val l / 2) by omega, and256 _ _ _ _ (by omega) (by omega), and256 _ _ _ _ hb (by omega), k1 ⟨b, hb⟩ ⟨val l % 2, by omega⟩, ← ih]
    dsimp only
    unfold g1
    omega
theorem stage2 : ∀ l : List Nat, (∀ b ∈ l, b < 256) → (val l / 4 &&& val (List.replicate l.length 51)) + (val l &&& val (List.replicate l.length 51)) = val (l.map g2)
  | [], _ => rfl
  | b :: l, h => by
    have hb : b < 256 := h b (List.mem_cons_self ..)
    have ih := stage2 l fun c hc => h c (List.mem_cons_of_mem _ hc)
    simp only [val, List.length_cons, List.replicate_succ, List.map_cons]
    rw [show (b + 256 * val l) / 4 = (b / 4 + 64 * (val l % 4)) + 256 * (val l / 4) by omega, and256 _ _ _ _ (by omega) (by omega), and256 _ _ _ _ hb (by omega), k2 ⟨b, hb⟩ ⟨val l % 4, by omega⟩, ← ih]
    dsimp only
    unfold g2
    omega
theorem stage3 : ∀ l : List Nat, (∀ b ∈ l, b / 16 ≤ 4 ∧ b % 16 ≤ 4) → (val l / 16 + val l) &&& val (List.replicate l.length 15) = val (l.map g3)
  | [], _ => rfl
  | b :: l, h => by
    have hb := h b (List.mem_cons_self ..)
    have ih := stage3 l fun c hc => h c (List.mem_cons_of_mem _ hc)
    have hv : val l % 16 ≤ 4 := by
      match l, h with
      | [], _ => simp [val]
      | c :: m, h =>
        have := h c (by simp)
        simp only [val]
        omega
    simp only [val, List.length_cons, List.replicate_succ, List.map_cons]
    rw [show (b + 256 * val l) / 16 + (b + 256 * val l) = (b / 16 + 16 * (val l % 16) + b) + 256 * (val l / 16 + val l) by omega, and256 _ _ _ _ (by omega) (by omega), k3 ⟨b, by omega⟩ ⟨val l % 16, by omega⟩, ← ih]
    dsimp only
    unfold g3
    omega

/-- ones of a number that is put together -/
theorem pop_split : ∀ (k f b y : Nat), b < 2 ^ k → Lib.popAux (k + f) (b + 2 ^ k * y) = Lib.popAux k b + Lib.popAux f y
  | 0, f, b, y, h => by
    have : b = 0 := by simpa using h
    subst this
    simp [Lib.popAux]
  | k + 1, f, b, y, h => by
    rw [show k + 1 + f = (k + f) + 1 by omega]
    simp only [Lib.popAux]
    have e : (b + 2 ^ (k + 1) * y) / 2 = b / 2 + 2 ^ k * y := by rw [Nat.pow_succ, Nat.mul_comm (2 ^ k), Nat.mul_assoc]; omega
    have e2 : (b + 2 ^ (k + 1) * y) % 2 = b % 2 := by rw [Nat.pow_succ, Nat.mul_comm (2 ^ k), Nat.mul_assoc]; omega
    rw [e, e2, pop_split k f (b / 2) y (by rw [Nat.pow_succ] at h; omega)]
    omega
theorem pop_zero : ∀ f : Nat, Lib.popAux f 0 = 0
  | 0 => rfl
  | f + 1 => by simp [Lib.popAux, pop_zero f]
theorem pop_fuel (k f b : Nat) (h : b < 2 ^ k) : Lib.popAux (k + f) b = Lib.popAux k b := by
  have := pop_split k f b 0 h
  rw [pop_zero] at this
  simpa using this

def m0 : Nat := 6148914691236517205
def m1 : Nat := 3689348814741910323
def m2 : Nat := 1085102592571150095

/-- the bytes of a number -/
def bytes8 (x : Nat) : List Nat := [x % 256, x / 256 % 256, x / 65536 % 256, x / 16777216 % 256, x / 4294967296 % 256, x / 1099511627776 % 256, x / 281474976710656 % 256, x / 72057594037927936 % 256]
theorem bytes8_val (x : Nat) (h : x < 18446744073709551616) : val (bytes8 x) = x := by
  simp only [bytes8, val]
  omega
theorem bytes8_lt (x : Nat) : ∀ b ∈ bytes8 x, b < 256 := by
  intro b hb
  simp only [bytes8, List.mem_cons, List.not_mem_nil, or_false] at hb
  omega

theorem swar (x : Nat) (h : x < 18446744073709551616) : ∃ c0 c1 c2 c3 c4 c5 c6 c7 : Nat, (c0 ≤ 8 ∧ c1 ≤ 8 ∧ c2 ≤ 8 ∧ c3 ≤ 8 ∧ c4 ≤ 8 ∧ c5 ≤ 8 ∧ c6 ≤ 8 ∧ c7 ≤ 8) ∧
    Lib.onesCount x = c0 + c1 + c2 + c3 + c4 + c5 + c6 + c7 ∧ ∃ x1 x2, x1 = (x / 2 &&& m0) + (x &&& m0) ∧ x2 = (x1 / 4 &&& m1) + (x1 &&& m1) ∧ x1 < 18446744073709551616 ∧ x2 < 9223372036854775808 ∧
    (x2 / 16 + x2) &&& m2 = val [c0, c1, c2, c3, c4, c5, c6, c7] := by
  have s1 := stage1 (bytes8 x) (bytes8_lt x)
  have l1 : ∀ b ∈ (bytes8 x).map g1, b < 256 := by
    intro b hb
    obtain ⟨c, hc, rfl⟩ := List.mem_map.1 hb
    exact kg1 ⟨c, bytes8_lt x c hc⟩
  have s2 := stage2 _ l1
  have l2 : ∀ b ∈ ((bytes8 x).map g1).map g2, b / 16 ≤ 4 ∧ b % 16 ≤ 4 := by
    intro b hb
    rw [List.map_map] at hb
    obtain ⟨c, hc, rfl⟩ := List.mem_map.1 hb
    exact kg2 ⟨c, bytes8_lt x c hc⟩
  have s3 := stage3 _ l2
  rw [bytes8_val x h] at s1
  have e0 : val (List.replicate (bytes8 x).length 85) = m0 := by kernel_rfl
  have e1 : val (List.replicate ((bytes8 x).map g1).length 51) = m1 := by kernel_rfl
  have e2 : val (List.replicate (((bytes8 x).map g1).map g2).length 15) = m2 := by kernel_rfl
  rw [e0] at s1
  rw [e1] at s2
  rw [e2] at s3
  have p : ∀ b ∈ bytes8 x, g3 (g2 (g1 b)) = Lib.popAux 8 b ∧ Lib.popAux 8 b ≤ 8 := fun b hb => kg3 ⟨b, bytes8_lt x b hb⟩
  have hsum : Lib.onesCount x = Lib.popAux 8 (x % 256) + (Lib.popAux 8 (x / 256 % 256) + (Lib.popAux 8 (x / 65536 % 256) + (Lib.popAux 8 (x / 16777216 % 256) + (Lib.popAux 8 (x / 4294967296 % 256) + (Lib.popAux 8 (x / 1099511627776 % 256) + (Lib.popAux 8 (x / 281474976710656 % 256) + Lib.popAux 8 (x / 72057594037927936 % 256))))))) := by
    unfold Lib.onesCount
    have t : ∀ f y, Lib.popAux (8 + f) y = Lib.popAux 8 (y % 256) + Lib.popAux f (y / 256) := by
      intro f y
      have := pop_split 8 f (y % 256) (y / 256) (by omega)
      rwa [show y % 256 + 2 ^ 8 * (y / 256) = y by omega] at this
    have t8 := t 0 (x / 256 / 256 / 256 / 256 / 256 / 256 / 256)
    rw [show Lib.popAux 0 (x / 256 / 256 / 256 / 256 / 256 / 256 / 256 / 256) = 0 from rfl] at t8
    have a1 := t 56 x
    have a2 := t 48 (x / 256)
    have a3 := t 40 (x / 256 / 256)
    have a4 := t 32 (x / 256 / 256 / 256)
    have a5 := t 24 (x / 256 / 256 / 256 / 256)
    have a6 := t 16 (x / 256 / 256 / 256 / 256 / 256)
    have a7 := t 8 (x / 256 / 256 / 256 / 256 / 256 / 256)
    simp only [Nat.div_div_eq_div_mul, Nat.reduceMul, Nat.reduceAdd, Nat.add_zero] at a1 a2 a3 a4 a5 a6 a7 t8
    omega
  refine ⟨g3 (g2 (g1 (x % 256))), g3 (g2 (g1 (x / 256 % 256))), g3 (g2 (g1 (x / 65536 % 256))), g3 (g2 (g1 (x / 16777216 % 256))), g3 (g2 (g1 (x / 4294967296 % 256))), g3 (g2 (g1 (x / 1099511627776 % 256))), g3 (g2 (g1 (x / 281474976710656 % 256))), g3 (g2 (g1 (x / 72057594037927936 % 256))), ?_, ?_, _, _, rfl, rfl, ?_, ?_, ?_⟩
  · have := p
    simp only [bytes8, List.mem_cons, List.not_mem_nil, or_false, forall_eq_or_imp, forall_eq] at this
    omega
  · have := p
    simp only [bytes8, List.mem_cons, List.not_mem_nil, or_false, forall_eq_or_imp, forall_eq] at this
    omega
  · rw [s1]
    have := l1
    simp only [bytes8, List.map_cons, List.map_nil, List.mem_cons, List.not_mem_nil, or_false, forall_eq_or_imp, forall_eq, val] at this ⊢
    omega
  · rw [s1, s2]
    have := l2
    simp only [bytes8, List.map_cons, List.map_nil, List.mem_cons, List.not_mem_nil, or_false, forall_eq_or_imp, forall_eq, val] at this ⊢
    omega
  · rw [s1, s2, s3]
    rfl

theorem a3 (c t : Nat) (h : c ≤ 8) : (c + 256 * t) / 256 = t := by omega
theorem a4 (p q t : Nat) (h : p ≤ 16) (h2 : q ≤ 16) : (p + 256 * q + 65536 * t) / 65536 = t := by omega
theorem a5 (p q r s t : Nat) (h : p ≤ 32) (h2 : q ≤ 32) (h3 : r ≤ 32) (h4 : s ≤ 32) : (p + 256 * q + 65536 * r + 16777216 * s + 4294967296 * t) / 4294967296 = t := by omega
theorem a6 (p t : Nat) (h : p ≤ 64) : (p + 256 * t) % 128 = p := by omega
theorem b8 (a b c d e f g h : Nat) (H : a ≤ 64 ∧ b ≤ 64 ∧ c ≤ 64 ∧ d ≤ 64 ∧ e ≤ 64 ∧ f ≤ 64 ∧ g ≤ 64 ∧ h ≤ 64) : a + 256 * (b + 256 * (c + 256 * (d + 256 * (e + 256 * (f + 256 * (g + 256 * h)))))) < 9223372036854775808 := by omega

theorem sum8 (c0 c1 c2 c3 c4 c5 c6 c7 x3 x4 x5 x6 : Nat) (h : c0 ≤ 8 ∧ c1 ≤ 8 ∧ c2 ≤ 8 ∧ c3 ≤ 8 ∧ c4 ≤ 8 ∧ c5 ≤ 8 ∧ c6 ≤ 8 ∧ c7 ≤ 8) (e3 : x3 = val [c0, c1, c2, c3, c4, c5, c6, c7]) (e4 : x4 = x3 + x3 / 256)
    (e5 : x5 = x4 + x4 / 65536) (e6 : x6 = x5 + x5 / 4294967296) : x3 < 9223372036854775808 ∧ x4 < 9223372036854775808 ∧ x5 < 9223372036854775808 ∧ x6 < 9223372036854775808 ∧ x6 % 128 = c0 + c1 + c2 + c3 + c4 + c5 + c6 + c7 := by
  obtain ⟨b0, b1, b2, b3, b4, b5, b6, b7⟩ := h
  have f3 : x3 = c0 + 256 * (c1 + 256 * (c2 + 256 * (c3 + 256 * (c4 + 256 * (c5 + 256 * (c6 + 256 * c7)))))) := e3
  have d3 : x3 / 256 = _ := (congrArg (· / 256) f3).trans (a3 c0 _ b0)
  have g4 : x4 = (c0 + c1) + 256 * (c1 + c2) + 65536 * ((c2 + c3) + 256 * ((c3 + c4) + 256 * ((c4 + c5) + 256 * ((c5 + c6) + 256 * ((c6 + c7) + 256 * c7))))) := by rw [e4, d3, f3]; clear d3 e3 e4 e5 e6 f3; omega
  have d4 : x4 / 65536 = _ := (congrArg (· / 65536) g4).trans (a4 _ _ _ (by clear d3 e3 e4 e5 e6 f3 g4; omega) (by clear d3 e3 e4 e5 e6 f3 g4; omega))
  have g5 : x5 = (c0 + c1 + c2 + c3) + 256 * (c1 + c2 + c3 + c4) + 65536 * (c2 + c3 + c4 + c5) + 16777216 * (c3 + c4 + c5 + c6) + 4294967296 * ((c4 + c5 + c6 + c7) + 256 * ((c5 + c6 + c7) + 256 * ((c6 + c7) + 256 * c7))) := by rw [e5, d4, g4]; clear d3 d4 e3 e4 e5 e6 f3 g4; omega
  have d5 : x5 / 4294967296 = _ := (congrArg (· / 4294967296) g5).trans (a5 _ _ _ _ _ (by clear d3 d4 e3 e4 e5 e6 f3 g4 g5; omega) (by clear d3 d4 e3 e4 e5 e6 f3 g4 g5; omega) (by clear d3 d4 e3 e4 e5 e6 f3 g4 g5; omega) (by clear d3 d4 e3 e4 e5 e6 f3 g4 g5; omega))
  have g6 : x6 = (c0 + c1 + c2 + c3 + c4 + c5 + c6 + c7) + 256 * ((c1 + c2 + c3 + c4 + c5 + c6 + c7) + 256 * ((c2 + c3 + c4 + c5 + c6 + c7) + 256 * ((c3 + c4 + c5 + c6 + c7) + 256 * ((c4 + c5 + c6 + c7) + 256 * ((c5 + c6 + c7) + 256 * ((c6 + c7) + 256 * c7)))))) := by rw [e6, d5, g5]; clear d3 d4 d5 e3 e4 e5 e6 f3 g4 g5; omega
  have r4 : x4 = (c0 + c1) + 256 * ((c1 + c2) + 256 * ((c2 + c3) + 256 * ((c3 + c4) + 256 * ((c4 + c5) + 256 * ((c5 + c6) + 256 * ((c6 + c7) + 256 * c7)))))) := by rw [g4]; clear d3 d4 d5 e3 e4 e5 e6 f3 g4 g5 g6; omega
  have r5 : x5 = (c0 + c1 + c2 + c3) + 256 * ((c1 + c2 + c3 + c4) + 256 * ((c2 + c3 + c4 + c5) + 256 * ((c3 + c4 + c5 + c6) + 256 * ((c4 + c5 + c6 + c7) + 256 * ((c5 + c6 + c7) + 256 * ((c6 + c7) + 256 * c7)))))) := by rw [g5]; clear d3 d4 d5 e3 e4 e5 e6 f3 g4 g5 g6 r4; omega
  refine ⟨?_, ?_, ?_, ?_, ?_⟩
  · rw [f3]; clear d3 d4 d5 e3 e4 e5 e6 f3 g4 g5 g6 r4 r5; exact b8 _ _ _ _ _ _ _ _ (by omega)
  · rw [r4]; clear d3 d4 d5 e3 e4 e5 e6 f3 g4 g5 g6 r4 r5; exact b8 _ _ _ _ _ _ _ _ (by omega)
  · rw [r5]; clear d3 d4 d5 e3 e4 e5 e6 f3 g4 g5 g6 r4 r5; exact b8 _ _ _ _ _ _ _ _ (by omega)
  · rw [g6]; clear d3 d4 d5 e3 e4 e5 e6 f3 g4 g5 g6 r4 r5; exact b8 _ _ _ _ _ _ _ _ (by omega)
  · rw [g6]; clear d3 d4 d5 e3 e4 e5 e6 f3 g4 g5 g6 r4 r5; exact a6 _ _ (by omega)
end Go.Proofs.YtdoejkdckokjdaaDoor
