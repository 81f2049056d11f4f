import Derived.Test.YtbaihhkcnlhdmaaLebMa
/- What is read: its bounds; by more bits it is the same; the shortest bytes; and the reference's lists of bits. No program in sight. -/
namespace Go.Proofs.Ytbaihhkcnlhdmaa.LebM

theorem rd_more (bits more : Nat) (s : Bool) (hm : bits ≤ more) : ∀ (l : List Nat) (d n k : Nat) (v : Int) (j : Nat), d < bits →
    rd bits s l d n k = (v, j, 0) → rd more s l d n k = (v, j, 0) := by
  intro l
  induction l with
  | nil => intro d n k v j _ h; simp [rd] at h
  | cons c cs ih =>
    intro d n k v j hd h
    simp only [rd] at h ⊢
    by_cases hf : fits c (bits - d) s = false
    · rw [if_pos hf] at h; simp at h
    · rw [if_neg hf] at h
      have hf' : fits c (more - d) s = true := fits_mono (l := bits - d) (by omega) (by omega) (by simpa using hf)
      rw [if_neg (by simp [hf'])]
      by_cases hc : c < 128
      · rw [if_pos hc] at h ⊢; exact h
      · rw [if_neg hc] at h ⊢
        by_cases hb : bits ≤ d + 7
        · rw [if_pos hb] at h; simp at h
        · rw [if_neg hb] at h
          rw [if_neg (by omega)]
          exact ih _ _ _ _ _ (by omega) h

/-- an error tells nothing else -/
theorem rd_err (bits : Nat) (s : Bool) : ∀ (l : List Nat) (d n k : Nat), (rd bits s l d n k).2.2 = 0 ∨ ((rd bits s l d n k).1 = 0 ∧ (rd bits s l d n k).2.1 = 0 ∧ ((rd bits s l d n k).2.2 = 10 ∨ (rd bits s l d n k).2.2 = 11)) := by
  intro l
  induction l with
  | nil => intro d n k; simp [rd]
  | cons c cs ih =>
    intro d n k
    simp only [rd]
    split
    · simp
    · split
      · simp
      · split
        · simp
        · exact ih _ _ _

theorem fin_bounds {c n d bits : Nat} {s : Bool} (hd : d < bits) (hn : n < 2 ^ d) (hf : fits c (bits - d) s = true) :
    (s = false → 0 ≤ fin s c (n + (c % 128) * 2 ^ d) (d + 7) ∧ fin s c (n + (c % 128) * 2 ^ d) (d + 7) < 2 ^ (d + 7) ∧ fin s c (n + (c % 128) * 2 ^ d) (d + 7) < 2 ^ bits) ∧
    (s = true → -(2 : Int) ^ (d + 6) ≤ fin s c (n + (c % 128) * 2 ^ d) (d + 7) ∧ fin s c (n + (c % 128) * 2 ^ d) (d + 7) < 2 ^ (d + 6) ∧
      -(2 : Int) ^ (bits - 1) ≤ fin s c (n + (c % 128) * 2 ^ d) (d + 7) ∧ fin s c (n + (c % 128) * 2 ^ d) (d + 7) < 2 ^ (bits - 1)) := by
  have hx : c % 128 < 128 := Nat.mod_lt _ (by omega)
  constructor
  · rintro rfl
    have h1 := step_lt hn hx
    have h2 := mul_lt_of hn (fitsU_lt hf)
    rw [← pow_split (Nat.le_of_lt hd)] at h2
    simp only [fin, Bool.false_eq_true, false_and, if_false]
    generalize n + c % 128 * 2 ^ d = y at h1 h2
    have h1' : ((y : Nat) : Int) < 2 ^ (d + 7) := by rw [← two_pow_cast]; exact_mod_cast h1
    have h2' : ((y : Nat) : Int) < 2 ^ bits := by rw [← two_pow_cast]; exact_mod_cast h2
    exact ⟨by omega, h1', h2'⟩
  · rintro rfl
    have hnI : (n : Int) < 2 ^ d := by rw [← two_pow_cast]; exact_mod_cast hn
    have hP := pow_posI d
    have e6 : (2 : Int) ^ (d + 6) = 64 * 2 ^ d := by rw [Int.pow_add, Int.mul_comm]; rfl
    have e7 : (2 : Int) ^ (d + 7) = 128 * 2 ^ d := by rw [Int.pow_add, Int.mul_comm]; rfl
    -- the value as y * 2^d + n with y between -64 and 63
    have key : ∀ y : Int, ∀ q : Int, -q ≤ y → y < q → -(q * 2 ^ d) ≤ n + y * 2 ^ d ∧ n + y * 2 ^ d < q * 2 ^ d := by
      intro y q h1 h2
      generalize (2 : Int) ^ d = p at *
      have a : (-q) * p ≤ y * p := Int.mul_le_mul_of_nonneg_right h1 (by omega)
      have b : (y + 1) * p ≤ q * p := Int.mul_le_mul_of_nonneg_right (by omega) (by omega)
      rw [Int.neg_mul] at a
      rw [Int.add_mul] at b
      constructor <;> omega
    have hy : ∃ y : Int, fin true c (n + (c % 128) * 2 ^ d) (d + 7) = n + y * 2 ^ d ∧ y = (if 64 ≤ c % 128 then ((c % 128 : Nat) : Int) - 128 else ((c % 128 : Nat) : Int)) := by
      refine ⟨_, ?_, rfl⟩
      simp only [fin, true_and]
      split
      · simp only [Int.natCast_add, Int.natCast_mul, two_pow_cast, e7, Int.sub_mul]; omega
      · simp only [Int.natCast_add, Int.natCast_mul, two_pow_cast]
    obtain ⟨y, hfin, hyv⟩ := hy
    rw [hfin]
    unfold fits at hf
    generalize c % 128 = x at *
    have hb64 := key y 64 (by split at hyv <;> omega) (by split at hyv <;> omega)
    have eq : (2 : Int) ^ (bits - 1) = 2 ^ (bits - 1 - d) * 2 ^ d := by rw [Int.mul_comm]; exact pow_splitI (by omega)
    have hq : -(2 : Int) ^ (bits - 1 - d) ≤ y ∧ y < 2 ^ (bits - 1 - d) := by
      by_cases h7 : 7 ≤ bits - d
      · have : (2 : Nat) ^ 6 ≤ 2 ^ (bits - 1 - d) := Nat.pow_le_pow_right (by omega) (by omega)
        have : (64 : Int) ≤ 2 ^ (bits - 1 - d) := by rw [← two_pow_cast]; exact_mod_cast this
        split at hyv <;> omega
      · have h6 : bits - d = 1 ∨ bits - d = 2 ∨ bits - d = 3 ∨ bits - d = 4 ∨ bits - d = 5 ∨ bits - d = 6 := by omega
        have hx : bits - 1 - d = bits - d - 1 := by omega
        rw [hx]
        rcases h6 with h6 | h6 | h6 | h6 | h6 | h6 <;> rw [h6] at hf ⊢ <;> simp at hf ⊢ <;> split at hyv <;> omega
    have hbq := key y _ hq.1 hq.2
    rw [eq, e6]
    exact ⟨by omega, by omega, by omega, by omega⟩

/-- what is read, within its bounds -/
theorem rd_bounds (bits : Nat) (s : Bool) : ∀ (l : List Nat) (n k : Nat) (v : Int) (j : Nat), 7 * k < bits → n < 2 ^ (7 * k) →
    rd bits s l (7 * k) n k = (v, j, 0) →
    k < j ∧ j ≤ k + l.length ∧ (s = false → 0 ≤ v ∧ v < 2 ^ (7 * j) ∧ v < 2 ^ bits) ∧ (s = true → -(2 : Int) ^ (7 * j - 1) ≤ v ∧ v < 2 ^ (7 * j - 1) ∧ -(2 : Int) ^ (bits - 1) ≤ v ∧ v < 2 ^ (bits - 1)) := by
  intro l
  induction l with
  | nil => intro n k v j _ _ h; simp [rd] at h
  | cons c cs ih =>
    intro n k v j hd hn h
    simp only [rd] at h
    by_cases hf : fits c (bits - 7 * k) s = false
    · rw [if_pos hf] at h; simp at h
    · rw [if_neg hf] at h
      have hf' : fits c (bits - 7 * k) s = true := by simpa using hf
      by_cases hc : c < 128
      · rw [if_pos hc] at h
        simp only [Prod.mk.injEq] at h
        obtain ⟨rfl, rfl, _⟩ := h
        have hb := fin_bounds hd hn hf'
        refine ⟨by omega, by simp, ?_, ?_⟩
        · intro hs
          have := hb.1 hs
          rw [show 7 * (k + 1) = 7 * k + 7 by omega]
          exact this
        · intro hs
          have := hb.2 hs
          rw [show 7 * (k + 1) - 1 = 7 * k + 6 by omega]
          exact this
      · rw [if_neg hc] at h
        by_cases hb : bits ≤ 7 * k + 7
        · rw [if_pos hb] at h; simp at h
        · rw [if_neg hb] at h
          rw [show 7 * k + 7 = 7 * (k + 1) by omega] at h
          obtain ⟨a, b, r⟩ := ih _ _ _ _ (by omega) (by have := step_lt (x := c % 128) hn (by omega); rw [show 7 * (k + 1) = 7 * k + 7 by omega]; exact this) h
          exact ⟨by omega, by simp; omega, r⟩

theorem putS_len_le : ∀ (k : Nat) (m : Int), 1 ≤ k → -(2 : Int) ^ (7 * k - 1) ≤ m → m < 2 ^ (7 * k - 1) → (putS m).length ≤ k := by
  intro k
  induction k with
  | zero => intro m h; omega
  | succ k ih =>
    intro m _ h1 h2
    rw [putS]
    by_cases hs : -64 ≤ m ∧ m < 64
    · rw [if_pos hs]; simp
    · rw [if_neg hs]
      cases k with
      | zero => simp at h1 h2; omega
      | succ k =>
        have e : (2 : Int) ^ (7 * (k + 1 + 1) - 1) = 2 ^ (7 * (k + 1) - 1) * 128 := by
          rw [show 7 * (k + 1 + 1) - 1 = (7 * (k + 1) - 1) + 7 by omega, Int.pow_add]; rfl
        rw [e] at h1 h2
        have := ih (m / 128) (by omega) (by omega) (by omega)
        simp; omega

theorem putS_pos (m : Int) : 1 ≤ (putS m).length := by
  have := putS_ne m
  cases h : putS m with
  | nil => exact absurd h this
  | cons => simp

/-! ### the reference's lists of bits -/
def bitsOf (c : Nat) : List Nat := (List.range 7).map fun j => c / 2 ^ j % 2
def valOf : List Nat → Nat
  | [] => 0
  | b :: l => valOf l * 2 + b

theorem getD_right (l l' : List Nat) (k : Nat) (h : l.length ≤ k) : (l ++ l').getD k 0 = l'.getD (k - l.length) 0 := by
  simp [List.getD_eq_getElem?_getD, List.getElem?_append_right h]

theorem len_bitsOf (c : Nat) : (bitsOf c).length = 7 := by simp [bitsOf]

theorem valOf_append (l l' : List Nat) : valOf (l ++ l') = valOf l + valOf l' * 2 ^ l.length := by
  induction l with
  | nil => simp [valOf]
  | cons b l ih => simp only [List.cons_append, valOf, ih, List.length_cons, Nat.pow_succ]; rw [Nat.add_mul, Nat.mul_assoc]; omega

theorem valOf_bitsOf (c : Nat) : valOf (bitsOf c) = c % 128 := by
  have : bitsOf c = [c % 2, c / 2 % 2, c / 4 % 2, c / 8 % 2, c / 16 % 2, c / 32 % 2, c / 64 % 2] := by
    simp [bitsOf, List.range_succ]
  rw [this]
  simp only [valOf]
  omega

/-- what must stand in the places beyond -/
def must (bits : Nat) (s : Bool) (all : List Nat) : Nat := if s = true ∧ bits ≤ all.length then all.getD (bits - 1) 0 else 0
/-- is there a place beyond that is not as it must be? -/
def bad (bits : Nat) (s : Bool) (all : List Nat) : Bool := (List.range all.length).any fun k => decide (bits ≤ k) && (all.getD k 0 != must bits s all)

/-- the reference's list, count and error -/
def bt (bits : Nat) (s : Bool) : List Nat → List Nat → Nat → List Nat × Nat × Nat
  | [], _, _ => ([], 0, 10)
  | c :: cs, all, k =>
    if bad bits s (all ++ bitsOf c) = true then ([], 0, 11)
    else if c < 128 then (all ++ bitsOf c, k + 1, 0)
    else if bits ≤ 7 * (k + 1) then ([], 0, 11)
    else bt bits s cs (all ++ bitsOf c) (k + 1)

theorem getD_bitsOf (c j : Nat) (h : j < 7) : (bitsOf c).getD j 0 = c / 2 ^ j % 2 := by
  simp [bitsOf, h]

theorem bad_eq {bits d c : Nat} {s : Bool} {all : List Nat} (hc : c < 256) (hl : all.length = d) (hd : d < bits) : bad bits s (all ++ bitsOf c) = !fits c (bits - d) s := by
  have hlen : (all ++ bitsOf c).length = d + 7 := by simp [len_bitsOf, hl]
  have hget : ∀ k, d ≤ k → k < d + 7 → (all ++ bitsOf c).getD k 0 = c / 2 ^ (k - d) % 2 := by
    intro k h1 h2
    rw [getD_right _ _ _ (by omega), hl, getD_bitsOf _ _ (by omega)]
  by_cases h7 : 7 ≤ bits - d
  · have : fits c (bits - d) s = true := by simp [fits, h7]
    rw [this]
    simp only [bad, hlen, Bool.not_true, List.any_eq_false, List.mem_range, Bool.and_eq_true, decide_eq_true_eq, bne_iff_ne, ne_eq, not_and, Decidable.not_not]
    intro k hk hb; omega
  · have hmust : must bits s (all ++ bitsOf c) = if s then c / 2 ^ (bits - d - 1) % 2 else 0 := by
      unfold must
      cases s
      · simp
      · rw [if_pos ⟨rfl, by omega⟩, hget _ (by omega) (by omega)]; simp; congr 3; omega
    have hb : bad bits s (all ++ bitsOf c) = (List.range 7).any fun j => decide (bits - d ≤ j) && (c / 2 ^ j % 2 != if s then c / 2 ^ (bits - d - 1) % 2 else 0) := by
      rw [Bool.eq_iff_iff]
      simp only [bad, hlen, hmust, List.any_eq_true, List.mem_range, Bool.and_eq_true, decide_eq_true_eq]
      constructor
      · rintro ⟨k, hk, hbk, hne⟩
        rw [hget k (by omega) hk] at hne
        exact ⟨k - d, by omega, by omega, hne⟩
      · rintro ⟨j, hj, hbj, hne⟩
        refine ⟨d + j, by omega, by omega, ?_⟩
        rw [hget _ (by omega) (by omega), show d + j - d = j by omega]; exact hne
    rw [hb]
    have key1 : ((List.range 256).all fun c => (List.range 7).all fun l => l == 0 || (((List.range 7).any fun j => decide (l ≤ j) && (c / 2 ^ j % 2 != c / 2 ^ (l - 1) % 2)) == !fits c l true)) = true := by
      decide +kernel
    have key2 : ((List.range 256).all fun c => (List.range 7).all fun l => l == 0 || (((List.range 7).any fun j => decide (l ≤ j) && (c / 2 ^ j % 2 != 0)) == !fits c l false)) = true := by
      decide +kernel
    generalize hl' : bits - d = l
    have hl1 : 1 ≤ l := by omega
    have hl2 : l < 7 := by omega
    rw [List.all_eq_true] at key1 key2
    have k1 := key1 c (List.mem_range.2 hc)
    have k2 := key2 c (List.mem_range.2 hc)
    rw [List.all_eq_true] at k1 k2
    have k1 := k1 l (List.mem_range.2 hl2)
    have k2 := k2 l (List.mem_range.2 hl2)
    rw [Bool.or_eq_true, beq_iff_eq, beq_iff_eq] at k1 k2
    cases s
    · rcases k2 with h | h
      · omega
      · exact h
    · rcases k1 with h | h
      · omega
      · exact h

/-- the sign's place of a list of bits -/
def top (l : List Nat) : Nat := l.getD (l.length - 1) 0

/-- the reference's lists are the numbers -/
theorem bt_rd (bits : Nat) (s : Bool) : ∀ (l all : List Nat) (k : Nat), (∀ c ∈ l, c < 256) → all.length = 7 * k → 7 * k < bits →
    (bt bits s l all k).2 = (rd bits s l (7 * k) (valOf all) k).2 ∧
    ((bt bits s l all k).2.2 = 0 → (bt bits s l all k).1.length = 7 * (bt bits s l all k).2.1 ∧ 1 ≤ (bt bits s l all k).2.1 ∧
      (rd bits s l (7 * k) (valOf all) k).1 = (if s = true ∧ top (bt bits s l all k).1 = 1 then -(2 : Int) ^ (bt bits s l all k).1.length else 0) + valOf (bt bits s l all k).1) := by
  intro l
  induction l with
  | nil => intro all k _ _ _; simp [bt, rd]
  | cons c cs ih =>
    intro all k hb hl hk
    have hc : c < 256 := hb c (by simp)
    have e := bad_eq (s := s) hc hl hk
    have hv : valOf (all ++ bitsOf c) = valOf all + (c % 128) * 2 ^ (7 * k) := by rw [valOf_append, valOf_bitsOf, hl]
    simp only [bt, rd, e]
    by_cases hf : fits c (bits - 7 * k) s = false
    · rw [if_pos (by simp [hf]), if_pos hf]; simp
    · rw [if_neg (by simpa using hf), if_neg hf]
      by_cases h128 : c < 128
      · rw [if_pos h128, if_pos h128]
        refine ⟨rfl, fun _ => ?_⟩
        have hlen : (all ++ bitsOf c).length = 7 * (k + 1) := by simp [len_bitsOf, hl]; omega
        have htop : top (all ++ bitsOf c) = c / 64 % 2 := by
          unfold top
          rw [hlen, getD_right _ _ _ (by omega), getD_bitsOf _ _ (by omega), show 7 * (k + 1) - 1 - all.length = 6 by omega]
        refine ⟨hlen, by simp, ?_⟩
        simp only [htop, hlen, hv, fin]
        have h64 : (c / 64 % 2 = 1) ↔ 64 ≤ c % 128 := by omega
        by_cases hcond : s = true ∧ 64 ≤ c % 128
        · rw [if_pos hcond, if_pos ⟨hcond.1, h64.2 hcond.2⟩, show 7 * (k + 1) = 7 * k + 7 by omega]; omega
        · rw [if_neg hcond, if_neg (by rw [h64]; exact hcond)]; omega
      · rw [if_neg h128, if_neg h128]
        by_cases hbk : bits ≤ 7 * k + 7
        · rw [if_pos (by omega), if_pos hbk]; simp
        · rw [if_neg (by omega), if_neg hbk]
          have := ih (all ++ bitsOf c) (k + 1) (fun x hx => hb x (by simp [hx])) (by simp [len_bitsOf, hl]; omega) (by omega)
          rw [hv, show 7 * (k + 1) = 7 * k + 7 by omega] at this
          exact this

#print axioms bt_rd
#print axioms rd_bounds
end Go.Proofs.Ytbaihhkcnlhdmaa.LebM
