/- The numbers of layer 1 as plain functions on lists of bytes (natural numbers), and what follows of them. No program in sight. -/
namespace Go.Proofs.Ytbaihhkcnlhdmaa.LebM

/-- are the places of a byte beyond the bits that are left as they must be? -/
def fits (c left : Nat) (s : Bool) : Bool :=
  if 7 ≤ left then true
  else if s then (c % 128) / 2 ^ (left - 1) == 0 || (c % 128) / 2 ^ (left - 1) == 127 / 2 ^ (left - 1)
  else (c % 128) / 2 ^ left == 0

/-- the value that is told of the places that were read: n of them below 2 ^ d, c the last byte -/
def fin (s : Bool) (c n d : Nat) : Int := if s = true ∧ 64 ≤ c % 128 then (n : Int) - 2 ^ d else n

/-- reading: the value, how many bytes, the error -/
def rd (bits : Nat) (s : Bool) : List Nat → Nat → Nat → Nat → Int × Nat × Nat
  | [], _, _, _ => (0, 0, 10)
  | c :: cs, d, n, k =>
    if fits c (bits - d) s = false then (0, 0, 11)
    else if c < 128 then (fin s c (n + (c % 128) * 2 ^ d) (d + 7), k + 1, 0)
    else if bits ≤ d + 7 then (0, 0, 11)
    else rd bits s cs (d + 7) (n + (c % 128) * 2 ^ d) (k + 1)

/-- a reading from a place on, of any numbers -/
def read (b : List Nat) (at' bits : Int) (s : Bool) : Int × Int × Nat :=
  if 1 ≤ bits ∧ bits ≤ 64 ∧ 0 ≤ at' ∧ at' ≤ b.length then
    (if (rd bits.toNat s (b.drop at'.toNat) 0 0 0).2.2 = 0 then
      ((rd bits.toNat s (b.drop at'.toNat) 0 0 0).1, at' + (rd bits.toNat s (b.drop at'.toNat) 0 0 0).2.1, 0)
    else (0, 0, (rd bits.toNat s (b.drop at'.toNat) 0 0 0).2.2))
  else (0, 0, 2)

/-- an unsigned number's bytes -/
def putU (n : Nat) : List Nat := if n < 128 then [n] else (n % 128 + 128) :: putU (n / 128)
termination_by n
decreasing_by omega

/-- a signed number's bytes -/
def putS (m : Int) : List Nat := if -64 ≤ m ∧ m < 64 then [(m % 128).toNat] else ((m % 128).toNat + 128) :: putS (m / 128)
termination_by m.natAbs
decreasing_by omega

/-- a number's lowest 7 L bits as L bytes -/
def padU : Nat → Nat → List Nat
  | _, 0 => []
  | n, 1 => [n % 128]
  | n, L + 2 => (n % 128 + 128) :: padU (n / 128) (L + 1)

/-! ### a byte that fits -/
theorem pow_split {d bits : Nat} (h : d ≤ bits) : 2 ^ bits = 2 ^ d * 2 ^ (bits - d) := by
  rw [← Nat.pow_add]; congr 1; omega

theorem fitsU_iff {c left : Nat} : fits c left false = true ↔ c % 128 < 2 ^ left ∨ 7 ≤ left := by
  unfold fits
  by_cases h : 7 ≤ left
  · simp [h]
  · have hp : 0 < 2 ^ left := Nat.two_pow_pos left
    simp [h, Nat.div_eq_zero_iff_lt hp]

theorem fitsU_lt {c left : Nat} (h : fits c left false = true) : c % 128 < 2 ^ left := by
  rcases fitsU_iff.1 h with h | h
  · exact h
  · have : (2 : Nat) ^ 7 ≤ 2 ^ left := Nat.pow_le_pow_right (by omega) h
    omega

theorem fits_mono {c l l' : Nat} {s : Bool} (hl : 1 ≤ l) (h : l ≤ l') (hf : fits c l s = true) : fits c l' s = true := by
  by_cases h7 : 7 ≤ l'
  · simp [fits, h7]
  · have hc : c % 128 < 128 := Nat.mod_lt _ (by omega)
    revert hf
    unfold fits
    generalize c % 128 = x at hc
    have key1 : ((List.range 128).all fun x => (List.range 7).all fun l => (List.range 7).all fun l' => l == 0 || decide (l' < l) ||
        !(x / 2 ^ (l - 1) == 0 || x / 2 ^ (l - 1) == 127 / 2 ^ (l - 1)) || (x / 2 ^ (l' - 1) == 0 || x / 2 ^ (l' - 1) == 127 / 2 ^ (l' - 1))) = true := by
      decide +kernel
    have key2 : ((List.range 128).all fun x => (List.range 7).all fun l => (List.range 7).all fun l' => l == 0 || decide (l' < l) ||
        !(x / 2 ^ l == 0) || (x / 2 ^ l' == 0)) = true := by
      decide +kernel
    simp only [List.all_eq_true, List.mem_range, Bool.or_eq_true, Bool.not_eq_true', beq_iff_eq, decide_eq_true_eq] at key1 key2
    rw [if_neg h7, if_neg (by omega)]
    cases s
    · intro hf
      have := key2 x hc l (by omega) l' (by omega)
      simp at hf this ⊢
      rcases this with ((h0 | h0) | h0) | h0
      · omega
      · omega
      · omega
      · exact h0
    · intro hf
      have := key1 x hc l (by omega) l' (by omega)
      simp at hf this ⊢
      rcases this with ((h0 | h0) | h0) | h0
      · omega
      · omega
      · rcases hf with hf | hf
        · omega
        · exact absurd hf h0.2
      · exact h0

/-! ### powers -/
theorem mul_lt_of {a x p q : Nat} (ha : a < p) (hx : x < q) : a + x * p < p * q := by
  have : x + 1 ≤ q := hx
  have := Nat.mul_le_mul_right p this
  rw [Nat.mul_comm p q]
  rw [Nat.add_mul] at this
  omega

theorem step_lt {n d x : Nat} (hn : n < 2 ^ d) (hx : x < 128) : n + x * 2 ^ d < 2 ^ (d + 7) := by
  rw [Nat.pow_add]; exact mul_lt_of hn hx

theorem lt_of_pow_lt {a b : Nat} (h : 2 ^ a < 2 ^ b) : a < b := by
  by_cases hc : a < b
  · exact hc
  · have := Nat.pow_le_pow_right (n := 2) (by omega) (Nat.le_of_not_lt hc); omega

/-- what is read of one byte and more: the number's parts -/
theorem parts (n m d : Nat) : n + (m % 128) * 2 ^ d + (m / 128) * 2 ^ (d + 7) = n + m * 2 ^ d := by
  have h : m = m % 128 + 128 * (m / 128) := by omega
  have e : (m / 128) * 2 ^ (d + 7) = (128 * (m / 128)) * 2 ^ d := by
    rw [Nat.pow_add, Nat.mul_comm (2 ^ d), ← Nat.mul_assoc]; congr 1; omega
  rw [e, Nat.add_assoc, ← Nat.add_mul, ← h]

/-! ### padded numbers are read -/
theorem rd_pad (bits : Nat) (rest : List Nat) : ∀ (L m d n k : Nat), 1 ≤ L → m < 2 ^ (7 * L) → n < 2 ^ d → n + m * 2 ^ d < 2 ^ bits → d < bits →
    rd bits false (padU m L ++ rest) d n k = if d + 7 * (L - 1) < bits then (((n + m * 2 ^ d : Nat) : Int), k + L, 0) else (0, 0, 11) := by
  intro L
  induction L with
  | zero => intro m d n k h; omega
  | succ L ih =>
    intro m d n k _ hm hn hlt hd
    have hfit : ∀ c, c % 128 = m % 128 → fits c (bits - d) false = true := by
      intro c hc
      rw [fitsU_iff, hc]
      by_cases h7 : 7 ≤ bits - d
      · exact .inr h7
      · left
        rw [pow_split (Nat.le_of_lt hd)] at hlt
        have : m < 2 ^ (bits - d) := by
          refine Nat.lt_of_mul_lt_mul_left (a := 2 ^ d) ?_
          rw [Nat.mul_comm]; omega
        exact Nat.lt_of_le_of_lt (Nat.mod_le _ _) this
    cases L with
    | zero =>
      have hm' : m % 128 = m := Nat.mod_eq_of_lt (by simpa using hm)
      have hf := hfit (m % 128) (by omega)
      simp only [padU, List.cons_append, List.nil_append, rd]
      rw [if_neg (by simp [hf]), if_pos (by omega), if_pos (by omega)]
      simp [fin, hm']
    | succ L =>
      have hf := hfit (m % 128 + 128) (by omega)
      have e1 : (m % 128 + 128) % 128 = m % 128 := by omega
      simp only [padU, List.cons_append, rd]
      rw [if_neg (by simp [hf]), if_neg (by omega), e1]
      by_cases hb : bits ≤ d + 7
      · rw [if_pos hb, if_neg (by omega)]
      · rw [if_neg hb]
        have hp := parts n m d
        have hs := step_lt (x := m % 128) hn (by omega)
        rw [ih (m / 128) (d + 7) _ (k + 1) (by omega) ?_ hs (by rw [hp]; exact hlt) (by omega), hp]
        · by_cases hc : d + 7 * (L + 1) < bits
          · rw [if_pos (by omega), if_pos (by omega)]; simp; omega
          · rw [if_neg (by omega), if_neg (by omega)]
        · rw [Nat.div_lt_iff_lt_mul (by omega)]
          have : 2 ^ (7 * (L + 1)) * 128 = 2 ^ (7 * (L + 1 + 1)) := by rw [show 7 * (L + 1 + 1) = 7 * (L + 1) + 7 by omega, Nat.pow_add _ _ 7]
          omega

/-- without its last byte the bytes end -/
theorem rd_padCut (bits : Nat) : ∀ (L m d n k : Nat), 1 ≤ L → d + 7 * (L - 1) < bits →
    rd bits false ((padU m L).dropLast) d n k = (0, 0, 10) := by
  intro L
  induction L with
  | zero => intro m d n k h; omega
  | succ L ih =>
    intro m d n k _ hd
    cases L with
    | zero => simp [padU, rd]
    | succ L =>
      have hne : padU (m / 128) (L + 1) ≠ [] := by cases L <;> simp [padU]
      simp only [padU, List.dropLast_cons_of_ne_nil hne, rd]
      have hf : fits (m % 128 + 128) (bits - d) false = true := by rw [fitsU_iff]; right; omega
      rw [if_neg (by simp [hf]), if_neg (by omega), if_neg (by omega)]
      exact ih _ _ _ _ (by omega) (by omega)

theorem len_padU : ∀ (L m : Nat), (padU m L).length = L
  | 0, _ => rfl
  | 1, _ => rfl
  | L + 2, m => by simp [padU, len_padU (L + 1)]

/-! ### the shortest bytes -/
theorem putU_ne (n : Nat) : putU n ≠ [] := by rw [putU]; split <;> simp
theorem putU_pos (n : Nat) : 1 ≤ (putU n).length := by
  have := putU_ne n
  cases h : putU n with
  | nil => exact absurd h this
  | cons => simp

theorem putU_pad (n : Nat) : putU n = padU n (putU n).length ∧ n < 2 ^ (7 * (putU n).length) ∧ ((putU n).length = 1 ∨ 2 ^ (7 * ((putU n).length - 1)) ≤ n) := by
  induction n using Nat.strongRecOn with
  | ind n ih =>
    rw [putU]
    by_cases h : n < 128
    · rw [if_pos h]; refine ⟨?_, by simpa using h, .inl rfl⟩
      simp [padU, Nat.mod_eq_of_lt h]
    · rw [if_neg h]
      obtain ⟨h1, h2, h3⟩ := ih (n / 128) (by omega)
      have hp := putU_pos (n / 128)
      generalize hL : (putU (n / 128)).length = L at h1 h2 h3 hp ⊢
      obtain ⟨M, rfl⟩ : ∃ M, L = M + 1 := ⟨L - 1, by omega⟩
      refine ⟨?_, ?_, .inr ?_⟩
      · simp only [List.length_cons, hL, padU]; rw [← h1]
      · simp only [List.length_cons, hL]
        rw [show 7 * (M + 1 + 1) = 7 * (M + 1) + 7 by omega, Nat.pow_add _ _ 7]
        omega
      · simp only [List.length_cons, hL, Nat.add_sub_cancel]
        rcases h3 with h3 | h3
        · have : M = 0 := by omega
          subst this; simp; omega
        · rw [Nat.add_sub_cancel] at h3
          rw [show 7 * (M + 1) = 7 * M + 7 by omega, Nat.pow_add _ _ 7]
          omega

theorem putU_len_le {n k : Nat} (hk : 1 ≤ k) (h : n < 2 ^ (7 * k)) : (putU n).length ≤ k := by
  obtain ⟨_, _, h3⟩ := putU_pad n
  rcases h3 with h3 | h3
  · omega
  · have := lt_of_pow_lt (Nat.lt_of_le_of_lt h3 h); omega

theorem rd_putU (bits : Nat) (rest : List Nat) (n : Nat) (hb : 1 ≤ bits) (h : n < 2 ^ bits) :
    rd bits false (putU n ++ rest) 0 0 0 = ((n : Int), (putU n).length, 0) := by
  obtain ⟨h1, h2, h3⟩ := putU_pad n
  have hp := putU_pos n
  have hlt : 7 * ((putU n).length - 1) < bits := by
    rcases h3 with h3 | h3
    · omega
    · exact lt_of_pow_lt (Nat.lt_of_le_of_lt h3 h)
  have := rd_pad bits rest (putU n).length n 0 0 0 hp h2 (by simp) (by simpa using h) (by omega)
  rw [← h1, if_pos (by omega)] at this
  simpa using this

/-! ### signed numbers -/
theorem putS_ne (m : Int) : putS m ≠ [] := by rw [putS]; split <;> simp

theorem fitsS_small {c left : Nat} {m : Int} (hl : 1 ≤ left) (hc : (c % 128 : Nat) = (m % 128).toNat)
    (h1 : -(2 : Int) ^ (left - 1) ≤ m) (h2 : m < 2 ^ (left - 1)) : fits c left true = true := by
  unfold fits
  by_cases h7 : 7 ≤ left
  · simp [h7]
  · rw [if_neg h7, hc]
    have : left = 1 ∨ left = 2 ∨ left = 3 ∨ left = 4 ∨ left = 5 ∨ left = 6 := by omega
    simp only [if_true, Bool.or_eq_true, beq_iff_eq]
    rcases this with rfl | rfl | rfl | rfl | rfl | rfl <;> simp at h1 h2 ⊢ <;> omega

theorem two_pow_cast (d : Nat) : ((2 ^ d : Nat) : Int) = (2 : Int) ^ d := by simp

theorem pow_splitI {d e : Nat} (h : d ≤ e) : (2 : Int) ^ e = 2 ^ d * 2 ^ (e - d) := by
  rw [← two_pow_cast, ← two_pow_cast, ← two_pow_cast, pow_split h]; simp

theorem pow_posI (d : Nat) : (0 : Int) < 2 ^ d := by rw [← two_pow_cast]; exact_mod_cast Nat.two_pow_pos d

theorem rd_putS (bits : Nat) (rest : List Nat) : ∀ (f : Nat) (m : Int) (d n k : Nat), m.natAbs ≤ f → n < 2 ^ d → d < bits →
    -(2 : Int) ^ (bits - 1) ≤ n + m * 2 ^ d → n + m * 2 ^ d < 2 ^ (bits - 1) →
    rd bits true (putS m ++ rest) d n k = (n + m * 2 ^ d, k + (putS m).length, 0) := by
  intro f
  induction f with
  | zero =>
    intro m d n k hf hn hd h1 h2
    obtain rfl : m = 0 := by omega
    have hf : fits 0 (bits - d) true = true := by unfold fits; split <;> simp
    rw [putS]; simp [rd, hf, fin]
  | succ f ih =>
    intro m d n k hf hn hd h1 h2
    have hnI : (n : Int) < 2 ^ d := by rw [← two_pow_cast]; exact_mod_cast hn
    have hP := pow_posI d
    have hQ := pow_posI (bits - 1 - d)
    rw [pow_splitI (d := d) (e := bits - 1) (by omega)] at h1 h2
    have hm1 : -(2 : Int) ^ (bits - 1 - d) ≤ m := by
      generalize (2 : Int) ^ (bits - 1 - d) = q at *
      generalize (2 : Int) ^ d = p at *
      by_cases hc : -q ≤ m
      · exact hc
      · exfalso
        have : (m + 1) * p ≤ (-q) * p := Int.mul_le_mul_of_nonneg_right (by omega) (by omega)
        rw [Int.add_mul, Int.neg_mul, Int.mul_comm q p] at this
        omega
    have hm2 : m < (2 : Int) ^ (bits - 1 - d) := by
      generalize (2 : Int) ^ (bits - 1 - d) = q at *
      generalize (2 : Int) ^ d = p at *
      by_cases hc : m < q
      · exact hc
      · exfalso
        have : q * p ≤ m * p := Int.mul_le_mul_of_nonneg_right (by omega) (by omega)
        rw [Int.mul_comm q p] at this
        omega
    have hl : bits - 1 - d = bits - d - 1 := by omega
    rw [hl] at hm1 hm2
    have e7 : (2 : Int) ^ (d + 7) = 128 * 2 ^ d := by rw [Int.pow_add, Int.mul_comm]; rfl
    rw [putS]
    by_cases hs : -64 ≤ m ∧ m < 64
    · rw [if_pos hs]
      have hc : ((m % 128).toNat % 128 : Nat) = (m % 128).toNat := by omega
      have hfit := fitsS_small (c := (m % 128).toNat) (left := bits - d) (by omega) hc hm1 hm2
      simp only [List.cons_append, List.nil_append, rd]
      rw [if_neg (by simp [hfit]), if_pos (by omega), hc]
      refine Prod.ext ?_ rfl
      simp only [fin, hc, true_and]
      by_cases hneg : m < 0
      · rw [if_pos (by omega), e7]
        have : (((m % 128).toNat : Nat) : Int) = m + 128 := by omega
        simp only [Int.natCast_add, Int.natCast_mul, two_pow_cast, this, Int.add_mul]
        omega
      · rw [if_neg (by omega)]
        have : (((m % 128).toNat : Nat) : Int) = m := by omega
        simp only [Int.natCast_add, Int.natCast_mul, two_pow_cast, this]
    · rw [if_neg hs]
      have hc : (((m % 128).toNat + 128) % 128 : Nat) = (m % 128).toNat := by omega
      have hfit := fitsS_small (c := (m % 128).toNat + 128) (left := bits - d) (by omega) hc hm1 hm2
      simp only [List.cons_append, rd]
      have hd7 : ¬ bits ≤ d + 7 := by
        intro hle
        have hx : (2 : Nat) ^ (bits - d - 1) ≤ 2 ^ 6 := Nat.pow_le_pow_right (by omega) (by omega)
        have hx' : (2 : Int) ^ (bits - d - 1) ≤ 64 := by rw [← two_pow_cast]; exact_mod_cast hx
        omega
      rw [if_neg (by simp [hfit]), if_neg (by omega), if_neg hd7, hc]
      have e : ((n + (m % 128).toNat * 2 ^ d : Nat) : Int) + (m / 128) * 2 ^ (d + 7) = n + m * 2 ^ d := by
        have h128 : (((m % 128).toNat : Nat) : Int) = m % 128 := by omega
        have hmm : m = m % 128 + m / 128 * 128 := by omega
        simp only [Int.natCast_add, Int.natCast_mul, two_pow_cast, h128, e7]
        rw [← Int.mul_assoc, Int.add_assoc, ← Int.add_mul, ← hmm]
      have hq : (2 : Int) ^ (bits - 1) = 2 ^ d * 2 ^ (bits - 1 - d) := pow_splitI (by omega)
      rw [ih (m / 128) (d + 7) _ (k + 1) (by omega) (step_lt hn (by omega)) (by omega) (by rw [e, hq]; exact h1) (by rw [e, hq]; exact h2), e]
      simp; omega

#print axioms rd_putS
#print axioms rd_putU
end Go.Proofs.Ytbaihhkcnlhdmaa.LebM
