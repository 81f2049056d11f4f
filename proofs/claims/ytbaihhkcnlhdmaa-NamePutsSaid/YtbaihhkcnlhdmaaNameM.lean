/- Code points as bytes (natural numbers): how many bytes the one ahead has, whether bytes are well-formed, how many code points they have; joining and cutting. No program in sight. -/
namespace Go.Proofs.Ytbaihhkcnlhdmaa.NameM

/-- a byte that goes on -/
def co (l : List Nat) (k : Nat) : Bool := decide (k < l.length) && decide (128 ≤ l.getD k 0) && decide (l.getD k 0 ≤ 191)
def c2 (l : List Nat) : Nat := (l.getD 0 0 - 192) * 64 + (l.getD 1 0 - 128)
def c3 (l : List Nat) : Nat := ((l.getD 0 0 - 224) * 64 + (l.getD 1 0 - 128)) * 64 + (l.getD 2 0 - 128)
def c4 (l : List Nat) : Nat := (((l.getD 0 0 - 240) * 64 + (l.getD 1 0 - 128)) * 64 + (l.getD 2 0 - 128)) * 64 + (l.getD 3 0 - 128)
def ok2 (l : List Nat) : Bool := co l 1 && decide (128 ≤ c2 l)
def ok3 (l : List Nat) : Bool := co l 1 && co l 2 && decide (2048 ≤ c3 l) && !(decide (55296 ≤ c3 l) && decide (c3 l ≤ 57343))
def ok4 (l : List Nat) : Bool := co l 1 && co l 2 && co l 3 && decide (65536 ≤ c4 l) && decide (c4 l ≤ 1114111)

/-- how many bytes the code point that stands ahead has; 0: none does -/
def one (l : List Nat) : Nat :=
  if l.length = 0 then 0
  else if l.getD 0 0 < 128 then 1
  else if 192 ≤ l.getD 0 0 ∧ l.getD 0 0 < 224 then (if ok2 l then 2 else 0)
  else if 224 ≤ l.getD 0 0 ∧ l.getD 0 0 < 240 then (if ok3 l then 3 else 0)
  else if 240 ≤ l.getD 0 0 ∧ l.getD 0 0 < 248 then (if ok4 l then 4 else 0)
  else 0

theorem co_lt {l : List Nat} {k : Nat} (h : co l k = true) : k < l.length ∧ 128 ≤ l.getD k 0 ∧ l.getD k 0 ≤ 191 := by
  simp [co] at h; simpa [and_assoc] using h

theorem one_le (l : List Nat) : one l ≤ l.length := by
  unfold one
  split
  · omega
  · split
    · omega
    · split
      · split
        · rename_i h; have := co_lt (l := l) (k := 1) (by simp [ok2] at h; exact h.1); omega
        · omega
      · split
        · split
          · rename_i h; have := co_lt (l := l) (k := 2) (by simp [ok3] at h; exact h.1.1.2); omega
          · omega
        · split
          · split
            · rename_i h; have := co_lt (l := l) (k := 3) (by simp [ok4] at h; exact h.1.1.2); omega
            · omega
          · omega

/-- the bytes behind the first one of a code point go on; the first one does not -/
theorem one_co {l : List Nat} {i : Nat} (h0 : 1 ≤ i) (h : i < one l) : co l i = true := by
  unfold one at h
  split at h
  · omega
  · split at h
    · omega
    · split at h
      · split at h
        · rename_i hk; simp [ok2] at hk; obtain rfl : i = 1 := by omega
          exact hk.1
        · omega
      · split at h
        · split at h
          · rename_i hk; simp [ok3] at hk
            rcases (show i = 1 ∨ i = 2 by omega) with rfl | rfl
            · exact hk.1.1.1
            · exact hk.1.1.2
          · omega
        · split at h
          · split at h
            · rename_i hk; simp [ok4] at hk
              rcases (show i = 1 ∨ i = 2 ∨ i = 3 by omega) with rfl | rfl | rfl
              · exact hk.1.1.1.1
              · exact hk.1.1.1.2
              · exact hk.1.1.2
            · omega
          · omega
theorem one_head {l : List Nat} (h : one l ≠ 0) : ¬ (128 ≤ l.getD 0 0 ∧ l.getD 0 0 ≤ 191) := by
  intro hc
  apply h
  unfold one
  rw [if_neg, if_neg (by omega), if_neg (by omega), if_neg (by omega), if_neg (by omega)]
  intro h0
  cases l with
  | nil => simp at hc
  | cons => simp at h0

theorem getD_app {l m : List Nat} {k : Nat} (h : k < l.length) : (l ++ m).getD k 0 = l.getD k 0 := by
  simp [List.getD_eq_getElem?_getD, List.getElem?_append_left h]

/-- what stands behind does not matter -/
theorem one_app {l : List Nat} (m : List Nat) (h : one l ≠ 0) : one (l ++ m) = one l := by
  have hle := one_le l
  have hlen : (l ++ m).length ≠ 0 := by simp; intro h0; subst h0; exact absurd rfl h
  have hl0 : l.length ≠ 0 := by intro h0; omega
  have g0 : (l ++ m).getD 0 0 = l.getD 0 0 := getD_app (by omega)
  have cok : ∀ k, co l k = true → co (l ++ m) k = true := by
    intro k hk
    obtain ⟨a, b, c⟩ := co_lt hk
    unfold co
    rw [getD_app a]
    rw [List.length_append]
    simp only [Bool.and_eq_true, decide_eq_true_eq]
    omega
  unfold one at h ⊢
  rw [if_neg hl0] at h ⊢
  rw [if_neg hlen, g0]
  by_cases h1 : l.getD 0 0 < 128
  · rw [if_pos h1, if_pos h1]
  rw [if_neg h1] at h
  rw [if_neg h1, if_neg h1]
  by_cases h2 : 192 ≤ l.getD 0 0 ∧ l.getD 0 0 < 224
  · rw [if_pos h2] at h
    rw [if_pos h2, if_pos h2]
    by_cases hk : ok2 l = true
    · have a := co_lt (l := l) (k := 1) (by simp [ok2] at hk; exact hk.1)
      have : ok2 (l ++ m) = true := by
        unfold ok2 c2 at hk ⊢
        rw [g0, getD_app (k := 1) (by omega)]
        simp only [Bool.and_eq_true] at hk ⊢
        exact ⟨cok 1 hk.1, hk.2⟩
      rw [if_pos this, if_pos hk]
    · rw [if_neg hk] at h; exact absurd rfl h
  rw [if_neg h2] at h
  rw [if_neg h2, if_neg h2]
  by_cases h3 : 224 ≤ l.getD 0 0 ∧ l.getD 0 0 < 240
  · rw [if_pos h3] at h
    rw [if_pos h3, if_pos h3]
    by_cases hk : ok3 l = true
    · have a := co_lt (l := l) (k := 2) (by simp [ok3] at hk; exact hk.1.1.2)
      have : ok3 (l ++ m) = true := by
        unfold ok3 c3 at hk ⊢
        rw [g0, getD_app (k := 1) (by omega), getD_app (k := 2) (by omega)]
        simp only [Bool.and_eq_true] at hk ⊢
        exact ⟨⟨⟨cok 1 hk.1.1.1, cok 2 hk.1.1.2⟩, hk.1.2⟩, hk.2⟩
      rw [if_pos this, if_pos hk]
    · rw [if_neg hk] at h; exact absurd rfl h
  rw [if_neg h3] at h
  rw [if_neg h3, if_neg h3]
  by_cases h4 : 240 ≤ l.getD 0 0 ∧ l.getD 0 0 < 248
  · rw [if_pos h4] at h
    rw [if_pos h4, if_pos h4]
    by_cases hk : ok4 l = true
    · have a := co_lt (l := l) (k := 3) (by simp [ok4] at hk; exact hk.1.1.2)
      have : ok4 (l ++ m) = true := by
        unfold ok4 c4 at hk ⊢
        rw [g0, getD_app (k := 1) (by omega), getD_app (k := 2) (by omega), getD_app (k := 3) (by omega)]
        simp only [Bool.and_eq_true] at hk ⊢
        exact ⟨⟨⟨⟨cok 1 hk.1.1.1.1, cok 2 hk.1.1.1.2⟩, cok 3 hk.1.1.2⟩, hk.1.2⟩, hk.2⟩
      rw [if_pos this, if_pos hk]
    · rw [if_neg hk] at h; exact absurd rfl h
  · rw [if_neg h4] at h; exact absurd rfl h

/-- the code point that stands ahead lies within the first n bytes: these alone tell it -/
theorem one_take {l m : List Nat} (h : one (l ++ m) ≠ 0) (hle : one (l ++ m) ≤ l.length) : one l = one (l ++ m) := by
  by_cases h0 : one l = 0
  · exfalso
    have hl0 : l.length ≠ 0 := by omega
    have hlen : (l ++ m).length ≠ 0 := by simp; intro he; subst he; simp at hl0
    have g0 : (l ++ m).getD 0 0 = l.getD 0 0 := getD_app (by omega)
    have cok : ∀ k, k < l.length → co (l ++ m) k = true → co l k = true := by
      intro k hkl hk
      obtain ⟨a, b, c⟩ := co_lt hk
      rw [getD_app hkl] at b c
      unfold co
      simp only [Bool.and_eq_true, decide_eq_true_eq]
      omega
    unfold one at h h0 hle
    rw [if_neg hl0] at h0
    rw [if_neg hlen, g0] at h hle
    by_cases h1 : l.getD 0 0 < 128
    · rw [if_pos h1] at h0; omega
    rw [if_neg h1] at h h0 hle
    by_cases h2 : 192 ≤ l.getD 0 0 ∧ l.getD 0 0 < 224
    · rw [if_pos h2] at h h0 hle
      by_cases hk : ok2 (l ++ m) = true
      · rw [if_pos hk] at hle
        have : ok2 l = true := by
          unfold ok2 c2 at hk ⊢
          rw [g0, getD_app (k := 1) (by omega)] at hk
          simp only [Bool.and_eq_true] at hk ⊢
          exact ⟨cok 1 (by omega) hk.1, hk.2⟩
        rw [if_pos this] at h0; omega
      · rw [if_neg hk] at h; omega
    rw [if_neg h2] at h h0 hle
    by_cases h3 : 224 ≤ l.getD 0 0 ∧ l.getD 0 0 < 240
    · rw [if_pos h3] at h h0 hle
      by_cases hk : ok3 (l ++ m) = true
      · rw [if_pos hk] at hle
        have : ok3 l = true := by
          unfold ok3 c3 at hk ⊢
          rw [g0, getD_app (k := 1) (by omega), getD_app (k := 2) (by omega)] at hk
          simp only [Bool.and_eq_true] at hk ⊢
          exact ⟨⟨⟨cok 1 (by omega) hk.1.1.1, cok 2 (by omega) hk.1.1.2⟩, hk.1.2⟩, hk.2⟩
        rw [if_pos this] at h0; omega
      · rw [if_neg hk] at h; omega
    rw [if_neg h3] at h h0 hle
    by_cases h4 : 240 ≤ l.getD 0 0 ∧ l.getD 0 0 < 248
    · rw [if_pos h4] at h h0 hle
      by_cases hk : ok4 (l ++ m) = true
      · rw [if_pos hk] at hle
        have : ok4 l = true := by
          unfold ok4 c4 at hk ⊢
          rw [g0, getD_app (k := 1) (by omega), getD_app (k := 2) (by omega), getD_app (k := 3) (by omega)] at hk
          simp only [Bool.and_eq_true] at hk ⊢
          exact ⟨⟨⟨⟨cok 1 (by omega) hk.1.1.1.1, cok 2 (by omega) hk.1.1.1.2⟩, cok 3 (by omega) hk.1.1.2⟩, hk.1.2⟩, hk.2⟩
        rw [if_pos this] at h0; omega
      · rw [if_neg hk] at h; omega
    · rw [if_neg h4] at h; omega
  · exact (one_app m h0).symm

/-- how many code points; -1: not well-formed -/
def cnt (l : List Nat) : Int :=
  if h0 : l = [] then 0
  else if one l = 0 then -1
  else if cnt (l.drop (one l)) < 0 then -1 else cnt (l.drop (one l)) + 1
termination_by l.length
decreasing_by
  all_goals
    have : l.length ≠ 0 := by intro h; exact h0 (List.eq_nil_of_length_eq_zero h)
    simp; omega

theorem cnt_nil : cnt [] = 0 := by rw [cnt]; simp
theorem cnt_zero {l : List Nat} (h0 : l ≠ []) (h : one l = 0) : cnt l = -1 := by rw [cnt, dif_neg h0, if_pos h]
theorem cnt_step {l : List Nat} (h : one l ≠ 0) : cnt l = if cnt (l.drop (one l)) < 0 then -1 else cnt (l.drop (one l)) + 1 := by
  have h0 : l ≠ [] := by intro he; subst he; exact h rfl
  rw [cnt, dif_neg h0, if_neg h]
theorem cnt_ge (l : List Nat) : -1 ≤ cnt l ∧ cnt l ≤ l.length := by
  induction hn : l.length using Nat.strongRecOn generalizing l with
  | ind n ih =>
    by_cases h0 : l = []
    · subst h0; rw [cnt_nil]; omega
    · by_cases h1 : one l = 0
      · rw [cnt_zero h0 h1]; omega
      · have hle := one_le l
        have := ih (l.drop (one l)).length (by simp; omega) _ rfl
        rw [cnt_step h1]
        simp only [List.length_drop] at this
        split <;> omega

/-- joined: behind a well-formed part -/
theorem cnt_app (l m : List Nat) (h : 0 ≤ cnt l) : cnt (l ++ m) = if cnt m < 0 then -1 else cnt l + cnt m := by
  induction hn : l.length using Nat.strongRecOn generalizing l with
  | ind n ih =>
    by_cases h0 : l = []
    · subst h0
      rw [List.nil_append, cnt_nil]
      have := cnt_ge m
      split <;> omega
    · by_cases h1 : one l = 0
      · rw [cnt_zero h0 h1] at h; omega
      · have hle := one_le l
        have hs := cnt_step h1
        have h2 : 0 ≤ cnt (l.drop (one l)) := by rw [hs] at h; split at h <;> omega
        rw [if_neg (by omega)] at hs
        have e : one (l ++ m) = one l := one_app m h1
        have hd : (l ++ m).drop (one l) = l.drop (one l) ++ m := List.drop_append_of_le_length hle
        have := ih (l.drop (one l)).length (by simp; omega) _ h2 rfl
        rw [cnt_step (by rw [e]; exact h1), e, hd, this, hs]
        have := cnt_ge m
        by_cases hm : cnt m < 0
        · simp [hm]
        · rw [if_neg hm, if_neg (by omega), if_neg hm]; omega

/-- cut where no character is cut: both parts are well-formed -/
theorem cnt_cut (l m : List Nat) (h : 0 ≤ cnt (l ++ m)) (hm : m = [] ∨ ¬ (128 ≤ m.getD 0 0 ∧ m.getD 0 0 ≤ 191)) : 0 ≤ cnt l ∧ 0 ≤ cnt m := by
  induction hn : l.length using Nat.strongRecOn generalizing l with
  | ind n ih =>
    by_cases h0 : l = []
    · subst h0; rw [cnt_nil]; exact ⟨by omega, by simpa using h⟩
    · have hlm : l ++ m ≠ [] := by simp [h0]
      have hl : l.length ≠ 0 := by intro he; exact h0 (List.eq_nil_of_length_eq_zero he)
      by_cases h1 : one (l ++ m) = 0
      · rw [cnt_zero hlm h1] at h; omega
      · by_cases hle : one (l ++ m) ≤ l.length
        · have e := one_take h1 hle
          have hs := cnt_step h1
          have h2 : 0 ≤ cnt ((l ++ m).drop (one (l ++ m))) := by rw [hs] at h; split at h <;> omega
          rw [List.drop_append_of_le_length hle] at h2
          obtain ⟨a, b⟩ := ih (l.drop (one (l ++ m))).length (by simp; omega) _ h2 rfl
          refine ⟨?_, b⟩
          rw [cnt_step (by omega), e, if_neg (by omega)]; omega
        · exfalso
          have hc := co_lt (one_co (l := l ++ m) (i := l.length) (by omega) (by omega))
          have e : (l ++ m).getD l.length 0 = m.getD 0 0 := by rw [List.getD_eq_getElem?_getD, List.getD_eq_getElem?_getD, List.getElem?_append_right (Nat.le_refl _), Nat.sub_self]
          rw [e] at hc
          rcases hm with rfl | hm
          · simp at hc
          · exact hm hc.2

theorem cnt_co {m : List Nat} (h0 : m ≠ []) (h : 128 ≤ m.getD 0 0 ∧ m.getD 0 0 ≤ 191) : cnt m < 0 := by
  have : one m = 0 := by
    by_cases h1 : one m = 0
    · exact h1
    · exact absurd h (one_head h1)
  rw [cnt_zero h0 this]; omega
theorem head_ok {m : List Nat} (h : 0 ≤ cnt m) : m = [] ∨ ¬ (128 ≤ m.getD 0 0 ∧ m.getD 0 0 ≤ 191) := by
  by_cases h0 : m = []
  · exact .inl h0
  · right; intro hc; have := cnt_co h0 hc; omega

#print axioms cnt_cut
end Go.Proofs.Ytbaihhkcnlhdmaa.NameM
