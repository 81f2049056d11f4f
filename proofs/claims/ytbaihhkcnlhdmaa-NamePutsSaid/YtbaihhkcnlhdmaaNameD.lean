/- A string's bytes as natural numbers, and how the model's decoder of code points goes with the plain words. -/
import Derived.Test.YtbaihhkcnlhdmaaLawBase
import Derived.Test.YtbaihhkcnlhdmaaNameM
namespace Go.Proofs.Ytbaihhkcnlhdmaa
open Go.RowKit NameM

/-- a string's bytes -/
def nb (s : ByteArray) : List Nat := s.data.toList.map UInt8.toNat
theorem len_nb (s : ByteArray) : (nb s).length = s.size := by unfold nb; rw [List.length_map]; rfl
theorem nb_lt (s : ByteArray) : ∀ c ∈ nb s, c < 256 := by
  intro c hc
  obtain ⟨x, _, rfl⟩ := List.mem_map.1 hc
  exact x.toNat_lt

theorem get_nb (s : ByteArray) (i : Nat) : (s.get! i).toNat = (nb s).getD i 0 := by
  by_cases h : i < s.size
  · have e : s.get! i = s[i]'h := get_at s i h
    rw [e]
    have h' : i < s.data.toList.length := by simpa using h
    simp only [nb, List.getD_eq_getElem?_getD, List.getElem?_map, List.getElem?_eq_getElem h', Option.map_some, Option.getD_some]
    simp
    rfl
  · have e : s.get! i = default := by
      show s.data[i]! = default
      rw [getElem!_neg]
      exact h
    rw [e, List.getD_eq_getElem?_getD, List.getElem?_eq_none (by rw [len_nb]; omega)]
    rfl

theorem getD_drop_nb (s : ByteArray) (i k : Nat) : ((nb s).drop i).getD k 0 = (nb s).getD (i + k) 0 := by
  simp [List.getD_eq_getElem?_getD]

/-- do the bytes EF BF BD stand ahead? -/
def pf (l : List Nat) : Bool := l.take 3 == [239, 191, 189]

theorem pf_iff (l : List Nat) : pf l = true ↔ 3 ≤ l.length ∧ l.getD 0 0 = 239 ∧ l.getD 1 0 = 191 ∧ l.getD 2 0 = 189 := by
  unfold pf
  rw [beq_iff_eq]
  match l with
  | [] => simp
  | [a] => simp
  | [a, b] => simp
  | a :: b :: c :: t => simp

theorem pf_one {l : List Nat} (h : pf l = true) : one l = 3 := by
  obtain ⟨h1, h2, h3, h4⟩ := (pf_iff l).1 h
  unfold one
  rw [if_neg (by omega), if_neg (by omega), if_neg (by omega), if_pos (by omega), if_pos]
  unfold ok3 co c3
  rw [h2, h3, h4]
  simp
  omega

theorem dec_one (s : ByteArray) (i : Nat) (hi : i < s.size) :
    (one ((nb s).drop i) = 0 → Utf8.decode s i = (65533, 1)) ∧
    (one ((nb s).drop i) ≠ 0 → (Utf8.decode s i).2 = one ((nb s).drop i) ∧ ((Utf8.decode s i).1 = 65533 → pf ((nb s).drop i) = true)) := by
  have hlen : ((nb s).drop i).length = s.size - i := by rw [List.length_drop, len_nb]
  have hb : ∀ k, ((nb s).drop i).getD k 0 < 256 := by
    intro k
    rw [getD_drop_nb, ← get_nb]
    exact (s.get! (i + k)).toNat_lt
  have hat : ∀ k, (s.get! (i + k)).toNat = ((nb s).drop i).getD k 0 := fun k => by rw [get_nb, getD_drop_nb]
  have hco : ∀ k, (decide (i + k < s.size) && ((nb s).drop i).getD k 0 / 64 == 2) = co ((nb s).drop i) k := by
    intro k
    rw [Bool.eq_iff_iff]
    unfold co
    simp only [Bool.and_eq_true, decide_eq_true_eq, beq_iff_eq, hlen]
    have := hb k
    omega
  unfold Utf8.decode
  simp only [hat, hco]
  have hpf := pf_iff ((nb s).drop i)
  have b0 := hb 0; have b1 := hb 1; have b2 := hb 2; have b3 := hb 3
  generalize (nb s).drop i = l at *
  have hl0 : ¬ l.length = 0 := by omega
  unfold one
  rw [if_neg hl0]
  by_cases h1 : l.getD 0 0 < 128
  · rw [if_pos h1, if_pos h1]
    exact ⟨fun h => by omega, fun _ => ⟨rfl, fun h => by simp only at h; omega⟩⟩
  rw [if_neg h1, if_neg h1]
  by_cases h2 : 192 ≤ l.getD 0 0 ∧ l.getD 0 0 < 224
  · rw [if_pos h2]
    have e2 : (l.getD 0 0 / 32 == 6) = true := by rw [beq_iff_eq]; omega
    have e3 : (l.getD 0 0 / 16 == 14) = false := by rw [beq_eq_false_iff_ne]; omega
    have e4 : (l.getD 0 0 / 8 == 30) = false := by rw [beq_eq_false_iff_ne]; omega
    rw [e2, e3, e4]
    simp only [Bool.true_and, Bool.false_and, Bool.false_eq_true, if_false]
    by_cases hc : co l 1 = true
    · obtain ⟨_, c1, c2'⟩ := co_lt hc
      rw [if_pos hc]
      have ec : l.getD 0 0 % 32 * 64 + l.getD 1 0 % 64 = c2 l := by unfold c2; omega
      rw [ec]
      by_cases hk : 128 ≤ c2 l
      · have : ok2 l = true := by unfold ok2; rw [hc]; simpa using hk
        rw [if_pos this, if_pos hk]
        refine ⟨fun h => by omega, fun _ => ⟨rfl, fun h => ?_⟩⟩
        simp only at h
        unfold c2 at h; omega
      · have : ok2 l = false := by unfold ok2; rw [hc]; simpa using hk
        rw [if_neg hk, this]
        exact ⟨fun _ => rfl, fun h => absurd rfl h⟩
    · have : ok2 l = false := by unfold ok2; simp [hc]
      rw [if_neg hc, this]
      exact ⟨fun _ => rfl, fun h => absurd rfl h⟩
  rw [if_neg h2]
  have e2 : (l.getD 0 0 / 32 == 6) = false := by rw [beq_eq_false_iff_ne]; omega
  rw [e2]
  simp only [Bool.false_and, Bool.false_eq_true, if_false]
  by_cases h3 : 224 ≤ l.getD 0 0 ∧ l.getD 0 0 < 240
  · rw [if_pos h3]
    have e3 : (l.getD 0 0 / 16 == 14) = true := by rw [beq_iff_eq]; omega
    have e4 : (l.getD 0 0 / 8 == 30) = false := by rw [beq_eq_false_iff_ne]; omega
    rw [e3, e4]
    simp only [Bool.true_and, Bool.false_and, Bool.false_eq_true, if_false]
    by_cases hc : (co l 1 && co l 2) = true
    · rw [if_pos hc]
      rw [Bool.and_eq_true] at hc
      obtain ⟨_, c1, c1'⟩ := co_lt hc.1
      obtain ⟨hl2, c2', c2''⟩ := co_lt hc.2
      have ec : l.getD 0 0 % 16 * 4096 + l.getD 1 0 % 64 * 64 + l.getD 2 0 % 64 = c3 l := by unfold c3; omega
      rw [ec]
      have ev : (decide (2048 ≤ c3 l) && Utf8.valid (c3 l : Nat)) = (decide (2048 ≤ c3 l) && !(decide (55296 ≤ c3 l) && decide (c3 l ≤ 57343))) := by
        have hle : c3 l ≤ 65535 := by unfold c3; omega
        rw [Bool.eq_iff_iff]
        simp only [Utf8.valid, Bool.and_eq_true, Bool.or_eq_true, decide_eq_true_eq, Bool.not_eq_true', Bool.and_eq_false_iff, decide_eq_false_iff_not]
        omega
      have ek : ok3 l = (decide (2048 ≤ c3 l) && !(decide (55296 ≤ c3 l) && decide (c3 l ≤ 57343))) := by unfold ok3; rw [hc.1, hc.2]; simp
      rw [← ek] at ev
      by_cases hk : ok3 l = true
      · rw [hk] at ev
        rw [if_pos hk, if_pos ev]
        refine ⟨fun h => by omega, fun _ => ⟨rfl, fun h => ?_⟩⟩
        simp only at h
        rw [hpf]
        unfold c3 at h
        omega
      · rw [if_neg hk, if_neg (by rw [ev]; exact hk)]
        exact ⟨fun _ => rfl, fun h => absurd rfl h⟩
    · have : ok3 l = false := by
        unfold ok3
        rw [Bool.not_eq_true] at hc
        rw [hc]; rfl
      rw [if_neg hc, this]
      exact ⟨fun _ => rfl, fun h => absurd rfl h⟩
  rw [if_neg h3]
  have e3 : (l.getD 0 0 / 16 == 14) = false := by rw [beq_eq_false_iff_ne]; omega
  rw [e3]
  simp only [Bool.false_and, Bool.false_eq_true, if_false]
  by_cases h4 : 240 ≤ l.getD 0 0 ∧ l.getD 0 0 < 248
  · rw [if_pos h4]
    have e4 : (l.getD 0 0 / 8 == 30) = true := by rw [beq_iff_eq]; omega
    rw [e4]
    simp only [Bool.true_and]
    by_cases hc : (co l 1 && co l 2 && co l 3) = true
    · rw [if_pos hc]
      simp only [Bool.and_eq_true] at hc
      obtain ⟨_, c1, c1'⟩ := co_lt hc.1.1
      obtain ⟨_, c2', c2''⟩ := co_lt hc.1.2
      obtain ⟨_, c3', c3''⟩ := co_lt hc.2
      have ec : l.getD 0 0 % 8 * 262144 + l.getD 1 0 % 64 * 4096 + l.getD 2 0 % 64 * 64 + l.getD 3 0 % 64 = c4 l := by unfold c4; omega
      rw [ec]
      have ev : (decide (65536 ≤ c4 l) && Utf8.valid (c4 l : Nat)) = (decide (65536 ≤ c4 l) && decide (c4 l ≤ 1114111)) := by
        rw [Bool.eq_iff_iff]
        simp only [Utf8.valid, Bool.and_eq_true, Bool.or_eq_true, decide_eq_true_eq]
        omega
      have ek : ok4 l = (decide (65536 ≤ c4 l) && decide (c4 l ≤ 1114111)) := by unfold ok4; rw [hc.1.1, hc.1.2, hc.2]; simp
      rw [← ek] at ev
      by_cases hk : ok4 l = true
      · rw [hk] at ev
        rw [if_pos hk, if_pos ev]
        refine ⟨fun h => by omega, fun _ => ⟨rfl, fun h => ?_⟩⟩
        simp only at h
        have : 65536 ≤ c4 l := by rw [ek] at hk; simp at hk; exact hk.1
        omega
      · rw [if_neg hk, if_neg (by rw [ev]; exact hk)]
        exact ⟨fun _ => rfl, fun h => absurd rfl h⟩
    · have : ok4 l = false := by
        unfold ok4
        rw [Bool.not_eq_true] at hc
        rw [hc]; rfl
      rw [if_neg hc, this]
      exact ⟨fun _ => rfl, fun h => absurd rfl h⟩
  · rw [if_neg h4]
    have e4 : (l.getD 0 0 / 8 == 30) = false := by rw [beq_eq_false_iff_ne]; omega
    rw [e4]
    simp only [Bool.false_and, Bool.false_eq_true, if_false]
    exact ⟨fun _ => rfl, fun h => absurd rfl h⟩
end Go.Proofs.Ytbaihhkcnlhdmaa
