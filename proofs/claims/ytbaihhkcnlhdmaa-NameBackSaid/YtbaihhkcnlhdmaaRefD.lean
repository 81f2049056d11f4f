/- The reference's contracts: geoderef01.U, S. -/
import Derived.Test.YtbaihhkcnlhdmaaRefC
namespace Go.Proofs.Ytbaihhkcnlhdmaa
open Go.RowKit

theorem Bits_nil (a : Option Addr) (cap : Nat) (B : Int) (s : Bool) (w : World) :
    Calls Try.prog 36 #[.slice a 0 cap, .int .i64 B, .bool s] w fun e w' => e = .returned (.tuple #[.slice none 0 0, .int .i64 0, .int .i64 10]) ∧ w = w' := by
  go_enter Try.func36, Try.ntmps36
  go_wp2
  refine wp_loop_rounds 1 ?_
  rw [rounds_succ]
  go_wp2
  go_ret3
  exact ⟨rfl, rfl⟩

theorem Bits_any (a : Option Addr) (cap m : Nat) (bs : List Nat) (B : Nat) (s : Bool) (w : World) (R : List Nat × Nat × Nat) (hm : m = bs.length)
    (h1 : 1 ≤ B) (h2 : B ≤ 64) (hlen : bs.length ≤ 4611686018427387904) (hb : Bts w a bs) (HR : Hid (R = LebM.bt B s bs [] 0)) :
    Calls Try.prog 36 #[.slice a m cap, .int .i64 B, .bool s] w fun e w' =>
      ∃ v, e = .returned (.tuple #[v, .int .i64 (R.2.1 : Int), .int .i64 (R.2.2 : Int)]) ∧ OwnI w' w.heap.size v R.1 ∧ Below w.heap.size w w' := by
  subst hm
  rcases hb.2 with rfl | ⟨b, off, rfl, hc⟩
  · refine (Bits_nil a cap B s w).mono ?_
    rintro e w' ⟨rfl, rfl⟩
    rw [HR.out]
    exact ⟨_, rfl, World.ownsRow_nil _ _ _ _, Below.refl _ _⟩
  · exact Bits_in b off cap bs B s w R h1 h2 hlen (fun i => hb.lt i) hc HR

theorem rU_bad (a : Option Addr) (n cap : Nat) (x y : Int) (w : World) (_hn : n ≤ 4611686018427387904)
    (h : y < 1 ∨ 64 < y ∨ x < 0 ∨ (n : Int) < x) :
    Calls Try.prog 23 #[.slice a n cap, .int .i64 x, .int .i64 y] w fun e w' => e = .returned (.tuple #[.int .u64 0, .int .i64 0, .int .i64 2]) ∧ w = w' := by
  go_enter Try.func23, Try.ntmps23
  by_cases c1 : y < 1
  · go_wp2
    go_ret3
    exact ⟨rfl, rfl⟩
  · by_cases c2 : 64 < y
    · go_wp2
      go_ret3
      exact ⟨rfl, rfl⟩
    · by_cases c3 : x < 0
      · go_wp2
        go_ret3
        exact ⟨rfl, rfl⟩
      · have c4 : (n : Int) < x := by omega
        go_wp2
        go_ret3
        exact ⟨rfl, rfl⟩


/-- what the reference's readers tell -/
def refOut (k : IntKind) (f p : Int) (R : List Nat × Nat × Nat) : Value :=
  if R.2.2 = 0 then .tuple #[.int k f, .int .i64 (p + R.2.1), .int .i64 0] else .tuple #[.int k 0, .int .i64 0, .int .i64 R.2.2]
theorem refOut_err (k : IntKind) (f p : Int) (l : List Nat) (j e : Nat) (h : e ≠ 0) : refOut k f p (l, j, e) = .tuple #[.int k 0, .int .i64 0, .int .i64 e] := by simp [refOut, h]
theorem refOut_ok (k : IntKind) (f p : Int) (l : List Nat) (j : Nat) : refOut k f p (l, j, 0) = .tuple #[.int k f, .int .i64 (p + j), .int .i64 0] := rfl

theorem valOf_drop {l : List Nat} {t : Nat} (h : t < l.length) : LebM.valOf (l.drop t) = LebM.valOf (l.drop (t + 1)) * 2 + l.getD t 0 := by
  rw [drop_cons h]; rfl
theorem u64_step (V z : Nat) : IntKind.u64.wrap (IntKind.u64.wrap (u64 (V : Int) * 2) + IntKind.u64.wrap (z : Int)) = u64 ((V * 2 + z : Nat) : Int) := by
  simp only [IntKind.wrap_u64]; unfold u64; omega
theorem s64_step (X : Int) (z : Nat) : wrap64 (wrap64 (wrap64 X * 2) + (z : Int)) = wrap64 (X * 2 + z) := by unfold wrap64; omega

set_option maxRecDepth 100000 in
set_option maxHeartbeats 1000000 in
theorem rU_in (b off cap : Nat) (bs : List Nat) (p B : Nat) (w : World) (R : List Nat × Nat × Nat) (F : Int) (HF : Hid (F = (u64 (LebM.valOf R.1))))
   (h1 : 1 ≤ B) (h2 : B ≤ 64) (h3 : p < bs.length) (hlen : bs.length ≤ 4611686018427387904) (hcap : bs.length ≤ cap) (hb : ∀ i, bs.getD i 0 < 256)
   (hc : ∀ i, i < bs.length → w.cell? ⟨b, off + i, none⟩ = some (.int .u8 ((bs.getD i 0 : Nat) : Int)))
   (HR : Hid (R = LebM.bt B false (bs.drop p) [] 0)) (HRL : Hid (R.2.2 = 0 → 1 ≤ R.1.length ∧ R.1.length ≤ 100 ∧ R.2.1 ≤ 100)) :
    Calls Try.prog 23 #[.slice (some ⟨b, off, none⟩) bs.length cap, .int .i64 p, .int .i64 B] w fun e w' =>
      e = .returned (refOut .u64 F p R) ∧ Below w.heap.size w w' := by
  have HB := Lib.hid (Bits_in b (off + p) (cap - p) (bs.drop p) B false w R h1 h2 (by simp; omega) (by
    intro i
    have := hb (p + i)
    simpa [List.getD_eq_getElem?_getD] using this) (by
    intro i hi
    rw [List.length_drop] at hi
    have := hc (p + i) (by omega)
    rw [← Nat.add_assoc] at this
    rw [this]
    simp [List.getD_eq_getElem?_getD]) HR)
  rw [List.length_drop] at HB
  have hne : ¬ cap = p := by omega
  clear hb hc HR
  obtain ⟨l, j, er⟩ := R
  go_enter Try.func23, Try.ntmps23
  go_wp2_with fail
  refine HB.out.mono ?_
  rintro e w1 ⟨v, rfl, hown, hbel⟩
  have HO := Lib.hid hown
  have B1 := Lib.hid hbel
  clear hown hbel HB
  by_cases he : er = 0
  · subst he
    obtain ⟨hl1, hl2, hj⟩ := HRL.out rfl
    obtain ⟨g, capA, rfl, hcA1, hcA2, hca⟩ := OwnI.at HO.out (by omega)
    have HCA := Lib.hid hca
    clear hca HRL
    unfold maxLen at hcA2
    go_wp2_with fail
    go_loop [12, 13] (fun x i => ∃ (t : Nat) (V : Nat), i = .int .i64 ((t : Int) - 1) ∧ t ≤ l.length ∧ x = .int .u64 (u64 V) ∧ V = LebM.valOf (l.drop t)) (fun _ i => (intOf i + 1).toNat)
    case atStart => exact ⟨l.length, 0, rfl, Nat.le_refl _, congrArg (Value.int .u64) (by decide +kernel), by simp [LebM.valOf]⟩
    case round =>
      obtain ⟨t, V, rfl, ht, rfl, hV⟩ := hrel
      have HV := Lib.hid hV
      clear hV
      by_cases h0 : 1 ≤ t
      · obtain ⟨q, rfl⟩ : ∃ q, t = q + 1 := ⟨t - 1, by omega⟩
        have hct := HCA.out q (by omega)
        have HVQ := Lib.hid (valOf_drop (l := l) (t := q) (by omega))
        generalize l.getD q 0 = z at hct HVQ
        go_wp2
        go_round
        case rel => exact ⟨q, V * 2 + z, rfl, by omega, congrArg (Value.int .u64) (u64_step V z), by rw [HVQ.out, ← HV.out]⟩
        case measure => simp [intOf]
      · obtain rfl : t = 0 := by omega
        go_wp2
        go_ret3
        refine ⟨?_, B1.out⟩
        rw [refOut_ok]
        exact ret_3 (by rw [HF.out, HV.out]; simp) rfl rfl
  · have heb : ((er : Int) != 0) = true := by simp; omega
    go_wp2
    go_ret3
    exact ⟨by rw [refOut_err _ _ _ _ _ _ he]; rfl, B1.out⟩
theorem rS_bad (a : Option Addr) (n cap : Nat) (x y : Int) (w : World) (_hn : n ≤ 4611686018427387904)
    (h : y < 1 ∨ 64 < y ∨ x < 0 ∨ (n : Int) < x) :
    Calls Try.prog 25 #[.slice a n cap, .int .i64 x, .int .i64 y] w fun e w' => e = .returned (.tuple #[.int .i64 0, .int .i64 0, .int .i64 2]) ∧ w = w' := by
  go_enter Try.func25, Try.ntmps25
  by_cases c1 : y < 1
  · go_wp2
    go_ret3
    exact ⟨rfl, rfl⟩
  · by_cases c2 : 64 < y
    · go_wp2
      go_ret3
      exact ⟨rfl, rfl⟩
    · by_cases c3 : x < 0
      · go_wp2
        go_ret3
        exact ⟨rfl, rfl⟩
      · have c4 : (n : Int) < x := by omega
        go_wp2
        go_ret3
        exact ⟨rfl, rfl⟩



set_option maxRecDepth 100000 in
set_option maxHeartbeats 1000000 in
theorem rS_in (b off cap : Nat) (bs : List Nat) (p B : Nat) (w : World) (R : List Nat × Nat × Nat) (F : Int) (HF : Hid (F = (wrap64 ((if LebM.top R.1 = 1 then -(2 : Int) ^ R.1.length else 0) + LebM.valOf R.1))))
   (h1 : 1 ≤ B) (h2 : B ≤ 64) (h3 : p < bs.length) (hlen : bs.length ≤ 4611686018427387904) (hcap : bs.length ≤ cap) (hb : ∀ i, bs.getD i 0 < 256)
   (hc : ∀ i, i < bs.length → w.cell? ⟨b, off + i, none⟩ = some (.int .u8 ((bs.getD i 0 : Nat) : Int)))
   (HR : Hid (R = LebM.bt B true (bs.drop p) [] 0)) (HRL : Hid (R.2.2 = 0 → 1 ≤ R.1.length ∧ R.1.length ≤ 100 ∧ R.2.1 ≤ 100)) :
    Calls Try.prog 25 #[.slice (some ⟨b, off, none⟩) bs.length cap, .int .i64 p, .int .i64 B] w fun e w' =>
      e = .returned (refOut .i64 F p R) ∧ Below w.heap.size w w' := by
  have HB := Lib.hid (Bits_in b (off + p) (cap - p) (bs.drop p) B true w R h1 h2 (by simp; omega) (by
    intro i
    have := hb (p + i)
    simpa [List.getD_eq_getElem?_getD] using this) (by
    intro i hi
    rw [List.length_drop] at hi
    have := hc (p + i) (by omega)
    rw [← Nat.add_assoc] at this
    rw [this]
    simp [List.getD_eq_getElem?_getD]) HR)
  rw [List.length_drop] at HB
  have hne : ¬ cap = p := by omega
  clear hb hc HR
  obtain ⟨l, j, er⟩ := R
  go_enter Try.func25, Try.ntmps25
  go_wp2_with fail
  refine HB.out.mono ?_
  rintro e w1 ⟨v, rfl, hown, hbel⟩
  have HO := Lib.hid hown
  have B1 := Lib.hid hbel
  clear hown hbel HB
  by_cases he : er = 0
  · subst he
    obtain ⟨hl1, hl2, hj⟩ := HRL.out rfl
    obtain ⟨g, capA, rfl, hcA1, hcA2, hca⟩ := OwnI.at HO.out (by omega)
    have HCA := Lib.hid hca
    clear hca HRL
    unfold maxLen at hcA2
    obtain ⟨tp, htp⟩ : ∃ tp, tp = LebM.top l := ⟨_, rfl⟩
    have hct := HCA.out (l.length - 1) (by omega)
    rw [show l.getD (l.length - 1) 0 = LebM.top l from rfl, ← htp] at hct
    have HTP := Lib.hid htp
    clear htp
    by_cases h1t : (tp : Int) = 1
    · have htb : ((tp : Int) == 1) = true := by simp; omega
      have HT1 := Lib.hid (show LebM.top l = 1 by rw [← HTP.out]; omega)
      clear h1t
      go_wp2_with fail
      go_loop [12, 13] (fun x i => ∃ (t : Nat) (V : Int), i = .int .i64 ((t : Int) - 1) ∧ t ≤ l.length ∧ x = .int .i64 (wrap64 V) ∧ V = -(2 : Int) ^ (l.length - t) + LebM.valOf (l.drop t)) (fun _ i => (intOf i + 1).toNat)
      case atStart => exact ⟨l.length, (-1), rfl, Nat.le_refl _, congrArg (Value.int .i64) (by decide +kernel), by simp [LebM.valOf]⟩
      case round =>
        obtain ⟨t, V, rfl, ht, rfl, hV⟩ := hrel
        have HV := Lib.hid hV
        clear hV
        by_cases h0 : 1 ≤ t
        · obtain ⟨q, rfl⟩ : ∃ q, t = q + 1 := ⟨t - 1, by omega⟩
          have hct := HCA.out q (by omega)
          have HVQ := Lib.hid (valOf_drop (l := l) (t := q) (by omega))
          generalize l.getD q 0 = z at hct HVQ
          go_wp2
          go_round
          case rel => exact ⟨q, V * 2 + z, rfl, by omega, congrArg (Value.int .i64) (s64_step V z), by rw [HVQ.out, HV.out, show l.length - q = (l.length - (q + 1)) + 1 by omega, Int.pow_succ]; simp; omega⟩
          case measure => simp [intOf]
        · obtain rfl : t = 0 := by omega
          go_wp2
          go_ret3
          refine ⟨?_, B1.out⟩
          rw [refOut_ok]
          exact ret_3 (by rw [HF.out, HV.out] <;> simp [HT1.out]) rfl rfl
    · have htb : ((tp : Int) == 1) = false := by simp; omega
      have HT1 := Lib.hid (show ¬ LebM.top l = 1 by rw [← HTP.out]; omega)
      clear h1t
      go_wp2_with fail
      go_loop [12, 13] (fun x i => ∃ (t : Nat) (V : Int), i = .int .i64 ((t : Int) - 1) ∧ t ≤ l.length ∧ x = .int .i64 (wrap64 V) ∧ V = ((LebM.valOf (l.drop t) : Nat) : Int)) (fun _ i => (intOf i + 1).toNat)
      case atStart => exact ⟨l.length, 0, rfl, Nat.le_refl _, congrArg (Value.int .i64) (by decide +kernel), by simp [LebM.valOf]⟩
      case round =>
        obtain ⟨t, V, rfl, ht, rfl, hV⟩ := hrel
        have HV := Lib.hid hV
        clear hV
        by_cases h0 : 1 ≤ t
        · obtain ⟨q, rfl⟩ : ∃ q, t = q + 1 := ⟨t - 1, by omega⟩
          have hct := HCA.out q (by omega)
          have HVQ := Lib.hid (valOf_drop (l := l) (t := q) (by omega))
          generalize l.getD q 0 = z at hct HVQ
          go_wp2
          go_round
          case rel => exact ⟨q, V * 2 + z, rfl, by omega, congrArg (Value.int .i64) (s64_step V z), by rw [HVQ.out, HV.out]; simp⟩
          case measure => simp [intOf]
        · obtain rfl : t = 0 := by omega
          go_wp2
          go_ret3
          refine ⟨?_, B1.out⟩
          rw [refOut_ok]
          exact ret_3 (by rw [HF.out, HV.out] <;> simp [HT1.out]) rfl rfl
  · have heb : ((er : Int) != 0) = true := by simp; omega
    go_wp2
    go_ret3
    exact ⟨by rw [refOut_err _ _ _ _ _ _ he]; rfl, B1.out⟩

end Go.Proofs.Ytbaihhkcnlhdmaa
