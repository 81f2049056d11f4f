/- The reference's contract: geoderef01.Bits. -/
import Derived.Test.YtbaihhkcnlhdmaaRefB
namespace Go.Proofs.Ytbaihhkcnlhdmaa
open Go.RowKit

theorem info3 : (Try.prog.info? 3).map (fun i => (i.zero, i.size, i.bytes)) = some (some (.int .i64 0), 1, 8) := by kernel_rfl

def intsOf (l : List Nat) : List Value := l.map fun (c : Nat) => Value.int .i64 (c : Int)
/-- the slice v of ints, made since block B, holds the numbers l -/
def OwnI (w : World) (B : Nat) (v : Value) (l : List Nat) : Prop := w.ownsRow B 3 1 v l.length (intsOf l)

theorem OwnI.snoc {w : World} {B : Nat} {v : Value} {l : List Nat} (c : Nat) (h : w.ownsRow B 3 1 v (l.length + 1) (intsOf l ++ [.int .i64 (c : Int)])) : OwnI w B v (l ++ [c]) := by
  simpa [OwnI, intsOf] using h

theorem OwnI.kept {w w1 : World} {B : Nat} {v : Value} {l : List Nat} (h : OwnI w B v l) (hb : Below w.heap.size w w1) : OwnI w1 B v l := by
  have hlt := World.ownsRow.lt h
  obtain ⟨h1, h2⟩ := h
  refine ⟨h1, ?_⟩
  rcases h2 with h2 | ⟨g, cap, cur, hv, hg, hh, r⟩
  · exact .inl h2
  · refine .inr ⟨g, cap, cur, hv, hg, ?_, r⟩
    rw [hb.block g (hlt g (by rw [hv]; rfl)).2]; exact hh

theorem OwnI.grown {B : Nat} {a w w' : World} {v : Value} {l : List Nat} (h : Below B a w) (hB : B ≤ w.heap.size) (hown : OwnI w B v l) (o : Obj) (hg : (w.alloc o).grownBy w' v.ownBlock) : Below B a w' :=
  (h.alloc hB o).grown hg (by simp; omega) (fun k hk => (World.ownsRow.lt hown k hk).1)

theorem OwnI.at {w : World} {B : Nat} {v : Value} {l : List Nat} (h : OwnI w B v l) (hne : 0 < l.length) :
    ∃ g cap, v = .slice (some ⟨g, 0, none⟩) l.length cap ∧ l.length ≤ cap ∧ cap ≤ maxLen ∧ ∀ j, j < l.length → w.cell? ⟨g, j, none⟩ = some (.int .i64 ((l.getD j 0 : Nat) : Int)) := by
  rcases h.2 with ⟨hv, hx⟩ | ⟨g, cap, cur, hv, hg, hh, hm, r1, r2, r3⟩
  · omega
  · refine ⟨g, cap, hv, hm, r1, fun j hj => ?_⟩
    have := World.ownsRow.cells h (g := g) (by rw [hv]; rfl) j (.int .i64 ((l.getD j 0 : Nat) : Int)) (by
      simp [intsOf, List.getD_eq_getElem?_getD, List.getElem?_eq_getElem hj])
    rw [Addr.add_lit] at this
    simpa using this

section
open LebM
variable {B k c : Nat} {s : Bool} {cs all : List Nat}
theorem bt_bad (h : bad B s (all ++ bitsOf c) = true) : bt B s (c :: cs) all k = ([], 0, 11) := by rw [bt, if_pos h]
theorem bt_last (h : bad B s (all ++ bitsOf c) = false) (hc : c < 128) : bt B s (c :: cs) all k = (all ++ bitsOf c, k + 1, 0) := by rw [bt, if_neg (by simp [h]), if_pos hc]
theorem bt_over (h : bad B s (all ++ bitsOf c) = false) (hc : ¬ c < 128) (hB : B ≤ 7 * (k + 1)) : bt B s (c :: cs) all k = ([], 0, 11) := by rw [bt, if_neg (by simp [h]), if_neg hc, if_pos hB]
theorem bt_next (h : bad B s (all ++ bitsOf c) = false) (hc : ¬ c < 128) (hB : ¬ B ≤ 7 * (k + 1)) : bt B s (c :: cs) all k = bt B s cs (all ++ bitsOf c) (k + 1) := by rw [bt, if_neg (by simp [h]), if_neg hc, if_neg hB]
theorem bad_of {A : List Nat} {t : Nat} (h1 : B ≤ t) (h2 : t < A.length) (h3 : A.getD t 0 ≠ must B s A) : bad B s A = true := by
  unfold bad
  rw [List.any_eq_true]
  exact ⟨t, List.mem_range.2 h2, by simp only [Bool.and_eq_true, decide_eq_true_eq, bne_iff_ne]; exact ⟨h1, h3⟩⟩
theorem not_bad {A : List Nat} (h : ∀ i, B ≤ i → i < A.length → A.getD i 0 = must B s A) : bad B s A = false := by
  unfold bad
  rw [List.any_eq_false]
  intro i hi
  rw [List.mem_range] at hi
  simp only [Bool.and_eq_true, decide_eq_true_eq, bne_iff_ne, not_and, ne_eq, Decidable.not_not]
  exact fun hb => h i hb hi
end

set_option maxRecDepth 100000 in
set_option maxHeartbeats 4000000 in
theorem Bits_in (b off cap : Nat) (bs : List Nat) (B : Nat) (s : Bool) (w : World) (R : List Nat × Nat × Nat)
    (h1 : 1 ≤ B) (h2 : B ≤ 64) (hlen : bs.length ≤ 4611686018427387904) (hb : ∀ i, bs.getD i 0 < 256)
    (hc : ∀ i, i < bs.length → w.cell? ⟨b, off + i, none⟩ = some (.int .u8 ((bs.getD i 0 : Nat) : Int)))
    (HR : Hid (R = LebM.bt B s bs [] 0)) :
    Calls Try.prog 36 #[.slice (some ⟨b, off, none⟩) bs.length cap, .int .i64 B, .bool s] w fun e w' =>
      ∃ v, e = .returned (.tuple #[v, .int .i64 (R.2.1 : Int), .int .i64 (R.2.2 : Int)]) ∧ OwnI w' w.heap.size v R.1 ∧ Below w.heap.size w w' := by
  obtain ⟨i0, hi, hz0, hz1, hz2⟩ := info_parts info3
  have HC := Lib.hid hc
  have HB := Lib.hid hb
  clear hc hb
  go_enter Try.func36, Try.ntmps36
  go_wp2
  go_loopw [9, 10] (fun a i wr => ∃ (k : Nat) (all : List Nat), i = .int .i64 (k : Int) ∧ k ≤ bs.length ∧ 7 * k < B ∧ OwnI wr w.heap.size a all ∧ all.length = 7 * k ∧ LebM.bt B s (bs.drop k) all k = R ∧ Below w.heap.size w wr)
    (fun _ i _ => 64 - (intOf i).toNat)
  case atStart => exact ⟨0, [], rfl, by omega, by omega, World.ownsRow_nil _ _ _ _, rfl, HR.out.symm, Below.refl _ _⟩
  case round =>
    obtain ⟨k, all, rfl, hk, hkB, hown, hall, hbt, hbel⟩ := hrel
    obtain ⟨wo, rfl⟩ : ∃ wo : World, wo = wr := ⟨_, rfl⟩
    have HALL := Lib.hid hall
    have HOWN := Lib.hid hown
    have HBEL := Lib.hid hbel
    have hsz := hbel.size
    clear hall hown hbel
    by_cases hlt : k < bs.length
    · rw [drop_cons hlt] at hbt
      have hdk : decide (bs.length ≤ k) = false := by simp; omega
      have hcell := HC.out k hlt
      have hcell := (HBEL.out.cell (p := ⟨b, off + k, none⟩) (block_lt_of_cell hcell)).trans hcell
      have hb := HB.out k
      generalize bs.getD k 0 = c at hcell hb hbt
      have HBT := Lib.hid hbt
      have HCELL := Lib.hid hcell
      clear hbt hcell
      go_wp2_with fail
      go_loopw [9, 11] (fun a i wr => ∃ j : Nat, i = .int .i64 (j : Int) ∧ j ≤ 7 ∧ OwnI wr w.heap.size a (all ++ (LebM.bitsOf c).take j) ∧ Below w.heap.size w wr ∧ wr.cell? ⟨b, off + k, none⟩ = some (.int .u8 (c : Int)))
        (fun _ i _ => 7 - (intOf i).toNat)
      case atStart => exact ⟨0, rfl, by omega, by simpa using HOWN.out, HBEL.out, HCELL.out⟩
      case round =>
        obtain ⟨j, rfl, hj, hown, hbel, hcell⟩ := hrel
        have HO := Lib.hid hown
        have HBL := Lib.hid hbel
        have HCL := Lib.hid hcell
        have hsz := hbel.size
        clear hown hbel
        obtain ⟨l, hl⟩ : ∃ l, l = all ++ (LebM.bitsOf c).take j := ⟨_, rfl⟩
        rw [← hl] at HO
        have hll : l.length ≤ 7 * k + 7 := by rw [hl]; have := HALL.out; simp; omega
        have HLD := Lib.hid hl
        clear hl
        by_cases hj7 : j < 7
        · obtain ⟨y, hy⟩ : ∃ y, y = c / 2 ^ j % 2 := ⟨_, rfl⟩
          have HY := Lib.hid hy
          clear hy
          go_wp2_with fail
          refine (bit_r c j y hb (by omega) HY _).mono ?_
          rintro e w2 ⟨rfl, rfl⟩
          go_wp2_with (at_builtin; refine wpList_append_own _ rfl _ _ 51 rfl w.heap.size 3 i0 (.int .i64 0) 1 8 Try.underlying51 hi hz0 hz1 hz2 rfl (by decide) _ _ _ rfl (World.ownsRow.alloc HO.out _) ⟨wr.heap.size, 0, none⟩ 1 1 [.int .i64 (y : Int)] rfl rfl ?c1 ?c2 ?c3 ?c4 ?c5 ?_)
          case c1 =>
            intro j u hj
            match j, hj with
            | 0, hj => simp at hj; subst hj; rw [Addr.add_lit, World.cell?_alloc_at _ _ _ _ (by simp)]; rfl
          case c2 => intro u hu; simp at hu; subst hu; rfl
          case c3 => unfold maxLen; omega
          case c4 => omega
          case c5 => simp; omega
          · intro v' w3 hown' hgrow _
            have R1 : OwnI w3 w.heap.size v' (all ++ (LebM.bitsOf c).take (j + 1)) := by
              have hj' : j < (LebM.bitsOf c).length := by rw [LebM.len_bitsOf]; exact hj7
              have := OwnI.snoc y hown'
              have e : (LebM.bitsOf c)[j] = y := by
                have := LebM.getD_bitsOf c j hj7
                rw [List.getD_eq_getElem?_getD, List.getElem?_eq_getElem hj'] at this
                rw [HY.out]; simpa using this
              rw [List.take_succ_eq_append_getElem hj', e, ← List.append_assoc, ← HLD.out]
              exact this
            have R2 := OwnI.grown HBL.out hsz HO.out _ hgrow
            have R3 : w3.cell? ⟨b, off + k, none⟩ = some (.int .u8 (c : Int)) := (R2.cell (p := ⟨b, off + k, none⟩) (block_lt_of_cell (HC.out k hlt))).trans ((HBL.out.cell (p := ⟨b, off + k, none⟩) (block_lt_of_cell (HC.out k hlt))).symm.trans HCL.out)
            have R1 := Lib.hid R1
            have R2 := Lib.hid R2
            have R3 := Lib.hid R3
            clear hown' hgrow hcell
            go_wp2
            go_roundw
            case rel => exact ⟨j + 1, by go_num, by omega, R1.out, R2.out, R3.out⟩
            case measure => simp [intOf]; omega
        · obtain rfl : j = 7 := by omega
          rw [List.take_of_length_le (by rw [LebM.len_bitsOf]; omega)] at HLD
          obtain ⟨A, hA⟩ : ∃ A, A = all ++ LebM.bitsOf c := ⟨_, rfl⟩
          have hAl : l = A := HLD.out.trans hA.symm
          subst hAl
          have halen : l.length = 7 * k + 7 := by rw [hA]; have := HALL.out; simp [LebM.len_bitsOf]; omega
          obtain ⟨A, rfl⟩ : ∃ A, A = l := ⟨_, rfl⟩
          have hal1 : A.length ≤ 7 * k + 7 := by omega
          have hal2 : 7 * k + 7 ≤ A.length := by omega
          have HALEN := Lib.hid halen
          have HA := Lib.hid hA
          obtain ⟨g, capA, hv, hcapA1, hcapA2, hca⟩ := OwnI.at HO.out (by omega)
          have HOA := HO
          rw [hv] at HOA
          subst hv
          have HCA := Lib.hid hca
          clear halen hA hca HO HLD hll
          unfold maxLen at hcapA2
          cases s
          · have HMS := Lib.hid (show LebM.must B false A = 0 by simp [LebM.must])
            go_wp2_with fail
            go_loop [13] (fun q => ∃ t : Nat, q = .int .i64 (t : Int) ∧ B ≤ t ∧ ∀ i, B ≤ i → i < t → i < A.length → A.getD i 0 = LebM.must B false A)
              (fun q => A.length - (intOf q).toNat)
            case atStart => exact ⟨B, rfl, Nat.le_refl _, fun i hi1 hi2 _ => by omega⟩
            case round =>
              obtain ⟨t, rfl, ht1, htall⟩ := hrel
              have HTALL := Lib.hid htall
              clear htall
              by_cases htl : t < A.length
              · have hct := HCA.out t htl
                generalize hz : A.getD t 0 = z at hct
                have HZ := Lib.hid hz
                clear hz
                by_cases hzm : (z : Int) = 0
                · have hzb : ((z : Int) != 0) = false := by simp; omega
                  have HZM := Lib.hid (show z = LebM.must B false A by rw [HMS.out]; omega)
                  clear hzm
                  go_wp2
                  go_round
                  case rel =>
                    refine ⟨t + 1, by go_num, by omega, fun i hi1 hi2 hi3 => ?_⟩
                    by_cases hit : i < t
                    · exact HTALL.out i hi1 hit hi3
                    · obtain rfl : i = t := by omega
                      rw [HZ.out]; exact HZM.out
                  case measure => simp [intOf]; omega
                · have hzb : ((z : Int) != 0) = true := by simp; omega
                  have HZM := Lib.hid (show A.getD t 0 ≠ LebM.must B false A by rw [HZ.out, HMS.out]; omega)
                  clear hzm
                  have HRR := Lib.hid (HBT.out.symm.trans (bt_bad (HA.out ▸ bad_of ht1 htl HZM.out)))
                  go_wp2
                  go_ret3
                  refine ⟨.slice none 0 0, ?_, ?_, HBL.out⟩
                  · rw [HRR.out]; rfl
                  · rw [HRR.out]; exact World.ownsRow_nil _ _ _ _
              · have hnb := not_bad (s := false) (fun i hi1 hi2 => HTALL.out i hi1 (by omega) hi2)
                rw [HA.out] at hnb
                have HNB := Lib.hid hnb
                clear hnb
                by_cases h128 : c < 128
                · have HRR := Lib.hid (HBT.out.symm.trans (bt_last HNB.out h128))
                  go_wp2
                  go_ret3
                  refine ⟨.slice (some ⟨g, 0, none⟩) A.length capA, ?_, ?_, HBL.out⟩
                  · rw [HRR.out]; simp
                  · rw [HRR.out, ← HA.out]; exact HOA.out
                · by_cases hB7 : B ≤ 7 * (k + 1)
                  · have HRR := Lib.hid (HBT.out.symm.trans (bt_over HNB.out h128 hB7))
                    go_wp2
                    go_ret3
                    refine ⟨.slice none 0 0, ?_, ?_, HBL.out⟩
                    · rw [HRR.out]; rfl
                    · rw [HRR.out]; exact World.ownsRow_nil _ _ _ _
                  · have HRR := Lib.hid ((bt_next HNB.out h128 hB7).symm.trans HBT.out)
                    go_wp2
                    go_roundw
                    case rel => exact ⟨k + 1, A, by go_num, by omega, by omega, HOA.out, by have := HALEN.out; omega, by rw [HA.out]; exact HRR.out, HBL.out⟩
                    case measure => simp [intOf]; omega
          · by_cases hBA : B ≤ A.length
            · obtain ⟨mst, hmst⟩ : ∃ mst, mst = A.getD (B - 1) 0 := ⟨_, rfl⟩
              have HMS := Lib.hid (show LebM.must B true A = mst by rw [hmst]; simp [LebM.must, hBA])
              have hcm := HCA.out (B - 1) (by omega)
              rw [← hmst] at hcm
              clear hmst
              go_wp2_with fail
              go_loop [13] (fun q => ∃ t : Nat, q = .int .i64 (t : Int) ∧ B ≤ t ∧ ∀ i, B ≤ i → i < t → i < A.length → A.getD i 0 = LebM.must B true A)
                (fun q => A.length - (intOf q).toNat)
              case atStart => exact ⟨B, rfl, Nat.le_refl _, fun i hi1 hi2 _ => by omega⟩
              case round =>
                obtain ⟨t, rfl, ht1, htall⟩ := hrel
                have HTALL := Lib.hid htall
                clear htall
                by_cases htl : t < A.length
                · have hct := HCA.out t htl
                  generalize hz : A.getD t 0 = z at hct
                  have HZ := Lib.hid hz
                  clear hz
                  by_cases hzm : (z : Int) = (mst : Int)
                  · have hzb : ((z : Int) != (mst : Int)) = false := by simp; omega
                    have HZM := Lib.hid (show z = LebM.must B true A by rw [HMS.out]; omega)
                    clear hzm
                    go_wp2
                    go_round
                    case rel =>
                      refine ⟨t + 1, by go_num, by omega, fun i hi1 hi2 hi3 => ?_⟩
                      by_cases hit : i < t
                      · exact HTALL.out i hi1 hit hi3
                      · obtain rfl : i = t := by omega
                        rw [HZ.out]; exact HZM.out
                    case measure => simp [intOf]; omega
                  · have hzb : ((z : Int) != (mst : Int)) = true := by simp; omega
                    have HZM := Lib.hid (show A.getD t 0 ≠ LebM.must B true A by rw [HZ.out, HMS.out]; omega)
                    clear hzm
                    have HRR := Lib.hid (HBT.out.symm.trans (bt_bad (HA.out ▸ bad_of ht1 htl HZM.out)))
                    go_wp2
                    go_ret3
                    refine ⟨.slice none 0 0, ?_, ?_, HBL.out⟩
                    · rw [HRR.out]; rfl
                    · rw [HRR.out]; exact World.ownsRow_nil _ _ _ _
                · have hnb := not_bad (s := true) (fun i hi1 hi2 => HTALL.out i hi1 (by omega) hi2)
                  rw [HA.out] at hnb
                  have HNB := Lib.hid hnb
                  clear hnb
                  by_cases h128 : c < 128
                  · have HRR := Lib.hid (HBT.out.symm.trans (bt_last HNB.out h128))
                    go_wp2
                    go_ret3
                    refine ⟨.slice (some ⟨g, 0, none⟩) A.length capA, ?_, ?_, HBL.out⟩
                    · rw [HRR.out]; simp
                    · rw [HRR.out, ← HA.out]; exact HOA.out
                  · by_cases hB7 : B ≤ 7 * (k + 1)
                    · have HRR := Lib.hid (HBT.out.symm.trans (bt_over HNB.out h128 hB7))
                      go_wp2
                      go_ret3
                      refine ⟨.slice none 0 0, ?_, ?_, HBL.out⟩
                      · rw [HRR.out]; rfl
                      · rw [HRR.out]; exact World.ownsRow_nil _ _ _ _
                    · exfalso; omega
            · have HMS := Lib.hid (show LebM.must B true A = 0 by unfold LebM.must; rw [if_neg (by omega)])
              go_wp2_with fail
              go_loop [13] (fun q => ∃ t : Nat, q = .int .i64 (t : Int) ∧ B ≤ t ∧ ∀ i, B ≤ i → i < t → i < A.length → A.getD i 0 = LebM.must B true A)
                (fun q => A.length - (intOf q).toNat)
              case atStart => exact ⟨B, rfl, Nat.le_refl _, fun i hi1 hi2 _ => by omega⟩
              case round =>
                obtain ⟨t, rfl, ht1, htall⟩ := hrel
                have HTALL := Lib.hid htall
                clear htall
                by_cases htl : t < A.length
                · exfalso; omega
                · have hnb := not_bad (s := true) (fun i hi1 hi2 => HTALL.out i hi1 (by omega) hi2)
                  rw [HA.out] at hnb
                  have HNB := Lib.hid hnb
                  clear hnb
                  by_cases h128 : c < 128
                  · have HRR := Lib.hid (HBT.out.symm.trans (bt_last HNB.out h128))
                    go_wp2
                    go_ret3
                    refine ⟨.slice (some ⟨g, 0, none⟩) A.length capA, ?_, ?_, HBL.out⟩
                    · rw [HRR.out]; simp
                    · rw [HRR.out, ← HA.out]; exact HOA.out
                  · by_cases hB7 : B ≤ 7 * (k + 1)
                    · exfalso; omega
                    · have HRR := Lib.hid ((bt_next HNB.out h128 hB7).symm.trans HBT.out)
                      go_wp2
                      go_roundw
                      case rel => exact ⟨k + 1, A, by go_num, by omega, by omega, HOA.out, by have := HALEN.out; omega, by rw [HA.out]; exact HRR.out, HBL.out⟩
                      case measure => simp [intOf]; omega
    · have HRR := Lib.hid (show R = ([], 0, 10) by rw [← hbt, List.drop_of_length_le (by omega)]; rfl)
      clear hbt
      go_wp2
      go_ret3
      refine ⟨.slice none 0 0, ?_, ?_, HBEL.out⟩
      · rw [HRR.out]; rfl
      · rw [HRR.out]; exact World.ownsRow_nil _ _ _ _
end Go.Proofs.Ytbaihhkcnlhdmaa

