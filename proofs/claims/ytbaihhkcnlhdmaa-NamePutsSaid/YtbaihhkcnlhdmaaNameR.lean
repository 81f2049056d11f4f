/- The contract of name.Read. -/
import Derived.Test.YtbaihhkcnlhdmaaNameC
import Derived.Test.YtbaihhkcnlhdmaaShortW
namespace Go.Proofs.Ytbaihhkcnlhdmaa
open Go.RowKit NameM

/-- reading a name: its bytes, the place behind it, the error -/
def rdN (b : List Nat) (x : Int) : List Nat × Int × Nat :=
  if x < 0 ∨ (b.length : Int) < x then ([], 0, 2)
  else if (LebM.read b x 32 false).2.2 ≠ 0 then ([], 0, (LebM.read b x 32 false).2.2)
  else if (b.length : Int) - (LebM.read b x 32 false).2.1 < (LebM.read b x 32 false).1 then ([], 0, 10)
  else if cnt ((b.drop (LebM.read b x 32 false).2.1.toNat).take (LebM.read b x 32 false).1.toNat) < 0 then ([], 0, 20)
  else ((b.drop (LebM.read b x 32 false).2.1.toNat).take (LebM.read b x 32 false).1.toNat, (LebM.read b x 32 false).2.1 + (LebM.read b x 32 false).1, 0)

/-- a name read as a value -/
def nmV (r : List Nat × Int × Nat) : Value := .tuple #[.string (strN r.1), .int .i64 r.2.1, .int .i64 r.2.2]

theorem nb_strN (l : List Nat) (h : ∀ c ∈ l, c < 256) : nb (strN l) = l := by
  unfold nb strN
  simp only [List.map_map]
  conv => rhs; rw [← List.map_id l]
  apply List.map_congr_left
  intro c hc
  have := h c hc
  simp [Nat.mod_eq_of_lt this]
theorem strN_nb (s : ByteArray) : strN (nb s) = s := by
  unfold nb strN
  rw [List.map_map]
  have : (UInt8.ofNat ∘ UInt8.toNat) = id := by funext x; simp
  rw [this, List.map_id]
theorem size_strN (l : List Nat) : (strN l).size = l.length := by
  show (l.map UInt8.ofNat).toArray.size = _
  simp

/-- what a good reading tells of the places -/
theorem read_place (b : List Nat) (x : Int) (h : (LebM.read b x 32 false).2.2 = 0) :
    0 ≤ x ∧ x < (LebM.read b x 32 false).2.1 ∧ (LebM.read b x 32 false).2.1 ≤ b.length ∧ 0 ≤ (LebM.read b x 32 false).1 ∧ (LebM.read b x 32 false).1 < 4294967296 := by
  unfold LebM.read at h ⊢
  split at h
  · rename_i hc
    rw [if_pos hc]
    split at h
    · rename_i h0
      rw [if_pos h0]
      generalize hr : LebM.rd (32 : Int).toNat false (b.drop x.toNat) 0 0 0 = r at h0 ⊢
      obtain ⟨v, j, e⟩ := r
      simp only at h0
      subst h0
      obtain ⟨b1, b2, b3, _⟩ := LebM.rd_bounds 32 false _ 0 0 v j (by omega) (by simp) hr
      obtain ⟨c1, _, c3⟩ := b3 rfl
      rw [List.length_drop] at b2
      have : (2 : Int) ^ 32 = 4294967296 := rfl
      simp only
      omega
    · rename_i h0; exact absurd h h0
  · simp at h

set_option maxRecDepth 100000 in
set_option maxHeartbeats 1000000 in
theorem NRead_any (a : Option Addr) (cap : Nat) (bs : List Nat) (x : Int) (w : World) (hB : Bts w a bs) (hn : bs.length ≤ 4611686018427387904) (hcap : bs.length ≤ cap) :
    Calls Try.prog 16 #[.slice a bs.length cap, .int .i64 x] w fun e w' => e = .returned (nmV (rdN bs x)) ∧ Below w.heap.size w w' := by
  by_cases h : x < 0 ∨ (bs.length : Int) < x
  · have HR := Lib.hid (show rdN bs x = ([], 0, 2) by unfold rdN; rw [if_pos h])
    by_cases c1 : x < 0
    · go_enter Try.func16, Try.ntmps16
      go_wp2
      go_ret3
      exact ⟨by rw [HR.out]; rfl, Below.refl _ _⟩
    · have c2 : (bs.length : Int) < x := by omega
      go_enter Try.func16, Try.ntmps16
      go_wp2
      go_ret3
      exact ⟨by rw [HR.out]; rfl, Below.refl _ _⟩
  · have hx0 : ¬ x < 0 := by omega
    have hx1 : ¬ (bs.length : Int) < x := by omega
    have U1 := Lib.hid (U_any a cap bs x 32 w hB hn)
    have HPL := Lib.hid (read_place bs x)
    obtain ⟨r, hr⟩ : ∃ r, r = LebM.read bs x 32 false := ⟨_, rfl⟩
    have hrd : rdN bs x = (if r.2.2 ≠ 0 then ([], 0, r.2.2) else if (bs.length : Int) - r.2.1 < r.1 then ([], 0, 10) else
        if cnt ((bs.drop r.2.1.toNat).take r.1.toNat) < 0 then ([], 0, 20) else ((bs.drop r.2.1.toNat).take r.1.toNat, r.2.1 + r.1, 0)) := by
      unfold rdN
      rw [if_neg h, hr]
    rw [← hr] at U1 HPL
    obtain ⟨v, j, er⟩ := r
    clear hr h
    by_cases he : er = 0
    · subst he
      obtain ⟨p1, p2, p3, p4, p5⟩ := HPL.out rfl
      simp only at p2 p3 p4 p5 hrd
      obtain ⟨n, rfl⟩ := Int.eq_ofNat_of_zero_le p4
      obtain ⟨J, rfl⟩ := Int.eq_ofNat_of_zero_le (show 0 ≤ j by omega)
      simp only [ne_eq, not_true_eq_false, if_false, Int.toNat_natCast] at hrd
      by_cases hlt : (bs.length : Int) - J < n
      · have HR := Lib.hid (hrd.trans (if_pos hlt))
        clear hrd
        go_enter Try.func16, Try.ntmps16
        go_wp2_with fail
        refine U1.out.mono ?_
        rintro e w1 ⟨rfl, rfl⟩
        go_wp2
        go_ret3
        exact ⟨by rw [HR.out]; rfl, Below.refl _ _⟩
      · rw [if_neg hlt] at hrd
        obtain ⟨b, off, rfl, hc⟩ : ∃ b off, a = some ⟨b, off, none⟩ ∧ ∀ i, i < bs.length → w.cell? ⟨b, off + i, none⟩ = some (.int .u8 ((bs.getD i 0 : Nat) : Int)) := by
          rcases hB.2 with rfl | h0
          · simp at p3; omega
          · exact h0
        have hnJ : J + n ≤ bs.length := by omega
        have hlen : ((bs.drop J).take n).length = n := by simp; omega
        have hlt256 : ∀ c ∈ (bs.drop J).take n, c < 256 := fun c hc => hB.1 c (List.mem_of_mem_drop (List.mem_of_mem_take hc))
        have hnbs := nb_strN _ hlt256
        have hW := Well_any (strN ((bs.drop J).take n)) (by rw [size_strN, hlen]; omega) w
        rw [hnbs] at hW
        have hbt : n = 0 ∨ Bts w (some ⟨b, off + J, none⟩) ((bs.drop J).take n) := by
          by_cases h0 : n = 0
          · exact .inl h0
          · refine .inr ⟨hlt256, .inr ⟨b, off + J, rfl, fun i hi => ?_⟩⟩
            rw [hlen] at hi
            have := hc (J + i) (by omega)
            rw [← Nat.add_assoc] at this
            rw [this]
            simp [List.getD_eq_getElem?_getD, hi]
        have hrun1 : (convert 22 9 (.slice (some ⟨b, off + J, none⟩) n (cap - J))).run Try.prog w = .ok (.string (strN ((bs.drop J).take n))) w := by
          rcases hbt with h0 | h0
          · subst h0
            have := run_str (w := w) (a := some ⟨b, off + J, none⟩) (l := []) ⟨by simp, .inl rfl⟩ (cap - J)
            simpa using this
          · have := run_str h0 (cap - J)
            rw [hlen] at this; exact this
        have hrun2 : n = 0 → (convert 22 9 (.slice (some ⟨b, off, none⟩) 0 0)).run Try.prog w = .ok (.string (strN ((bs.drop J).take n))) w := by
          intro h0
          subst h0
          have := run_str (w := w) (a := some ⟨b, off, none⟩) (l := []) ⟨by simp, .inl rfl⟩ 0
          simpa using this
        generalize (bs.drop J).take n = S at *
        have HW := Lib.hid hW
        have HRD := Lib.hid hrd
        have HRUN1 := Lib.hid hrun1
        have HRUN2 := Lib.hid hrun2
        clear hnbs hlt256 hbt hc hlen hW hrd hrun1 hrun2 hB
        clear p4 p5
        by_cases hcj : cap = J
        · have hn0 : n = 0 := by omega
          have hrun := HRUN2.out hn0
          subst hn0 hcj
          by_cases hcs : cnt S < 0
          · have HR := Lib.hid (HRD.out.trans (if_pos hcs))
            rw [show decide (0 ≤ cnt S) = false by simp; omega] at HW
            clear hcs
            go_enter Try.func16, Try.ntmps16
            go_wp2_with fail
            refine U1.out.mono ?_
            rintro e w1 ⟨rfl, rfl⟩
            go_wp2_with fail
            refine HW.out.mono ?_
            rintro e w1 ⟨rfl, hb1⟩
            have B1 := Lib.hid hb1
            clear hb1 hrun
            go_wp2
            go_ret3
            exact ⟨by rw [HR.out]; rfl, B1.out⟩
          · have HR := Lib.hid (HRD.out.trans (if_neg hcs))
            rw [show decide (0 ≤ cnt S) = true by simp; omega] at HW
            clear hcs
            go_enter Try.func16, Try.ntmps16
            go_wp2_with fail
            refine U1.out.mono ?_
            rintro e w1 ⟨rfl, rfl⟩
            go_wp2_with fail
            refine HW.out.mono ?_
            rintro e w1 ⟨rfl, hb1⟩
            have B1 := Lib.hid hb1
            clear hb1 hrun
            go_wp2
            go_ret3
            exact ⟨by rw [HR.out]; simp; rfl, B1.out⟩
        · have hrun := HRUN1.out
          by_cases hcs : cnt S < 0
          · have HR := Lib.hid (HRD.out.trans (if_pos hcs))
            rw [show decide (0 ≤ cnt S) = false by simp; omega] at HW
            clear hcs
            go_enter Try.func16, Try.ntmps16
            go_wp2_with fail
            refine U1.out.mono ?_
            rintro e w1 ⟨rfl, rfl⟩
            go_wp2_with fail
            refine HW.out.mono ?_
            rintro e w1 ⟨rfl, hb1⟩
            have B1 := Lib.hid hb1
            clear hb1 hrun
            go_wp2
            go_ret3
            exact ⟨by rw [HR.out]; rfl, B1.out⟩
          · have HR := Lib.hid (HRD.out.trans (if_neg hcs))
            rw [show decide (0 ≤ cnt S) = true by simp; omega] at HW
            clear hcs
            go_enter Try.func16, Try.ntmps16
            go_wp2_with fail
            refine U1.out.mono ?_
            rintro e w1 ⟨rfl, rfl⟩
            go_wp2_with fail
            refine HW.out.mono ?_
            rintro e w1 ⟨rfl, hb1⟩
            have B1 := Lib.hid hb1
            clear hb1 hrun
            go_wp2
            go_ret3
            exact ⟨by rw [HR.out]; rfl, B1.out⟩
    · have HR := Lib.hid (hrd.trans (if_pos he))
      have heb : ((er : Int) != 0) = true := by simp; omega
      clear hrd
      go_enter Try.func16, Try.ntmps16
      go_wp2_with fail
      refine U1.out.mono ?_
      rintro e w1 ⟨rfl, rfl⟩
      go_wp2
      go_ret3
      exact ⟨by rw [HR.out]; rfl, Below.refl _ _⟩
end Go.Proofs.Ytbaihhkcnlhdmaa
