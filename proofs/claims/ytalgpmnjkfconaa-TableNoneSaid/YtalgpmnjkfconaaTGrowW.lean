/- Clone and Grow of a table. -/
import Derived.Test.YtalgpmnjkfconaaTInitW
namespace Go.Proofs.Ytalgpmnjkfconaa
open Go.RowKit Go.Deep Go.Instr

theorem Own_row {w : World} {B n : Nat} {v : Value} {f : Nat → Nat} (h : U.Own w B v (part f 0 n)) (hn : 1 ≤ n) :
    ∃ g c F, v = .slice (some ⟨g, 0, none⟩) n c ∧ B ≤ g ∧ g < w.heap.size ∧ n ≤ c ∧ w.rowIs g 22 c F ∧ ∀ i, i < n → F i = .int .u64 (f i : Int) := by
  rcases h.2 with ⟨hv, hx⟩ | ⟨g, cap, cur, hv, hg, hh, hm, r1, r2, r3⟩
  · rw [len_part] at hx; omega
  · rw [len_part] at hv hm r3
    refine ⟨g, cap, fun i => cur[i]?.getD undef, hv, hg, (Array.getElem?_eq_some_iff.1 hh).1, hm, ⟨cur, hh, by omega, fun i hi => ?_⟩, fun i hi => ?_⟩
    · have : i < cur.size := by omega
      simp [this]
    · have h1 : (U.cellsOf (part f 0 n))[i]? = some (.int .u64 ((f i : Nat) : Int)) := by
        rw [U.getElem?_cellsOf _ _ (by rw [len_part]; exact hi), part_at _ _ _ _ hi, Nat.zero_add]
      rw [← r3, List.getElem?_take, if_pos (by omega), Array.getElem?_toList] at h1
      show cur[i]?.getD undef = _
      rw [h1]; rfl

set_option maxRecDepth 100000 in
set_option maxHeartbeats 1000000 in
theorem TClone_any {w : World} {p g n c : Nat} {hm : Bool} {mn mx : Nat} {f : Nat → Nat} (h : TabIs w p g n c hm mn mx f) (hn : 1 ≤ n) :
    Calls Try.prog 23 #[.pointer (some ⟨p, 0, none⟩)] w fun e w' => ∃ p2 g2 c2, e = .returned (.pointer (some ⟨p2, 0, none⟩)) ∧ TabIs w' p2 g2 n c2 hm mn mx f ∧ w.heap.size ≤ p2 ∧ w.heap.size ≤ g2 ∧ Below w.heap.size w w' := by
  have hl := len_part f 0 n
  have hbig := h.big
  have HC := U.Clone_any ⟨g, 0, none⟩ n c (part f 0 n) hl.symm w.drew h.bts (by omega)
  have HC := Lib.hid HC
  have H := Lib.hid h
  have c0 := h.c0
  have c1 := h.c1
  have c2 := h.c2
  have c3 := h.c3
  have c4 := h.c4
  have c5 := h.c5
  have c6 := h.c6
  have c7 := h.c7
  have c8 := h.c8
  clear h hl
  go_enter Try.func23, Try.ntmps23
  go_upto_region 3 with fail
  go_region_with (go_at_call 38; refine HC.out.mono ?_; rintro e w3 ⟨v, rfl, o3, b3⟩; (
      obtain ⟨g2, c2', F, rfl, hg2, hl2, hr2, row2, hF2⟩ := Own_row o3 hn
      have K := H.out.kept (w' := w3) (show Below w.heap.size w w3 from (Below_drew _ w).trans b3)
      have k0 := K.c0
      have k1 := K.c1
      have k2 := K.c2
      have k3 := K.c3
      have k4 := K.c4
      have k5 := K.c5
      have k6 := K.c6
      have k7 := K.c7
      have k8 := K.c8
      have R3 := Lib.hid (TabIs_made w3 g2 n c2' hm mn mx f ⟨F, row2, hF2⟩ hl2 hr2 hbig K.lt)
      have BB := Lib.hid (show Below w.heap.size w w3 from (Below_drew _ w).trans b3)
      have HG := Lib.hid (show w.heap.size ≤ g2 from hg2)
      clear o3 b3 hg2 hl2 hr2 row2 hF2 K))
  all_goals go_wp2
  all_goals go_ret
  all_goals exact ⟨w3.heap.size, g2, c2', rfl, R3.out, BB.out.size, HG.out, BB.out.alloc BB.out.size _⟩

theorem TabIs.regrown {w w4 : World} {p g n c : Nat} {hm : Bool} {mn mx : Nat} {f f' : Nat → Nat} {F : Nat → Value} {g' n' : Nat} (h : TabIs w p g n c hm mn mx f) (e : w4.heap[p]? = w.heap[p]?) (hp : p ≠ g')
    (r : w4.rowIs g' 22 n' F) (hF : ∀ j, j < n' → F j = .int .u64 ((f' j : Nat) : Int)) (hl : ∀ j, f' j < 18446744073709551616) (hb : n' ≤ 10000) :
    TabIs (w4.setCell ⟨p, 8, none⟩ (.slice (some ⟨g', 0, none⟩) n' n')) p g' n' n' hm mn mx f' := by
  have hc : ∀ k, w4.cell? ⟨p, k, none⟩ = w.cell? ⟨p, k, none⟩ := fun k => World.cell?_of_block (w := w) e
  have hne : ∀ k, k ≠ 8 → (⟨p, 8, none⟩ : Addr) ≠ ⟨p, k, none⟩ := fun k hk e => hk (by injection e with _ e2; exact e2.symm)
  refine ⟨?_, ?_, ?_, ?_, ?_, ?_, ?_, ?_, ?_, ?_, ⟨F, r.setOther (fun e => hp e.symm) _, hF⟩, hp, Nat.le_refl _, hb, hl⟩
  · rw [World.cell?_setCell_other (h := hne 0 (by omega)), hc]; exact h.c0
  · rw [World.cell?_setCell_other (h := hne 1 (by omega)), hc]; exact h.c1
  · rw [World.cell?_setCell_other (h := hne 2 (by omega)), hc]; exact h.c2
  · rw [World.cell?_setCell_other (h := hne 3 (by omega)), hc]; exact h.c3
  · rw [World.cell?_setCell_other (h := hne 4 (by omega)), hc]; exact h.c4
  · rw [World.cell?_setCell_other (h := hne 5 (by omega)), hc]; exact h.c5
  · rw [World.cell?_setCell_other (h := hne 6 (by omega)), hc]; exact h.c6
  · rw [World.cell?_setCell_other (h := hne 7 (by omega)), hc]; exact h.c7
  · exact World.cell?_setCell_same (h := (hc 8).trans h.c8) ..
  · rw [World.frozen?_setCell]; exact (World.frozen?_of_block (w := w) e).trans h.z8

set_option maxRecDepth 100000 in
theorem TGrow_no {w : World} {p g n c : Nat} {mn mx : Nat} {f : Nat → Nat} (h : TabIs w p g n c true mn mx f) (k x : Nat) (hk : k + n ≤ 10000) (hno : mx < n + k) (hmx : mx < 18446744073709551616) :
    Calls Try.prog 27 #[.pointer (some ⟨p, 0, none⟩), .int .u64 k, .int .u64 x] w fun e w' => e = .returned (.tuple #[.int .u64 0, .bool false]) ∧ w = w' := by
  have hc5 := h.c5
  have hc6 := h.c6
  have hc7 := h.c7
  have HS := Lib.hid (TSize_any h)
  clear h
  go_enter Try.func27, Try.ntmps27
  go_wp2_with fail
  refine HS.out.mono ?_
  rintro e w1 ⟨rfl, rfl⟩
  go_wp2
  go_ret2
  exact ⟨rfl, rfl⟩
set_option maxRecDepth 100000 in
set_option maxHeartbeats 1000000 in
theorem TGrow_ok {w : World} {p g n c : Nat} {mn mx : Nat} {f : Nat → Nat} (h : TabIs w p g n c true mn mx f) (k x : Nat) (hk1 : 1 ≤ k) (hk : n + k ≤ 10000) (hyes : n + k ≤ mx) (hx : x < 18446744073709551616) :
    Calls Try.prog 27 #[.pointer (some ⟨p, 0, none⟩), .int .u64 k, .int .u64 x] w fun e w' => e = .returned (.tuple #[.int .u64 n, .bool true]) ∧
      TabIs w' p w.heap.size (n + k) (n + k) true mn mx (fun j => if j < n then f j else x) ∧ Touch p w w' := by
  have hc5 := h.c5
  have hc6 := h.c6
  have hc7 := h.c7
  have hc8 := h.c8
  have hz8 := h.z8
  have HS := Lib.hid (TSize_any h)
  have HT := Lib.hid h
  have hmk := run_make_row' (P := Try.prog) 47 22 (.int .u64 0) 8 Try.underlying47 U.info22 rfl .u64 .u64 (n + k) (by omega) (by omega)
  rw [show ((n + k : Nat) : Int) = (n : Int) + (k : Int) by omega] at hmk
  have HX := Lib.hid hx
  have HY := Lib.hid hk
  have HB := Lib.hid h.big
  obtain ⟨C, hC⟩ : ∃ C : List Value, C = (part f 0 n).map fun (c : Nat) => Value.int .u64 (c : Int) := ⟨_, rfl⟩
  have hCl : C.length = n := by rw [hC, List.length_map, len_part]
  have hC1 : ∀ v ∈ C, v.oneCell' = true := by
    intro v hv
    rw [hC] at hv
    obtain ⟨i, _, rfl⟩ := List.mem_map.1 hv
    rfl
  have hat : ∀ j, j < n → C[j]? = some (.int .u64 (f j : Int)) := by
    intro j hj
    rw [hC, List.getElem?_map]
    have := part_at f 0 n j hj
    rw [List.getD_eq_getElem?_getD, List.getElem?_eq_getElem (by rw [len_part]; exact hj)] at this
    rw [List.getElem?_eq_getElem (by rw [len_part]; exact hj)]
    simp at this ⊢
    rw [this]
  have hsrc : ∀ j v, C[j]? = some v → (w.alloc (.cells (madeCells #[.int .u64 0] (n + k)) 22)).cell? ((⟨g, 0, none⟩ : Addr).add j) = some v := by
    intro j v hv
    obtain ⟨hj, _⟩ := List.getElem?_eq_some_iff.1 hv
    rw [hCl] at hj
    rw [hat j hj] at hv
    rw [Addr.add_lit, World.cell?_alloc_past _ _ _ HT.out.glt, Nat.zero_add, HT.out.cell hj]
    exact hv
  have hover : ∀ j, j < n → over (fun _ => .int .u64 0) 0 C j = .int .u64 (f j : Int) := by
    intro j hj
    unfold over
    rw [if_pos (by omega), Nat.sub_zero, List.getD_eq_getElem?_getD, hat j hj]
    rfl
  have HL := Lib.hid hCl
  have H1 := Lib.hid hC1
  have HSRC := Lib.hid hsrc
  have HOV := Lib.hid hover
  have ROW := Lib.hid (World.rowIs_made w (.int .u64 0) (n + k) 22)
  have HMIN := Lib.hid (Nat.min_eq_left (show n ≤ n + k by omega)).symm
  have w1 : IntKind.u64.wrap ((n : Int) + (k : Int)) = (n : Int) + (k : Int) := by rw [IntKind.wrap_u64]; omega
  obtain ⟨W0, hW0⟩ : ∃ W0, W0 = w.alloc (.cells (madeCells #[.int .u64 0] (n + k)) 22) := ⟨_, rfl⟩
  have HW := Lib.hid hW0
  have hp := h.lt_size
  have hblk : ∀ w4, Touch w.heap.size W0 w4 → w4.heap[p]? = w.heap[p]? := by
    intro w4 t
    subst hW0
    exact (t.block p (by simp; omega) (by omega)).trans (Below.heap_alloc w _ p hp)
  have HBLK := Lib.hid hblk
  have htp : ∀ w4, Touch w.heap.size W0 w4 → Touch p w w4 := by
    intro w4 t
    subst hW0
    exact ⟨t.os, t.tape, t.output, Nat.le_trans (by simp) t.size, fun q hq _ => (t.block q (by simp; omega) (by omega)).trans (Below.heap_alloc w _ q hq)⟩
  have HTP := Lib.hid htp
  have HP := Lib.hid hp
  have c1 : decide ((10000 : Int) - (n : Int) < (k : Int)) = false := by simp; omega
  have c2 : decide ((mx : Int) < (n : Int) + (k : Int)) = false := by simp; omega
  have c3 : ((k : Int) == 0) = false := by simp; omega
  clear hC hCl hC1 hat hsrc hover h hx hW0 hblk htp
  go_enter Try.func27, Try.ntmps27
  go_wp2_with fail
  refine HS.out.mono ?_
  rintro e w1 ⟨rfl, rfl⟩
  go_wp2_with (refine wpList_copyR rfl (.tmp 44) (.tmp 48) 47 22 rfl Try.underlying47 sz22 w.heap.size 0 _ _ ROW.out _ _ _ _ _ _ rfl rfl C ?_ ?_ ?_ H1.out ?_; (rw [HL.out]; exact HMIN.out); (intro _; exact ⟨rfl, _, rfl, HSRC.out⟩); (rw [HL.out]; omega); rw [← HW.out]; intro w4 r4 t4; have R4 := Lib.hid r4; have T4 := Lib.hid t4; clear r4 t4)
  clear hmk
  go_wp2
  go_loopw [10] (fun b wr => ∃ (i : Nat) (F : Nat → Value), b = .int .u64 (i : Int) ∧ n ≤ i ∧ i ≤ n + k ∧ wr.rowIs w.heap.size 22 (n + k) F ∧ (∀ j, j < i → F j = .int .u64 ((if j < n then f j else x : Nat) : Int)) ∧ Touch w.heap.size W0 wr) (fun b _ => n + k - (intOf b).toNat)
  case atStart =>
    refine ⟨n, _, rfl, Nat.le_refl _, by omega, R4.out, fun j hj => ?_, T4.out⟩
    rw [HOV.out j hj, if_pos hj]
  case round =>
    obtain ⟨i, F, rfl, hi1, hi2, r5, hF, t5⟩ := hrel
    have R5 := Lib.hid r5
    have HF := Lib.hid hF
    have T5 := Lib.hid t5
    clear r5 hF t5 R4 T4
    by_cases hlt : i < n + k
    · have hcell := R5.out.cell hlt
      have hfr := R5.out.frozen i
      have w2 : IntKind.u64.wrap ((i : Int) + 1) = (i : Int) + 1 := by have := HY.out; rw [IntKind.wrap_u64]; omega
      have HST := Lib.hid (R5.out.set i (.int .u64 (x : Int)))
      have HF2 : ∀ j, j < i + 1 → (fun j => if j = i then Value.int .u64 (x : Int) else F j) j = .int .u64 ((if j < n then f j else x : Nat) : Int) := by
        intro j hj
        by_cases e : j = i
        · simp only [if_pos e]; rw [if_neg (by omega)]
        · simp only [if_neg e]; exact HF.out j (by omega)
      have HF2 := Lib.hid HF2
      go_wp2
      go_roundw
      case rel => exact ⟨i + 1, _, by go_num, by omega, by omega, HST.out, HF2.out, T5.out.setCell rfl _⟩
      case measure => simp [intOf]; omega
    · have hik : i = n + k := by omega
      subst hik
      have hb := HBLK.out wr T5.out
      have hc9 : wr.cell? ⟨p, 8, none⟩ = some (.slice (some ⟨g, 0, none⟩) n c) := (World.cell?_of_block (w := w) hb).trans hc8
      have hz9 : wr.frozen? ⟨p, 8, none⟩ = false := (World.frozen?_of_block (w := w) hb).trans hz8
      have FIN := Lib.hid (HT.out.regrown (f' := fun j => if j < n then f j else x) hb (by omega) R5.out HF.out (fun j => by have := HT.out.lt j; have := HX.out; by_cases e : j < n <;> simp [e] <;> omega) (by omega))
      have FT := Lib.hid ((HTP.out wr T5.out).setCell (q := ⟨p, 8, none⟩) rfl (.slice (some ⟨w.heap.size, 0, none⟩) (n + k) (n + k)))
      clear hb
      go_wp2
      go_ret2
      exact ⟨rfl, FIN.out, FT.out⟩
end Go.Proofs.Ytalgpmnjkfconaa
