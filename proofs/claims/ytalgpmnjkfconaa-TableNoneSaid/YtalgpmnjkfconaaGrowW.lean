/- Grow. -/
import Derived.Test.YtalgpmnjkfconaaFillW
namespace Go.Proofs.Ytalgpmnjkfconaa
open Go.RowKit Go.Deep

set_option maxRecDepth 100000 in
set_option maxHeartbeats 1000000 in
theorem Grow_no {w : World} {p g n : Nat} {wd : Bool} {mn mx : Nat} {f : Nat → Nat} (h : MemIs w p g n wd true mn mx f) (k : Nat) (hk : k + n / 65536 ≤ 32) (hno : mx < n / 65536 + k) (hmx : mx < 18446744073709551616) :
    Calls Try.prog 13 #[.pointer (some ⟨p, 0, none⟩), .int .u64 k] w fun e w' => e = .returned (.tuple #[.int .u64 0, .bool false]) ∧ w = w' := by
  have hc := h.c4
  have hc2 := h.c2
  have hc3 := h.c3
  have hS := Lib.hid (Size_any h)
  generalize n / 65536 = had at *
  clear h
  go_enter Try.func13, Try.ntmps13
  go_wp2_with fail
  refine hS.out.mono ?_
  rintro e w1 ⟨rfl, rfl⟩
  go_wp2
  go_ret2
  exact ⟨rfl, rfl⟩

theorem MemIs.grown {w w4 : World} {p g n : Nat} {wd hm : Bool} {mn mx : Nat} {f f' : Nat → Nat} {F : Nat → Value} {n' : Nat} (h : MemIs w p g n wd hm mn mx f) (hp : p < w.heap.size) (o : Obj) (t : Touch w.heap.size (w.alloc o) w4)
    (r : w4.rowIs w.heap.size 5 n' F) (hF : ∀ j, j < n' → F j = .int .u8 ((f' j : Nat) : Int)) (hl : ∀ j, f' j < 256) (hb : n' ≤ 2097152) :
    MemIs (w4.setCell ⟨p, 4, none⟩ (.slice (some ⟨w.heap.size, 0, none⟩) n' n')) p w.heap.size n' wd hm mn mx f' ∧ Touch p w (w4.setCell ⟨p, 4, none⟩ (.slice (some ⟨w.heap.size, 0, none⟩) n' n')) := by
  have e := (t.block p (by simp; omega) (by omega)).trans (Below.heap_alloc w o p hp)
  have hc : ∀ k, w4.cell? ⟨p, k, none⟩ = w.cell? ⟨p, k, none⟩ := fun k => World.cell?_of_block (w := w) e
  have hne : ∀ k, k ≠ 4 → (⟨p, 4, none⟩ : Addr) ≠ ⟨p, k, none⟩ := fun k hk e => hk (by injection e with _ e2; exact e2.symm)
  refine ⟨⟨?_, ?_, ?_, ?_, ?_, ?_, (r.setOther (by show w.heap.size ≠ p; omega) _).congr hF, hl, by omega, hb⟩, ?_⟩
  · rw [World.cell?_setCell_other (h := hne 0 (by omega)), hc]; exact h.c0
  · rw [World.cell?_setCell_other (h := hne 1 (by omega)), hc]; exact h.c1
  · rw [World.cell?_setCell_other (h := hne 2 (by omega)), hc]; exact h.c2
  · rw [World.cell?_setCell_other (h := hne 3 (by omega)), hc]; exact h.c3
  · exact World.cell?_setCell_same (h := (hc 4).trans h.c4) ..
  · rw [World.frozen?_setCell]; exact (World.frozen?_of_block (w := w) e).trans h.z4
  · have ht : Touch p w w4 := ⟨t.os, t.tape, t.output, Nat.le_trans (by simp) t.size, fun k hk _ => (t.block k (by simp; omega) (by omega)).trans (Below.heap_alloc w o k hk)⟩
    exact ht.setCell rfl _

set_option maxRecDepth 100000 in
set_option maxHeartbeats 1000000 in
theorem Grow_ok {w : World} {p g H : Nat} {wd : Bool} {mn mx : Nat} {f : Nat → Nat} (h : MemIs w p g (H * 65536) wd true mn mx f) (k : Nat) (hk1 : 1 ≤ k) (hk : H + k ≤ 32) (hyes : H + k ≤ mx) :
    Calls Try.prog 13 #[.pointer (some ⟨p, 0, none⟩), .int .u64 k] w fun e w' => e = .returned (.tuple #[.int .u64 H, .bool true]) ∧
      MemIs w' p w.heap.size ((H + k) * 65536) wd true mn mx (fun j => if j < H * 65536 then f j else 0) ∧ Touch p w w' := by
  have hc := h.c4
  have hc2 := h.c2
  have hc3 := h.c3
  have hz4 := h.z4
  have hS := Size_any h
  rw [show H * 65536 / 65536 = H by omega] at hS
  have hS := Lib.hid hS
  have HM := Lib.hid h
  have hmk := run_make_row' (P := Try.prog) 31 5 (.int .u8 0) 1 Try.underlying31 info5 rfl .u64 .u64 ((H + k) * 65536) (by omega) (by omega)
  rw [show (((H + k) * 65536 : Nat) : Int) = ((H : Int) + (k : Int)) * 65536 by omega] at hmk
  clear h
  go_enter Try.func13, Try.ntmps13
  go_wp2_with fail
  refine hS.out.mono ?_
  rintro e w1 ⟨rfl, rfl⟩
  have hp := HM.out.lt_size
  obtain ⟨C, hC⟩ : ∃ C : List Value, C = (part f 0 (H * 65536)).map fun (c : Nat) => Value.int .u8 (c : Int) := ⟨_, rfl⟩
  have hCl : C.length = H * 65536 := by rw [hC, List.length_map, len_part]
  have hC1 : ∀ v ∈ C, v.oneCell' = true := by
    intro v hv
    rw [hC] at hv
    obtain ⟨i, _, rfl⟩ := List.mem_map.1 hv
    rfl
  have hsrc : ∀ j v, C[j]? = some v → (w.alloc (.cells (madeCells #[.int .u8 0] ((H + k) * 65536)) 5)).cell? ((⟨g, 0, none⟩ : Addr).add j) = some v := by
    intro j v hv
    rw [hC, List.getElem?_map] at hv
    obtain ⟨c, hc, rfl⟩ := Option.map_eq_some_iff.1 hv
    obtain ⟨hj, hc'⟩ := List.getElem?_eq_some_iff.1 hc
    rw [len_part] at hj
    have hgl := (HM.out.row).lt
    rw [Addr.add_lit, World.cell?_alloc_past _ _ _ hgl, Nat.zero_add, HM.out.row.cell hj]
    have := part_at f 0 (H * 65536) j hj
    rw [List.getD_eq_getElem?_getD, hc] at this
    simp at this
    rw [this]
  have HL := Lib.hid hCl
  have H1 := Lib.hid hC1
  have HSRC := Lib.hid hsrc
  have ROW := Lib.hid (World.rowIs_made w (.int .u8 0) ((H + k) * 65536) 5)
  have hover : ∀ j, j < (H + k) * 65536 → over (fun _ => .int .u8 0) 0 C j = .int .u8 (((if j < H * 65536 then f j else 0 : Nat)) : Int) := by
    intro j hj
    unfold over
    rw [hCl]
    by_cases hh : j < H * 65536
    · rw [if_pos (by omega), if_pos hh, hC, List.getD_eq_getElem?_getD, List.getElem?_map, Nat.sub_zero]
      have := part_at f 0 (H * 65536) j hh
      rw [List.getD_eq_getElem?_getD] at this
      rw [List.getElem?_eq_getElem (by rw [len_part]; exact hh)] at this ⊢
      simp at this ⊢
      rw [this]
    · rw [if_neg (by omega), if_neg hh]; rfl
  have HOV := Lib.hid hover
  have hmin : H * 65536 = Nat.min (H * 65536) ((H + k) * 65536) := (Nat.min_eq_left (by omega)).symm
  have h4 : ∀ w4, Touch w.heap.size (w.alloc (.cells (madeCells #[.int .u8 0] ((H + k) * 65536)) 5)) w4 → w4.cell? ⟨p, 4, none⟩ = some (.slice (some ⟨g, 0, none⟩) (H * 65536) (H * 65536)) ∧ w4.frozen? ⟨p, 4, none⟩ = false := by
    intro w4 t
    have e := (t.block p (by simp; omega) (by omega)).trans (Below.heap_alloc w _ p hp)
    exact ⟨(World.cell?_of_block (w := w) e).trans HM.out.c4, (World.frozen?_of_block (w := w) e).trans HM.out.z4⟩
  have HMIN := Lib.hid hmin
  have H4 := Lib.hid h4
  clear hC hCl hC1 hsrc hover hmin h4
  go_wp2_with (refine wpList_copyR rfl (.tmp 40) (.tmp 44) 31 5 rfl Try.underlying31 sz5 w.heap.size 0 _ _ ROW.out _ _ _ _ _ _ rfl rfl C ?_ ?_ ?_ H1.out ?_; (rw [HL.out]; exact HMIN.out); (intro _; exact ⟨rfl, _, rfl, HSRC.out⟩); (rw [HL.out]; omega); intro w4 r4 t4; have R4 := Lib.hid r4; have T4 := Lib.hid t4; have hc4 := (H4.out w4 t4).1; have hf4 := (H4.out w4 t4).2; clear r4 t4)
  have hfin := HM.out.grown hp _ T4.out R4.out (f' := fun j => if j < H * 65536 then f j else 0) HOV.out (fun j => by by_cases hh : j < H * 65536 <;> simp [hh]; exact HM.out.lt j) (by omega)
  go_ret2
  exact ⟨rfl, hfin.1, hfin.2⟩
end Go.Proofs.Ytalgpmnjkfconaa
