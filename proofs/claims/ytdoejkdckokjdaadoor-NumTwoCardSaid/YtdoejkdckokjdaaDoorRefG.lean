/- geoderef03.Two: the operations that go bit by bit. -/
import Derived.Test.YtdoejkdckokjdaaDoorRefE
import Derived.Test.YtdoejkdckokjdaaDoorRefF
import Derived.Deep.OwnRows
import Derived.Deep.RegionHeld3
namespace Go.Proofs.YtdoejkdckokjdaaDoor
open Go.RowKit

/-- the row that is written: the first i places are the digits, the others 0 -/
def OutIs (w : World) (g W i : Nat) (f : Nat → Nat) : Prop := (∀ j, j < W → w.cell? ⟨g, j, none⟩ = some (.int .i64 ((if j < i then f j else 0 : Nat) : Int))) ∧ ∀ j, w.frozen? ⟨g, j, none⟩ = false
theorem w64e (z : Int) (n : Nat) (e : z = (n : Int)) (h : n < 9223372036854775808) : wrap64 z = (n : Int) := by subst e; unfold wrap64; omega
theorem OutIs.new (w : World) (W : Nat) (f : Nat → Nat) : OutIs (w.alloc (.cells (madeCells #[.int .i64 0] W) 3)) w.heap.size W 0 f := by
  refine ⟨fun j hj => ?_, fun j => by simp⟩
  rw [World.cell?_alloc_at _ _ _ _ rfl, if_neg (by omega), ← Array.getElem?_toList, toList_madeCells_one, List.getElem?_replicate, if_pos hj]
  rfl
theorem OutIs.step {w : World} {g W i : Nat} {f : Nat → Nat} (h : OutIs w g W i f) (hi : i < W) {v : Int} (hv : v = (f i : Int)) : OutIs (w.setCell ⟨g, i, none⟩ (.int .i64 v)) g W (i + 1) f := by
  refine ⟨fun j hj => ?_, fun j => by rw [World.frozen?_setCell]; exact h.2 j⟩
  by_cases e : j = i
  · subst e
    rw [World.cell?_setCell_same w ⟨g, j, none⟩ _ (h.1 j hj), if_pos (by omega), hv]
  · rw [World.cell?_setCell_other w ⟨g, i, none⟩ ⟨g, j, none⟩ _ (fun hh => e (by injection hh with _ h2; exact h2.symm)), h.1 j hj]
    by_cases hl : j < i
    · rw [if_pos hl, if_pos (by omega)]
    · rw [if_neg hl, if_neg (by omega)]
theorem OutIs.skip {w : World} {g W i : Nat} {f : Nat → Nat} (h : OutIs w g W i f) (hv : f i = 0) : OutIs w g W (i + 1) f := by
  refine ⟨fun j hj => ?_, h.2⟩
  rw [h.1 j hj]
  by_cases e : j = i
  · subst e
    rw [if_neg (by omega), if_pos (by omega), hv]
  · by_cases hl : j < i
    · rw [if_pos hl, if_pos (by omega)]
    · rw [if_neg hl, if_neg (by omega)]
theorem OutIs.drew {w : World} {g W i : Nat} {f : Nat → Nat} (h : OutIs w g W i f) : OutIs w.drew g W i f := h
theorem OutIs.row {w : World} {g W : Nat} {f : Nat → Nat} (h : OutIs w g W W f) : Row w g ((List.range W).map f) := by
  intro j u hu
  rw [List.getElem?_map] at hu
  obtain ⟨x, hx, rfl⟩ := Option.map_eq_some_iff.1 hu
  obtain ⟨hj, e⟩ := List.getElem?_eq_some_iff.1 hx
  rw [List.length_range] at hj
  rw [List.getElem_range] at e
  subst e
  rw [h.1 _ hj, if_pos hj]

set_option maxRecDepth 100000 in
set_option maxHeartbeats 8000000 in
theorem TwoR_21 {W M : Nat} (h : Wd W M) (op : Int) (a b T : Nat) (ha : a < M) (hb : b < M) (w : World) (hOf : Ofs op (27, W, T, 2) w) :
    Calls Tryd.prog 11 #[.int .i64 op, .int .u64 a, .int .u64 b] w fun e w' => e = .returned (.tuple #[.int .u64 (((bin 21 W M a b).1 : Nat) : Int), .int .i64 0]) ∧ Below w.heap.size w w' := by
  have HOF := Lib.hid hOf
  have hW := h.lt
  have F1 := fun w => Fits_ref a W (by omega) (by omega) (by omega) w
  rw [fits_wd h, decide_eq_true ha] at F1
  have F2 := fun w => Fits_ref b W (by omega) (by omega) (by omega) w
  rw [fits_wd h, decide_eq_true hb] at F2
  have F1 := Lib.hid F1
  have F2 := Lib.hid F2
  have BA := Lib.hid (fun w => Bits_ref a W (by omega) (by omega) w)
  have BB := Lib.hid (fun w => Bits_ref b W (by omega) (by omega) w)
  have HD := Lib.hid h
  have HA := Lib.hid (And.intro ha (And.intro hb hW))
  obtain ⟨k, hk⟩ : ∃ k, k = b % W := ⟨_, rfl⟩
  have hkW : k < W := by rw [hk]; exact Nat.mod_lt _ (by omega)
  have h0 : ¬ W = 0 := by omega
  have hq : (b : Int).tmod (W : Int) = (k : Int) := by rw [hk, Int.tmod_eq_emod_of_nonneg (by omega)]; exact (Int.natCast_emod b W).symm
  have hw : IntKind.u64.wrap (W : Int) = (W : Int) := by rw [IntKind.wrap_u64]; omega
  have HK64 := Lib.hid (w64e (k : Int) k rfl (by omega))
  have hmk := run_make_row' (P := Tryd.prog) 54 3 (.int .i64 0) 8 Tryd.underlying54 info3 rfl .i64 .i64 W (by omega) (by omega)
  have HK := Lib.hid (And.intro hk hkW)
  clear hOf h hW ha hb hk
  go_enter Tryd.func11, Tryd.ntmps11
  go_wp2_with fail
  refine HOF.out.mono ?_
  rintro e w1 ⟨rfl, b1⟩
  have B := Lib.hid b1
  clear b1
  go_wp2_with fail
  refine (F1.out _).mono ?_
  rintro e w2 ⟨rfl, b1⟩
  have cc : ∀ j, w2.cell? ⟨w1.heap.size, j, none⟩ = (w1.alloc (.cells #[.int .i64 27, .int .i64 (W : Nat), .int .i64 (T : Nat), .int .i64 2] 39)).cell? ⟨w1.heap.size, j, none⟩ := fun j => b1.cell (p := ⟨w1.heap.size, j, none⟩) (by simp)
  have c0 : w2.cell? ⟨w1.heap.size, 0, none⟩ = some (.int .i64 27) := (cc 0).trans (World.cell?_alloc_at _ _ _ _ rfl)
  have B2 := Lib.hid ((B.out.alloc B.out.size (.cells #[.int .i64 27, .int .i64 (W : Nat), .int .i64 (T : Nat), .int .i64 2] 39)).trans (b1.mono (by have := B.out.size; simp; omega)))
  clear b1 cc B
  generalize w1.heap.size = bx at *
  go_wp2_with fail
  refine (F2.out _).mono ?_
  rintro e w3 ⟨rfl, b1⟩
  have d0 := (b1.cell (p := ⟨bx, 0, none⟩) (block_lt_of_cell c0)).trans c0
  have B3 := Lib.hid (B2.out.trans (b1.mono B2.out.size))
  clear b1 c0 B2
  go_wp2_with fail
  refine (BA.out _).mono ?_
  rintro e w4 ⟨v, rfl, o1, b1⟩
  obtain ⟨g1, cap1, rfl⟩ := o1.form (by rw [bitsL_len]; have := HA.out; omega)
  have row1 := o1.row rfl
  have e0 := (b1.cell (p := ⟨bx, 0, none⟩) (block_lt_of_cell d0)).trans d0
  have B4 := Lib.hid (B3.out.trans (b1.mono B3.out.size))
  clear b1 d0 B3 o1
  rw [bitsL_len]
  have R1 := Lib.hid row1
  clear row1
  go_wp2_with fail
  refine (BB.out _).mono ?_
  rintro e w5 ⟨v, rfl, o1, b1⟩
  obtain ⟨g2, cap2, rfl⟩ := o1.form (by rw [bitsL_len]; have := HA.out; omega)
  have row1 := o1.row rfl
  have f0 := (b1.cell (p := ⟨bx, 0, none⟩) (block_lt_of_cell e0)).trans e0
  have Q1 := Lib.hid (R1.out.later b1)
  have B5 := Lib.hid (B4.out.trans (b1.mono B4.out.size))
  clear b1 e0 B4 o1 R1
  rw [bitsL_len]
  have Q2 := Lib.hid row1
  clear row1
  have f1 : (w5.alloc (.cells (madeCells #[.int .i64 0] W) 3)).cell? ⟨bx, 0, none⟩ = some (.int .i64 27) := (World.cell?_alloc_lt _ _ _ (block_lt_of_cell f0)).trans f0
  go_wp2_with fail
  rw [HK64.out]
  clear hq hw hmk
  have OI := OutIs.new w5 W (dg 21 W a b k)
  have F5 := Lib.hid f0
  clear f0 f1
  go_loopw [17] (fun c wr => ∃ i : Nat, c = .int .i64 (i : Int) ∧ i ≤ W ∧ OutIs wr w5.heap.size W i (dg 21 W a b k) ∧ Below w5.heap.size w5 wr) (fun c _ => W - (intOf c).toNat)
  case atStart => exact ⟨0, rfl, by omega, OI, (Below.refl _ _).alloc (Nat.le_refl _) _⟩
  clear OI
  case round =>
    obtain ⟨i, rfl, hi, oi, bb⟩ := hrel
    have OI := Lib.hid oi
    have BB5 := Lib.hid bb
    have c0 := (bb.cell (p := ⟨bx, 0, none⟩) (block_lt_of_cell F5.out)).trans F5.out
    have S1 := Lib.hid (Q1.out.later bb)
    have S2 := Lib.hid (Q2.out.later bb)
    clear bb
    by_cases hlt : i < W
    · have hi64 : i < 64 := by have := HA.out; omega
      have hil : (i : Int) < (W : Int) := by omega
      have hold := oi.1 i hlt
      have hfz := oi.2
      rw [if_neg (Nat.lt_irrefl i)] at hold
      clear oi
      have x1 := S1.out i _ (bitsL_get W a i hlt)
      have x2 := S2.out i _ (bitsL_get W b i hlt)
      have l1 := A_le a i
      have l2 := A_le b i
      obtain ⟨x, hx⟩ : ∃ x, x = A a i := ⟨_, rfl⟩
      obtain ⟨y, hy⟩ : ∃ y, y = A b i := ⟨_, rfl⟩
      change wr.cell? _ = some (.int .i64 ((A a i : Nat) : Int)) at x1
      change wr.cell? _ = some (.int .i64 ((A b i : Nat) : Int)) at x2
      rw [← hx] at x1 l1
      rw [← hy] at x2 l2
      obtain ⟨z, hz⟩ : ∃ z : Nat, z = x * y := ⟨_, rfl⟩
      have hdz : dg 21 W a b k i = z := by rw [hz, hx, hy]; rfl
      have NX := Lib.hid (OI.out.step hlt (v := (z : Int)) (by rw [hdz]))
      have NB := Lib.hid (BB5.out.setCell (p := ⟨w5.heap.size, i, none⟩) (Nat.le_refl _) (.int .i64 (z : Int)))
      have hxy : x * y ≤ 1 * 1 := Nat.mul_le_mul l1 l2
      have V1 := Lib.hid (w64e ((x : Int) * (y : Int)) z (by rw [hz, Int.natCast_mul]) (by omega))
      clear hxy
      clear hx hy hz hdz l1 l2
      have oV1 := V1.out
      go_wp2_with fail
      go_region
      go_wp2
      clear oV1
      go_roundw
      case rel => exact ⟨i + 1, by go_num, by omega, NX.out.drew, NB.out.drew⟩
      case measure => simp [intOf]; omega
    · obtain rfl : i = W := by omega
      have D := Num_ref w5.heap.size i i ((List.range i).map (dg 21 i a b k)) (by simp) (by
        intro x hx
        obtain ⟨j, _, rfl⟩ := List.mem_map.1 hx
        exact dg_le _ _ _ _ _ _) (by have := HA.out; omega) wr oi.row
      rw [HK.out.1, dig_num HD.out 21 a b (by omega) (by omega) HA.out.1 HA.out.2.1] at D
      have D := Lib.hid D
      have BF := Lib.hid (B5.out.trans (BB5.out.mono B5.out.size))
      clear oi c0
      go_wp2_with fail
      refine D.out.mono ?_
      rintro e w9 ⟨rfl, rfl⟩
      go_wp2
      go_ret2
      exact ⟨rfl, BF.out⟩

set_option maxRecDepth 100000 in
set_option maxHeartbeats 8000000 in
theorem TwoR_22 {W M : Nat} (h : Wd W M) (op : Int) (a b T : Nat) (ha : a < M) (hb : b < M) (w : World) (hOf : Ofs op (28, W, T, 2) w) :
    Calls Tryd.prog 11 #[.int .i64 op, .int .u64 a, .int .u64 b] w fun e w' => e = .returned (.tuple #[.int .u64 (((bin 22 W M a b).1 : Nat) : Int), .int .i64 0]) ∧ Below w.heap.size w w' := by
  have HOF := Lib.hid hOf
  have hW := h.lt
  have F1 := fun w => Fits_ref a W (by omega) (by omega) (by omega) w
  rw [fits_wd h, decide_eq_true ha] at F1
  have F2 := fun w => Fits_ref b W (by omega) (by omega) (by omega) w
  rw [fits_wd h, decide_eq_true hb] at F2
  have F1 := Lib.hid F1
  have F2 := Lib.hid F2
  have BA := Lib.hid (fun w => Bits_ref a W (by omega) (by omega) w)
  have BB := Lib.hid (fun w => Bits_ref b W (by omega) (by omega) w)
  have HD := Lib.hid h
  have HA := Lib.hid (And.intro ha (And.intro hb hW))
  obtain ⟨k, hk⟩ : ∃ k, k = b % W := ⟨_, rfl⟩
  have hkW : k < W := by rw [hk]; exact Nat.mod_lt _ (by omega)
  have h0 : ¬ W = 0 := by omega
  have hq : (b : Int).tmod (W : Int) = (k : Int) := by rw [hk, Int.tmod_eq_emod_of_nonneg (by omega)]; exact (Int.natCast_emod b W).symm
  have hw : IntKind.u64.wrap (W : Int) = (W : Int) := by rw [IntKind.wrap_u64]; omega
  have HK64 := Lib.hid (w64e (k : Int) k rfl (by omega))
  have hmk := run_make_row' (P := Tryd.prog) 54 3 (.int .i64 0) 8 Tryd.underlying54 info3 rfl .i64 .i64 W (by omega) (by omega)
  have HK := Lib.hid (And.intro hk hkW)
  clear hOf h hW ha hb hk
  go_enter Tryd.func11, Tryd.ntmps11
  go_wp2_with fail
  refine HOF.out.mono ?_
  rintro e w1 ⟨rfl, b1⟩
  have B := Lib.hid b1
  clear b1
  go_wp2_with fail
  refine (F1.out _).mono ?_
  rintro e w2 ⟨rfl, b1⟩
  have cc : ∀ j, w2.cell? ⟨w1.heap.size, j, none⟩ = (w1.alloc (.cells #[.int .i64 28, .int .i64 (W : Nat), .int .i64 (T : Nat), .int .i64 2] 39)).cell? ⟨w1.heap.size, j, none⟩ := fun j => b1.cell (p := ⟨w1.heap.size, j, none⟩) (by simp)
  have c0 : w2.cell? ⟨w1.heap.size, 0, none⟩ = some (.int .i64 28) := (cc 0).trans (World.cell?_alloc_at _ _ _ _ rfl)
  have B2 := Lib.hid ((B.out.alloc B.out.size (.cells #[.int .i64 28, .int .i64 (W : Nat), .int .i64 (T : Nat), .int .i64 2] 39)).trans (b1.mono (by have := B.out.size; simp; omega)))
  clear b1 cc B
  generalize w1.heap.size = bx at *
  go_wp2_with fail
  refine (F2.out _).mono ?_
  rintro e w3 ⟨rfl, b1⟩
  have d0 := (b1.cell (p := ⟨bx, 0, none⟩) (block_lt_of_cell c0)).trans c0
  have B3 := Lib.hid (B2.out.trans (b1.mono B2.out.size))
  clear b1 c0 B2
  go_wp2_with fail
  refine (BA.out _).mono ?_
  rintro e w4 ⟨v, rfl, o1, b1⟩
  obtain ⟨g1, cap1, rfl⟩ := o1.form (by rw [bitsL_len]; have := HA.out; omega)
  have row1 := o1.row rfl
  have e0 := (b1.cell (p := ⟨bx, 0, none⟩) (block_lt_of_cell d0)).trans d0
  have B4 := Lib.hid (B3.out.trans (b1.mono B3.out.size))
  clear b1 d0 B3 o1
  rw [bitsL_len]
  have R1 := Lib.hid row1
  clear row1
  go_wp2_with fail
  refine (BB.out _).mono ?_
  rintro e w5 ⟨v, rfl, o1, b1⟩
  obtain ⟨g2, cap2, rfl⟩ := o1.form (by rw [bitsL_len]; have := HA.out; omega)
  have row1 := o1.row rfl
  have f0 := (b1.cell (p := ⟨bx, 0, none⟩) (block_lt_of_cell e0)).trans e0
  have Q1 := Lib.hid (R1.out.later b1)
  have B5 := Lib.hid (B4.out.trans (b1.mono B4.out.size))
  clear b1 e0 B4 o1 R1
  rw [bitsL_len]
  have Q2 := Lib.hid row1
  clear row1
  have f1 : (w5.alloc (.cells (madeCells #[.int .i64 0] W) 3)).cell? ⟨bx, 0, none⟩ = some (.int .i64 28) := (World.cell?_alloc_lt _ _ _ (block_lt_of_cell f0)).trans f0
  go_wp2_with fail
  rw [HK64.out]
  clear hq hw hmk
  have OI := OutIs.new w5 W (dg 22 W a b k)
  have F5 := Lib.hid f0
  clear f0 f1
  go_loopw [17] (fun c wr => ∃ i : Nat, c = .int .i64 (i : Int) ∧ i ≤ W ∧ OutIs wr w5.heap.size W i (dg 22 W a b k) ∧ Below w5.heap.size w5 wr) (fun c _ => W - (intOf c).toNat)
  case atStart => exact ⟨0, rfl, by omega, OI, (Below.refl _ _).alloc (Nat.le_refl _) _⟩
  clear OI
  case round =>
    obtain ⟨i, rfl, hi, oi, bb⟩ := hrel
    have OI := Lib.hid oi
    have BB5 := Lib.hid bb
    have c0 := (bb.cell (p := ⟨bx, 0, none⟩) (block_lt_of_cell F5.out)).trans F5.out
    have S1 := Lib.hid (Q1.out.later bb)
    have S2 := Lib.hid (Q2.out.later bb)
    clear bb
    by_cases hlt : i < W
    · have hi64 : i < 64 := by have := HA.out; omega
      have hil : (i : Int) < (W : Int) := by omega
      have hold := oi.1 i hlt
      have hfz := oi.2
      rw [if_neg (Nat.lt_irrefl i)] at hold
      clear oi
      have x1 := S1.out i _ (bitsL_get W a i hlt)
      have x2 := S2.out i _ (bitsL_get W b i hlt)
      have l1 := A_le a i
      have l2 := A_le b i
      obtain ⟨x, hx⟩ : ∃ x, x = A a i := ⟨_, rfl⟩
      obtain ⟨y, hy⟩ : ∃ y, y = A b i := ⟨_, rfl⟩
      change wr.cell? _ = some (.int .i64 ((A a i : Nat) : Int)) at x1
      change wr.cell? _ = some (.int .i64 ((A b i : Nat) : Int)) at x2
      rw [← hx] at x1 l1
      rw [← hy] at x2 l2
      obtain ⟨z, hz⟩ : ∃ z : Nat, z = (x + y + 1) / 2 := ⟨_, rfl⟩
      have hdz : dg 22 W a b k i = z := by rw [hz, hx, hy]; rfl
      have NX := Lib.hid (OI.out.step hlt (v := (z : Int)) (by rw [hdz]))
      have NB := Lib.hid (BB5.out.setCell (p := ⟨w5.heap.size, i, none⟩) (Nat.le_refl _) (.int .i64 (z : Int)))
      have V1 := Lib.hid (w64e ((x : Int) + (y : Int)) (x + y) (by omega) (by omega))
      have V2 := Lib.hid (w64e ((x + y : Nat) + (1 : Int)) (x + y + 1) (by omega) (by omega))
      have V3 := Lib.hid (w64e (z : Int) z rfl (by omega))
      obtain ⟨p1, hp1⟩ : ∃ p1, p1 = x + y := ⟨_, rfl⟩
      obtain ⟨p2, hp2⟩ : ∃ p2, p2 = p1 + 1 := ⟨_, rfl⟩
      rw [← hp1] at V1 V2
      rw [← hp2] at V2
      have V4 := Lib.hid (show (p2 : Int) / 2 = (z : Int) by omega)
      clear hp1 hp2
      clear hx hy hz hdz l1 l2
      have oV1 := V1.out
      have oV2 := V2.out
      have oV3 := V3.out
      have oV4 := V4.out
      go_wp2_with fail
      go_region
      go_wp2
      clear oV1 oV2 oV3 oV4
      go_roundw
      case rel => exact ⟨i + 1, by go_num, by omega, NX.out.drew, NB.out.drew⟩
      case measure => simp [intOf]; omega
    · obtain rfl : i = W := by omega
      have D := Num_ref w5.heap.size i i ((List.range i).map (dg 22 i a b k)) (by simp) (by
        intro x hx
        obtain ⟨j, _, rfl⟩ := List.mem_map.1 hx
        exact dg_le _ _ _ _ _ _) (by have := HA.out; omega) wr oi.row
      rw [HK.out.1, dig_num HD.out 22 a b (by omega) (by omega) HA.out.1 HA.out.2.1] at D
      have D := Lib.hid D
      have BF := Lib.hid (B5.out.trans (BB5.out.mono B5.out.size))
      clear oi c0
      go_wp2_with fail
      refine D.out.mono ?_
      rintro e w9 ⟨rfl, rfl⟩
      go_wp2
      go_ret2
      exact ⟨rfl, BF.out⟩

set_option maxRecDepth 100000 in
set_option maxHeartbeats 8000000 in
theorem TwoR_23 {W M : Nat} (h : Wd W M) (op : Int) (a b T : Nat) (ha : a < M) (hb : b < M) (w : World) (hOf : Ofs op (29, W, T, 2) w) :
    Calls Tryd.prog 11 #[.int .i64 op, .int .u64 a, .int .u64 b] w fun e w' => e = .returned (.tuple #[.int .u64 (((bin 23 W M a b).1 : Nat) : Int), .int .i64 0]) ∧ Below w.heap.size w w' := by
  have HOF := Lib.hid hOf
  have hW := h.lt
  have F1 := fun w => Fits_ref a W (by omega) (by omega) (by omega) w
  rw [fits_wd h, decide_eq_true ha] at F1
  have F2 := fun w => Fits_ref b W (by omega) (by omega) (by omega) w
  rw [fits_wd h, decide_eq_true hb] at F2
  have F1 := Lib.hid F1
  have F2 := Lib.hid F2
  have BA := Lib.hid (fun w => Bits_ref a W (by omega) (by omega) w)
  have BB := Lib.hid (fun w => Bits_ref b W (by omega) (by omega) w)
  have HD := Lib.hid h
  have HA := Lib.hid (And.intro ha (And.intro hb hW))
  obtain ⟨k, hk⟩ : ∃ k, k = b % W := ⟨_, rfl⟩
  have hkW : k < W := by rw [hk]; exact Nat.mod_lt _ (by omega)
  have h0 : ¬ W = 0 := by omega
  have hq : (b : Int).tmod (W : Int) = (k : Int) := by rw [hk, Int.tmod_eq_emod_of_nonneg (by omega)]; exact (Int.natCast_emod b W).symm
  have hw : IntKind.u64.wrap (W : Int) = (W : Int) := by rw [IntKind.wrap_u64]; omega
  have HK64 := Lib.hid (w64e (k : Int) k rfl (by omega))
  have hmk := run_make_row' (P := Tryd.prog) 54 3 (.int .i64 0) 8 Tryd.underlying54 info3 rfl .i64 .i64 W (by omega) (by omega)
  have HK := Lib.hid (And.intro hk hkW)
  clear hOf h hW ha hb hk
  go_enter Tryd.func11, Tryd.ntmps11
  go_wp2_with fail
  refine HOF.out.mono ?_
  rintro e w1 ⟨rfl, b1⟩
  have B := Lib.hid b1
  clear b1
  go_wp2_with fail
  refine (F1.out _).mono ?_
  rintro e w2 ⟨rfl, b1⟩
  have cc : ∀ j, w2.cell? ⟨w1.heap.size, j, none⟩ = (w1.alloc (.cells #[.int .i64 29, .int .i64 (W : Nat), .int .i64 (T : Nat), .int .i64 2] 39)).cell? ⟨w1.heap.size, j, none⟩ := fun j => b1.cell (p := ⟨w1.heap.size, j, none⟩) (by simp)
  have c0 : w2.cell? ⟨w1.heap.size, 0, none⟩ = some (.int .i64 29) := (cc 0).trans (World.cell?_alloc_at _ _ _ _ rfl)
  have B2 := Lib.hid ((B.out.alloc B.out.size (.cells #[.int .i64 29, .int .i64 (W : Nat), .int .i64 (T : Nat), .int .i64 2] 39)).trans (b1.mono (by have := B.out.size; simp; omega)))
  clear b1 cc B
  generalize w1.heap.size = bx at *
  go_wp2_with fail
  refine (F2.out _).mono ?_
  rintro e w3 ⟨rfl, b1⟩
  have d0 := (b1.cell (p := ⟨bx, 0, none⟩) (block_lt_of_cell c0)).trans c0
  have B3 := Lib.hid (B2.out.trans (b1.mono B2.out.size))
  clear b1 c0 B2
  go_wp2_with fail
  refine (BA.out _).mono ?_
  rintro e w4 ⟨v, rfl, o1, b1⟩
  obtain ⟨g1, cap1, rfl⟩ := o1.form (by rw [bitsL_len]; have := HA.out; omega)
  have row1 := o1.row rfl
  have e0 := (b1.cell (p := ⟨bx, 0, none⟩) (block_lt_of_cell d0)).trans d0
  have B4 := Lib.hid (B3.out.trans (b1.mono B3.out.size))
  clear b1 d0 B3 o1
  rw [bitsL_len]
  have R1 := Lib.hid row1
  clear row1
  go_wp2_with fail
  refine (BB.out _).mono ?_
  rintro e w5 ⟨v, rfl, o1, b1⟩
  obtain ⟨g2, cap2, rfl⟩ := o1.form (by rw [bitsL_len]; have := HA.out; omega)
  have row1 := o1.row rfl
  have f0 := (b1.cell (p := ⟨bx, 0, none⟩) (block_lt_of_cell e0)).trans e0
  have Q1 := Lib.hid (R1.out.later b1)
  have B5 := Lib.hid (B4.out.trans (b1.mono B4.out.size))
  clear b1 e0 B4 o1 R1
  rw [bitsL_len]
  have Q2 := Lib.hid row1
  clear row1
  have f1 : (w5.alloc (.cells (madeCells #[.int .i64 0] W) 3)).cell? ⟨bx, 0, none⟩ = some (.int .i64 29) := (World.cell?_alloc_lt _ _ _ (block_lt_of_cell f0)).trans f0
  go_wp2_with fail
  rw [HK64.out]
  clear hq hw hmk
  have OI := OutIs.new w5 W (dg 23 W a b k)
  have F5 := Lib.hid f0
  clear f0 f1
  go_loopw [17] (fun c wr => ∃ i : Nat, c = .int .i64 (i : Int) ∧ i ≤ W ∧ OutIs wr w5.heap.size W i (dg 23 W a b k) ∧ Below w5.heap.size w5 wr) (fun c _ => W - (intOf c).toNat)
  case atStart => exact ⟨0, rfl, by omega, OI, (Below.refl _ _).alloc (Nat.le_refl _) _⟩
  clear OI
  case round =>
    obtain ⟨i, rfl, hi, oi, bb⟩ := hrel
    have OI := Lib.hid oi
    have BB5 := Lib.hid bb
    have c0 := (bb.cell (p := ⟨bx, 0, none⟩) (block_lt_of_cell F5.out)).trans F5.out
    have S1 := Lib.hid (Q1.out.later bb)
    have S2 := Lib.hid (Q2.out.later bb)
    clear bb
    by_cases hlt : i < W
    · have hi64 : i < 64 := by have := HA.out; omega
      have hil : (i : Int) < (W : Int) := by omega
      have hold := oi.1 i hlt
      have hfz := oi.2
      rw [if_neg (Nat.lt_irrefl i)] at hold
      clear oi
      have x1 := S1.out i _ (bitsL_get W a i hlt)
      have x2 := S2.out i _ (bitsL_get W b i hlt)
      have l1 := A_le a i
      have l2 := A_le b i
      obtain ⟨x, hx⟩ : ∃ x, x = A a i := ⟨_, rfl⟩
      obtain ⟨y, hy⟩ : ∃ y, y = A b i := ⟨_, rfl⟩
      change wr.cell? _ = some (.int .i64 ((A a i : Nat) : Int)) at x1
      change wr.cell? _ = some (.int .i64 ((A b i : Nat) : Int)) at x2
      rw [← hx] at x1 l1
      rw [← hy] at x2 l2
      obtain ⟨z, hz⟩ : ∃ z : Nat, z = (x + y) % 2 := ⟨_, rfl⟩
      have hdz : dg 23 W a b k i = z := by rw [hz, hx, hy]; rfl
      have NX := Lib.hid (OI.out.step hlt (v := (z : Int)) (by rw [hdz]))
      have NB := Lib.hid (BB5.out.setCell (p := ⟨w5.heap.size, i, none⟩) (Nat.le_refl _) (.int .i64 (z : Int)))
      have V1 := Lib.hid (w64e ((x : Int) + (y : Int)) (x + y) (by omega) (by omega))
      have V2 := Lib.hid (show ((x + y : Nat) : Int).tmod 2 = (z : Int) by rw [hz]; exact tmod_nat (x + y) 2)
      have V3 := Lib.hid (show ((x + y : Nat) : Int) % 2 = (z : Int) by omega)
      obtain ⟨p1, hp1⟩ : ∃ p1, p1 = x + y := ⟨_, rfl⟩
      rw [← hp1] at V1 V2 V3
      clear hp1
      clear hx hy hz hdz l1 l2
      have oV1 := V1.out
      have oV2 := V2.out
      have oV3 := V3.out
      go_wp2_with fail
      go_region
      go_wp2
      clear oV1 oV2 oV3
      go_roundw
      case rel => exact ⟨i + 1, by go_num, by omega, NX.out.drew, NB.out.drew⟩
      case measure => simp [intOf]; omega
    · obtain rfl : i = W := by omega
      have D := Num_ref w5.heap.size i i ((List.range i).map (dg 23 i a b k)) (by simp) (by
        intro x hx
        obtain ⟨j, _, rfl⟩ := List.mem_map.1 hx
        exact dg_le _ _ _ _ _ _) (by have := HA.out; omega) wr oi.row
      rw [HK.out.1, dig_num HD.out 23 a b (by omega) (by omega) HA.out.1 HA.out.2.1] at D
      have D := Lib.hid D
      have BF := Lib.hid (B5.out.trans (BB5.out.mono B5.out.size))
      clear oi c0
      go_wp2_with fail
      refine D.out.mono ?_
      rintro e w9 ⟨rfl, rfl⟩
      go_wp2
      go_ret2
      exact ⟨rfl, BF.out⟩

set_option maxRecDepth 100000 in
set_option maxHeartbeats 8000000 in
theorem TwoR_24 {W M : Nat} (h : Wd W M) (op : Int) (a b T : Nat) (ha : a < M) (hb : b < M) (w : World) (hOf : Ofs op (30, W, T, 2) w) :
    Calls Tryd.prog 11 #[.int .i64 op, .int .u64 a, .int .u64 b] w fun e w' => e = .returned (.tuple #[.int .u64 (((bin 24 W M a b).1 : Nat) : Int), .int .i64 0]) ∧ Below w.heap.size w w' := by
  have HOF := Lib.hid hOf
  have hW := h.lt
  have F1 := fun w => Fits_ref a W (by omega) (by omega) (by omega) w
  rw [fits_wd h, decide_eq_true ha] at F1
  have F2 := fun w => Fits_ref b W (by omega) (by omega) (by omega) w
  rw [fits_wd h, decide_eq_true hb] at F2
  have F1 := Lib.hid F1
  have F2 := Lib.hid F2
  have BA := Lib.hid (fun w => Bits_ref a W (by omega) (by omega) w)
  have BB := Lib.hid (fun w => Bits_ref b W (by omega) (by omega) w)
  have HD := Lib.hid h
  have HA := Lib.hid (And.intro ha (And.intro hb hW))
  obtain ⟨k, hk⟩ : ∃ k, k = b % W := ⟨_, rfl⟩
  have hkW : k < W := by rw [hk]; exact Nat.mod_lt _ (by omega)
  have h0 : ¬ W = 0 := by omega
  have hq : (b : Int).tmod (W : Int) = (k : Int) := by rw [hk, Int.tmod_eq_emod_of_nonneg (by omega)]; exact (Int.natCast_emod b W).symm
  have hw : IntKind.u64.wrap (W : Int) = (W : Int) := by rw [IntKind.wrap_u64]; omega
  have HK64 := Lib.hid (w64e (k : Int) k rfl (by omega))
  have hmk := run_make_row' (P := Tryd.prog) 54 3 (.int .i64 0) 8 Tryd.underlying54 info3 rfl .i64 .i64 W (by omega) (by omega)
  have HK := Lib.hid (And.intro hk hkW)
  clear hOf h hW ha hb hk
  go_enter Tryd.func11, Tryd.ntmps11
  go_wp2_with fail
  refine HOF.out.mono ?_
  rintro e w1 ⟨rfl, b1⟩
  have B := Lib.hid b1
  clear b1
  go_wp2_with fail
  refine (F1.out _).mono ?_
  rintro e w2 ⟨rfl, b1⟩
  have cc : ∀ j, w2.cell? ⟨w1.heap.size, j, none⟩ = (w1.alloc (.cells #[.int .i64 30, .int .i64 (W : Nat), .int .i64 (T : Nat), .int .i64 2] 39)).cell? ⟨w1.heap.size, j, none⟩ := fun j => b1.cell (p := ⟨w1.heap.size, j, none⟩) (by simp)
  have c0 : w2.cell? ⟨w1.heap.size, 0, none⟩ = some (.int .i64 30) := (cc 0).trans (World.cell?_alloc_at _ _ _ _ rfl)
  have B2 := Lib.hid ((B.out.alloc B.out.size (.cells #[.int .i64 30, .int .i64 (W : Nat), .int .i64 (T : Nat), .int .i64 2] 39)).trans (b1.mono (by have := B.out.size; simp; omega)))
  clear b1 cc B
  generalize w1.heap.size = bx at *
  go_wp2_with fail
  refine (F2.out _).mono ?_
  rintro e w3 ⟨rfl, b1⟩
  have d0 := (b1.cell (p := ⟨bx, 0, none⟩) (block_lt_of_cell c0)).trans c0
  have B3 := Lib.hid (B2.out.trans (b1.mono B2.out.size))
  clear b1 c0 B2
  go_wp2_with fail
  refine (BA.out _).mono ?_
  rintro e w4 ⟨v, rfl, o1, b1⟩
  obtain ⟨g1, cap1, rfl⟩ := o1.form (by rw [bitsL_len]; have := HA.out; omega)
  have row1 := o1.row rfl
  have e0 := (b1.cell (p := ⟨bx, 0, none⟩) (block_lt_of_cell d0)).trans d0
  have B4 := Lib.hid (B3.out.trans (b1.mono B3.out.size))
  clear b1 d0 B3 o1
  rw [bitsL_len]
  have R1 := Lib.hid row1
  clear row1
  go_wp2_with fail
  refine (BB.out _).mono ?_
  rintro e w5 ⟨v, rfl, o1, b1⟩
  obtain ⟨g2, cap2, rfl⟩ := o1.form (by rw [bitsL_len]; have := HA.out; omega)
  have row1 := o1.row rfl
  have f0 := (b1.cell (p := ⟨bx, 0, none⟩) (block_lt_of_cell e0)).trans e0
  have Q1 := Lib.hid (R1.out.later b1)
  have B5 := Lib.hid (B4.out.trans (b1.mono B4.out.size))
  clear b1 e0 B4 o1 R1
  rw [bitsL_len]
  have Q2 := Lib.hid row1
  clear row1
  have f1 : (w5.alloc (.cells (madeCells #[.int .i64 0] W) 3)).cell? ⟨bx, 0, none⟩ = some (.int .i64 30) := (World.cell?_alloc_lt _ _ _ (block_lt_of_cell f0)).trans f0
  go_wp2_with fail
  rw [HK64.out]
  clear hq hw hmk
  have OI := OutIs.new w5 W (dg 24 W a b k)
  have F5 := Lib.hid f0
  clear f0 f1
  go_loopw [17] (fun c wr => ∃ i : Nat, c = .int .i64 (i : Int) ∧ i ≤ W ∧ OutIs wr w5.heap.size W i (dg 24 W a b k) ∧ Below w5.heap.size w5 wr) (fun c _ => W - (intOf c).toNat)
  case atStart => exact ⟨0, rfl, by omega, OI, (Below.refl _ _).alloc (Nat.le_refl _) _⟩
  clear OI
  case round =>
    obtain ⟨i, rfl, hi, oi, bb⟩ := hrel
    have OI := Lib.hid oi
    have BB5 := Lib.hid bb
    have c0 := (bb.cell (p := ⟨bx, 0, none⟩) (block_lt_of_cell F5.out)).trans F5.out
    have S1 := Lib.hid (Q1.out.later bb)
    have S2 := Lib.hid (Q2.out.later bb)
    clear bb
    by_cases hlt : i < W
    · have hi64 : i < 64 := by have := HA.out; omega
      have hil : (i : Int) < (W : Int) := by omega
      have hold := oi.1 i hlt
      have hfz := oi.2
      rw [if_neg (Nat.lt_irrefl i)] at hold
      clear oi
      by_cases hc : k ≤ i
      · obtain ⟨d, hd⟩ : ∃ d, d = i - k := ⟨_, rfl⟩
        have hg : (k : Int) ≤ (i : Int) := by omega
        have V1 := Lib.hid (show (i : Int) - (k : Int) = (d : Int) by omega)
        have V2 := Lib.hid (w64e (d : Int) d rfl (by omega))
        have x1 := S1.out d _ (bitsL_get W a d (by omega))
        change wr.cell? _ = some (.int .i64 ((A a d : Nat) : Int)) at x1
        have hdz : dg 24 W a b k i = A a d := by show (if k ≤ i then A a (i - k) else 0) = A a d; rw [if_pos hc, hd]
        have NX := OI.out.step hlt (v := ((A a d : Nat) : Int)) (by rw [hdz])
        have NB := Lib.hid (BB5.out.setCell (p := ⟨w5.heap.size, i, none⟩) (Nat.le_refl _) (.int .i64 ((A a d : Nat) : Int)))
        generalize A a d = z at x1 NX NB hdz
        have NX := Lib.hid NX
        have hidx : (d : Int) < (W : Int) := by omega
        clear hdz hd
        have oV1 := V1.out
        have oV2 := V2.out
        go_wp2
        clear oV1 oV2
        go_roundw
        case rel => exact ⟨i + 1, by go_num, by omega, NX.out, NB.out⟩
        case measure => simp [intOf]; omega
      · have hg : decide ((k : Int) ≤ (i : Int)) = false := by simp; omega
        have hdz : dg 24 W a b k i = 0 := by show (if k ≤ i then A a (i - k) else 0) = 0; rw [if_neg hc]
        have NX := Lib.hid (OI.out.skip hdz)
        have NB := BB5
        clear hdz 
        go_wp2
        go_roundw
        case rel => exact ⟨i + 1, by go_num, by omega, NX.out, NB.out⟩
        case measure => simp [intOf]; omega
    · obtain rfl : i = W := by omega
      have D := Num_ref w5.heap.size i i ((List.range i).map (dg 24 i a b k)) (by simp) (by
        intro x hx
        obtain ⟨j, _, rfl⟩ := List.mem_map.1 hx
        exact dg_le _ _ _ _ _ _) (by have := HA.out; omega) wr oi.row
      rw [HK.out.1, dig_num HD.out 24 a b (by omega) (by omega) HA.out.1 HA.out.2.1] at D
      have D := Lib.hid D
      have BF := Lib.hid (B5.out.trans (BB5.out.mono B5.out.size))
      clear oi c0
      go_wp2_with fail
      refine D.out.mono ?_
      rintro e w9 ⟨rfl, rfl⟩
      go_wp2
      go_ret2
      exact ⟨rfl, BF.out⟩

set_option maxRecDepth 100000 in
set_option maxHeartbeats 8000000 in
theorem TwoR_25 {W M : Nat} (h : Wd W M) (op : Int) (a b T : Nat) (ha : a < M) (hb : b < M) (w : World) (hOf : Ofs op (31, W, T, 2) w) :
    Calls Tryd.prog 11 #[.int .i64 op, .int .u64 a, .int .u64 b] w fun e w' => e = .returned (.tuple #[.int .u64 (((bin 25 W M a b).1 : Nat) : Int), .int .i64 0]) ∧ Below w.heap.size w w' := by
  have HOF := Lib.hid hOf
  have hW := h.lt
  have F1 := fun w => Fits_ref a W (by omega) (by omega) (by omega) w
  rw [fits_wd h, decide_eq_true ha] at F1
  have F2 := fun w => Fits_ref b W (by omega) (by omega) (by omega) w
  rw [fits_wd h, decide_eq_true hb] at F2
  have F1 := Lib.hid F1
  have F2 := Lib.hid F2
  have BA := Lib.hid (fun w => Bits_ref a W (by omega) (by omega) w)
  have BB := Lib.hid (fun w => Bits_ref b W (by omega) (by omega) w)
  have HD := Lib.hid h
  have HA := Lib.hid (And.intro ha (And.intro hb hW))
  obtain ⟨k, hk⟩ : ∃ k, k = b % W := ⟨_, rfl⟩
  have hkW : k < W := by rw [hk]; exact Nat.mod_lt _ (by omega)
  have h0 : ¬ W = 0 := by omega
  have hq : (b : Int).tmod (W : Int) = (k : Int) := by rw [hk, Int.tmod_eq_emod_of_nonneg (by omega)]; exact (Int.natCast_emod b W).symm
  have hw : IntKind.u64.wrap (W : Int) = (W : Int) := by rw [IntKind.wrap_u64]; omega
  have HK64 := Lib.hid (w64e (k : Int) k rfl (by omega))
  have hmk := run_make_row' (P := Tryd.prog) 54 3 (.int .i64 0) 8 Tryd.underlying54 info3 rfl .i64 .i64 W (by omega) (by omega)
  have HK := Lib.hid (And.intro hk hkW)
  clear hOf h hW ha hb hk
  go_enter Tryd.func11, Tryd.ntmps11
  go_wp2_with fail
  refine HOF.out.mono ?_
  rintro e w1 ⟨rfl, b1⟩
  have B := Lib.hid b1
  clear b1
  go_wp2_with fail
  refine (F1.out _).mono ?_
  rintro e w2 ⟨rfl, b1⟩
  have cc : ∀ j, w2.cell? ⟨w1.heap.size, j, none⟩ = (w1.alloc (.cells #[.int .i64 31, .int .i64 (W : Nat), .int .i64 (T : Nat), .int .i64 2] 39)).cell? ⟨w1.heap.size, j, none⟩ := fun j => b1.cell (p := ⟨w1.heap.size, j, none⟩) (by simp)
  have c0 : w2.cell? ⟨w1.heap.size, 0, none⟩ = some (.int .i64 31) := (cc 0).trans (World.cell?_alloc_at _ _ _ _ rfl)
  have B2 := Lib.hid ((B.out.alloc B.out.size (.cells #[.int .i64 31, .int .i64 (W : Nat), .int .i64 (T : Nat), .int .i64 2] 39)).trans (b1.mono (by have := B.out.size; simp; omega)))
  clear b1 cc B
  generalize w1.heap.size = bx at *
  go_wp2_with fail
  refine (F2.out _).mono ?_
  rintro e w3 ⟨rfl, b1⟩
  have d0 := (b1.cell (p := ⟨bx, 0, none⟩) (block_lt_of_cell c0)).trans c0
  have B3 := Lib.hid (B2.out.trans (b1.mono B2.out.size))
  clear b1 c0 B2
  go_wp2_with fail
  refine (BA.out _).mono ?_
  rintro e w4 ⟨v, rfl, o1, b1⟩
  obtain ⟨g1, cap1, rfl⟩ := o1.form (by rw [bitsL_len]; have := HA.out; omega)
  have row1 := o1.row rfl
  have e0 := (b1.cell (p := ⟨bx, 0, none⟩) (block_lt_of_cell d0)).trans d0
  have B4 := Lib.hid (B3.out.trans (b1.mono B3.out.size))
  clear b1 d0 B3 o1
  rw [bitsL_len]
  have R1 := Lib.hid row1
  clear row1
  go_wp2_with fail
  refine (BB.out _).mono ?_
  rintro e w5 ⟨v, rfl, o1, b1⟩
  obtain ⟨g2, cap2, rfl⟩ := o1.form (by rw [bitsL_len]; have := HA.out; omega)
  have row1 := o1.row rfl
  have f0 := (b1.cell (p := ⟨bx, 0, none⟩) (block_lt_of_cell e0)).trans e0
  have Q1 := Lib.hid (R1.out.later b1)
  have B5 := Lib.hid (B4.out.trans (b1.mono B4.out.size))
  clear b1 e0 B4 o1 R1
  rw [bitsL_len]
  have Q2 := Lib.hid row1
  clear row1
  have f1 : (w5.alloc (.cells (madeCells #[.int .i64 0] W) 3)).cell? ⟨bx, 0, none⟩ = some (.int .i64 31) := (World.cell?_alloc_lt _ _ _ (block_lt_of_cell f0)).trans f0
  go_wp2_with fail
  rw [HK64.out]
  clear hq hw hmk
  have OI := OutIs.new w5 W (dg 25 W a b k)
  have F5 := Lib.hid f0
  clear f0 f1
  go_loopw [17] (fun c wr => ∃ i : Nat, c = .int .i64 (i : Int) ∧ i ≤ W ∧ OutIs wr w5.heap.size W i (dg 25 W a b k) ∧ Below w5.heap.size w5 wr) (fun c _ => W - (intOf c).toNat)
  case atStart => exact ⟨0, rfl, by omega, OI, (Below.refl _ _).alloc (Nat.le_refl _) _⟩
  clear OI
  case round =>
    obtain ⟨i, rfl, hi, oi, bb⟩ := hrel
    have OI := Lib.hid oi
    have BB5 := Lib.hid bb
    have c0 := (bb.cell (p := ⟨bx, 0, none⟩) (block_lt_of_cell F5.out)).trans F5.out
    have S1 := Lib.hid (Q1.out.later bb)
    have S2 := Lib.hid (Q2.out.later bb)
    clear bb
    by_cases hlt : i < W
    · have hi64 : i < 64 := by have := HA.out; omega
      have hil : (i : Int) < (W : Int) := by omega
      have hold := oi.1 i hlt
      have hfz := oi.2
      rw [if_neg (Nat.lt_irrefl i)] at hold
      clear oi
      obtain ⟨d, hd⟩ : ∃ d, d = i + k := ⟨_, rfl⟩
      have V1 := Lib.hid (w64e ((i : Int) + (k : Int)) d (by omega) (by have := HA.out; have := HK.out; omega))
      by_cases hc : d < W
      · have x1 := S1.out d _ (bitsL_get W a d hc)
        change wr.cell? _ = some (.int .i64 ((A a d : Nat) : Int)) at x1
        have hdz : dg 25 W a b k i = A a d := by show (if i + k < W then A a (i + k) else A a (W - 1)) = A a d; rw [if_pos (by omega), hd]
        have NX := OI.out.step hlt (v := ((A a d : Nat) : Int)) (by rw [hdz])
        have NB := Lib.hid (BB5.out.setCell (p := ⟨w5.heap.size, i, none⟩) (Nat.le_refl _) (.int .i64 ((A a d : Nat) : Int)))
        generalize A a d = z at x1 NX NB hdz
        have NX := Lib.hid NX
        have hidx : (d : Int) < (W : Int) := by omega
        clear hdz hd
        have oV1 := V1.out
        go_wp2
        clear oV1
        go_roundw
        case rel => exact ⟨i + 1, by go_num, by omega, NX.out, NB.out⟩
        case measure => simp [intOf]; omega
      · have hnc : decide ((d : Int) < (W : Int)) = false := by simp; omega
        obtain ⟨v, hv⟩ : ∃ v, v = W - 1 := ⟨_, rfl⟩
        have V2 := Lib.hid (w64e ((W : Int) - 1) v (by have := HA.out; omega) (by have := HA.out; omega))
        have x1 := S1.out v _ (bitsL_get W a v (by omega))
        change wr.cell? _ = some (.int .i64 ((A a v : Nat) : Int)) at x1
        have hdz : dg 25 W a b k i = A a v := by show (if i + k < W then A a (i + k) else A a (W - 1)) = A a v; rw [if_neg (by omega), hv]
        have NX := OI.out.step hlt (v := ((A a v : Nat) : Int)) (by rw [hdz])
        have NB := Lib.hid (BB5.out.setCell (p := ⟨w5.heap.size, i, none⟩) (Nat.le_refl _) (.int .i64 ((A a v : Nat) : Int)))
        generalize A a v = z at x1 NX NB hdz
        have NX := Lib.hid NX
        have hidx : (v : Int) < (W : Int) := by omega
        clear hdz hd hv
        have oV1 := V1.out
        have oV2 := V2.out
        go_wp2
        clear oV1 oV2
        go_roundw
        case rel => exact ⟨i + 1, by go_num, by omega, NX.out, NB.out⟩
        case measure => simp [intOf]; omega
    · obtain rfl : i = W := by omega
      have D := Num_ref w5.heap.size i i ((List.range i).map (dg 25 i a b k)) (by simp) (by
        intro x hx
        obtain ⟨j, _, rfl⟩ := List.mem_map.1 hx
        exact dg_le _ _ _ _ _ _) (by have := HA.out; omega) wr oi.row
      rw [HK.out.1, dig_num HD.out 25 a b (by omega) (by omega) HA.out.1 HA.out.2.1] at D
      have D := Lib.hid D
      have BF := Lib.hid (B5.out.trans (BB5.out.mono B5.out.size))
      clear oi c0
      go_wp2_with fail
      refine D.out.mono ?_
      rintro e w9 ⟨rfl, rfl⟩
      go_wp2
      go_ret2
      exact ⟨rfl, BF.out⟩

set_option maxRecDepth 100000 in
set_option maxHeartbeats 8000000 in
theorem TwoR_26 {W M : Nat} (h : Wd W M) (op : Int) (a b T : Nat) (ha : a < M) (hb : b < M) (w : World) (hOf : Ofs op (32, W, T, 2) w) :
    Calls Tryd.prog 11 #[.int .i64 op, .int .u64 a, .int .u64 b] w fun e w' => e = .returned (.tuple #[.int .u64 (((bin 26 W M a b).1 : Nat) : Int), .int .i64 0]) ∧ Below w.heap.size w w' := by
  have HOF := Lib.hid hOf
  have hW := h.lt
  have F1 := fun w => Fits_ref a W (by omega) (by omega) (by omega) w
  rw [fits_wd h, decide_eq_true ha] at F1
  have F2 := fun w => Fits_ref b W (by omega) (by omega) (by omega) w
  rw [fits_wd h, decide_eq_true hb] at F2
  have F1 := Lib.hid F1
  have F2 := Lib.hid F2
  have BA := Lib.hid (fun w => Bits_ref a W (by omega) (by omega) w)
  have BB := Lib.hid (fun w => Bits_ref b W (by omega) (by omega) w)
  have HD := Lib.hid h
  have HA := Lib.hid (And.intro ha (And.intro hb hW))
  obtain ⟨k, hk⟩ : ∃ k, k = b % W := ⟨_, rfl⟩
  have hkW : k < W := by rw [hk]; exact Nat.mod_lt _ (by omega)
  have h0 : ¬ W = 0 := by omega
  have hq : (b : Int).tmod (W : Int) = (k : Int) := by rw [hk, Int.tmod_eq_emod_of_nonneg (by omega)]; exact (Int.natCast_emod b W).symm
  have hw : IntKind.u64.wrap (W : Int) = (W : Int) := by rw [IntKind.wrap_u64]; omega
  have HK64 := Lib.hid (w64e (k : Int) k rfl (by omega))
  have hmk := run_make_row' (P := Tryd.prog) 54 3 (.int .i64 0) 8 Tryd.underlying54 info3 rfl .i64 .i64 W (by omega) (by omega)
  have HK := Lib.hid (And.intro hk hkW)
  clear hOf h hW ha hb hk
  go_enter Tryd.func11, Tryd.ntmps11
  go_wp2_with fail
  refine HOF.out.mono ?_
  rintro e w1 ⟨rfl, b1⟩
  have B := Lib.hid b1
  clear b1
  go_wp2_with fail
  refine (F1.out _).mono ?_
  rintro e w2 ⟨rfl, b1⟩
  have cc : ∀ j, w2.cell? ⟨w1.heap.size, j, none⟩ = (w1.alloc (.cells #[.int .i64 32, .int .i64 (W : Nat), .int .i64 (T : Nat), .int .i64 2] 39)).cell? ⟨w1.heap.size, j, none⟩ := fun j => b1.cell (p := ⟨w1.heap.size, j, none⟩) (by simp)
  have c0 : w2.cell? ⟨w1.heap.size, 0, none⟩ = some (.int .i64 32) := (cc 0).trans (World.cell?_alloc_at _ _ _ _ rfl)
  have B2 := Lib.hid ((B.out.alloc B.out.size (.cells #[.int .i64 32, .int .i64 (W : Nat), .int .i64 (T : Nat), .int .i64 2] 39)).trans (b1.mono (by have := B.out.size; simp; omega)))
  clear b1 cc B
  generalize w1.heap.size = bx at *
  go_wp2_with fail
  refine (F2.out _).mono ?_
  rintro e w3 ⟨rfl, b1⟩
  have d0 := (b1.cell (p := ⟨bx, 0, none⟩) (block_lt_of_cell c0)).trans c0
  have B3 := Lib.hid (B2.out.trans (b1.mono B2.out.size))
  clear b1 c0 B2
  go_wp2_with fail
  refine (BA.out _).mono ?_
  rintro e w4 ⟨v, rfl, o1, b1⟩
  obtain ⟨g1, cap1, rfl⟩ := o1.form (by rw [bitsL_len]; have := HA.out; omega)
  have row1 := o1.row rfl
  have e0 := (b1.cell (p := ⟨bx, 0, none⟩) (block_lt_of_cell d0)).trans d0
  have B4 := Lib.hid (B3.out.trans (b1.mono B3.out.size))
  clear b1 d0 B3 o1
  rw [bitsL_len]
  have R1 := Lib.hid row1
  clear row1
  go_wp2_with fail
  refine (BB.out _).mono ?_
  rintro e w5 ⟨v, rfl, o1, b1⟩
  obtain ⟨g2, cap2, rfl⟩ := o1.form (by rw [bitsL_len]; have := HA.out; omega)
  have row1 := o1.row rfl
  have f0 := (b1.cell (p := ⟨bx, 0, none⟩) (block_lt_of_cell e0)).trans e0
  have Q1 := Lib.hid (R1.out.later b1)
  have B5 := Lib.hid (B4.out.trans (b1.mono B4.out.size))
  clear b1 e0 B4 o1 R1
  rw [bitsL_len]
  have Q2 := Lib.hid row1
  clear row1
  have f1 : (w5.alloc (.cells (madeCells #[.int .i64 0] W) 3)).cell? ⟨bx, 0, none⟩ = some (.int .i64 32) := (World.cell?_alloc_lt _ _ _ (block_lt_of_cell f0)).trans f0
  go_wp2_with fail
  rw [HK64.out]
  clear hq hw hmk
  have OI := OutIs.new w5 W (dg 26 W a b k)
  have F5 := Lib.hid f0
  clear f0 f1
  go_loopw [17] (fun c wr => ∃ i : Nat, c = .int .i64 (i : Int) ∧ i ≤ W ∧ OutIs wr w5.heap.size W i (dg 26 W a b k) ∧ Below w5.heap.size w5 wr) (fun c _ => W - (intOf c).toNat)
  case atStart => exact ⟨0, rfl, by omega, OI, (Below.refl _ _).alloc (Nat.le_refl _) _⟩
  clear OI
  case round =>
    obtain ⟨i, rfl, hi, oi, bb⟩ := hrel
    have OI := Lib.hid oi
    have BB5 := Lib.hid bb
    have c0 := (bb.cell (p := ⟨bx, 0, none⟩) (block_lt_of_cell F5.out)).trans F5.out
    have S1 := Lib.hid (Q1.out.later bb)
    have S2 := Lib.hid (Q2.out.later bb)
    clear bb
    by_cases hlt : i < W
    · have hi64 : i < 64 := by have := HA.out; omega
      have hil : (i : Int) < (W : Int) := by omega
      have hold := oi.1 i hlt
      have hfz := oi.2
      rw [if_neg (Nat.lt_irrefl i)] at hold
      clear oi
      obtain ⟨d, hd⟩ : ∃ d, d = i + k := ⟨_, rfl⟩
      have V1 := Lib.hid (w64e ((i : Int) + (k : Int)) d (by omega) (by have := HA.out; have := HK.out; omega))
      by_cases hc : d < W
      · have x1 := S1.out d _ (bitsL_get W a d hc)
        change wr.cell? _ = some (.int .i64 ((A a d : Nat) : Int)) at x1
        have hdz : dg 26 W a b k i = A a d := by show (if i + k < W then A a (i + k) else 0) = A a d; rw [if_pos (by omega), hd]
        have NX := OI.out.step hlt (v := ((A a d : Nat) : Int)) (by rw [hdz])
        have NB := Lib.hid (BB5.out.setCell (p := ⟨w5.heap.size, i, none⟩) (Nat.le_refl _) (.int .i64 ((A a d : Nat) : Int)))
        generalize A a d = z at x1 NX NB hdz
        have NX := Lib.hid NX
        have hidx : (d : Int) < (W : Int) := by omega
        clear hdz hd
        have oV1 := V1.out
        go_wp2
        clear oV1
        go_roundw
        case rel => exact ⟨i + 1, by go_num, by omega, NX.out, NB.out⟩
        case measure => simp [intOf]; omega
      · have hnc : decide ((d : Int) < (W : Int)) = false := by simp; omega
        have hdz : dg 26 W a b k i = 0 := by show (if i + k < W then A a (i + k) else 0) = 0; rw [if_neg (by omega)]
        have NX := Lib.hid (OI.out.skip hdz)
        have NB := BB5
        clear hdz hd
        have oV1 := V1.out
        go_wp2
        clear oV1
        go_roundw
        case rel => exact ⟨i + 1, by go_num, by omega, NX.out, NB.out⟩
        case measure => simp [intOf]; omega
    · obtain rfl : i = W := by omega
      have D := Num_ref w5.heap.size i i ((List.range i).map (dg 26 i a b k)) (by simp) (by
        intro x hx
        obtain ⟨j, _, rfl⟩ := List.mem_map.1 hx
        exact dg_le _ _ _ _ _ _) (by have := HA.out; omega) wr oi.row
      rw [HK.out.1, dig_num HD.out 26 a b (by omega) (by omega) HA.out.1 HA.out.2.1] at D
      have D := Lib.hid D
      have BF := Lib.hid (B5.out.trans (BB5.out.mono B5.out.size))
      clear oi c0
      go_wp2_with fail
      refine D.out.mono ?_
      rintro e w9 ⟨rfl, rfl⟩
      go_wp2
      go_ret2
      exact ⟨rfl, BF.out⟩

set_option maxRecDepth 100000 in
set_option maxHeartbeats 8000000 in
theorem TwoR_27 {W M : Nat} (h : Wd W M) (op : Int) (a b T : Nat) (ha : a < M) (hb : b < M) (w : World) (hOf : Ofs op (33, W, T, 2) w) :
    Calls Tryd.prog 11 #[.int .i64 op, .int .u64 a, .int .u64 b] w fun e w' => e = .returned (.tuple #[.int .u64 (((bin 27 W M a b).1 : Nat) : Int), .int .i64 0]) ∧ Below w.heap.size w w' := by
  have HOF := Lib.hid hOf
  have hW := h.lt
  have F1 := fun w => Fits_ref a W (by omega) (by omega) (by omega) w
  rw [fits_wd h, decide_eq_true ha] at F1
  have F2 := fun w => Fits_ref b W (by omega) (by omega) (by omega) w
  rw [fits_wd h, decide_eq_true hb] at F2
  have F1 := Lib.hid F1
  have F2 := Lib.hid F2
  have BA := Lib.hid (fun w => Bits_ref a W (by omega) (by omega) w)
  have BB := Lib.hid (fun w => Bits_ref b W (by omega) (by omega) w)
  have HD := Lib.hid h
  have HA := Lib.hid (And.intro ha (And.intro hb hW))
  obtain ⟨k, hk⟩ : ∃ k, k = b % W := ⟨_, rfl⟩
  have hkW : k < W := by rw [hk]; exact Nat.mod_lt _ (by omega)
  have h0 : ¬ W = 0 := by omega
  have hq : (b : Int).tmod (W : Int) = (k : Int) := by rw [hk, Int.tmod_eq_emod_of_nonneg (by omega)]; exact (Int.natCast_emod b W).symm
  have hw : IntKind.u64.wrap (W : Int) = (W : Int) := by rw [IntKind.wrap_u64]; omega
  have HK64 := Lib.hid (w64e (k : Int) k rfl (by omega))
  have hmk := run_make_row' (P := Tryd.prog) 54 3 (.int .i64 0) 8 Tryd.underlying54 info3 rfl .i64 .i64 W (by omega) (by omega)
  have HK := Lib.hid (And.intro hk hkW)
  clear hOf h hW ha hb hk
  go_enter Tryd.func11, Tryd.ntmps11
  go_wp2_with fail
  refine HOF.out.mono ?_
  rintro e w1 ⟨rfl, b1⟩
  have B := Lib.hid b1
  clear b1
  go_wp2_with fail
  refine (F1.out _).mono ?_
  rintro e w2 ⟨rfl, b1⟩
  have cc : ∀ j, w2.cell? ⟨w1.heap.size, j, none⟩ = (w1.alloc (.cells #[.int .i64 33, .int .i64 (W : Nat), .int .i64 (T : Nat), .int .i64 2] 39)).cell? ⟨w1.heap.size, j, none⟩ := fun j => b1.cell (p := ⟨w1.heap.size, j, none⟩) (by simp)
  have c0 : w2.cell? ⟨w1.heap.size, 0, none⟩ = some (.int .i64 33) := (cc 0).trans (World.cell?_alloc_at _ _ _ _ rfl)
  have B2 := Lib.hid ((B.out.alloc B.out.size (.cells #[.int .i64 33, .int .i64 (W : Nat), .int .i64 (T : Nat), .int .i64 2] 39)).trans (b1.mono (by have := B.out.size; simp; omega)))
  clear b1 cc B
  generalize w1.heap.size = bx at *
  go_wp2_with fail
  refine (F2.out _).mono ?_
  rintro e w3 ⟨rfl, b1⟩
  have d0 := (b1.cell (p := ⟨bx, 0, none⟩) (block_lt_of_cell c0)).trans c0
  have B3 := Lib.hid (B2.out.trans (b1.mono B2.out.size))
  clear b1 c0 B2
  go_wp2_with fail
  refine (BA.out _).mono ?_
  rintro e w4 ⟨v, rfl, o1, b1⟩
  obtain ⟨g1, cap1, rfl⟩ := o1.form (by rw [bitsL_len]; have := HA.out; omega)
  have row1 := o1.row rfl
  have e0 := (b1.cell (p := ⟨bx, 0, none⟩) (block_lt_of_cell d0)).trans d0
  have B4 := Lib.hid (B3.out.trans (b1.mono B3.out.size))
  clear b1 d0 B3 o1
  rw [bitsL_len]
  have R1 := Lib.hid row1
  clear row1
  go_wp2_with fail
  refine (BB.out _).mono ?_
  rintro e w5 ⟨v, rfl, o1, b1⟩
  obtain ⟨g2, cap2, rfl⟩ := o1.form (by rw [bitsL_len]; have := HA.out; omega)
  have row1 := o1.row rfl
  have f0 := (b1.cell (p := ⟨bx, 0, none⟩) (block_lt_of_cell e0)).trans e0
  have Q1 := Lib.hid (R1.out.later b1)
  have B5 := Lib.hid (B4.out.trans (b1.mono B4.out.size))
  clear b1 e0 B4 o1 R1
  rw [bitsL_len]
  have Q2 := Lib.hid row1
  clear row1
  have f1 : (w5.alloc (.cells (madeCells #[.int .i64 0] W) 3)).cell? ⟨bx, 0, none⟩ = some (.int .i64 33) := (World.cell?_alloc_lt _ _ _ (block_lt_of_cell f0)).trans f0
  go_wp2_with fail
  rw [HK64.out]
  clear hq hw hmk
  have OI := OutIs.new w5 W (dg 27 W a b k)
  have F5 := Lib.hid f0
  clear f0 f1
  go_loopw [17] (fun c wr => ∃ i : Nat, c = .int .i64 (i : Int) ∧ i ≤ W ∧ OutIs wr w5.heap.size W i (dg 27 W a b k) ∧ Below w5.heap.size w5 wr) (fun c _ => W - (intOf c).toNat)
  case atStart => exact ⟨0, rfl, by omega, OI, (Below.refl _ _).alloc (Nat.le_refl _) _⟩
  clear OI
  case round =>
    obtain ⟨i, rfl, hi, oi, bb⟩ := hrel
    have OI := Lib.hid oi
    have BB5 := Lib.hid bb
    have c0 := (bb.cell (p := ⟨bx, 0, none⟩) (block_lt_of_cell F5.out)).trans F5.out
    have S1 := Lib.hid (Q1.out.later bb)
    have S2 := Lib.hid (Q2.out.later bb)
    clear bb
    by_cases hlt : i < W
    · have hi64 : i < 64 := by have := HA.out; omega
      have hil : (i : Int) < (W : Int) := by omega
      have hold := oi.1 i hlt
      have hfz := oi.2
      rw [if_neg (Nat.lt_irrefl i)] at hold
      clear oi
      obtain ⟨s, hs⟩ : ∃ s, s = i + W := ⟨_, rfl⟩
      obtain ⟨t, ht⟩ : ∃ t, t = s - k := ⟨_, rfl⟩
      obtain ⟨d, hd⟩ : ∃ d, d = t % W := ⟨_, rfl⟩
      have V1 := Lib.hid (w64e ((i : Int) + (W : Int)) s (by omega) (by have := HA.out; omega))
      have V2 := Lib.hid (w64e ((s : Int) - (k : Int)) t (by omega) (by have := HA.out; omega))
      have V3 := Lib.hid (show (t : Int).tmod (W : Int) = (d : Int) by rw [hd]; exact tmod_nat t W)
      have hdl : d < W := by rw [hd]; exact Nat.mod_lt _ (by omega)
      have x1 := S1.out d _ (bitsL_get W a d (by rw [hd]; exact Nat.mod_lt _ (by omega)))
      change wr.cell? _ = some (.int .i64 ((A a d : Nat) : Int)) at x1
      have hdz : dg 27 W a b k i = A a d := by show A a ((i + W - k) % W) = A a d; rw [hd, ht, hs]
      have NX := OI.out.step hlt (v := ((A a d : Nat) : Int)) (by rw [hdz])
      have NB := Lib.hid (BB5.out.setCell (p := ⟨w5.heap.size, i, none⟩) (Nat.le_refl _) (.int .i64 ((A a d : Nat) : Int)))
      generalize A a d = z at x1 NX NB hdz
      have NX := Lib.hid NX
      have hidx : (d : Int) < (W : Int) := by omega
      clear hdz hd ht hs
      have oV1 := V1.out
      have oV2 := V2.out
      have oV3 := V3.out
      go_wp2
      clear oV1 oV2 oV3
      go_roundw
      case rel => exact ⟨i + 1, by go_num, by omega, NX.out, NB.out⟩
      case measure => simp [intOf]; omega
    · obtain rfl : i = W := by omega
      have D := Num_ref w5.heap.size i i ((List.range i).map (dg 27 i a b k)) (by simp) (by
        intro x hx
        obtain ⟨j, _, rfl⟩ := List.mem_map.1 hx
        exact dg_le _ _ _ _ _ _) (by have := HA.out; omega) wr oi.row
      rw [HK.out.1, dig_num HD.out 27 a b (by omega) (by omega) HA.out.1 HA.out.2.1] at D
      have D := Lib.hid D
      have BF := Lib.hid (B5.out.trans (BB5.out.mono B5.out.size))
      clear oi c0
      go_wp2_with fail
      refine D.out.mono ?_
      rintro e w9 ⟨rfl, rfl⟩
      go_wp2
      go_ret2
      exact ⟨rfl, BF.out⟩

set_option maxRecDepth 100000 in
set_option maxHeartbeats 8000000 in
theorem TwoR_28 {W M : Nat} (h : Wd W M) (op : Int) (a b T : Nat) (ha : a < M) (hb : b < M) (w : World) (hOf : Ofs op (34, W, T, 2) w) :
    Calls Tryd.prog 11 #[.int .i64 op, .int .u64 a, .int .u64 b] w fun e w' => e = .returned (.tuple #[.int .u64 (((bin 28 W M a b).1 : Nat) : Int), .int .i64 0]) ∧ Below w.heap.size w w' := by
  have HOF := Lib.hid hOf
  have hW := h.lt
  have F1 := fun w => Fits_ref a W (by omega) (by omega) (by omega) w
  rw [fits_wd h, decide_eq_true ha] at F1
  have F2 := fun w => Fits_ref b W (by omega) (by omega) (by omega) w
  rw [fits_wd h, decide_eq_true hb] at F2
  have F1 := Lib.hid F1
  have F2 := Lib.hid F2
  have BA := Lib.hid (fun w => Bits_ref a W (by omega) (by omega) w)
  have BB := Lib.hid (fun w => Bits_ref b W (by omega) (by omega) w)
  have HD := Lib.hid h
  have HA := Lib.hid (And.intro ha (And.intro hb hW))
  obtain ⟨k, hk⟩ : ∃ k, k = b % W := ⟨_, rfl⟩
  have hkW : k < W := by rw [hk]; exact Nat.mod_lt _ (by omega)
  have h0 : ¬ W = 0 := by omega
  have hq : (b : Int).tmod (W : Int) = (k : Int) := by rw [hk, Int.tmod_eq_emod_of_nonneg (by omega)]; exact (Int.natCast_emod b W).symm
  have hw : IntKind.u64.wrap (W : Int) = (W : Int) := by rw [IntKind.wrap_u64]; omega
  have HK64 := Lib.hid (w64e (k : Int) k rfl (by omega))
  have hmk := run_make_row' (P := Tryd.prog) 54 3 (.int .i64 0) 8 Tryd.underlying54 info3 rfl .i64 .i64 W (by omega) (by omega)
  have HK := Lib.hid (And.intro hk hkW)
  clear hOf h hW ha hb hk
  go_enter Tryd.func11, Tryd.ntmps11
  go_wp2_with fail
  refine HOF.out.mono ?_
  rintro e w1 ⟨rfl, b1⟩
  have B := Lib.hid b1
  clear b1
  go_wp2_with fail
  refine (F1.out _).mono ?_
  rintro e w2 ⟨rfl, b1⟩
  have cc : ∀ j, w2.cell? ⟨w1.heap.size, j, none⟩ = (w1.alloc (.cells #[.int .i64 34, .int .i64 (W : Nat), .int .i64 (T : Nat), .int .i64 2] 39)).cell? ⟨w1.heap.size, j, none⟩ := fun j => b1.cell (p := ⟨w1.heap.size, j, none⟩) (by simp)
  have c0 : w2.cell? ⟨w1.heap.size, 0, none⟩ = some (.int .i64 34) := (cc 0).trans (World.cell?_alloc_at _ _ _ _ rfl)
  have B2 := Lib.hid ((B.out.alloc B.out.size (.cells #[.int .i64 34, .int .i64 (W : Nat), .int .i64 (T : Nat), .int .i64 2] 39)).trans (b1.mono (by have := B.out.size; simp; omega)))
  clear b1 cc B
  generalize w1.heap.size = bx at *
  go_wp2_with fail
  refine (F2.out _).mono ?_
  rintro e w3 ⟨rfl, b1⟩
  have d0 := (b1.cell (p := ⟨bx, 0, none⟩) (block_lt_of_cell c0)).trans c0
  have B3 := Lib.hid (B2.out.trans (b1.mono B2.out.size))
  clear b1 c0 B2
  go_wp2_with fail
  refine (BA.out _).mono ?_
  rintro e w4 ⟨v, rfl, o1, b1⟩
  obtain ⟨g1, cap1, rfl⟩ := o1.form (by rw [bitsL_len]; have := HA.out; omega)
  have row1 := o1.row rfl
  have e0 := (b1.cell (p := ⟨bx, 0, none⟩) (block_lt_of_cell d0)).trans d0
  have B4 := Lib.hid (B3.out.trans (b1.mono B3.out.size))
  clear b1 d0 B3 o1
  rw [bitsL_len]
  have R1 := Lib.hid row1
  clear row1
  go_wp2_with fail
  refine (BB.out _).mono ?_
  rintro e w5 ⟨v, rfl, o1, b1⟩
  obtain ⟨g2, cap2, rfl⟩ := o1.form (by rw [bitsL_len]; have := HA.out; omega)
  have row1 := o1.row rfl
  have f0 := (b1.cell (p := ⟨bx, 0, none⟩) (block_lt_of_cell e0)).trans e0
  have Q1 := Lib.hid (R1.out.later b1)
  have B5 := Lib.hid (B4.out.trans (b1.mono B4.out.size))
  clear b1 e0 B4 o1 R1
  rw [bitsL_len]
  have Q2 := Lib.hid row1
  clear row1
  have f1 : (w5.alloc (.cells (madeCells #[.int .i64 0] W) 3)).cell? ⟨bx, 0, none⟩ = some (.int .i64 34) := (World.cell?_alloc_lt _ _ _ (block_lt_of_cell f0)).trans f0
  go_wp2_with fail
  rw [HK64.out]
  clear hq hw hmk
  have OI := OutIs.new w5 W (dg 28 W a b k)
  have F5 := Lib.hid f0
  clear f0 f1
  go_loopw [17] (fun c wr => ∃ i : Nat, c = .int .i64 (i : Int) ∧ i ≤ W ∧ OutIs wr w5.heap.size W i (dg 28 W a b k) ∧ Below w5.heap.size w5 wr) (fun c _ => W - (intOf c).toNat)
  case atStart => exact ⟨0, rfl, by omega, OI, (Below.refl _ _).alloc (Nat.le_refl _) _⟩
  clear OI
  case round =>
    obtain ⟨i, rfl, hi, oi, bb⟩ := hrel
    have OI := Lib.hid oi
    have BB5 := Lib.hid bb
    have c0 := (bb.cell (p := ⟨bx, 0, none⟩) (block_lt_of_cell F5.out)).trans F5.out
    have S1 := Lib.hid (Q1.out.later bb)
    have S2 := Lib.hid (Q2.out.later bb)
    clear bb
    by_cases hlt : i < W
    · have hi64 : i < 64 := by have := HA.out; omega
      have hil : (i : Int) < (W : Int) := by omega
      have hold := oi.1 i hlt
      have hfz := oi.2
      rw [if_neg (Nat.lt_irrefl i)] at hold
      clear oi
      obtain ⟨s, hs⟩ : ∃ s, s = i + k := ⟨_, rfl⟩
      obtain ⟨d, hd⟩ : ∃ d, d = s % W := ⟨_, rfl⟩
      have V1 := Lib.hid (w64e ((i : Int) + (k : Int)) s (by omega) (by have := HA.out; omega))
      have V2 := Lib.hid (show (s : Int).tmod (W : Int) = (d : Int) by rw [hd]; exact tmod_nat s W)
      have hdl : d < W := by rw [hd]; exact Nat.mod_lt _ (by omega)
      have x1 := S1.out d _ (bitsL_get W a d hdl)
      change wr.cell? _ = some (.int .i64 ((A a d : Nat) : Int)) at x1
      have hdz : dg 28 W a b k i = A a d := by show A a ((i + k) % W) = A a d; rw [hd, hs]
      have NX := OI.out.step hlt (v := ((A a d : Nat) : Int)) (by rw [hdz])
      have NB := Lib.hid (BB5.out.setCell (p := ⟨w5.heap.size, i, none⟩) (Nat.le_refl _) (.int .i64 ((A a d : Nat) : Int)))
      generalize A a d = z at x1 NX NB hdz
      have NX := Lib.hid NX
      have hidx : (d : Int) < (W : Int) := by omega
      clear hdz hd hs
      have oV1 := V1.out
      have oV2 := V2.out
      go_wp2
      clear oV1 oV2
      go_roundw
      case rel => exact ⟨i + 1, by go_num, by omega, NX.out, NB.out⟩
      case measure => simp [intOf]; omega
    · obtain rfl : i = W := by omega
      have D := Num_ref w5.heap.size i i ((List.range i).map (dg 28 i a b k)) (by simp) (by
        intro x hx
        obtain ⟨j, _, rfl⟩ := List.mem_map.1 hx
        exact dg_le _ _ _ _ _ _) (by have := HA.out; omega) wr oi.row
      rw [HK.out.1, dig_num HD.out 28 a b (by omega) (by omega) HA.out.1 HA.out.2.1] at D
      have D := Lib.hid D
      have BF := Lib.hid (B5.out.trans (BB5.out.mono B5.out.size))
      clear oi c0
      go_wp2_with fail
      refine D.out.mono ?_
      rintro e w9 ⟨rfl, rfl⟩
      go_wp2
      go_ret2
      exact ⟨rfl, BF.out⟩
end Go.Proofs.YtdoejkdckokjdaaDoor
