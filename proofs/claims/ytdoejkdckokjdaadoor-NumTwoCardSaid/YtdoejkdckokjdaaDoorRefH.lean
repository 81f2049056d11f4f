/- geoderef03.Two: the other operations; all together. -/
import Derived.Test.YtdoejkdckokjdaaDoorRefG
namespace Go.Proofs.YtdoejkdckokjdaaDoor
open Go.RowKit

set_option maxRecDepth 100000 in
theorem TwoR_many (op : Int) (a b pl W T m : Nat) (hm : m ≠ 2) (w : World) (hOf : Ofs op (pl, W, T, m) w) :
    Calls Tryd.prog 11 #[.int .i64 op, .int .u64 a, .int .u64 b] w fun e w' => e = .returned (.tuple #[.int .u64 0, .int .i64 2]) ∧ Below w.heap.size w w' := by
  have HOF := Lib.hid hOf
  have hn : ((m : Int) != 2) = true := by simp; omega
  clear hOf hm
  go_enter Tryd.func11, Tryd.ntmps11
  go_wp2_with fail
  refine HOF.out.mono ?_
  rintro e w1 ⟨rfl, b1⟩
  have B := Lib.hid b1
  clear b1
  go_wp2
  go_ret2
  exact ⟨rfl, B.out.alloc B.out.size _⟩

set_option maxRecDepth 100000 in
theorem TwoR_bad1 {W M : Nat} (h : Wd W M) (op : Int) (a b pl T : Nat) (ha : a < 18446744073709551616) (hna : ¬ a < M) (w : World) (hOf : Ofs op (pl, W, T, 2) w) :
    Calls Tryd.prog 11 #[.int .i64 op, .int .u64 a, .int .u64 b] w fun e w' => e = .returned (.tuple #[.int .u64 0, .int .i64 2]) ∧ Below w.heap.size w w' := by
  have HOF := Lib.hid hOf
  have hW := h.lt
  have F := fun w => Fits_ref a W ha (by omega) (by omega) w
  rw [fits_wd h, decide_eq_false hna] at F
  have F := Lib.hid F
  clear hOf h hna hW ha
  go_enter Tryd.func11, Tryd.ntmps11
  go_wp2_with fail
  refine HOF.out.mono ?_
  rintro e w1 ⟨rfl, b1⟩
  have B := Lib.hid b1
  clear b1
  go_wp2_with fail
  refine (F.out _).mono ?_
  rintro e w2 ⟨rfl, b1⟩
  have B2 := Lib.hid ((B.out.alloc B.out.size _).trans (b1.mono (by have := B.out.size; simp; omega)))
  clear b1
  go_wp2
  go_ret2
  exact ⟨rfl, B2.out⟩

set_option maxRecDepth 100000 in
theorem TwoR_bad2 {W M : Nat} (h : Wd W M) (op : Int) (a b pl T : Nat) (ha : a < M) (hb : b < 18446744073709551616) (hnb : ¬ b < M) (w : World) (hOf : Ofs op (pl, W, T, 2) w) :
    Calls Tryd.prog 11 #[.int .i64 op, .int .u64 a, .int .u64 b] w fun e w' => e = .returned (.tuple #[.int .u64 0, .int .i64 2]) ∧ Below w.heap.size w w' := by
  have HOF := Lib.hid hOf
  have hW := h.lt
  have F := fun w => Fits_ref a W (by omega) (by omega) (by omega) w
  rw [fits_wd h, decide_eq_true ha] at F
  have F := Lib.hid F
  have F2 := fun w => Fits_ref b W hb (by omega) (by omega) w
  rw [fits_wd h, decide_eq_false hnb] at F2
  have F2 := Lib.hid F2
  clear hOf h hnb hW ha hb
  go_enter Tryd.func11, Tryd.ntmps11
  go_wp2_with fail
  refine HOF.out.mono ?_
  rintro e w1 ⟨rfl, b1⟩
  have B := Lib.hid b1
  clear b1
  go_wp2_with fail
  refine (F.out _).mono ?_
  rintro e w2 ⟨rfl, b1⟩
  have B2 := Lib.hid ((B.out.alloc B.out.size _).trans (b1.mono (by have := B.out.size; simp; omega)))
  clear b1
  go_wp2_with fail
  refine (F2.out _).mono ?_
  rintro e w3 ⟨rfl, b1⟩
  have B3 := Lib.hid (B2.out.trans (b1.mono B2.out.size))
  clear b1
  go_wp2
  go_ret2
  exact ⟨rfl, B3.out⟩

set_option maxRecDepth 100000 in
set_option maxHeartbeats 4000000 in
theorem TwoR_ask {W M : Nat} (h : Wd W M) (op : Int) (a b p T : Nat) (h1 : 1 ≤ p) (h2 : p ≤ 10) (ha : a < M) (hb : b < M) (w : World) (hOf : Ofs op (p + 9, W, T, 2) w) :
    Calls Tryd.prog 11 #[.int .i64 op, .int .u64 a, .int .u64 b] w fun e w' => e = .returned (.tuple #[.int .u64 (((bin p W M a b).1 : Nat) : Int), .int .i64 0]) ∧ Below w.heap.size w w' := by
  have hW := h.lt
  have F := fun w => Fits_ref a W (by omega) (by omega) (by omega) w
  rw [fits_wd h, decide_eq_true ha] at F
  have F := Lib.hid F
  have F2 := fun w => Fits_ref b W (by omega) (by omega) (by omega) w
  rw [fits_wd h, decide_eq_true hb] at F2
  have F2 := Lib.hid F2
  have AS := fun w => (ask_any h p a b h1 h2 ha hb w).1
  have eb := (ask_any h p a b h1 h2 ha hb w).2
  obtain ⟨pl, hpl⟩ : ∃ pl, pl = p + 9 := ⟨_, rfl⟩
  rw [← hpl] at AS hOf
  rw [eb]
  generalize askB p M a b = r at AS eb
  have AS := Lib.hid AS
  have YE := Lib.hid (fun w => yes_ref r w)
  have HOF := Lib.hid hOf
  have hl20 : decide ((pl : Int) < 20) = true := by simp; omega
  clear hOf h hW ha hb eb hpl h1 h2
  go_enter Tryd.func11, Tryd.ntmps11
  go_wp2_with fail
  refine HOF.out.mono ?_
  rintro e w1 ⟨rfl, b1⟩
  have B := Lib.hid b1
  clear b1
  go_wp2_with fail
  refine (F.out _).mono ?_
  rintro e w2 ⟨rfl, b1⟩
  have cc : ∀ j, w2.cell? ⟨w1.heap.size, j, none⟩ = (w1.alloc (.cells #[.int .i64 (pl : Nat), .int .i64 (W : Nat), .int .i64 (T : Nat), .int .i64 2] 39)).cell? ⟨w1.heap.size, j, none⟩ := fun j => b1.cell (p := ⟨w1.heap.size, j, none⟩) (by simp)
  have c0 : w2.cell? ⟨w1.heap.size, 0, none⟩ = some (.int .i64 (pl : Nat)) := (cc 0).trans (World.cell?_alloc_at _ _ _ _ rfl)
  have B2 := Lib.hid ((B.out.alloc B.out.size (.cells #[.int .i64 (pl : Nat), .int .i64 (W : Nat), .int .i64 (T : Nat), .int .i64 2] 39)).trans (b1.mono (by have := B.out.size; simp; omega)))
  clear b1 cc B
  generalize w1.heap.size = bx at *
  go_wp2_with fail
  refine (F2.out _).mono ?_
  rintro e w3 ⟨rfl, b1⟩
  have d0 := (b1.cell (p := ⟨bx, 0, none⟩) (block_lt_of_cell c0)).trans c0
  have B3 := Lib.hid (B2.out.trans (b1.mono B2.out.size))
  clear b1 c0 B2
  go_wp2_with fail
  refine (AS.out _).mono ?_
  rintro e w4 ⟨rfl, rfl⟩
  go_wp2_with (go_at_call 23; refine (YE.out _).mono ?_; rintro e w5 ⟨rfl, rfl⟩)
  go_ret2
  exact ⟨rfl, B3.out⟩

set_option maxRecDepth 100000 in
set_option maxHeartbeats 4000000 in
theorem TwoR_zero {W M : Nat} (h : Wd W M) (op : Int) (a pl T : Nat) (h1 : 23 ≤ pl) (h2 : pl ≤ 26) (ha : a < M) (w : World) (hOf : Ofs op (pl, W, T, 2) w) :
    Calls Tryd.prog 11 #[.int .i64 op, .int .u64 a, .int .u64 0] w fun e w' => e = .returned (.tuple #[.int .u64 0, .int .i64 30]) ∧ Below w.heap.size w w' := by
  have hW := h.lt
  have F := fun w => Fits_ref a W (by omega) (by omega) (by omega) w
  rw [fits_wd h, decide_eq_true ha] at F
  have F := Lib.hid F
  have F2 := fun w => Fits_ref 0 W (by omega) (by omega) (by omega) w
  rw [fits_wd h, decide_eq_true (show 0 < M by omega)] at F2
  have F2 := Lib.hid F2
  have HOF := Lib.hid hOf
  have hl20 : decide ((pl : Int) < 20) = false := by simp; omega
  have hl23 : decide ((23 : Int) ≤ (pl : Int)) = true := by simp; omega
  have hl26 : decide ((pl : Int) ≤ 26) = true := by simp; omega
  clear hOf h hW ha h1 h2
  go_enter Tryd.func11, Tryd.ntmps11
  go_wp2_with fail
  refine HOF.out.mono ?_
  rintro e w1 ⟨rfl, b1⟩
  have B := Lib.hid b1
  clear b1
  go_wp2_with fail
  refine (F.out _).mono ?_
  rintro e w2 ⟨rfl, b1⟩
  have cc : ∀ j, w2.cell? ⟨w1.heap.size, j, none⟩ = (w1.alloc (.cells #[.int .i64 (pl : Nat), .int .i64 (W : Nat), .int .i64 (T : Nat), .int .i64 2] 39)).cell? ⟨w1.heap.size, j, none⟩ := fun j => b1.cell (p := ⟨w1.heap.size, j, none⟩) (by simp)
  have c0 : w2.cell? ⟨w1.heap.size, 0, none⟩ = some (.int .i64 (pl : Nat)) := (cc 0).trans (World.cell?_alloc_at _ _ _ _ rfl)
  have B2 := Lib.hid ((B.out.alloc B.out.size (.cells #[.int .i64 (pl : Nat), .int .i64 (W : Nat), .int .i64 (T : Nat), .int .i64 2] 39)).trans (b1.mono (by have := B.out.size; simp; omega)))
  clear b1 cc B
  generalize w1.heap.size = bx at *
  go_wp2_with fail
  refine (F2.out _).mono ?_
  rintro e w3 ⟨rfl, b1⟩
  have d0 := (b1.cell (p := ⟨bx, 0, none⟩) (block_lt_of_cell c0)).trans c0
  have B3 := Lib.hid (B2.out.trans (b1.mono B2.out.size))
  clear b1 c0 B2
  go_wp2
  go_ret2
  exact ⟨rfl, B3.out⟩

set_option maxRecDepth 100000 in
set_option maxHeartbeats 8000000 in
theorem TwoR_14 {W M : Nat} (h : Wd W M) (op : Int) (a b T : Nat) (ha : a < M) (hb : b < M) (w : World) (hOf : Ofs op (20, W, T, 2) w) :
    Calls Tryd.prog 11 #[.int .i64 op, .int .u64 a, .int .u64 b] w fun e w' => e = .returned (.tuple #[.int .u64 (((bin 14 W M a b).1 : Nat) : Int), .int .i64 0]) ∧ Below w.heap.size w w' := by
  have HOF := Lib.hid hOf
  have hW := h.lt
  have F1 := fun w => Fits_ref a W (by omega) (by omega) (by omega) w
  rw [fits_wd h, decide_eq_true ha] at F1
  have F2 := fun w => Fits_ref b W (by omega) (by omega) (by omega) w
  rw [fits_wd h, decide_eq_true hb] at F2
  have F1 := Lib.hid F1
  have F2 := Lib.hid F2
  have BA := Lib.hid (fun w => Bits_ref a W (by omega) (by omega) w)
  have BB := Lib.hid (fun w => Bits_ref b W (by omega) (by omega) w)
  have HD := Lib.hid h
  have HA := Lib.hid (And.intro ha (And.intro hb hW))
  obtain ⟨k, hk⟩ : ∃ k, k = b % W := ⟨_, rfl⟩
  have hkW : k < W := by rw [hk]; exact Nat.mod_lt _ (by omega)
  have h0 : ¬ W = 0 := by omega
  have hq : (b : Int).tmod (W : Int) = (k : Int) := by rw [hk, Int.tmod_eq_emod_of_nonneg (by omega)]; exact (Int.natCast_emod b W).symm
  have hw : IntKind.u64.wrap (W : Int) = (W : Int) := by rw [IntKind.wrap_u64]; omega
  have HK64 := Lib.hid (w64e (k : Int) k rfl (by omega))
  have hmk := run_make_row' (P := Tryd.prog) 54 3 (.int .i64 0) 8 Tryd.underlying54 info3 rfl .i64 .i64 W (by omega) (by omega)
  have HK := Lib.hid (And.intro hk hkW)
  obtain ⟨r, hr⟩ : ∃ r, r = (a + b) % 18446744073709551616 := ⟨_, rfl⟩
  have hraw : IntKind.u64.wrap ((a : Int) + (b : Int)) = (r : Int) := by rw [hr]; rw [IntKind.wrap_u64]; omega
  have CU := fun w => cut_ref r W (by rw [hr]; exact Nat.mod_lt _ (by omega)) (by omega) (by omega) w
  rw [← h.pow, show r % M = (bin 14 W M a b).1 by show r % M = (a + b) % M; rw [hr]; rcases h with ⟨_, rfl⟩ | ⟨_, rfl⟩ <;> omega] at CU
  have CU := Lib.hid CU
  clear hr
  clear hOf h hW ha hb hk
  go_enter Tryd.func11, Tryd.ntmps11
  go_wp2_with fail
  refine HOF.out.mono ?_
  rintro e w1 ⟨rfl, b1⟩
  have B := Lib.hid b1
  clear b1
  go_wp2_with fail
  refine (F1.out _).mono ?_
  rintro e w2 ⟨rfl, b1⟩
  have cc : ∀ j, w2.cell? ⟨w1.heap.size, j, none⟩ = (w1.alloc (.cells #[.int .i64 20, .int .i64 (W : Nat), .int .i64 (T : Nat), .int .i64 2] 39)).cell? ⟨w1.heap.size, j, none⟩ := fun j => b1.cell (p := ⟨w1.heap.size, j, none⟩) (by simp)
  have c0 : w2.cell? ⟨w1.heap.size, 0, none⟩ = some (.int .i64 20) := (cc 0).trans (World.cell?_alloc_at _ _ _ _ rfl)
  have B2 := Lib.hid ((B.out.alloc B.out.size (.cells #[.int .i64 20, .int .i64 (W : Nat), .int .i64 (T : Nat), .int .i64 2] 39)).trans (b1.mono (by have := B.out.size; simp; omega)))
  clear b1 cc B
  generalize w1.heap.size = bx at *
  go_wp2_with fail
  refine (F2.out _).mono ?_
  rintro e w3 ⟨rfl, b1⟩
  have d0 := (b1.cell (p := ⟨bx, 0, none⟩) (block_lt_of_cell c0)).trans c0
  have B3 := Lib.hid (B2.out.trans (b1.mono B2.out.size))
  clear b1 c0 B2
  go_wp2_with fail
  refine (BA.out _).mono ?_
  rintro e w4 ⟨v, rfl, o1, b1⟩
  obtain ⟨g1, cap1, rfl⟩ := o1.form (by rw [bitsL_len]; have := HA.out; omega)
  have row1 := o1.row rfl
  have e0 := (b1.cell (p := ⟨bx, 0, none⟩) (block_lt_of_cell d0)).trans d0
  have B4 := Lib.hid (B3.out.trans (b1.mono B3.out.size))
  clear b1 d0 B3 o1
  rw [bitsL_len]
  have R1 := Lib.hid row1
  clear row1
  go_wp2_with fail
  refine (BB.out _).mono ?_
  rintro e w5 ⟨v, rfl, o1, b1⟩
  obtain ⟨g2, cap2, rfl⟩ := o1.form (by rw [bitsL_len]; have := HA.out; omega)
  have row1 := o1.row rfl
  have f0 := (b1.cell (p := ⟨bx, 0, none⟩) (block_lt_of_cell e0)).trans e0
  have Q1 := Lib.hid (R1.out.later b1)
  have B5 := Lib.hid (B4.out.trans (b1.mono B4.out.size))
  clear b1 e0 B4 o1 R1
  rw [bitsL_len]
  have Q2 := Lib.hid row1
  clear row1
  have f1 : (w5.alloc (.cells (madeCells #[.int .i64 0] W) 3)).cell? ⟨bx, 0, none⟩ = some (.int .i64 20) := (World.cell?_alloc_lt _ _ _ (block_lt_of_cell f0)).trans f0
  have B6 := Lib.hid (B5.out.alloc B5.out.size (.cells (madeCells #[.int .i64 0] W) 3))
  go_wp2_with fail
  refine (CU.out _).mono ?_
  rintro e w6 ⟨rfl, b1⟩
  have B7 := Lib.hid (B6.out.trans (b1.mono B6.out.size))
  clear b1
  go_wp2
  go_ret2
  exact ⟨rfl, B7.out⟩

set_option maxRecDepth 100000 in
set_option maxHeartbeats 8000000 in
theorem TwoR_15 {W M : Nat} (h : Wd W M) (op : Int) (a b T : Nat) (ha : a < M) (hb : b < M) (w : World) (hOf : Ofs op (21, W, T, 2) w) :
    Calls Tryd.prog 11 #[.int .i64 op, .int .u64 a, .int .u64 b] w fun e w' => e = .returned (.tuple #[.int .u64 (((bin 15 W M a b).1 : Nat) : Int), .int .i64 0]) ∧ Below w.heap.size w w' := by
  have HOF := Lib.hid hOf
  have hW := h.lt
  have F1 := fun w => Fits_ref a W (by omega) (by omega) (by omega) w
  rw [fits_wd h, decide_eq_true ha] at F1
  have F2 := fun w => Fits_ref b W (by omega) (by omega) (by omega) w
  rw [fits_wd h, decide_eq_true hb] at F2
  have F1 := Lib.hid F1
  have F2 := Lib.hid F2
  have BA := Lib.hid (fun w => Bits_ref a W (by omega) (by omega) w)
  have BB := Lib.hid (fun w => Bits_ref b W (by omega) (by omega) w)
  have HD := Lib.hid h
  have HA := Lib.hid (And.intro ha (And.intro hb hW))
  obtain ⟨k, hk⟩ : ∃ k, k = b % W := ⟨_, rfl⟩
  have hkW : k < W := by rw [hk]; exact Nat.mod_lt _ (by omega)
  have h0 : ¬ W = 0 := by omega
  have hq : (b : Int).tmod (W : Int) = (k : Int) := by rw [hk, Int.tmod_eq_emod_of_nonneg (by omega)]; exact (Int.natCast_emod b W).symm
  have hw : IntKind.u64.wrap (W : Int) = (W : Int) := by rw [IntKind.wrap_u64]; omega
  have HK64 := Lib.hid (w64e (k : Int) k rfl (by omega))
  have hmk := run_make_row' (P := Tryd.prog) 54 3 (.int .i64 0) 8 Tryd.underlying54 info3 rfl .i64 .i64 W (by omega) (by omega)
  have HK := Lib.hid (And.intro hk hkW)
  obtain ⟨r, hr⟩ : ∃ r, r = (a + (18446744073709551616 - b)) % 18446744073709551616 := ⟨_, rfl⟩
  have hraw : IntKind.u64.wrap ((a : Int) - (b : Int)) = (r : Int) := by rw [hr]; rw [IntKind.wrap_u64]; omega
  have CU := fun w => cut_ref r W (by rw [hr]; exact Nat.mod_lt _ (by omega)) (by omega) (by omega) w
  rw [← h.pow, show r % M = (bin 15 W M a b).1 by show r % M = (a + (M - b)) % M; rw [hr]; rcases h with ⟨_, rfl⟩ | ⟨_, rfl⟩ <;> omega] at CU
  have CU := Lib.hid CU
  clear hr
  clear hOf h hW ha hb hk
  go_enter Tryd.func11, Tryd.ntmps11
  go_wp2_with fail
  refine HOF.out.mono ?_
  rintro e w1 ⟨rfl, b1⟩
  have B := Lib.hid b1
  clear b1
  go_wp2_with fail
  refine (F1.out _).mono ?_
  rintro e w2 ⟨rfl, b1⟩
  have cc : ∀ j, w2.cell? ⟨w1.heap.size, j, none⟩ = (w1.alloc (.cells #[.int .i64 21, .int .i64 (W : Nat), .int .i64 (T : Nat), .int .i64 2] 39)).cell? ⟨w1.heap.size, j, none⟩ := fun j => b1.cell (p := ⟨w1.heap.size, j, none⟩) (by simp)
  have c0 : w2.cell? ⟨w1.heap.size, 0, none⟩ = some (.int .i64 21) := (cc 0).trans (World.cell?_alloc_at _ _ _ _ rfl)
  have B2 := Lib.hid ((B.out.alloc B.out.size (.cells #[.int .i64 21, .int .i64 (W : Nat), .int .i64 (T : Nat), .int .i64 2] 39)).trans (b1.mono (by have := B.out.size; simp; omega)))
  clear b1 cc B
  generalize w1.heap.size = bx at *
  go_wp2_with fail
  refine (F2.out _).mono ?_
  rintro e w3 ⟨rfl, b1⟩
  have d0 := (b1.cell (p := ⟨bx, 0, none⟩) (block_lt_of_cell c0)).trans c0
  have B3 := Lib.hid (B2.out.trans (b1.mono B2.out.size))
  clear b1 c0 B2
  go_wp2_with fail
  refine (BA.out _).mono ?_
  rintro e w4 ⟨v, rfl, o1, b1⟩
  obtain ⟨g1, cap1, rfl⟩ := o1.form (by rw [bitsL_len]; have := HA.out; omega)
  have row1 := o1.row rfl
  have e0 := (b1.cell (p := ⟨bx, 0, none⟩) (block_lt_of_cell d0)).trans d0
  have B4 := Lib.hid (B3.out.trans (b1.mono B3.out.size))
  clear b1 d0 B3 o1
  rw [bitsL_len]
  have R1 := Lib.hid row1
  clear row1
  go_wp2_with fail
  refine (BB.out _).mono ?_
  rintro e w5 ⟨v, rfl, o1, b1⟩
  obtain ⟨g2, cap2, rfl⟩ := o1.form (by rw [bitsL_len]; have := HA.out; omega)
  have row1 := o1.row rfl
  have f0 := (b1.cell (p := ⟨bx, 0, none⟩) (block_lt_of_cell e0)).trans e0
  have Q1 := Lib.hid (R1.out.later b1)
  have B5 := Lib.hid (B4.out.trans (b1.mono B4.out.size))
  clear b1 e0 B4 o1 R1
  rw [bitsL_len]
  have Q2 := Lib.hid row1
  clear row1
  have f1 : (w5.alloc (.cells (madeCells #[.int .i64 0] W) 3)).cell? ⟨bx, 0, none⟩ = some (.int .i64 21) := (World.cell?_alloc_lt _ _ _ (block_lt_of_cell f0)).trans f0
  have B6 := Lib.hid (B5.out.alloc B5.out.size (.cells (madeCells #[.int .i64 0] W) 3))
  go_wp2_with fail
  refine (CU.out _).mono ?_
  rintro e w6 ⟨rfl, b1⟩
  have B7 := Lib.hid (B6.out.trans (b1.mono B6.out.size))
  clear b1
  go_wp2
  go_ret2
  exact ⟨rfl, B7.out⟩

set_option maxRecDepth 100000 in
set_option maxHeartbeats 8000000 in
theorem TwoR_16 {W M : Nat} (h : Wd W M) (op : Int) (a b T : Nat) (ha : a < M) (hb : b < M) (w : World) (hOf : Ofs op (22, W, T, 2) w) :
    Calls Tryd.prog 11 #[.int .i64 op, .int .u64 a, .int .u64 b] w fun e w' => e = .returned (.tuple #[.int .u64 (((bin 16 W M a b).1 : Nat) : Int), .int .i64 0]) ∧ Below w.heap.size w w' := by
  have HOF := Lib.hid hOf
  have hW := h.lt
  have F1 := fun w => Fits_ref a W (by omega) (by omega) (by omega) w
  rw [fits_wd h, decide_eq_true ha] at F1
  have F2 := fun w => Fits_ref b W (by omega) (by omega) (by omega) w
  rw [fits_wd h, decide_eq_true hb] at F2
  have F1 := Lib.hid F1
  have F2 := Lib.hid F2
  have BA := Lib.hid (fun w => Bits_ref a W (by omega) (by omega) w)
  have BB := Lib.hid (fun w => Bits_ref b W (by omega) (by omega) w)
  have HD := Lib.hid h
  have HA := Lib.hid (And.intro ha (And.intro hb hW))
  obtain ⟨k, hk⟩ : ∃ k, k = b % W := ⟨_, rfl⟩
  have hkW : k < W := by rw [hk]; exact Nat.mod_lt _ (by omega)
  have h0 : ¬ W = 0 := by omega
  have hq : (b : Int).tmod (W : Int) = (k : Int) := by rw [hk, Int.tmod_eq_emod_of_nonneg (by omega)]; exact (Int.natCast_emod b W).symm
  have hw : IntKind.u64.wrap (W : Int) = (W : Int) := by rw [IntKind.wrap_u64]; omega
  have HK64 := Lib.hid (w64e (k : Int) k rfl (by omega))
  have hmk := run_make_row' (P := Tryd.prog) 54 3 (.int .i64 0) 8 Tryd.underlying54 info3 rfl .i64 .i64 W (by omega) (by omega)
  have HK := Lib.hid (And.intro hk hkW)
  obtain ⟨r, hr⟩ : ∃ r, r = a * b % 18446744073709551616 := ⟨_, rfl⟩
  have hraw : IntKind.u64.wrap ((a : Int) * (b : Int)) = (r : Int) := by rw [hr]; rw [← Int.natCast_mul, IntKind.wrap_u64]; generalize a * b = c; omega
  have CU := fun w => cut_ref r W (by rw [hr]; exact Nat.mod_lt _ (by omega)) (by omega) (by omega) w
  rw [← h.pow, show r % M = (bin 16 W M a b).1 by show r % M = a * b % M; rw [hr]; exact mod_mod_wd h _] at CU
  have CU := Lib.hid CU
  clear hr
  clear hOf h hW ha hb hk
  go_enter Tryd.func11, Tryd.ntmps11
  go_wp2_with fail
  refine HOF.out.mono ?_
  rintro e w1 ⟨rfl, b1⟩
  have B := Lib.hid b1
  clear b1
  go_wp2_with fail
  refine (F1.out _).mono ?_
  rintro e w2 ⟨rfl, b1⟩
  have cc : ∀ j, w2.cell? ⟨w1.heap.size, j, none⟩ = (w1.alloc (.cells #[.int .i64 22, .int .i64 (W : Nat), .int .i64 (T : Nat), .int .i64 2] 39)).cell? ⟨w1.heap.size, j, none⟩ := fun j => b1.cell (p := ⟨w1.heap.size, j, none⟩) (by simp)
  have c0 : w2.cell? ⟨w1.heap.size, 0, none⟩ = some (.int .i64 22) := (cc 0).trans (World.cell?_alloc_at _ _ _ _ rfl)
  have B2 := Lib.hid ((B.out.alloc B.out.size (.cells #[.int .i64 22, .int .i64 (W : Nat), .int .i64 (T : Nat), .int .i64 2] 39)).trans (b1.mono (by have := B.out.size; simp; omega)))
  clear b1 cc B
  generalize w1.heap.size = bx at *
  go_wp2_with fail
  refine (F2.out _).mono ?_
  rintro e w3 ⟨rfl, b1⟩
  have d0 := (b1.cell (p := ⟨bx, 0, none⟩) (block_lt_of_cell c0)).trans c0
  have B3 := Lib.hid (B2.out.trans (b1.mono B2.out.size))
  clear b1 c0 B2
  go_wp2_with fail
  refine (BA.out _).mono ?_
  rintro e w4 ⟨v, rfl, o1, b1⟩
  obtain ⟨g1, cap1, rfl⟩ := o1.form (by rw [bitsL_len]; have := HA.out; omega)
  have row1 := o1.row rfl
  have e0 := (b1.cell (p := ⟨bx, 0, none⟩) (block_lt_of_cell d0)).trans d0
  have B4 := Lib.hid (B3.out.trans (b1.mono B3.out.size))
  clear b1 d0 B3 o1
  rw [bitsL_len]
  have R1 := Lib.hid row1
  clear row1
  go_wp2_with fail
  refine (BB.out _).mono ?_
  rintro e w5 ⟨v, rfl, o1, b1⟩
  obtain ⟨g2, cap2, rfl⟩ := o1.form (by rw [bitsL_len]; have := HA.out; omega)
  have row1 := o1.row rfl
  have f0 := (b1.cell (p := ⟨bx, 0, none⟩) (block_lt_of_cell e0)).trans e0
  have Q1 := Lib.hid (R1.out.later b1)
  have B5 := Lib.hid (B4.out.trans (b1.mono B4.out.size))
  clear b1 e0 B4 o1 R1
  rw [bitsL_len]
  have Q2 := Lib.hid row1
  clear row1
  have f1 : (w5.alloc (.cells (madeCells #[.int .i64 0] W) 3)).cell? ⟨bx, 0, none⟩ = some (.int .i64 22) := (World.cell?_alloc_lt _ _ _ (block_lt_of_cell f0)).trans f0
  have B6 := Lib.hid (B5.out.alloc B5.out.size (.cells (madeCells #[.int .i64 0] W) 3))
  go_wp2_with fail
  refine (CU.out _).mono ?_
  rintro e w6 ⟨rfl, b1⟩
  have B7 := Lib.hid (B6.out.trans (b1.mono B6.out.size))
  clear b1
  go_wp2
  go_ret2
  exact ⟨rfl, B7.out⟩

set_option maxRecDepth 100000 in
set_option maxHeartbeats 8000000 in
theorem TwoR_18 {W M : Nat} (h : Wd W M) (op : Int) (a b T : Nat) (ha : a < M) (hb : b < M) (hnz : b ≠ 0) (w : World) (hOf : Ofs op (24, W, T, 2) w) :
    Calls Tryd.prog 11 #[.int .i64 op, .int .u64 a, .int .u64 b] w fun e w' => e = .returned (.tuple #[.int .u64 (((bin 18 W M a b).1 : Nat) : Int), .int .i64 0]) ∧ Below w.heap.size w w' := by
  have HOF := Lib.hid hOf
  have hW := h.lt
  have F1 := fun w => Fits_ref a W (by omega) (by omega) (by omega) w
  rw [fits_wd h, decide_eq_true ha] at F1
  have F2 := fun w => Fits_ref b W (by omega) (by omega) (by omega) w
  rw [fits_wd h, decide_eq_true hb] at F2
  have F1 := Lib.hid F1
  have F2 := Lib.hid F2
  have BA := Lib.hid (fun w => Bits_ref a W (by omega) (by omega) w)
  have BB := Lib.hid (fun w => Bits_ref b W (by omega) (by omega) w)
  have HD := Lib.hid h
  have HA := Lib.hid (And.intro ha (And.intro hb hW))
  obtain ⟨k, hk⟩ : ∃ k, k = b % W := ⟨_, rfl⟩
  have hkW : k < W := by rw [hk]; exact Nat.mod_lt _ (by omega)
  have h0 : ¬ W = 0 := by omega
  have hq : (b : Int).tmod (W : Int) = (k : Int) := by rw [hk, Int.tmod_eq_emod_of_nonneg (by omega)]; exact (Int.natCast_emod b W).symm
  have hw : IntKind.u64.wrap (W : Int) = (W : Int) := by rw [IntKind.wrap_u64]; omega
  have HK64 := Lib.hid (w64e (k : Int) k rfl (by omega))
  have hmk := run_make_row' (P := Tryd.prog) 54 3 (.int .i64 0) 8 Tryd.underlying54 info3 rfl .i64 .i64 W (by omega) (by omega)
  have HK := Lib.hid (And.intro hk hkW)
  have hb0 : ¬ b = 0 := hnz
  have hbz : ((b : Int) == 0) = false := by simp; omega
  have hdq : IntKind.u64.wrap ((a : Int) / (b : Int)) = (((bin 18 W M a b).1 : Nat) : Int) := by
    rw [show (bin 18 W M a b).1 = a / b by show (if b = 0 then ((0 : Nat), (30 : Nat)) else (a / b, 0)).1 = _; rw [if_neg hnz], ← Int.natCast_ediv]
    exact wrap_nat _ (by have := Nat.div_le_self a b; omega)
  generalize (bin 18 W M a b).1 = res at hdq ⊢
  clear hnz
  clear hOf h hW ha hb hk
  go_enter Tryd.func11, Tryd.ntmps11
  go_wp2_with fail
  refine HOF.out.mono ?_
  rintro e w1 ⟨rfl, b1⟩
  have B := Lib.hid b1
  clear b1
  go_wp2_with fail
  refine (F1.out _).mono ?_
  rintro e w2 ⟨rfl, b1⟩
  have cc : ∀ j, w2.cell? ⟨w1.heap.size, j, none⟩ = (w1.alloc (.cells #[.int .i64 24, .int .i64 (W : Nat), .int .i64 (T : Nat), .int .i64 2] 39)).cell? ⟨w1.heap.size, j, none⟩ := fun j => b1.cell (p := ⟨w1.heap.size, j, none⟩) (by simp)
  have c0 : w2.cell? ⟨w1.heap.size, 0, none⟩ = some (.int .i64 24) := (cc 0).trans (World.cell?_alloc_at _ _ _ _ rfl)
  have B2 := Lib.hid ((B.out.alloc B.out.size (.cells #[.int .i64 24, .int .i64 (W : Nat), .int .i64 (T : Nat), .int .i64 2] 39)).trans (b1.mono (by have := B.out.size; simp; omega)))
  clear b1 cc B
  generalize w1.heap.size = bx at *
  go_wp2_with fail
  refine (F2.out _).mono ?_
  rintro e w3 ⟨rfl, b1⟩
  have d0 := (b1.cell (p := ⟨bx, 0, none⟩) (block_lt_of_cell c0)).trans c0
  have B3 := Lib.hid (B2.out.trans (b1.mono B2.out.size))
  clear b1 c0 B2
  go_wp2_with fail
  refine (BA.out _).mono ?_
  rintro e w4 ⟨v, rfl, o1, b1⟩
  obtain ⟨g1, cap1, rfl⟩ := o1.form (by rw [bitsL_len]; have := HA.out; omega)
  have row1 := o1.row rfl
  have e0 := (b1.cell (p := ⟨bx, 0, none⟩) (block_lt_of_cell d0)).trans d0
  have B4 := Lib.hid (B3.out.trans (b1.mono B3.out.size))
  clear b1 d0 B3 o1
  rw [bitsL_len]
  have R1 := Lib.hid row1
  clear row1
  go_wp2_with fail
  refine (BB.out _).mono ?_
  rintro e w5 ⟨v, rfl, o1, b1⟩
  obtain ⟨g2, cap2, rfl⟩ := o1.form (by rw [bitsL_len]; have := HA.out; omega)
  have row1 := o1.row rfl
  have f0 := (b1.cell (p := ⟨bx, 0, none⟩) (block_lt_of_cell e0)).trans e0
  have Q1 := Lib.hid (R1.out.later b1)
  have B5 := Lib.hid (B4.out.trans (b1.mono B4.out.size))
  clear b1 e0 B4 o1 R1
  rw [bitsL_len]
  have Q2 := Lib.hid row1
  clear row1
  have f1 : (w5.alloc (.cells (madeCells #[.int .i64 0] W) 3)).cell? ⟨bx, 0, none⟩ = some (.int .i64 24) := (World.cell?_alloc_lt _ _ _ (block_lt_of_cell f0)).trans f0
  have B6 := Lib.hid (B5.out.alloc B5.out.size (.cells (madeCells #[.int .i64 0] W) 3))
  go_wp2
  go_ret2
  exact ⟨rfl, B6.out⟩

set_option maxRecDepth 100000 in
set_option maxHeartbeats 8000000 in
theorem TwoR_20 {W M : Nat} (h : Wd W M) (op : Int) (a b T : Nat) (ha : a < M) (hb : b < M) (hnz : b ≠ 0) (w : World) (hOf : Ofs op (26, W, T, 2) w) :
    Calls Tryd.prog 11 #[.int .i64 op, .int .u64 a, .int .u64 b] w fun e w' => e = .returned (.tuple #[.int .u64 (((bin 20 W M a b).1 : Nat) : Int), .int .i64 0]) ∧ Below w.heap.size w w' := by
  have HOF := Lib.hid hOf
  have hW := h.lt
  have F1 := fun w => Fits_ref a W (by omega) (by omega) (by omega) w
  rw [fits_wd h, decide_eq_true ha] at F1
  have F2 := fun w => Fits_ref b W (by omega) (by omega) (by omega) w
  rw [fits_wd h, decide_eq_true hb] at F2
  have F1 := Lib.hid F1
  have F2 := Lib.hid F2
  have BA := Lib.hid (fun w => Bits_ref a W (by omega) (by omega) w)
  have BB := Lib.hid (fun w => Bits_ref b W (by omega) (by omega) w)
  have HD := Lib.hid h
  have HA := Lib.hid (And.intro ha (And.intro hb hW))
  obtain ⟨k, hk⟩ : ∃ k, k = b % W := ⟨_, rfl⟩
  have hkW : k < W := by rw [hk]; exact Nat.mod_lt _ (by omega)
  have h0 : ¬ W = 0 := by omega
  have hq : (b : Int).tmod (W : Int) = (k : Int) := by rw [hk, Int.tmod_eq_emod_of_nonneg (by omega)]; exact (Int.natCast_emod b W).symm
  have hw : IntKind.u64.wrap (W : Int) = (W : Int) := by rw [IntKind.wrap_u64]; omega
  have HK64 := Lib.hid (w64e (k : Int) k rfl (by omega))
  have hmk := run_make_row' (P := Tryd.prog) 54 3 (.int .i64 0) 8 Tryd.underlying54 info3 rfl .i64 .i64 W (by omega) (by omega)
  have HK := Lib.hid (And.intro hk hkW)
  have hb0 : ¬ b = 0 := hnz
  have hbz : ((b : Int) == 0) = false := by simp; omega
  have hdq : (a : Int).tmod (b : Int) = (((bin 20 W M a b).1 : Nat) : Int) := by
    rw [show (bin 20 W M a b).1 = a % b by show (if b = 0 then ((0 : Nat), (30 : Nat)) else (a % b, 0)).1 = _; rw [if_neg hnz]]
    exact tmod_nat a b
  generalize (bin 20 W M a b).1 = res at hdq ⊢
  clear hnz
  clear hOf h hW ha hb hk
  go_enter Tryd.func11, Tryd.ntmps11
  go_wp2_with fail
  refine HOF.out.mono ?_
  rintro e w1 ⟨rfl, b1⟩
  have B := Lib.hid b1
  clear b1
  go_wp2_with fail
  refine (F1.out _).mono ?_
  rintro e w2 ⟨rfl, b1⟩
  have cc : ∀ j, w2.cell? ⟨w1.heap.size, j, none⟩ = (w1.alloc (.cells #[.int .i64 26, .int .i64 (W : Nat), .int .i64 (T : Nat), .int .i64 2] 39)).cell? ⟨w1.heap.size, j, none⟩ := fun j => b1.cell (p := ⟨w1.heap.size, j, none⟩) (by simp)
  have c0 : w2.cell? ⟨w1.heap.size, 0, none⟩ = some (.int .i64 26) := (cc 0).trans (World.cell?_alloc_at _ _ _ _ rfl)
  have B2 := Lib.hid ((B.out.alloc B.out.size (.cells #[.int .i64 26, .int .i64 (W : Nat), .int .i64 (T : Nat), .int .i64 2] 39)).trans (b1.mono (by have := B.out.size; simp; omega)))
  clear b1 cc B
  generalize w1.heap.size = bx at *
  go_wp2_with fail
  refine (F2.out _).mono ?_
  rintro e w3 ⟨rfl, b1⟩
  have d0 := (b1.cell (p := ⟨bx, 0, none⟩) (block_lt_of_cell c0)).trans c0
  have B3 := Lib.hid (B2.out.trans (b1.mono B2.out.size))
  clear b1 c0 B2
  go_wp2_with fail
  refine (BA.out _).mono ?_
  rintro e w4 ⟨v, rfl, o1, b1⟩
  obtain ⟨g1, cap1, rfl⟩ := o1.form (by rw [bitsL_len]; have := HA.out; omega)
  have row1 := o1.row rfl
  have e0 := (b1.cell (p := ⟨bx, 0, none⟩) (block_lt_of_cell d0)).trans d0
  have B4 := Lib.hid (B3.out.trans (b1.mono B3.out.size))
  clear b1 d0 B3 o1
  rw [bitsL_len]
  have R1 := Lib.hid row1
  clear row1
  go_wp2_with fail
  refine (BB.out _).mono ?_
  rintro e w5 ⟨v, rfl, o1, b1⟩
  obtain ⟨g2, cap2, rfl⟩ := o1.form (by rw [bitsL_len]; have := HA.out; omega)
  have row1 := o1.row rfl
  have f0 := (b1.cell (p := ⟨bx, 0, none⟩) (block_lt_of_cell e0)).trans e0
  have Q1 := Lib.hid (R1.out.later b1)
  have B5 := Lib.hid (B4.out.trans (b1.mono B4.out.size))
  clear b1 e0 B4 o1 R1
  rw [bitsL_len]
  have Q2 := Lib.hid row1
  clear row1
  have f1 : (w5.alloc (.cells (madeCells #[.int .i64 0] W) 3)).cell? ⟨bx, 0, none⟩ = some (.int .i64 26) := (World.cell?_alloc_lt _ _ _ (block_lt_of_cell f0)).trans f0
  have B6 := Lib.hid (B5.out.alloc B5.out.size (.cells (madeCells #[.int .i64 0] W) 3))
  go_wp2
  go_ret2
  exact ⟨rfl, B6.out⟩

set_option maxRecDepth 100000 in
set_option maxHeartbeats 8000000 in
theorem TwoR_17o {W M : Nat} (h : Wd W M) (op : Int) (a b T : Nat) (ha : a < M) (hb : b < M) (hnz : b ≠ 0) (hov : 2 * a = M ∧ sg M b = -1) (w : World) (hOf : Ofs op (23, W, T, 2) w) :
    Calls Tryd.prog 11 #[.int .i64 op, .int .u64 a, .int .u64 b] w fun e w' => e = .returned (.tuple #[.int .u64 0, .int .i64 31]) ∧ Below w.heap.size w w' := by
  have HOF := Lib.hid hOf
  have hW := h.lt
  have F1 := fun w => Fits_ref a W (by omega) (by omega) (by omega) w
  rw [fits_wd h, decide_eq_true ha] at F1
  have F2 := fun w => Fits_ref b W (by omega) (by omega) (by omega) w
  rw [fits_wd h, decide_eq_true hb] at F2
  have F1 := Lib.hid F1
  have F2 := Lib.hid F2
  have BA := Lib.hid (fun w => Bits_ref a W (by omega) (by omega) w)
  have BB := Lib.hid (fun w => Bits_ref b W (by omega) (by omega) w)
  have HD := Lib.hid h
  have HA := Lib.hid (And.intro ha (And.intro hb hW))
  obtain ⟨k, hk⟩ : ∃ k, k = b % W := ⟨_, rfl⟩
  have hkW : k < W := by rw [hk]; exact Nat.mod_lt _ (by omega)
  have h0 : ¬ W = 0 := by omega
  have hq : (b : Int).tmod (W : Int) = (k : Int) := by rw [hk, Int.tmod_eq_emod_of_nonneg (by omega)]; exact (Int.natCast_emod b W).symm
  have hw : IntKind.u64.wrap (W : Int) = (W : Int) := by rw [IntKind.wrap_u64]; omega
  have HK64 := Lib.hid (w64e (k : Int) k rfl (by omega))
  have hmk := run_make_row' (P := Tryd.prog) 54 3 (.int .i64 0) 8 Tryd.underlying54 info3 rfl .i64 .i64 W (by omega) (by omega)
  have HK := Lib.hid (And.intro hk hkW)
  have hbz : ((b : Int) == 0) = false := by simp; omega
  have DV := Lib.hid (fun w => divide_ref h a b ha hb hnz w)
  have dv : ∀ w, ∃ q : Nat, Calls Tryd.prog 27 #[.int .i64 W, .int .u64 a, .int .u64 b] w fun e w' => e = .returned (.tuple #[.int .u64 (q : Int), .int .u64 ((un M ((sg M a).tmod (sg M b)) : Nat) : Int), .bool true]) ∧ Below w.heap.size w w' := by
    intro w
    obtain ⟨q, ov, hC, hor⟩ := DV.out w
    rcases hor with ⟨rfl, _⟩ | ⟨_, ho, _⟩
    · exact ⟨q, hC⟩
    · exact absurd hov ho
  have DW := Lib.hid dv
  clear hnz hov dv
  clear hOf h hW ha hb hk
  go_enter Tryd.func11, Tryd.ntmps11
  go_wp2_with fail
  refine HOF.out.mono ?_
  rintro e w1 ⟨rfl, b1⟩
  have B := Lib.hid b1
  clear b1
  go_wp2_with fail
  refine (F1.out _).mono ?_
  rintro e w2 ⟨rfl, b1⟩
  have cc : ∀ j, w2.cell? ⟨w1.heap.size, j, none⟩ = (w1.alloc (.cells #[.int .i64 23, .int .i64 (W : Nat), .int .i64 (T : Nat), .int .i64 2] 39)).cell? ⟨w1.heap.size, j, none⟩ := fun j => b1.cell (p := ⟨w1.heap.size, j, none⟩) (by simp)
  have c0 : w2.cell? ⟨w1.heap.size, 0, none⟩ = some (.int .i64 23) := (cc 0).trans (World.cell?_alloc_at _ _ _ _ rfl)
  have B2 := Lib.hid ((B.out.alloc B.out.size (.cells #[.int .i64 23, .int .i64 (W : Nat), .int .i64 (T : Nat), .int .i64 2] 39)).trans (b1.mono (by have := B.out.size; simp; omega)))
  clear b1 cc B
  generalize w1.heap.size = bx at *
  go_wp2_with fail
  refine (F2.out _).mono ?_
  rintro e w3 ⟨rfl, b1⟩
  have d0 := (b1.cell (p := ⟨bx, 0, none⟩) (block_lt_of_cell c0)).trans c0
  have B3 := Lib.hid (B2.out.trans (b1.mono B2.out.size))
  clear b1 c0 B2
  go_wp2_with fail
  refine (BA.out _).mono ?_
  rintro e w4 ⟨v, rfl, o1, b1⟩
  obtain ⟨g1, cap1, rfl⟩ := o1.form (by rw [bitsL_len]; have := HA.out; omega)
  have row1 := o1.row rfl
  have e0 := (b1.cell (p := ⟨bx, 0, none⟩) (block_lt_of_cell d0)).trans d0
  have B4 := Lib.hid (B3.out.trans (b1.mono B3.out.size))
  clear b1 d0 B3 o1
  rw [bitsL_len]
  have R1 := Lib.hid row1
  clear row1
  go_wp2_with fail
  refine (BB.out _).mono ?_
  rintro e w5 ⟨v, rfl, o1, b1⟩
  obtain ⟨g2, cap2, rfl⟩ := o1.form (by rw [bitsL_len]; have := HA.out; omega)
  have row1 := o1.row rfl
  have f0 := (b1.cell (p := ⟨bx, 0, none⟩) (block_lt_of_cell e0)).trans e0
  have Q1 := Lib.hid (R1.out.later b1)
  have B5 := Lib.hid (B4.out.trans (b1.mono B4.out.size))
  clear b1 e0 B4 o1 R1
  rw [bitsL_len]
  have Q2 := Lib.hid row1
  clear row1
  have f1 : (w5.alloc (.cells (madeCells #[.int .i64 0] W) 3)).cell? ⟨bx, 0, none⟩ = some (.int .i64 23) := (World.cell?_alloc_lt _ _ _ (block_lt_of_cell f0)).trans f0
  have B6 := Lib.hid (B5.out.alloc B5.out.size (.cells (madeCells #[.int .i64 0] W) 3))
  obtain ⟨q, hC⟩ := DW.out (w5.alloc (.cells (madeCells #[.int .i64 0] W) 3))
  have HC := Lib.hid hC
  clear hC
  go_wp2_with fail
  refine HC.out.mono ?_
  rintro e w6 ⟨rfl, b1⟩
  have g0 := (b1.cell (p := ⟨bx, 0, none⟩) (block_lt_of_cell f1)).trans f1
  have B7 := Lib.hid (B6.out.trans (b1.mono B6.out.size))
  clear b1 f1 f0
  go_wp2
  go_ret2
  exact ⟨rfl, B7.out⟩

set_option maxRecDepth 100000 in
set_option maxHeartbeats 8000000 in
theorem TwoR_17 {W M : Nat} (h : Wd W M) (op : Int) (a b T : Nat) (ha : a < M) (hb : b < M) (hnz : b ≠ 0) (hov : ¬ (2 * a = M ∧ sg M b = -1)) (w : World) (hOf : Ofs op (23, W, T, 2) w) :
    Calls Tryd.prog 11 #[.int .i64 op, .int .u64 a, .int .u64 b] w fun e w' => e = .returned (.tuple #[.int .u64 (((bin 17 W M a b).1 : Nat) : Int), .int .i64 0]) ∧ Below w.heap.size w w' := by
  have HOF := Lib.hid hOf
  have hW := h.lt
  have F1 := fun w => Fits_ref a W (by omega) (by omega) (by omega) w
  rw [fits_wd h, decide_eq_true ha] at F1
  have F2 := fun w => Fits_ref b W (by omega) (by omega) (by omega) w
  rw [fits_wd h, decide_eq_true hb] at F2
  have F1 := Lib.hid F1
  have F2 := Lib.hid F2
  have BA := Lib.hid (fun w => Bits_ref a W (by omega) (by omega) w)
  have BB := Lib.hid (fun w => Bits_ref b W (by omega) (by omega) w)
  have HD := Lib.hid h
  have HA := Lib.hid (And.intro ha (And.intro hb hW))
  obtain ⟨k, hk⟩ : ∃ k, k = b % W := ⟨_, rfl⟩
  have hkW : k < W := by rw [hk]; exact Nat.mod_lt _ (by omega)
  have h0 : ¬ W = 0 := by omega
  have hq : (b : Int).tmod (W : Int) = (k : Int) := by rw [hk, Int.tmod_eq_emod_of_nonneg (by omega)]; exact (Int.natCast_emod b W).symm
  have hw : IntKind.u64.wrap (W : Int) = (W : Int) := by rw [IntKind.wrap_u64]; omega
  have HK64 := Lib.hid (w64e (k : Int) k rfl (by omega))
  have hmk := run_make_row' (P := Tryd.prog) 54 3 (.int .i64 0) 8 Tryd.underlying54 info3 rfl .i64 .i64 W (by omega) (by omega)
  have HK := Lib.hid (And.intro hk hkW)
  have hbz : ((b : Int) == 0) = false := by simp; omega
  have DV := Lib.hid (fun w => divide_ref h a b ha hb hnz w)
  have dv : ∀ w, ∃ r : Nat, Calls Tryd.prog 27 #[.int .i64 W, .int .u64 a, .int .u64 b] w fun e w' => e = .returned (.tuple #[.int .u64 (((bin 17 W M a b).1 : Nat) : Int), .int .u64 (r : Int), .bool false]) ∧ Below w.heap.size w w' := by
    intro w
    obtain ⟨q, ov, hC, hor⟩ := DV.out w
    rcases hor with ⟨_, ho⟩ | ⟨rfl, ho, hq⟩
    · exact absurd ho hov
    · refine ⟨un M ((sg M a).tmod (sg M b)), ?_⟩
      rw [show (bin 17 W M a b).1 = q by
        show (if b = 0 then ((0 : Nat), (30 : Nat)) else if 2 * a = M ∧ sg M b = -1 then (0, 31) else (un M ((sg M a).tdiv (sg M b)), 0)).1 = _
        rw [if_neg hnz, if_neg hov, hq]]
      exact hC
  have DW := Lib.hid dv
  clear hnz hov dv
  clear hOf h hW ha hb hk
  go_enter Tryd.func11, Tryd.ntmps11
  go_wp2_with fail
  refine HOF.out.mono ?_
  rintro e w1 ⟨rfl, b1⟩
  have B := Lib.hid b1
  clear b1
  go_wp2_with fail
  refine (F1.out _).mono ?_
  rintro e w2 ⟨rfl, b1⟩
  have cc : ∀ j, w2.cell? ⟨w1.heap.size, j, none⟩ = (w1.alloc (.cells #[.int .i64 23, .int .i64 (W : Nat), .int .i64 (T : Nat), .int .i64 2] 39)).cell? ⟨w1.heap.size, j, none⟩ := fun j => b1.cell (p := ⟨w1.heap.size, j, none⟩) (by simp)
  have c0 : w2.cell? ⟨w1.heap.size, 0, none⟩ = some (.int .i64 23) := (cc 0).trans (World.cell?_alloc_at _ _ _ _ rfl)
  have B2 := Lib.hid ((B.out.alloc B.out.size (.cells #[.int .i64 23, .int .i64 (W : Nat), .int .i64 (T : Nat), .int .i64 2] 39)).trans (b1.mono (by have := B.out.size; simp; omega)))
  clear b1 cc B
  generalize w1.heap.size = bx at *
  go_wp2_with fail
  refine (F2.out _).mono ?_
  rintro e w3 ⟨rfl, b1⟩
  have d0 := (b1.cell (p := ⟨bx, 0, none⟩) (block_lt_of_cell c0)).trans c0
  have B3 := Lib.hid (B2.out.trans (b1.mono B2.out.size))
  clear b1 c0 B2
  go_wp2_with fail
  refine (BA.out _).mono ?_
  rintro e w4 ⟨v, rfl, o1, b1⟩
  obtain ⟨g1, cap1, rfl⟩ := o1.form (by rw [bitsL_len]; have := HA.out; omega)
  have row1 := o1.row rfl
  have e0 := (b1.cell (p := ⟨bx, 0, none⟩) (block_lt_of_cell d0)).trans d0
  have B4 := Lib.hid (B3.out.trans (b1.mono B3.out.size))
  clear b1 d0 B3 o1
  rw [bitsL_len]
  have R1 := Lib.hid row1
  clear row1
  go_wp2_with fail
  refine (BB.out _).mono ?_
  rintro e w5 ⟨v, rfl, o1, b1⟩
  obtain ⟨g2, cap2, rfl⟩ := o1.form (by rw [bitsL_len]; have := HA.out; omega)
  have row1 := o1.row rfl
  have f0 := (b1.cell (p := ⟨bx, 0, none⟩) (block_lt_of_cell e0)).trans e0
  have Q1 := Lib.hid (R1.out.later b1)
  have B5 := Lib.hid (B4.out.trans (b1.mono B4.out.size))
  clear b1 e0 B4 o1 R1
  rw [bitsL_len]
  have Q2 := Lib.hid row1
  clear row1
  have f1 : (w5.alloc (.cells (madeCells #[.int .i64 0] W) 3)).cell? ⟨bx, 0, none⟩ = some (.int .i64 23) := (World.cell?_alloc_lt _ _ _ (block_lt_of_cell f0)).trans f0
  have B6 := Lib.hid (B5.out.alloc B5.out.size (.cells (madeCells #[.int .i64 0] W) 3))
  obtain ⟨r, hC⟩ := DW.out (w5.alloc (.cells (madeCells #[.int .i64 0] W) 3))
  have HC := Lib.hid hC
  clear hC
  go_wp2_with fail
  refine HC.out.mono ?_
  rintro e w6 ⟨rfl, b1⟩
  have g0 := (b1.cell (p := ⟨bx, 0, none⟩) (block_lt_of_cell f1)).trans f1
  have B7 := Lib.hid (B6.out.trans (b1.mono B6.out.size))
  clear b1 f1 f0
  go_wp2
  go_ret2
  exact ⟨rfl, B7.out⟩

set_option maxRecDepth 100000 in
set_option maxHeartbeats 8000000 in
theorem TwoR_19 {W M : Nat} (h : Wd W M) (op : Int) (a b T : Nat) (ha : a < M) (hb : b < M) (hnz : b ≠ 0) (w : World) (hOf : Ofs op (25, W, T, 2) w) :
    Calls Tryd.prog 11 #[.int .i64 op, .int .u64 a, .int .u64 b] w fun e w' => e = .returned (.tuple #[.int .u64 (((bin 19 W M a b).1 : Nat) : Int), .int .i64 0]) ∧ Below w.heap.size w w' := by
  have HOF := Lib.hid hOf
  have hW := h.lt
  have F1 := fun w => Fits_ref a W (by omega) (by omega) (by omega) w
  rw [fits_wd h, decide_eq_true ha] at F1
  have F2 := fun w => Fits_ref b W (by omega) (by omega) (by omega) w
  rw [fits_wd h, decide_eq_true hb] at F2
  have F1 := Lib.hid F1
  have F2 := Lib.hid F2
  have BA := Lib.hid (fun w => Bits_ref a W (by omega) (by omega) w)
  have BB := Lib.hid (fun w => Bits_ref b W (by omega) (by omega) w)
  have HD := Lib.hid h
  have HA := Lib.hid (And.intro ha (And.intro hb hW))
  obtain ⟨k, hk⟩ : ∃ k, k = b % W := ⟨_, rfl⟩
  have hkW : k < W := by rw [hk]; exact Nat.mod_lt _ (by omega)
  have h0 : ¬ W = 0 := by omega
  have hq : (b : Int).tmod (W : Int) = (k : Int) := by rw [hk, Int.tmod_eq_emod_of_nonneg (by omega)]; exact (Int.natCast_emod b W).symm
  have hw : IntKind.u64.wrap (W : Int) = (W : Int) := by rw [IntKind.wrap_u64]; omega
  have HK64 := Lib.hid (w64e (k : Int) k rfl (by omega))
  have hmk := run_make_row' (P := Tryd.prog) 54 3 (.int .i64 0) 8 Tryd.underlying54 info3 rfl .i64 .i64 W (by omega) (by omega)
  have HK := Lib.hid (And.intro hk hkW)
  have hbz : ((b : Int) == 0) = false := by simp; omega
  have DV := Lib.hid (fun w => divide_ref h a b ha hb hnz w)
  have dv : ∀ w, ∃ (q : Nat) (ov : Bool), Calls Tryd.prog 27 #[.int .i64 W, .int .u64 a, .int .u64 b] w fun e w' => e = .returned (.tuple #[.int .u64 (q : Int), .int .u64 (((bin 19 W M a b).1 : Nat) : Int), .bool ov]) ∧ Below w.heap.size w w' := by
    intro w
    obtain ⟨q, ov, hC, hor⟩ := DV.out w
    refine ⟨q, ov, ?_⟩
    rw [show (bin 19 W M a b).1 = un M ((sg M a).tmod (sg M b)) by
      show (if b = 0 then ((0 : Nat), (30 : Nat)) else (un M ((sg M a).tmod (sg M b)), 0)).1 = _
      rw [if_neg hnz]]
    exact hC
  have DW := Lib.hid dv
  clear hnz dv
  clear hOf h hW ha hb hk
  go_enter Tryd.func11, Tryd.ntmps11
  go_wp2_with fail
  refine HOF.out.mono ?_
  rintro e w1 ⟨rfl, b1⟩
  have B := Lib.hid b1
  clear b1
  go_wp2_with fail
  refine (F1.out _).mono ?_
  rintro e w2 ⟨rfl, b1⟩
  have cc : ∀ j, w2.cell? ⟨w1.heap.size, j, none⟩ = (w1.alloc (.cells #[.int .i64 25, .int .i64 (W : Nat), .int .i64 (T : Nat), .int .i64 2] 39)).cell? ⟨w1.heap.size, j, none⟩ := fun j => b1.cell (p := ⟨w1.heap.size, j, none⟩) (by simp)
  have c0 : w2.cell? ⟨w1.heap.size, 0, none⟩ = some (.int .i64 25) := (cc 0).trans (World.cell?_alloc_at _ _ _ _ rfl)
  have B2 := Lib.hid ((B.out.alloc B.out.size (.cells #[.int .i64 25, .int .i64 (W : Nat), .int .i64 (T : Nat), .int .i64 2] 39)).trans (b1.mono (by have := B.out.size; simp; omega)))
  clear b1 cc B
  generalize w1.heap.size = bx at *
  go_wp2_with fail
  refine (F2.out _).mono ?_
  rintro e w3 ⟨rfl, b1⟩
  have d0 := (b1.cell (p := ⟨bx, 0, none⟩) (block_lt_of_cell c0)).trans c0
  have B3 := Lib.hid (B2.out.trans (b1.mono B2.out.size))
  clear b1 c0 B2
  go_wp2_with fail
  refine (BA.out _).mono ?_
  rintro e w4 ⟨v, rfl, o1, b1⟩
  obtain ⟨g1, cap1, rfl⟩ := o1.form (by rw [bitsL_len]; have := HA.out; omega)
  have row1 := o1.row rfl
  have e0 := (b1.cell (p := ⟨bx, 0, none⟩) (block_lt_of_cell d0)).trans d0
  have B4 := Lib.hid (B3.out.trans (b1.mono B3.out.size))
  clear b1 d0 B3 o1
  rw [bitsL_len]
  have R1 := Lib.hid row1
  clear row1
  go_wp2_with fail
  refine (BB.out _).mono ?_
  rintro e w5 ⟨v, rfl, o1, b1⟩
  obtain ⟨g2, cap2, rfl⟩ := o1.form (by rw [bitsL_len]; have := HA.out; omega)
  have row1 := o1.row rfl
  have f0 := (b1.cell (p := ⟨bx, 0, none⟩) (block_lt_of_cell e0)).trans e0
  have Q1 := Lib.hid (R1.out.later b1)
  have B5 := Lib.hid (B4.out.trans (b1.mono B4.out.size))
  clear b1 e0 B4 o1 R1
  rw [bitsL_len]
  have Q2 := Lib.hid row1
  clear row1
  have f1 : (w5.alloc (.cells (madeCells #[.int .i64 0] W) 3)).cell? ⟨bx, 0, none⟩ = some (.int .i64 25) := (World.cell?_alloc_lt _ _ _ (block_lt_of_cell f0)).trans f0
  have B6 := Lib.hid (B5.out.alloc B5.out.size (.cells (madeCells #[.int .i64 0] W) 3))
  obtain ⟨q, ov, hC⟩ := DW.out (w5.alloc (.cells (madeCells #[.int .i64 0] W) 3))
  have HC := Lib.hid hC
  clear hC
  go_wp2_with fail
  refine HC.out.mono ?_
  rintro e w6 ⟨rfl, b1⟩
  have g0 := (b1.cell (p := ⟨bx, 0, none⟩) (block_lt_of_cell f1)).trans f1
  have B7 := Lib.hid (B6.out.trans (b1.mono B6.out.size))
  clear b1 f1 f0
  go_wp2
  go_ret2
  exact ⟨rfl, B7.out⟩

/-- geoderef03.Two is num.Two -/
theorem TwoR_any (op : Int) (a b : Nat) (ha : a < 18446744073709551616) (hb : b < 18446744073709551616) (w : World) :
    Calls Tryd.prog 11 #[.int .i64 op, .int .u64 a, .int .u64 b] w fun e w' => e = .returned (.tuple #[.int .u64 (((twoV op a b).1 : Nat) : Int), .int .i64 (((twoV op a b).2 : Nat) : Int)]) ∧ Below w.heap.size w w' := by
  have hOf := Of_any op w
  unfold twoV
  cases hh : hit op with
  | none =>
    rw [kindV_none hh] at hOf
    exact TwoR_many op a b 0 0 0 0 (by omega) w hOf
  | some q =>
    obtain ⟨p, W⟩ := q
    rw [kindV_some hh] at hOf
    obtain ⟨hp, hW, _⟩ := hit_wd op p W hh
    dsimp only
    unfold kd at hOf
    by_cases k1 : (opc p).2.1 = 0
    · rw [if_pos k1] at hOf
      by_cases hla : a < po W
      · by_cases hlb : b < po W
        · rw [if_pos ⟨hla, hlb⟩]
          generalize (if (opc p).1 = 0 then W else (opc p).1) = T at hOf
          match p, hp, k1, hOf with
          | 0, _, k1, _ | 11, _, k1, _ | 12, _, k1, _ | 13, _, k1, _ | 29, _, k1, _ | 30, _, k1, _ | 31, _, k1, _ | 32, _, k1, _ | 33, _, k1, _ | 34, _, k1, _ => exact absurd k1 (by decide)
          | 1, _, _, hOf =>
            have e := (ask_any hW 1 a b (by omega) (by omega) hla hlb w).2
            have C := TwoR_ask hW op a b 1 T (by omega) (by omega) hla hlb w hOf
            rw [e] at C ⊢
            exact C
          | 2, _, _, hOf =>
            have e := (ask_any hW 2 a b (by omega) (by omega) hla hlb w).2
            have C := TwoR_ask hW op a b 2 T (by omega) (by omega) hla hlb w hOf
            rw [e] at C ⊢
            exact C
          | 3, _, _, hOf =>
            have e := (ask_any hW 3 a b (by omega) (by omega) hla hlb w).2
            have C := TwoR_ask hW op a b 3 T (by omega) (by omega) hla hlb w hOf
            rw [e] at C ⊢
            exact C
          | 4, _, _, hOf =>
            have e := (ask_any hW 4 a b (by omega) (by omega) hla hlb w).2
            have C := TwoR_ask hW op a b 4 T (by omega) (by omega) hla hlb w hOf
            rw [e] at C ⊢
            exact C
          | 5, _, _, hOf =>
            have e := (ask_any hW 5 a b (by omega) (by omega) hla hlb w).2
            have C := TwoR_ask hW op a b 5 T (by omega) (by omega) hla hlb w hOf
            rw [e] at C ⊢
            exact C
          | 6, _, _, hOf =>
            have e := (ask_any hW 6 a b (by omega) (by omega) hla hlb w).2
            have C := TwoR_ask hW op a b 6 T (by omega) (by omega) hla hlb w hOf
            rw [e] at C ⊢
            exact C
          | 7, _, _, hOf =>
            have e := (ask_any hW 7 a b (by omega) (by omega) hla hlb w).2
            have C := TwoR_ask hW op a b 7 T (by omega) (by omega) hla hlb w hOf
            rw [e] at C ⊢
            exact C
          | 8, _, _, hOf =>
            have e := (ask_any hW 8 a b (by omega) (by omega) hla hlb w).2
            have C := TwoR_ask hW op a b 8 T (by omega) (by omega) hla hlb w hOf
            rw [e] at C ⊢
            exact C
          | 9, _, _, hOf =>
            have e := (ask_any hW 9 a b (by omega) (by omega) hla hlb w).2
            have C := TwoR_ask hW op a b 9 T (by omega) (by omega) hla hlb w hOf
            rw [e] at C ⊢
            exact C
          | 10, _, _, hOf =>
            have e := (ask_any hW 10 a b (by omega) (by omega) hla hlb w).2
            have C := TwoR_ask hW op a b 10 T (by omega) (by omega) hla hlb w hOf
            rw [e] at C ⊢
            exact C
          | 14, _, _, hOf => exact TwoR_14 hW op a b T hla hlb w hOf
          | 15, _, _, hOf => exact TwoR_15 hW op a b T hla hlb w hOf
          | 16, _, _, hOf => exact TwoR_16 hW op a b T hla hlb w hOf
          | 21, _, _, hOf => exact TwoR_21 hW op a b T hla hlb w hOf
          | 22, _, _, hOf => exact TwoR_22 hW op a b T hla hlb w hOf
          | 23, _, _, hOf => exact TwoR_23 hW op a b T hla hlb w hOf
          | 24, _, _, hOf => exact TwoR_24 hW op a b T hla hlb w hOf
          | 25, _, _, hOf => exact TwoR_25 hW op a b T hla hlb w hOf
          | 26, _, _, hOf => exact TwoR_26 hW op a b T hla hlb w hOf
          | 27, _, _, hOf => exact TwoR_27 hW op a b T hla hlb w hOf
          | 28, _, _, hOf => exact TwoR_28 hW op a b T hla hlb w hOf
          | 17, _, _, hOf =>
            by_cases h0 : b = 0
            · subst h0; exact TwoR_zero hW op a 23 T (by omega) (by omega) hla w hOf
            · by_cases ho : 2 * a = po W ∧ sg (po W) b = -1
              · have C := TwoR_17o hW op a b T hla hlb h0 ho w hOf
                simp only [bin, if_neg h0, if_pos ho]
                exact C
              · have C := TwoR_17 hW op a b T hla hlb h0 ho w hOf
                simp only [bin, if_neg h0, if_neg ho] at C ⊢
                exact C
          | 18, _, _, hOf =>
            by_cases h0 : b = 0
            · subst h0; exact TwoR_zero hW op a 24 T (by omega) (by omega) hla w hOf
            · have C := TwoR_18 hW op a b T hla hlb h0 w hOf
              simp only [bin, if_neg h0] at C ⊢
              exact C
          | 19, _, _, hOf =>
            by_cases h0 : b = 0
            · subst h0; exact TwoR_zero hW op a 25 T (by omega) (by omega) hla w hOf
            · have C := TwoR_19 hW op a b T hla hlb h0 w hOf
              simp only [bin, if_neg h0] at C ⊢
              exact C
          | 20, _, _, hOf =>
            by_cases h0 : b = 0
            · subst h0; exact TwoR_zero hW op a 26 T (by omega) (by omega) hla w hOf
            · have C := TwoR_20 hW op a b T hla hlb h0 w hOf
              simp only [bin, if_neg h0] at C ⊢
              exact C
          | n + 35, hp, _, _ => omega
        · rw [if_neg (fun h => hlb h.2)]
          exact TwoR_bad2 hW op a b _ _ hla hb hlb w hOf
      · rw [if_neg (fun h => hla h.1)]
        exact TwoR_bad1 hW op a b _ _ ha hla w hOf
    · rw [if_neg k1] at hOf
      rw [bin_none p hp k1, show (if a < po W ∧ b < po W then ((0 : Nat), (2 : Nat)) else (0, 2)) = (0, 2) by split <;> rfl]
      exact TwoR_many op a b _ _ _ 1 (by omega) w hOf

set_option maxHeartbeats 4000000 in
theorem NumTwo_walk (op : Int) (a b : Nat) (h1 : -9223372036854775808 ≤ op) (h2 : op < 9223372036854775808) (ha : a < 18446744073709551616) (hb : b < 18446744073709551616) (w : World) (hL : Laid w) :
    Calls Tryd.prog 3 #[.int .i64 op, .int .u64 a, .int .u64 b] w fun e w' => e = .returned (.bool true) ∧ Below w.heap.size w w' := by
  have C1 := Lib.hid (fun w hL => Two_any op h1 h2 a b ha hb w hL)
  have C2 := Lib.hid (fun w => TwoR_any op a b ha hb w)
  generalize twoV op a b = x at C1 C2
  obtain ⟨x1, x2⟩ := x
  dsimp only at C1 C2
  have HL := Lib.hid hL
  clear hL h1 h2 ha hb
  go_enter Tryd.func3, Tryd.ntmps3
  go_wp2_with fail
  refine (C1.out _ HL.out).mono ?_
  rintro e w1 ⟨rfl, b1⟩
  have B := Lib.hid b1
  clear b1
  go_wp2_with fail
  refine (C2.out _).mono ?_
  rintro e w2 ⟨rfl, b1⟩
  have B2 := Lib.hid (B.out.trans (b1.mono B.out.size))
  clear b1 B
  go_wp2_with fail
  refine (known_any _ (HL.out.kept B2.out)).mono ?_
  rintro e w5 ⟨rfl, b1⟩
  go_wp2
  go_ret
  exact ⟨rfl, B2.out.trans (b1.mono B2.out.size)⟩
end Go.Proofs.YtdoejkdckokjdaaDoor
