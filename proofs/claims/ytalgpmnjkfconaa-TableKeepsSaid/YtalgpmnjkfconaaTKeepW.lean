/- The walk of TableKeeps. -/
import Derived.Test.YtalgpmnjkfconaaKnownT
import Derived.Deep.QuietTactic
import Derived.BigQuiet
namespace Go.Proofs.Ytalgpmnjkfconaa
open Go.RowKit Go.Deep Go.Instr

theorem Below_drewN' (B : Nat) (w : World) (n : Nat) : Below B w (w.drewN n) := ⟨rfl, rfl, rfl, Nat.le_refl _, fun _ _ => rfl⟩

theorem part_list (l : List Nat) (A : Nat) (h : A = l.length) : part (fun j => l.getD j 0) 0 A = l := by
  subst h
  apply List.ext_getElem
  · simp [len_part]
  · intro k h1 h2
    simp [part, h2]

/-- words set aside -/
structure NowIs (w : World) (g c n : Nat) (f : Nat → Nat) : Prop where
  row : ∃ F, w.rowIs g 22 c F ∧ ∀ i, i < n → F i = .int .u64 (f i : Int)
  room : n ≤ c
theorem NowIs.cell {w : World} {g n c : Nat} {f : Nat → Nat} (h : NowIs w g c n f) {i : Nat} (hi : i < n) : w.cell? ⟨g, i, none⟩ = some (.int .u64 (f i : Int)) := by
  obtain ⟨F, r, e⟩ := h.row
  have := h.room
  rw [r.cell (by omega), e i hi]
theorem NowIs.frozen {w : World} {g n c : Nat} {f : Nat → Nat} (h : NowIs w g c n f) (i : Nat) : w.frozen? ⟨g, i, none⟩ = false := by
  obtain ⟨F, r, e⟩ := h.row
  exact r.frozen i
theorem NowIs.lt {w : World} {g n c : Nat} {f : Nat → Nat} (h : NowIs w g c n f) : g < w.heap.size := by
  obtain ⟨F, r, e⟩ := h.row
  exact r.lt
theorem NowIs.kept {w w' : World} {g n c : Nat} {f : Nat → Nat} (h : NowIs w g c n f) (hb : Below w.heap.size w w') : NowIs w' g c n f := by
  obtain ⟨F, r, e⟩ := h.row
  exact ⟨⟨F, r.of_block (hb.block g r.lt), e⟩, h.room⟩
theorem NowIs.touched {w w' : World} {g n c b : Nat} {f : Nat → Nat} (h : NowIs w g c n f) (hb : Touch b w w') (hne : g ≠ b) : NowIs w' g c n f := by
  obtain ⟨F, r, e⟩ := h.row
  exact ⟨⟨F, r.of_block (hb.block g r.lt hne), e⟩, h.room⟩
theorem NowIs.set {w : World} {g n c : Nat} {f : Nat → Nat} (h : NowIs w g c n f) (i v : Nat) : NowIs (w.setCell ⟨g, i, none⟩ (.int .u64 (v : Int))) g c n (fun j => if j = i then v else f j) := by
  obtain ⟨F, r, e⟩ := h.row
  refine ⟨⟨_, r.set i _, fun j hj => ?_⟩, h.room⟩
  by_cases hji : j = i
  · simp [hji]
  · simp [hji, e j hj]

theorem fill_one (f : Nat → Nat) (t v : Nat) (j : Nat) : (if j = t then v else f j) = fillV f t 1 v j := by
  unfold fillV
  by_cases h : j = t
  · rw [if_pos h, if_pos (by omega)]
  · rw [if_neg h, if_neg (by omega)]
theorem fill_step (f : Nat → Nat) (t k v A : Nat) (hk : 1 ≤ k) (hA : t + k < A) (j : Nat) : put (fillV f t k v) (t + k) (part (fillV f t k v) 0 A) (t + k - 1) 1 j = fillV f t (k + 1) v j := by
  by_cases h : j = t + k
  · subst h
    have := put_in (fillV f t k v) (t + k) (t + k - 1) 1 A 0 (by omega) (by omega)
    rw [Nat.add_zero, Nat.add_zero] at this
    rw [this]
    unfold fillV
    rw [if_pos (by omega), if_pos (by omega)]
  · rw [put_out _ _ _ _ _ _ (by omega)]
    unfold fillV
    by_cases h2 : t ≤ j ∧ j < t + k
    · rw [if_pos h2, if_pos (by omega)]
    · rw [if_neg h2, if_neg (by omega)]

theorem put_all (l : List Nat) (j : Nat) : put (fun _ => 0) 0 l 0 l.length j = l.getD j 0 := by
  unfold put
  by_cases h : j < l.length
  · rw [if_pos (by omega)]; simp
  · rw [if_neg (by omega), List.getD_eq_getElem?_getD, List.getElem?_eq_none (by omega)]; rfl

set_option maxRecDepth 100000 in
set_option maxHeartbeats 4000000 in
theorem TKeeps_short (b0 : Option Addr) (A cap : Nat) (i0 v s0 t0 n0 : Int) (w : World) (hA : A < 1 ∨ 200 < A) :
    Calls Try.prog 5 #[.slice b0 A cap, .int .u64 i0, .int .u64 v, .int .u64 s0, .int .u64 t0, .int .u64 n0] w fun e w' => e = .returned (.bool true) ∧ Below w.heap.size w w' := by
  rcases hA with h | h
  · go_enter Try.func5, Try.ntmps5
    go_wp2_with fail
    refine (knownT_any _).mono ?_
    rintro e w1 ⟨rfl, b1⟩
    go_wp2
    go_ret
    exact ⟨rfl, b1⟩
  · have c1 : decide ((A : Int) < 1) = false := by simp; omega
    go_enter Try.func5, Try.ntmps5
    go_wp2_with fail
    refine (knownT_any _).mono ?_
    rintro e w1 ⟨rfl, b1⟩
    go_wp2
    go_ret
    exact ⟨rfl, b1⟩

set_option maxRecDepth 100000 in
set_option maxHeartbeats 4000000 in
theorem TKeeps_in (ad : Addr) (l : List Nat) (A cap : Nat) (hAl : A = l.length) (i0 v s0 t0 n0 : Nat) (h1 : i0 < 18446744073709551616) (h2 : v < 18446744073709551616) (h3 : s0 < 18446744073709551616) (h4 : t0 < 18446744073709551616) (h5 : n0 < 18446744073709551616)
    (w : World) (hb : U.Bts w (some ad) l) (hcap : A ≤ cap) (hA1 : 1 ≤ A) (hA2 : A ≤ 200) :
    Calls Try.prog 5 #[.slice (some ad) A cap, .int .u64 i0, .int .u64 v, .int .u64 s0, .int .u64 t0, .int .u64 n0] w fun e w' => e = .returned (.bool true) ∧ Below w.heap.size w w' := by
  have HB := Lib.hid hb
  have HC := Lib.hid hcap
  have HV := Lib.hid h2
  have HAL := Lib.hid hAl
  have HA := Lib.hid (And.intro hA1 hA2)
  have c1 : decide ((A : Int) < 1) = false := by simp; omega
  have c2 : decide ((200 : Int) < (A : Int)) = false := by simp; omega
  have w0 : IntKind.u64.wrap (A : Int) = (A : Int) := by rw [IntKind.wrap_u64]; omega
  clear hb hcap h2 hAl hA1 hA2
  go_enter Try.func5, Try.ntmps5
  go_wp2_with fail
  refine (knownT_any _).mono ?_
  rintro e w1 ⟨rfl, b1⟩
  have HN := TNew_any false A 0 0 w1 (by have := HA.out; omega) (by omega)
  unfold tt at HN
  have HN := Lib.hid HN
  have HB1 := Lib.hid (HB.out.kept b1)
  have B1 := Lib.hid b1
  clear b1
  go_wp2_with fail
  refine HN.out.mono ?_
  rintro e w2 ⟨p, g, rfl, m2, hp, hg, b2⟩
  have HI := TInit_ok m2 0 0 A ad l cap (HB1.out.kept b2) (by rw [← HAL.out]; exact HC.out) (by rw [← HAL.out]; have := HA.out; omega) (by omega) (by rw [← HAL.out]; omega)
  rw [← HAL.out] at HI
  have HI := Lib.hid HI
  have B2 := Lib.hid (B1.out.trans (b2.mono B1.out.size))
  have HPG := Lib.hid (And.intro (Nat.le_trans B1.out.size hp) (Nat.le_trans B1.out.size hg))
  clear HN m2 hp hg b2 HB1 B1
  go_wp2_with fail
  refine HI.out.mono ?_
  rintro e w3 ⟨rfl, m3, t3⟩
  have M3 := Lib.hid (m3.congr (f' := fun j => l.getD j 0) (fun j => by have := put_all l j; rw [← HAL.out] at this; exact this))
  have B3 := Lib.hid (B2.out.trans (t3.below HPG.out.2 B2.out.size))
  clear m3 t3 HI
  have hA0 : ¬ A = 0 := by have := HA.out; omega
  have w1' : IntKind.u64.wrap ((A : Int) + 1) = (A : Int) + 1 := by have := HA.out; rw [IntKind.wrap_u64]; omega
  have hA1 : ¬ ((A : Int) + 1 = 0) := by omega
  obtain ⟨i, hi⟩ : ∃ i, i = i0 % A := ⟨_, rfl⟩
  obtain ⟨s, hs⟩ : ∃ s, s = s0 % A := ⟨_, rfl⟩
  obtain ⟨t, ht⟩ : ∃ t, t = t0 % A := ⟨_, rfl⟩
  obtain ⟨n, hn⟩ : ∃ n, n = n0 % (A + 1) := ⟨_, rfl⟩
  have q1 : (i0 : Int).tmod (A : Int) = (i : Int) := by rw [hi, Int.tmod_eq_emod_of_nonneg (by omega)]; omega
  have q2 : (s0 : Int).tmod (A : Int) = (s : Int) := by rw [hs, Int.tmod_eq_emod_of_nonneg (by omega)]; omega
  have q3 : (t0 : Int).tmod (A : Int) = (t : Int) := by rw [ht, Int.tmod_eq_emod_of_nonneg (by omega)]; omega
  have q4 : (n0 : Int).tmod ((A : Int) + 1) = (n : Int) := by rw [hn, Int.tmod_eq_emod_of_nonneg (by omega), show (A : Int) + 1 = ((A + 1 : Nat) : Int) by omega]; exact (Int.natCast_emod n0 (A + 1)).symm
  have HL := Lib.hid (show i < A ∧ s < A ∧ t < A ∧ n ≤ A from ⟨by rw [hi]; exact Nat.mod_lt _ (by omega), by rw [hs]; exact Nat.mod_lt _ (by omega), by rw [ht]; exact Nat.mod_lt _ (by omega), by rw [hn]; have := Nat.mod_lt n0 (show A + 1 > 0 by omega); omega⟩)
  clear h1 h3 h4 h5 hi hs ht hn
  go_wp2
  go_quiet (fail)
  clear hA0 hA1 w1' q1 q2 q3 q4 c1 c2
  obtain ⟨w4, hw4⟩ : ∃ w4, w4 = w3.drewN nq := ⟨_, rfl⟩
  rw [← hw4]
  have m4 : TabIs w4 p g A A false A 0 (fun j => l.getD j 0) := by rw [hw4]; exact M3.out.kept (Below_drewN' _ _ _)
  have b4 : Below w.heap.size w w4 := by rw [hw4]; exact B3.out.trans (Below_drewN' _ _ _)
  have B4 := Lib.hid b4
  have HS := Lib.hid (Set_ok m4 i v HL.out.1 HV.out)
  clear hw4 m4 M3 B3 b4
  go_wp2_with fail
  refine HS.out.mono ?_
  rintro e w5 ⟨rfl, m5, t5⟩
  have b5 := B4.out.trans (t5.below HPG.out.2 B4.out.size)
  have B5 := Lib.hid b5
  have M5 := Lib.hid m5
  have HB5 := Lib.hid (HB.out.kept b5)
  clear m5 t5 b5 B4
  go_wp2_with (at_builtin; refine U.wpList_app rfl (.tmp 76) (.tmp 77) rfl w5.heap.size _ [] rfl (U.Own_new w5) (some ad) A cap l rfl HAL.out (HB5.out.alloc _) (fun h => by cases h) (by rw [← HAL.out]; have := HA.out; simp; omega) (by simp) ?_; intro v6 w6 o6 b6; (
      have b6' := ((Below.refl w5.heap.size w5).alloc (Nat.le_refl _) _).trans b6
      obtain ⟨g6, c6, F6, rfl, hg6, hl6, hr6, r6, hF6⟩ := Own_row (n := A) (f := fun j => l.getD j 0) (show U.Own w6 w5.heap.size v6 _ by rw [part_list l A HAL.out]; exact o6) HA.out.1
      have n6 : NowIs w6 g6 c6 A (fun j => l.getD j 0) := ⟨⟨F6, r6, hF6⟩, hr6⟩
      have hcell := n6.cell HL.out.1
      have hfr := n6.frozen i
      have HIA := HL.out.1
      have N6 := Lib.hid (n6.set i v)
      have HG6 := Lib.hid hg6
      have B6 := Lib.hid b6'
      clear o6 b6 b6' hg6 hl6 hr6 r6 hF6 n6))
  obtain ⟨f2, hf2⟩ : ∃ f2 : Nat → Nat, f2 = fun j => if j = i then v else l.getD j 0 := ⟨_, rfl⟩
  have hg1 : p ≠ g6 := by have := M5.out.lt_size; have := HG6.out; omega
  have hg2 : g ≠ g6 := by have := M5.out.glt; have := HG6.out; omega
  have hcc := Below.heap_setCell w6 ⟨g6, i, none⟩ (.int .u64 (v : Int))
  have m7 := (M5.out.kept B6.out).other (hcc p hg1) (hcc g hg2)
  have b7 := (B5.out.trans (B6.out.mono B5.out.size)).setCell (p := ⟨g6, i, none⟩) (Nat.le_trans B5.out.size HG6.out) (.int .u64 (v : Int))
  have n7 := N6.out
  rw [← hf2] at m7 n7
  clear hcc
  generalize w6.setCell ⟨g6, i, none⟩ (.int .u64 (v : Int)) = w7 at m7 b7 n7 ⊢
  have HG7 := Lib.hid (And.intro hg2 (And.intro m7.glt n7.lt))
  have M7 := Lib.hid m7
  have N7 := Lib.hid n7
  have B7 := Lib.hid b7
  have HCL := Lib.hid (TClone_any m7 HA.out.1)
  clear hf2 hg1 hg2 m7 n7 b7 B6 HG6 N6 hcell hfr HIA M5 B5 HS HB HB5
  go_wp2_with fail
  refine HCL.out.mono ?_
  rintro e w8 ⟨p8, g8, c8, rfl, m8, hp8, hg8, b8⟩
  have T8 := Lib.hid (M7.out.kept b8)
  have N8 := Lib.hid (N7.out.kept b8)
  have M8 := Lib.hid m8
  have D8 := Lib.hid (show g ≠ g6 ∧ g ≠ p8 ∧ g ≠ g8 ∧ g8 < w8.heap.size ∧ p8 < w8.heap.size ∧ w.heap.size ≤ g8 by
    have h1 := HG7.out
    have h2 := m8.glt
    have h3 := m8.lt_size
    have h4 := B7.out.size
    refine ⟨h1.1, ?_, ?_, h2, h3, ?_⟩ <;> omega)
  have B8 := Lib.hid (B7.out.trans (b8.mono B7.out.size))
  have i1 : IntKind.u64.wrap ((t : Int) + (n : Int)) = (t : Int) + (n : Int) := by have := HA.out; have := HL.out; rw [IntKind.wrap_u64]; omega
  have i2 : IntKind.u64.wrap ((s : Int) + (n : Int)) = (s : Int) + (n : Int) := by have := HA.out; have := HL.out; rw [IntKind.wrap_u64]; omega
  clear HCL M7 N7 B7 HG7 m8 hp8 hg8 b8
  rcases (show (t + n ≤ A ∧ s + n ≤ A) ∨ (¬ t + n ≤ A) ∨ (t + n ≤ A ∧ ¬ s + n ≤ A) by omega) with hok | hbad | hbad
  · have HO := Lib.hid hok
    have hcp := TCopy_ok T8.out T8.out t s n hok.1 hok.2
    have d1 : decide ((t : Int) + (n : Int) ≤ (A : Int)) = true := by simp; omega
    have d2 : decide ((s : Int) + (n : Int) ≤ (A : Int)) = true := by simp; omega
    have d3 : decide ((A : Int) < (t : Int) + (n : Int)) = false := by simp; omega
    have HCP := Lib.hid hcp
    clear hcp hok
    go_wp2_with fail
    refine HCP.out.mono ?_
    rintro e w9 ⟨rfl, m9, t9⟩
    have T9 := Lib.hid m9
    have M9 := Lib.hid (M8.out.touched t9 D8.out.2.1.symm D8.out.2.2.1.symm)
    have N9 := Lib.hid (N8.out.touched t9 D8.out.1.symm)
    have B9 := Lib.hid (B8.out.trans (t9.below HPG.out.2 B8.out.size))
    have D9 := Lib.hid (show g8 < w9.heap.size ∧ p8 < w9.heap.size ∧ w.heap.size ≤ g8 from ⟨Nat.lt_of_lt_of_le D8.out.2.2.2.1 t9.size, Nat.lt_of_lt_of_le D8.out.2.2.2.2.1 t9.size, D8.out.2.2.2.2.2⟩)
    clear HCP T8 M8 N8 B8 D8 m9 t9
    go_wp2
    go_loopw [19, 20, 21, 22] (fun b _ _ _ wr => ∃ k : Nat, b = .int .u64 (k : Int) ∧ k ≤ A ∧ wr = w9) (fun b _ _ _ _ => A - (intOf b).toNat)
    case atStart => exact ⟨0, rfl, by omega, by trivial⟩
    case round =>
      obtain ⟨k, rfl, hk, rfl⟩ := hrel
      by_cases hlt : k < A
      · have i5 : IntKind.u64.wrap ((k : Int) + 1) = (k : Int) + 1 := by have := HA.out; rw [IntKind.wrap_u64]; omega
        have hcell := N9.out.cell hlt
        by_cases hin : t ≤ k ∧ k < t + n
        · obtain ⟨x, hx⟩ : ∃ x, x = s + k - t := ⟨_, rfl⟩
          have hxA : x < A := by have := HO.out; omega
          have hcell2 := N9.out.cell hxA
          have gg := Get_ok T9.out k hlt
          have e3 := put_in f2 t s n A (k - t) (by omega) HO.out.2
          rw [show t + (k - t) = k by omega, show s + (k - t) = x by omega] at e3
          rw [e3] at gg
          have i6 : IntKind.u64.wrap ((s : Int) + (k : Int)) = (s : Int) + (k : Int) := by have := HA.out; have := HL.out; rw [IntKind.wrap_u64]; omega
          have hx' : (s : Int) + (k : Int) - (t : Int) = (x : Int) := by omega
          have i7 : IntKind.u64.wrap (x : Int) = (x : Int) := by have := HA.out; rw [IntKind.wrap_u64]; omega
          have j1 : decide ((t : Int) ≤ (k : Int)) = true := by simp; omega
          have j2 : decide ((k : Int) < (t : Int) + (n : Int)) = true := by simp; omega
          have hxi : (x : Int) < (A : Int) := by omega
          generalize f2 k = z at hcell
          generalize f2 x = y at hcell2 gg
          obtain ⟨j3, j4⟩ := hin
          have j5 : decide (t ≤ k) = true := by simp; omega
          have j6 : decide (k < t + n) = true := by simp; omega
          clear hx e3
          have GG := Lib.hid gg
          clear gg
          go_wp2_with fail
          refine GG.out.mono ?_
          rintro e w10 ⟨rfl, rfl⟩
          go_wp2
          go_roundw
          case rel => exact ⟨k + 1, by go_num, by omega, by trivial⟩
          case measure => simp [intOf]; omega
        · have gg := Get_ok T9.out k hlt
          rw [put_out f2 t s n A k (by omega)] at gg
          generalize f2 k = z at hcell gg
          by_cases htk : t ≤ k
          · have j1 : decide ((t : Int) ≤ (k : Int)) = true := by simp; omega
            have j2 : decide ((k : Int) < (t : Int) + (n : Int)) = false := by simp; omega
            have j4 : ¬ k < t + n := by omega
            have j5 : decide (t ≤ k) = true := by simp; omega
            have j6 : decide (k < t + n) = false := by simp; omega
            clear hin
            have GG := Lib.hid gg
            clear gg
            go_wp2_with fail
            refine GG.out.mono ?_
            rintro e w10 ⟨rfl, rfl⟩
            go_wp2
            go_roundw
            case rel => exact ⟨k + 1, by go_num, by omega, by trivial⟩
            case measure => simp [intOf]; omega
          · have j1 : decide ((t : Int) ≤ (k : Int)) = false := by simp; omega
            have j5 : decide (t ≤ k) = false := by simp; omega
            clear hin
            have GG := Lib.hid gg
            clear gg
            go_wp2_with fail
            refine GG.out.mono ?_
            rintro e w10 ⟨rfl, rfl⟩
            go_wp2
            go_roundw
            case rel => exact ⟨k + 1, by go_num, by omega, by trivial⟩
            case measure => simp [intOf]; omega
      · have hkA : A = k := by omega
        subst hkA
        have HCL := Lib.hid (TClone_any M9.out HA.out.1)
        clear hlt hk N9 T9
        go_wp2_with fail
        refine HCL.out.mono ?_
        rintro e w11 ⟨p11, g11, c11, rfl, m11, hp11, hg11, b11⟩
        have C11 := Lib.hid (M9.out.kept b11)
        have B11 := Lib.hid (B9.out.trans (b11.mono B9.out.size))
        have HD := Lib.hid (show g8 ≠ p11 ∧ g8 ≠ g11 ∧ p8 ≠ g11 ∧ w.heap.size ≤ g8 ∧ w.heap.size ≤ g11 by
          have h1 := D9.out
          have h2 := B9.out.size
          refine ⟨?_, ?_, ?_, h1.2.2, ?_⟩ <;> omega)
        have M11 := Lib.hid m11
        clear m11 hp11 hg11 b11 HCL M9 B9 D9
        by_cases hn0 : n = 0
        · have hn' : n = 0 := hn0
          subst hn'
          have hf : Calls Try.prog 26 #[.pointer (some ⟨p8, 0, none⟩), .int .u64 (t : Int), .int .u64 (v : Int), .int .u64 0] w11 fun e w' => e = .returned (.int .i64 0) ∧ TabIs w' p8 g8 A c8 false A 0 (fillV f2 t 0 v) ∧ Touch g8 w11 w' := TFill_ok C11.out t 0 v HV.out (by have := HO.out; omega)
          have HF := Lib.hid hf
          have d4 : decide ((A : Int) < (t : Int)) = false := by have := HL.out; simp; omega
          have d5 : decide (A < t) = false := by have := HL.out; simp; omega
          have d6 : ¬ A < t := by have := HL.out; omega
          have i8 : IntKind.u64.wrap (t : Int) = (t : Int) := by have := HA.out; have := HL.out; rw [IntKind.wrap_u64]; omega
          clear hf i1 i2 d1 d2 d3
          go_wp2_with fail
          refine HF.out.mono ?_
          rintro e w12 ⟨rfl, m12, t12⟩
          have B12 := Lib.hid (B11.out.trans (t12.below HD.out.2.2.2.1 B11.out.size))
          clear m12 t12
          go_wp2
          go_ret
          exact ⟨rfl, B12.out⟩
        · have hn1 : 1 ≤ n := by omega
          have htn : t + n ≤ A := by have := HO.out; omega
          have HN1 := Lib.hid (And.intro hn1 htn)
          have hne : ((n : Int) == 0) = false := by simp; omega
          have HF := Lib.hid (TFill_ok C11.out t n v HV.out htn)
          clear hn0 htn
          go_wp2_with fail
          refine HF.out.mono ?_
          rintro e w12 ⟨rfl, m12, t12⟩
          have HST := Lib.hid (Set_ok (M11.out.touched t12 HD.out.1.symm HD.out.2.1.symm) t v HL.out.2.2.1 HV.out)
          have B12 := Lib.hid (B11.out.trans (t12.below HD.out.2.2.2.1 B11.out.size))
          have C12 := Lib.hid m12
          clear m12 t12 HF C11 M11 B11
          go_wp2_with fail
          refine HST.out.mono ?_
          rintro e w13 ⟨rfl, m13, t13⟩
          have M13 := Lib.hid (m13.congr (fill_one f2 t v))
          have C13 := Lib.hid (C12.out.touched t13 HD.out.2.2.1 HD.out.2.1)
          have B13 := Lib.hid (B12.out.trans (t13.below HD.out.2.2.2.2 B12.out.size))
          clear m13 t13 HST C12 B12
          go_wp2
          go_loopw [24] (fun b wr => ∃ k : Nat, b = .int .u64 (k : Int) ∧ 1 ≤ k ∧ k ≤ n ∧ TabIs wr p11 g11 A c11 false A 0 (fillV f2 t k v) ∧ TabIs wr p8 g8 A c8 false A 0 (fillV f2 t n v) ∧ Below w.heap.size w wr) (fun b _ => n - (intOf b).toNat)
          case atStart => exact ⟨1, rfl, by omega, hn1, M13.out, C13.out, B13.out⟩
          case round =>
            obtain ⟨k, rfl, hk1, hk2, mm, cc, bb⟩ := hrel
            have MM := Lib.hid mm
            have CC := Lib.hid cc
            have BB := Lib.hid bb
            clear mm cc bb M13 C13 B13
            by_cases hlt : k < n
            · have hcp := TCopy_ok MM.out MM.out (t + k) (t + k - 1) 1 (by have := HN1.out; omega) (by have := HN1.out; omega)
              rw [show ((t + k : Nat) : Int) = (t : Int) + (k : Int) by omega, show ((t + k - 1 : Nat) : Int) = (t : Int) + (k : Int) - 1 by omega] at hcp
              have HCP := Lib.hid hcp
              have i5 : IntKind.u64.wrap ((k : Int) + 1) = (k : Int) + 1 := by have := HA.out; have := HL.out; rw [IntKind.wrap_u64]; omega
              have i6 : IntKind.u64.wrap ((t : Int) + (k : Int)) = (t : Int) + (k : Int) := by have := HA.out; have := HL.out; rw [IntKind.wrap_u64]; omega
              have i7 : IntKind.u64.wrap ((t : Int) + (k : Int) - 1) = (t : Int) + (k : Int) - 1 := by have := HA.out; have := HL.out; rw [IntKind.wrap_u64]; omega
              clear hcp
              go_wp2_with fail
              refine HCP.out.mono ?_
              rintro e w14 ⟨rfl, m14, t14⟩
              have M14 := Lib.hid (m14.congr (fill_step f2 t k v A hk1 (by have := HN1.out; omega)))
              have C14 := Lib.hid (CC.out.touched t14 HD.out.2.2.1 HD.out.2.1)
              have B14 := Lib.hid (BB.out.trans (t14.below HD.out.2.2.2.2 BB.out.size))
              clear m14 t14 HCP MM CC BB
              go_wp2
              go_roundw
              case rel => exact ⟨k + 1, by go_num, by omega, by omega, M14.out, C14.out, B14.out⟩
              case measure => simp [intOf]; omega
            · have hkn : n = k := by omega
              subst hkn
              clear hlt hk1 hk2 hn1
              obtain ⟨w15, hw15⟩ : ∃ w15, w15 = wr := ⟨_, rfl⟩
              rw [← hw15] at MM CC BB
              rw [← hw15]
              clear hw15
              go_wp2
              go_loopw [25, 26, 27, 28, 29] (fun b _ _ _ _ wr => ∃ q : Nat, b = .int .u64 (q : Int) ∧ q ≤ A ∧ wr = w15) (fun b _ _ _ _ _ => A - (intOf b).toNat)
              case atStart => exact ⟨0, rfl, by omega, by trivial⟩
              case round =>
                obtain ⟨q, rfl, hq, rfl⟩ := hrel
                by_cases hlt : q < A
                · have i5 : IntKind.u64.wrap ((q : Int) + 1) = (q : Int) + 1 := by have := HA.out; rw [IntKind.wrap_u64]; omega
                  have G1 := Lib.hid (Get_ok CC.out q hlt)
                  have G2 := Lib.hid (Get_ok MM.out q hlt)
                  go_wp2_with fail
                  refine G1.out.mono ?_
                  rintro e w16 ⟨rfl, rfl⟩
                  go_wp2_with fail
                  refine G2.out.mono ?_
                  rintro e w16 ⟨rfl, rfl⟩
                  go_wp2
                  go_roundw
                  case rel => exact ⟨q + 1, by go_num, by omega, by trivial⟩
                  case measure => simp [intOf]; omega
                · have hqA : A = q := by omega
                  subst hqA
                  go_wp2
                  go_ret
                  exact ⟨rfl, BB.out⟩
  · have hcp := TCopy_bad T8.out T8.out t s n (by have := HA.out; have := HL.out; omega) (by have := HA.out; have := HL.out; omega) (by have := HA.out; have := HL.out; omega) (by omega)
    have d1 : decide ((t : Int) + (n : Int) ≤ (A : Int)) = false := by simp; omega
    have d3 : decide ((A : Int) < (t : Int) + (n : Int)) = true := by simp; omega
    have HBAD := Lib.hid hbad
    have HCP := Lib.hid hcp
    clear hcp hbad
    go_wp2_with fail
    refine HCP.out.mono ?_
    rintro e w9 ⟨rfl, rfl⟩
    have T9 := T8
    have M9 := M8
    have N9 := N8
    have B9 := B8
    have D9 := Lib.hid (show g8 < w8.heap.size ∧ p8 < w8.heap.size ∧ w.heap.size ≤ g8 from ⟨D8.out.2.2.2.1, D8.out.2.2.2.2.1, D8.out.2.2.2.2.2⟩)
    clear HCP T8 M8 N8 B8 D8
    obtain ⟨w9, hw9⟩ : ∃ w9, w9 = w8 := ⟨_, rfl⟩
    subst hw9
    go_wp2
    go_loopw [19, 20, 21, 22] (fun b _ _ _ wr => ∃ k : Nat, b = .int .u64 (k : Int) ∧ k ≤ A ∧ wr = w9) (fun b _ _ _ _ => A - (intOf b).toNat)
    case atStart => exact ⟨0, rfl, by omega, by trivial⟩
    case round =>
      obtain ⟨k, rfl, hk, rfl⟩ := hrel
      by_cases hlt : k < A
      · have i5 : IntKind.u64.wrap ((k : Int) + 1) = (k : Int) + 1 := by have := HA.out; rw [IntKind.wrap_u64]; omega
        have hcell := N9.out.cell hlt
        have gg := Get_ok T9.out k hlt
        generalize f2 k = z at hcell gg
        have GG := Lib.hid gg
        clear gg
        go_wp2_with fail
        refine GG.out.mono ?_
        rintro e w10 ⟨rfl, rfl⟩
        go_wp2
        go_roundw
        case rel => exact ⟨k + 1, by go_num, by omega, by trivial⟩
        case measure => simp [intOf]; omega
      · have hkA : A = k := by omega
        subst hkA
        have HCL := Lib.hid (TClone_any M9.out HA.out.1)
        clear hlt hk N9 T9
        go_wp2_with fail
        refine HCL.out.mono ?_
        rintro e w11 ⟨p11, g11, c11, rfl, m11, hp11, hg11, b11⟩
        have C11 := Lib.hid (M9.out.kept b11)
        have B11 := Lib.hid (B9.out.trans (b11.mono B9.out.size))
        have HD := Lib.hid (show g8 ≠ p11 ∧ g8 ≠ g11 ∧ p8 ≠ g11 ∧ w.heap.size ≤ g8 ∧ w.heap.size ≤ g11 by
          have h1 := D9.out
          have h2 := B9.out.size
          refine ⟨?_, ?_, ?_, h1.2.2, ?_⟩ <;> omega)
        have M11 := Lib.hid m11
        clear m11 hp11 hg11 b11 HCL M9 B9 D9
        have HF := Lib.hid (TFill_bad C11.out t n v (by have := HA.out; have := HL.out; omega) (by have := HA.out; have := HL.out; omega) (by have := HBAD.out; omega))
        go_wp2_with fail
        refine HF.out.mono ?_
        rintro e w12 ⟨rfl, rfl⟩
        go_wp2
        go_ret
        exact ⟨rfl, B11.out⟩
  · have hcp := TCopy_bad T8.out T8.out t s n (by have := HA.out; have := HL.out; omega) (by have := HA.out; have := HL.out; omega) (by have := HA.out; have := HL.out; omega) (by omega)
    have d1 : decide ((t : Int) + (n : Int) ≤ (A : Int)) = true := by simp; omega
    have d2 : decide ((s : Int) + (n : Int) ≤ (A : Int)) = false := by simp; omega
    have d3 : decide ((A : Int) < (t : Int) + (n : Int)) = false := by simp; omega
    have HBAD := Lib.hid hbad
    have HCP := Lib.hid hcp
    clear hcp hbad
    go_wp2_with fail
    refine HCP.out.mono ?_
    rintro e w9 ⟨rfl, rfl⟩
    have T9 := T8
    have M9 := M8
    have N9 := N8
    have B9 := B8
    have D9 := Lib.hid (show g8 < w8.heap.size ∧ p8 < w8.heap.size ∧ w.heap.size ≤ g8 from ⟨D8.out.2.2.2.1, D8.out.2.2.2.2.1, D8.out.2.2.2.2.2⟩)
    clear HCP T8 M8 N8 B8 D8
    obtain ⟨w9, hw9⟩ : ∃ w9, w9 = w8 := ⟨_, rfl⟩
    subst hw9
    go_wp2
    go_loopw [19, 20, 21, 22] (fun b _ _ _ wr => ∃ k : Nat, b = .int .u64 (k : Int) ∧ k ≤ A ∧ wr = w9) (fun b _ _ _ _ => A - (intOf b).toNat)
    case atStart => exact ⟨0, rfl, by omega, by trivial⟩
    case round =>
      obtain ⟨k, rfl, hk, rfl⟩ := hrel
      by_cases hlt : k < A
      · have i5 : IntKind.u64.wrap ((k : Int) + 1) = (k : Int) + 1 := by have := HA.out; rw [IntKind.wrap_u64]; omega
        have hcell := N9.out.cell hlt
        have gg := Get_ok T9.out k hlt
        generalize f2 k = z at hcell gg
        have GG := Lib.hid gg
        clear gg
        go_wp2_with fail
        refine GG.out.mono ?_
        rintro e w10 ⟨rfl, rfl⟩
        go_wp2
        go_roundw
        case rel => exact ⟨k + 1, by go_num, by omega, by trivial⟩
        case measure => simp [intOf]; omega
      · have hkA : A = k := by omega
        subst hkA
        have HCL := Lib.hid (TClone_any M9.out HA.out.1)
        clear hlt hk N9 T9
        go_wp2_with fail
        refine HCL.out.mono ?_
        rintro e w11 ⟨p11, g11, c11, rfl, m11, hp11, hg11, b11⟩
        have C11 := Lib.hid (M9.out.kept b11)
        have B11 := Lib.hid (B9.out.trans (b11.mono B9.out.size))
        have HD := Lib.hid (show g8 ≠ p11 ∧ g8 ≠ g11 ∧ p8 ≠ g11 ∧ w.heap.size ≤ g8 ∧ w.heap.size ≤ g11 by
          have h1 := D9.out
          have h2 := B9.out.size
          refine ⟨?_, ?_, ?_, h1.2.2, ?_⟩ <;> omega)
        have M11 := Lib.hid m11
        clear m11 hp11 hg11 b11 HCL M9 B9 D9
        have hn0 : ¬ n = 0 := by have := HBAD.out; have := HL.out; omega
        have hn1 : 1 ≤ n := by omega
        have htn : t + n ≤ A := by have := HBAD.out; omega
        have HN1 := Lib.hid (And.intro hn1 htn)
        have hne : ((n : Int) == 0) = false := by simp; omega
        have HF := Lib.hid (TFill_ok C11.out t n v HV.out htn)
        clear hn0 htn
        go_wp2_with fail
        refine HF.out.mono ?_
        rintro e w12 ⟨rfl, m12, t12⟩
        have HST := Lib.hid (Set_ok (M11.out.touched t12 HD.out.1.symm HD.out.2.1.symm) t v HL.out.2.2.1 HV.out)
        have B12 := Lib.hid (B11.out.trans (t12.below HD.out.2.2.2.1 B11.out.size))
        have C12 := Lib.hid m12
        clear m12 t12 HF C11 M11 B11
        go_wp2_with fail
        refine HST.out.mono ?_
        rintro e w13 ⟨rfl, m13, t13⟩
        have M13 := Lib.hid (m13.congr (fill_one f2 t v))
        have C13 := Lib.hid (C12.out.touched t13 HD.out.2.2.1 HD.out.2.1)
        have B13 := Lib.hid (B12.out.trans (t13.below HD.out.2.2.2.2 B12.out.size))
        clear m13 t13 HST C12 B12
        go_wp2
        go_loopw [24] (fun b wr => ∃ k : Nat, b = .int .u64 (k : Int) ∧ 1 ≤ k ∧ k ≤ n ∧ TabIs wr p11 g11 A c11 false A 0 (fillV f2 t k v) ∧ TabIs wr p8 g8 A c8 false A 0 (fillV f2 t n v) ∧ Below w.heap.size w wr) (fun b _ => n - (intOf b).toNat)
        case atStart => exact ⟨1, rfl, by omega, hn1, M13.out, C13.out, B13.out⟩
        case round =>
          obtain ⟨k, rfl, hk1, hk2, mm, cc, bb⟩ := hrel
          have MM := Lib.hid mm
          have CC := Lib.hid cc
          have BB := Lib.hid bb
          clear mm cc bb M13 C13 B13
          by_cases hlt : k < n
          · have hcp := TCopy_ok MM.out MM.out (t + k) (t + k - 1) 1 (by have := HN1.out; omega) (by have := HN1.out; omega)
            rw [show ((t + k : Nat) : Int) = (t : Int) + (k : Int) by omega, show ((t + k - 1 : Nat) : Int) = (t : Int) + (k : Int) - 1 by omega] at hcp
            have HCP := Lib.hid hcp
            have i5 : IntKind.u64.wrap ((k : Int) + 1) = (k : Int) + 1 := by have := HA.out; have := HL.out; rw [IntKind.wrap_u64]; omega
            have i6 : IntKind.u64.wrap ((t : Int) + (k : Int)) = (t : Int) + (k : Int) := by have := HA.out; have := HL.out; rw [IntKind.wrap_u64]; omega
            have i7 : IntKind.u64.wrap ((t : Int) + (k : Int) - 1) = (t : Int) + (k : Int) - 1 := by have := HA.out; have := HL.out; rw [IntKind.wrap_u64]; omega
            clear hcp
            go_wp2_with fail
            refine HCP.out.mono ?_
            rintro e w14 ⟨rfl, m14, t14⟩
            have M14 := Lib.hid (m14.congr (fill_step f2 t k v A hk1 (by have := HN1.out; omega)))
            have C14 := Lib.hid (CC.out.touched t14 HD.out.2.2.1 HD.out.2.1)
            have B14 := Lib.hid (BB.out.trans (t14.below HD.out.2.2.2.2 BB.out.size))
            clear m14 t14 HCP MM CC BB
            go_wp2
            go_roundw
            case rel => exact ⟨k + 1, by go_num, by omega, by omega, M14.out, C14.out, B14.out⟩
            case measure => simp [intOf]; omega
          · have hkn : n = k := by omega
            subst hkn
            clear hlt hk1 hk2 hn1
            obtain ⟨w15, hw15⟩ : ∃ w15, w15 = wr := ⟨_, rfl⟩
            rw [← hw15] at MM CC BB
            rw [← hw15]
            clear hw15
            go_wp2
            go_loopw [25, 26, 27, 28, 29] (fun b _ _ _ _ wr => ∃ q : Nat, b = .int .u64 (q : Int) ∧ q ≤ A ∧ wr = w15) (fun b _ _ _ _ _ => A - (intOf b).toNat)
            case atStart => exact ⟨0, rfl, by omega, by trivial⟩
            case round =>
              obtain ⟨q, rfl, hq, rfl⟩ := hrel
              by_cases hlt : q < A
              · have i5 : IntKind.u64.wrap ((q : Int) + 1) = (q : Int) + 1 := by have := HA.out; rw [IntKind.wrap_u64]; omega
                have G1 := Lib.hid (Get_ok CC.out q hlt)
                have G2 := Lib.hid (Get_ok MM.out q hlt)
                go_wp2_with fail
                refine G1.out.mono ?_
                rintro e w16 ⟨rfl, rfl⟩
                go_wp2_with fail
                refine G2.out.mono ?_
                rintro e w16 ⟨rfl, rfl⟩
                go_wp2
                go_roundw
                case rel => exact ⟨q + 1, by go_num, by omega, by trivial⟩
                case measure => simp [intOf]; omega
              · have hqA : A = q := by omega
                subst hqA
                go_wp2
                go_ret
                exact ⟨rfl, BB.out⟩

/-- a slice of integers that came in: nil, or a row of 'cap' cells -/
def IsRow (k : IntKind) (w : World) (a : Option Addr) (len cap : Nat) (zs : List Int) : Prop :=
  (a = none ∧ len = 0 ∧ cap = 0 ∧ zs = []) ∨
  ∃ x, a = some x ∧ len ≤ cap ∧ cap ≤ maxLen ∧ zs.length = cap ∧ (∀ i, i < zs.length → w.cell? (x.add i) = some (.int k (zs.getD i 0))) ∧ ∀ n ∈ zs, (Lit.int k n).wf = true

theorem IsRow.bts {w : World} {a : Option Addr} {len cap : Nat} {zs : List Int} (h : IsRow .u64 w a len cap zs) :
    ∃ bs : List Nat, len = bs.length ∧ U.Bts w a bs ∧ (a = none → cap = 0) ∧ bs.length ≤ cap ∧ cap ≤ maxLen := by
  rcases h with ⟨rfl, rfl, rfl, rfl⟩ | ⟨x, rfl, h1, h2, h3, h4, h5⟩
  · exact ⟨[], rfl, ⟨by simp, .inl rfl⟩, fun _ => rfl, Nat.le_refl _, by simp⟩
  · have hlen : ((zs.take len).map Int.toNat).length = len := by simp; omega
    have hlt : ∀ c ∈ (zs.take len).map Int.toNat, c < 18446744073709551616 := by
      intro c hc
      obtain ⟨z, hz, rfl⟩ := List.mem_map.1 hc
      have := u64_wf (h5 z (List.mem_of_mem_take hz))
      omega
    refine ⟨(zs.take len).map Int.toNat, hlen.symm, ⟨hlt, ?_⟩, fun e => by simp at e, by omega, h2⟩
    by_cases h0 : len = 0
    · subst h0; exact .inl (by simp)
    · right
      obtain ⟨b, off, spot⟩ := x
      have hc0 := h4 0 (by omega)
      have hspot : spot = none := by simpa [Addr.add] using World.cell?_spot hc0
      subst hspot
      refine ⟨b, off, rfl, fun i hi => ?_⟩
      rw [hlen] at hi
      have := h4 i (by omega)
      rw [Addr.add_lit] at this
      rw [this]
      have hz : i < zs.length := by omega
      have hz0 := u64_wf (h5 (zs[i]) (List.getElem_mem hz))
      simp [List.getD_eq_getElem?_getD, List.getElem?_eq_getElem hz, hi]
      omega

theorem u64_nat' {n : Int} (h : (Lit.int .u64 n).wf = true) : ∃ m : Nat, n = (m : Int) ∧ m < 18446744073709551616 :=
  ⟨n.toNat, by have := u64_wf h; omega, by have := u64_wf h; omega⟩

theorem TableKeeps_walk (a0 : Option Addr) (len0 cap0 : Nat) (z0 : List Int) (a1 : Int) (a2 : Int) (a3 : Int) (a4 : Int) (a5 : Int) (w : World) (w0 : IsRow .u64 w a0 len0 cap0 z0) (w1 : (Lit.int .u64 a1).wf = true) (w2 : (Lit.int .u64 a2).wf = true) (w3 : (Lit.int .u64 a3).wf = true) (w4 : (Lit.int .u64 a4).wf = true) (w5 : (Lit.int .u64 a5).wf = true) :
    Calls Try.prog 5 #[.slice a0 len0 cap0, .int .u64 a1, .int .u64 a2, .int .u64 a3, .int .u64 a4, .int .u64 a5] w fun e w' => e = .returned (.bool true) ∧ Below w.heap.size w w' := by
  by_cases hs : len0 < 1 ∨ 200 < len0
  · exact TKeeps_short a0 len0 cap0 a1 a2 a3 a4 a5 w hs
  · obtain ⟨l, hl, hb, _, hc, _⟩ := w0.bts
    obtain ⟨n1, rfl, h1⟩ := u64_nat' w1
    obtain ⟨n2, rfl, h2⟩ := u64_nat' w2
    obtain ⟨n3, rfl, h3⟩ := u64_nat' w3
    obtain ⟨n4, rfl, h4⟩ := u64_nat' w4
    obtain ⟨n5, rfl, h5⟩ := u64_nat' w5
    rcases hb.2 with rfl | ⟨b, off, rfl, _⟩
    · simp at hl; omega
    · exact TKeeps_in ⟨b, off, none⟩ l len0 cap0 hl n1 n2 n3 n4 n5 h1 h2 h3 h4 h5 w hb (by omega) (by omega) (by omega)
end Go.Proofs.Ytalgpmnjkfconaa
