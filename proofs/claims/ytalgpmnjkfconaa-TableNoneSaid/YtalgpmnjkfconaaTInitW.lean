/- Init, Copy, Fill of a table. -/
import Derived.Test.YtalgpmnjkfconaaTMakeW
namespace Go.Proofs.Ytalgpmnjkfconaa
open Go.RowKit Go.Deep Go.Instr

theorem size47 (w : World) : (sizeOf (Try.prog.elem 47)).run Try.prog w = .ok 1 w := by kernel_rfl

/-- a part of a row of words: what slicing hands out -/
theorem slice47 (P : Option Addr) (n c i m : Nat) (h : i + m ≤ n) (hc : n ≤ c) :
    ∃ a' : Option Addr, (∀ w : World, (slice 47 (.slice P n c) (some (.int .u64 (i : Int))) (some (.int .u64 ((i : Int) + (m : Int)))) none).run Try.prog w = .ok (.slice a' m (c - i)) w) ∧
      (i < c → a' = P.map (·.add i)) := by
  refine ⟨if c = i then P else P.map (·.add i), fun w => ?_, fun hi => if_neg (by omega)⟩
  rw [run_slice_lh _ _ _ _ _ Try.underlying47 .u64 .u64 _ _ (by omega) (by omega) (by omega)]
  simp [sliced, size47, Result.andThen]
  omega

theorem put_ltU {f : Nat → Nat} (hf : ∀ i, f i < 18446744073709551616) (x : Nat) {l : List Nat} (hl : ∀ c ∈ l, c < 18446744073709551616) (s m : Nat) : ∀ j, put f x l s m j < 18446744073709551616 := by
  intro j
  unfold put
  split
  · rw [List.getD_eq_getElem?_getD]
    by_cases hj : s + (j - x) < l.length
    · rw [List.getElem?_eq_getElem hj]; exact hl _ (List.getElem_mem _)
    · rw [List.getElem?_eq_none (by omega)]; simp
  · exact hf _

set_option maxRecDepth 100000 in
set_option maxHeartbeats 2000000 in
theorem TInit_ok {w : World} {p g n c : Nat} {hm : Bool} {mn mx : Nat} {f : Nat → Nat} (h : TabIs w p g n c hm mn mx f) (x s m : Nat) (da : Addr) (l : List Nat) (dcap : Nat) (hd : U.Bts w (some da) l) (hdc : l.length ≤ dcap)
    (hl : l.length ≤ 10000) (hin1 : x + m ≤ n) (hin2 : s + m ≤ l.length) :
    Calls Try.prog 21 #[.pointer (some ⟨p, 0, none⟩), .int .u64 x, .slice (some da) l.length dcap, .int .u64 s, .int .u64 m] w fun e w' =>
      e = .returned (.int .i64 0) ∧ TabIs w' p g n c hm mn mx (put f x l s m) ∧ Touch g w w' := by
  have hc := h.c8
  have hb := h.big
  have hcr := h.room
  have I1 := tin_any x m n (by omega) (by omega) (by omega)
  have I2 := tin_any s m l.length (by omega) (by omega) (by omega)
  rw [show decide (x + m ≤ n) = true by simpa using hin1] at I1
  rw [show decide (s + m ≤ l.length) = true by simpa using hin2] at I2
  have I1 := Lib.hid I1
  have I2 := Lib.hid I2
  obtain ⟨C, hC⟩ : ∃ C : List Value, C = (List.range m).map fun i => .int .u64 ((l.getD (s + i) 0 : Nat) : Int) := ⟨_, rfl⟩
  have hCl : C.length = m := by rw [hC]; simp
  have hC1 : ∀ v ∈ C, v.oneCell' = true := by
    intro v hv
    rw [hC] at hv
    obtain ⟨i, _, rfl⟩ := List.mem_map.1 hv
    rfl
  have hsrc : ∀ W : World, U.Bts W (some da) l → ∀ j v, C[j]? = some v → W.cell? ((da.add s).add j) = some v := by
    intro W hW j v hv
    rw [hC, List.getElem?_map] at hv
    obtain ⟨i, hi, rfl⟩ := Option.map_eq_some_iff.1 hv
    obtain ⟨hj, hi'⟩ := List.getElem?_eq_some_iff.1 hi
    rw [List.getElem_range] at hi'
    subst hi'
    rw [List.length_range] at hj
    rcases hW.2 with rfl | ⟨b, off, he, hc⟩
    · simp at hin2; omega
    · obtain rfl := Option.some.inj he
      rw [Addr.add_lit, Addr.add_lit, Nat.add_assoc]
      exact hc _ (by omega)
  obtain ⟨F, hrow, hF⟩ := h.row
  have hover : ∀ j, j < n → over F x C j = .int .u64 ((put f x l s m j : Nat) : Int) := by
    intro j hj
    unfold over put
    rw [hCl]
    by_cases hh : x ≤ j ∧ j < x + m
    · rw [if_pos hh, if_pos hh, hC, List.getD_eq_getElem?_getD, List.getElem?_map, List.getElem?_range (by omega)]; rfl
    · rw [if_neg hh, if_neg hh]; exact hF j hj
  have HSRC := Lib.hid (hsrc w.drew hd)
  have HL := Lib.hid hCl
  have H1 := Lib.hid hC1
  have ROW := Lib.hid hrow.drew
  have FIN := Lib.hid (fun w' (r : w'.rowIs g 22 c (over F x C)) (t : Touch g w.drew w') => (h.moved (w' := w') (f' := put f x l s m) (t.block p h.lt_size h.ne) ⟨_, r, hover⟩ (put_ltU h.lt x hd.1 s m)))
  obtain ⟨A1, s1, d1⟩ := slice47 (some ⟨g, 0, none⟩) n c x m hin1 hcr
  obtain ⟨A2, s2, d2⟩ := slice47 (some da) l.length dcap s m hin2 hdc
  have D1 := Lib.hid (fun h0 : 0 < C.length => d1 (by omega))
  have D2 := Lib.hid (fun h0 : 0 < C.length => d2 (by omega))
  generalize l.length = len at *
  have e1 : IntKind.u64.wrap ((x : Int) + (m : Int)) = (x : Int) + (m : Int) := by rw [IntKind.wrap_u64]; omega
  have e2 : IntKind.u64.wrap ((s : Int) + (m : Int)) = (s : Int) + (m : Int) := by rw [IntKind.wrap_u64]; omega
  have HC := Lib.hid (show x + m ≤ c by omega)
  clear hC hCl hC1 hsrc hover hd h hF hrow d1 d2 hdc hl hin1 hin2 hcr hb
  go_enter Try.func21, Try.ntmps21
  go_wp2_with fail
  refine (I1.out _).mono ?_
  rintro e w1 ⟨rfl, rfl⟩
  go_wp2_with fail
  refine (I2.out _).mono ?_
  rintro e w1 ⟨rfl, rfl⟩
  go_wp2_with fail
  go_region_law (refine step_copyR rfl (.tmp 38) (.tmp 44) 47 22 rfl Try.underlying47 sz22 g x c _ ROW.out A1 A2 m (c - x) m (dcap - s) (by kernel_rfl) (by kernel_rfl) C ?_ ?_ ?_ H1.out ?_; (rw [HL.out]; simp); (intro h0; refine ⟨by rw [D1.out h0, Option.map_some, Addr.add_lit, Nat.zero_add], _, D2.out h0, HSRC.out⟩); (rw [HL.out]; exact HC.out); intro w4 r4 t4; have R4 := Lib.hid r4; have T4 := Lib.hid t4; clear r4 t4)
  go_wp2
  go_ret
  exact ⟨rfl, FIN.out _ R4.out T4.out, ⟨T4.out.os, T4.out.tape, T4.out.output, T4.out.size, T4.out.block⟩⟩
set_option maxRecDepth 100000 in
theorem TInit_bad {w : World} {p g n c : Nat} {hm : Bool} {mn mx : Nat} {f : Nat → Nat} (h : TabIs w p g n c hm mn mx f) (x s m : Nat) (da : Option Addr) (dl dcap : Nat)
    (hx : x < 18446744073709551616) (hs : s < 18446744073709551616) (hm' : m < 18446744073709551616) (hl : dl ≤ 10000) (hin : ¬ (x + m ≤ n ∧ s + m ≤ dl)) :
    Calls Try.prog 21 #[.pointer (some ⟨p, 0, none⟩), .int .u64 x, .slice da dl dcap, .int .u64 s, .int .u64 m] w fun e w' => e = .returned (.int .i64 260) ∧ w = w' := by
  have hc := h.c8
  have hb := h.big
  have I1 := tin_any x m n hx hm' (by omega)
  have I2 := tin_any s m dl hs hm' (by omega)
  by_cases h1 : x + m ≤ n
  · have h2 : ¬ s + m ≤ dl := by omega
    rw [show decide (x + m ≤ n) = true by simpa using h1] at I1
    rw [show decide (s + m ≤ dl) = false by simpa using h2] at I2
    have I1 := Lib.hid I1
    have I2 := Lib.hid I2
    clear h hx hs hm' hin h1 h2
    go_enter Try.func21, Try.ntmps21
    go_wp2_with fail
    refine (I1.out _).mono ?_
    rintro e w1 ⟨rfl, rfl⟩
    go_wp2_with fail
    refine (I2.out _).mono ?_
    rintro e w1 ⟨rfl, rfl⟩
    go_wp2
    go_ret
    exact ⟨rfl, rfl⟩
  · rw [show decide (x + m ≤ n) = false by simpa using h1] at I1
    have I1 := Lib.hid I1
    clear I2 h hx hs hm' hin h1
    go_enter Try.func21, Try.ntmps21
    go_wp2_with fail
    refine (I1.out _).mono ?_
    rintro e w1 ⟨rfl, rfl⟩
    go_wp2
    go_ret
    exact ⟨rfl, rfl⟩

theorem TabIs.bts {w : World} {p g n c : Nat} {hm : Bool} {mn mx : Nat} {f : Nat → Nat} (h : TabIs w p g n c hm mn mx f) : U.Bts w (some ⟨g, 0, none⟩) (part f 0 n) := by
  refine ⟨?_, .inr ⟨g, 0, rfl, fun i hi => ?_⟩⟩
  · intro c hc
    obtain ⟨i, _, rfl⟩ := List.mem_map.1 hc
    exact h.lt _
  · rw [len_part] at hi
    rw [part_at _ _ _ _ hi, Nat.zero_add]
    exact h.cell hi

set_option maxRecDepth 100000 in
theorem TCopy_ok {w : World} {p g n c : Nat} {hm : Bool} {mn mx : Nat} {f : Nat → Nat} {p2 g2 n2 c2 : Nat} {hm2 : Bool} {mn2 mx2 : Nat} {f2 : Nat → Nat} (h : TabIs w p g n c hm mn mx f) (h2 : TabIs w p2 g2 n2 c2 hm2 mn2 mx2 f2) (x s m : Nat)
    (hin1 : x + m ≤ n) (hin2 : s + m ≤ n2) :
    Calls Try.prog 24 #[.pointer (some ⟨p, 0, none⟩), .int .u64 x, .pointer (some ⟨p2, 0, none⟩), .int .u64 s, .int .u64 m] w fun e w' =>
      e = .returned (.int .i64 0) ∧ TabIs w' p g n c hm mn mx (put f x (part f2 0 n2) s m) ∧ Touch g w w' := by
  have hc := h2.c8
  have HI := TInit_ok h x s m ⟨g2, 0, none⟩ (part f2 0 n2) c2 h2.bts (by rw [len_part]; exact h2.room) (by rw [len_part]; exact h2.big) hin1 (by rw [len_part]; exact hin2)
  rw [len_part] at HI
  have HI := Lib.hid HI
  clear h h2 hin1 hin2
  go_enter Try.func24, Try.ntmps24
  go_wp2_with fail
  refine HI.out.mono ?_
  rintro e w1 ⟨rfl, m1, t1⟩
  have M1 := Lib.hid m1
  have T1 := Lib.hid t1
  clear m1 t1
  go_wp2
  go_ret
  exact ⟨rfl, M1.out, T1.out⟩

set_option maxRecDepth 100000 in
theorem TCopy_bad {w : World} {p g n c : Nat} {hm : Bool} {mn mx : Nat} {f : Nat → Nat} {p2 g2 n2 c2 : Nat} {hm2 : Bool} {mn2 mx2 : Nat} {f2 : Nat → Nat} (h : TabIs w p g n c hm mn mx f) (h2 : TabIs w p2 g2 n2 c2 hm2 mn2 mx2 f2) (x s m : Nat)
    (hx : x < 18446744073709551616) (hs : s < 18446744073709551616) (hm' : m < 18446744073709551616) (hin : ¬ (x + m ≤ n ∧ s + m ≤ n2)) :
    Calls Try.prog 24 #[.pointer (some ⟨p, 0, none⟩), .int .u64 x, .pointer (some ⟨p2, 0, none⟩), .int .u64 s, .int .u64 m] w fun e w' => e = .returned (.int .i64 260) ∧ w = w' := by
  have hc := h2.c8
  have HI := Lib.hid (TInit_bad h x s m (some ⟨g2, 0, none⟩) n2 c2 hx hs hm' h2.big hin)
  clear h h2 hin hx hs hm'
  go_enter Try.func24, Try.ntmps24
  go_wp2_with fail
  refine HI.out.mono ?_
  rintro e w1 ⟨rfl, rfl⟩
  go_wp2
  go_ret
  exact ⟨rfl, rfl⟩

set_option maxRecDepth 100000 in
theorem TFill_bad {w : World} {p g n c : Nat} {hm : Bool} {mn mx : Nat} {f : Nat → Nat} (h : TabIs w p g n c hm mn mx f) (x m v : Nat) (hx : x < 18446744073709551616) (hm' : m < 18446744073709551616) (hin : n < x + m) :
    Calls Try.prog 26 #[.pointer (some ⟨p, 0, none⟩), .int .u64 x, .int .u64 v, .int .u64 m] w fun e w' => e = .returned (.int .i64 260) ∧ w = w' := by
  have hc := h.c8
  have hb := h.big
  have I1 := tin_any x m n hx hm' (by omega)
  rw [show decide (x + m ≤ n) = false by simpa using hin] at I1
  have I1 := Lib.hid I1
  clear h hx hm' hin
  go_enter Try.func26, Try.ntmps26
  go_wp2_with fail
  refine (I1.out _).mono ?_
  rintro e w1 ⟨rfl, rfl⟩
  go_wp2
  go_ret
  exact ⟨rfl, rfl⟩

theorem fillV_ok (f : Nat → Nat) (x m v : Nat) (hx : m = 0) (j : Nat) : f j = fillV f x m v j := by subst hx; exact fillV_zero f x v j

set_option maxRecDepth 100000 in
set_option maxHeartbeats 1000000 in
theorem TFill_ok {w : World} {p g n c : Nat} {hm : Bool} {mn mx : Nat} {f : Nat → Nat} (h : TabIs w p g n c hm mn mx f) (x m v : Nat) (hv : v < 18446744073709551616) (hin : x + m ≤ n) :
    Calls Try.prog 26 #[.pointer (some ⟨p, 0, none⟩), .int .u64 x, .int .u64 v, .int .u64 m] w fun e w' => e = .returned (.int .i64 0) ∧ TabIs w' p g n c hm mn mx (fillV f x m v) ∧ Touch g w w' := by
  have hc := h.c8
  have hb := h.big
  have hcr := h.room
  have I1 := tin_any x m n (by omega) (by omega) (by omega)
  rw [show decide (x + m ≤ n) = true by simpa using hin] at I1
  have I1 := Lib.hid I1
  have HM := Lib.hid h
  obtain ⟨A1, s1, d1⟩ := slice47 (some ⟨g, 0, none⟩) n c x m hin hcr
  have e1 : IntKind.u64.wrap ((x : Int) + (m : Int)) = (x : Int) + (m : Int) := by rw [IntKind.wrap_u64]; omega
  clear h
  by_cases hm0 : m = 0
  · subst hm0
    have HM := Lib.hid (HM.out.congr (fillV_zero f x v))
    clear d1
    go_enter Try.func26, Try.ntmps26
    go_wp2_with fail
    refine (I1.out _).mono ?_
    rintro e w1 ⟨rfl, rfl⟩
    go_wp2
    all_goals (
      refine wp_loop_rounds 1 ?_
      rw [rounds_succ]
      go_wp2
      go_ret
      exact ⟨rfl, HM.out, Touch.refl _ _⟩)
  · obtain rfl : A1 = some ⟨g, x, none⟩ := by rw [d1 (by omega), Option.map_some, Addr.add_lit, Nat.zero_add]
    clear d1
    go_enter Try.func26, Try.ntmps26
    go_wp2_with fail
    refine (I1.out _).mono ?_
    rintro e w1 ⟨rfl, rfl⟩
    go_wp2
    go_loopw [33, 10] (fun b _ wr => ∃ i : Nat, b = .int .i64 (i : Int) ∧ i ≤ m ∧ TabIs wr p g n c hm mn mx (fillV f x i v) ∧ Touch g w wr) (fun b _ _ => m - (intOf b).toNat)
    case atStart => exact ⟨0, rfl, by omega, HM.out.congr (fillV_zero f x v), Touch.refl _ _⟩
    case round =>
      obtain ⟨i, rfl, hi, hm', ht⟩ := hrel
      have HMI := Lib.hid hm'
      have HT := Lib.hid ht
      clear hm' ht
      by_cases hlt : i < m
      · have hcell := HMI.out.cell (show x + i < n by omega)
        have hfr := HMI.out.frozen (x + i)
        have HST := Lib.hid ((HMI.out.set (x + i) v hv).congr (fillV_succ f x i v))
        go_wp2
        go_roundw
        case rel => exact ⟨i + 1, by go_num, by omega, HST.out, HT.out.setCell rfl _⟩
        case measure => simp [intOf]; omega
      · have hiK : i = m := by omega
        subst hiK
        go_wp2
        go_ret
        exact ⟨rfl, HMI.out, HT.out⟩
end Go.Proofs.Ytalgpmnjkfconaa
