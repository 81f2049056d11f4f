/- Init, Copy. -/
import Derived.Test.YtalgpmnjkfconaaCopyR
namespace Go.Proofs.Ytalgpmnjkfconaa
open Go.RowKit Go.Deep

/-- the bytes m of l from s on laid from x on -/
def put (f : Nat → Nat) (x : Nat) (l : List Nat) (s m : Nat) : Nat → Nat := fun j => if x ≤ j ∧ j < x + m then l.getD (s + (j - x)) 0 else f j

theorem MemIs.touched {w w' : World} {p g n : Nat} {wd hm : Bool} {mn mx : Nat} {f f' : Nat → Nat} (h : MemIs w p g n wd hm mn mx f) (ht : Touch g w w') (hp : p < w.heap.size) (hr : w'.rowIs g 5 n (fun i => .int .u8 (f' i : Int))) (hl : ∀ i, f' i < 256) : MemIs w' p g n wd hm mn mx f' := by
  have e := ht.block p hp h.ne
  refine ⟨?_, ?_, ?_, ?_, ?_, ?_, hr, hl, h.ne, h.big⟩
  · exact (World.cell?_of_block (w := w) e).trans h.c0
  · exact (World.cell?_of_block (w := w) e).trans h.c1
  · exact (World.cell?_of_block (w := w) e).trans h.c2
  · exact (World.cell?_of_block (w := w) e).trans h.c3
  · exact (World.cell?_of_block (w := w) e).trans h.c4
  · exact (World.frozen?_of_block (w := w) e).trans h.z4
theorem MemIs.lt_size {w : World} {p g n : Nat} {wd hm : Bool} {mn mx : Nat} {f : Nat → Nat} (h : MemIs w p g n wd hm mn mx f) : p < w.heap.size := by
  have := h.c0
  unfold World.cell? at this
  rcases Nat.lt_or_ge p w.heap.size with hlt | hge
  · exact hlt
  · rw [Array.getElem?_eq_none (by simpa using hge)] at this; simp at this

theorem sz5 : (Try.prog.info? 5).map (·.size) = some 1 := by kernel_rfl

theorem put_lt {f : Nat → Nat} (hf : ∀ i, f i < 256) (x : Nat) {l : List Nat} (hl : ∀ c ∈ l, c < 256) (s m : Nat) : ∀ j, put f x l s m j < 256 := by
  intro j
  unfold put
  split
  · rw [List.getD_eq_getElem?_getD]
    by_cases h : s + (j - x) < l.length
    · rw [List.getElem?_eq_getElem h]; exact hl _ (List.getElem_mem h)
    · rw [List.getElem?_eq_none (by omega)]; simp
  · exact hf j

set_option maxRecDepth 100000 in
set_option maxHeartbeats 2000000 in
theorem Init_ok {w : World} {p g n : Nat} {wd hm : Bool} {mn mx : Nat} {f : Nat → Nat} (h : MemIs w p g n wd hm mn mx f) (x s m : Nat) (da : Addr) (l : List Nat) (dcap : Nat) (hd : Bts w (some da) l) (hdc : l.length ≤ dcap)
    (hl : l.length ≤ 2097152) (hin1 : x + m ≤ n) (hin2 : s + m ≤ l.length) :
    Calls Try.prog 15 #[.pointer (some ⟨p, 0, none⟩), .int .u64 x, .slice (some da) l.length dcap, .int .u64 s, .int .u64 m] w fun e w' =>
      e = .returned (.int .i64 0) ∧ MemIs w' p g n wd hm mn mx (put f x l s m) ∧ Touch g w w' := by
  have hc := h.c4
  have hb := h.big
  have I1 := in_any x m n (by omega) (by omega) (by omega)
  have I2 := in_any s m l.length (by omega) (by omega) (by omega)
  rw [show decide (x + m ≤ n) = true by simpa using hin1] at I1
  rw [show decide (s + m ≤ l.length) = true by simpa using hin2] at I2
  have I1 := Lib.hid I1
  have I2 := Lib.hid I2
  obtain ⟨C, hC⟩ : ∃ C : List Value, C = (List.range m).map fun i => .int .u8 ((l.getD (s + i) 0 : Nat) : Int) := ⟨_, rfl⟩
  have hCl : C.length = m := by rw [hC]; simp
  have hC1 : ∀ v ∈ C, v.oneCell' = true := by
    intro v hv
    rw [hC] at hv
    obtain ⟨i, _, rfl⟩ := List.mem_map.1 hv
    rfl
  have hsrc : ∀ W : World, Bts W (some da) l → ∀ j v, C[j]? = some v → W.cell? ((da.add s).add j) = some v := by
    intro W hW j v hv
    rw [hC, List.getElem?_map] at hv
    obtain ⟨i, hi, rfl⟩ := Option.map_eq_some_iff.1 hv
    obtain ⟨hj, hi'⟩ := List.getElem?_eq_some_iff.1 hi
    rw [List.getElem_range] at hi'
    subst hi'
    rw [List.length_range] at hj
    rcases hW.2 with rfl | ⟨b, off, he, hc⟩
    · simp at hin2; omega
    · obtain rfl := Option.some.inj he
      rw [Addr.add_lit, Addr.add_lit, Nat.add_assoc]
      exact hc _ (by omega)
  have hover : ∀ j, j < n → over (fun i => .int .u8 (f i : Int)) x C j = .int .u8 ((put f x l s m j : Nat) : Int) := by
    intro j hj
    unfold over put
    rw [hCl]
    by_cases hh : x ≤ j ∧ j < x + m
    · rw [if_pos hh, if_pos hh, hC, List.getD_eq_getElem?_getD, List.getElem?_map, List.getElem?_range (by omega)]; rfl
    · rw [if_neg hh, if_neg hh]
  have HSRC := Lib.hid (hsrc w.drew hd)
  have HL := Lib.hid hCl
  have H1 := Lib.hid hC1
  have ROW := Lib.hid h.row.drew
  have FIN := Lib.hid (fun w' (r : w'.rowIs g 5 n (over (fun i => .int .u8 (f i : Int)) x C)) (t : Touch g w.drew w') => (h.touched (w' := w') (f' := put f x l s m) ⟨t.os, t.tape, t.output, t.size, t.block⟩ h.lt_size (r.congr hover) (put_lt h.lt x hd.1 s m)))
  have hdb : ∃ b off sp, da = ⟨b, off, sp⟩ := ⟨_, _, _, rfl⟩
  obtain ⟨b, off, sp, rfl⟩ := hdb
  clear hC hCl hC1 hsrc hover hd h
  go_enter Try.func15, Try.ntmps15
  go_wp2_with fail
  refine (I1.out _).mono ?_
  rintro e w1 ⟨rfl, rfl⟩
  go_wp2_with fail
  refine (I2.out _).mono ?_
  rintro e w1 ⟨rfl, rfl⟩
  go_wp2_with fail
  have e1 : IntKind.u64.wrap ((x : Int) + (m : Int)) = (x : Int) + (m : Int) := by rw [IntKind.wrap_u64]; omega
  have e2 : IntKind.u64.wrap ((s : Int) + (m : Int)) = (s : Int) + (m : Int) := by rw [IntKind.wrap_u64]; omega
  have z1 : IntKind.u64.wrap (x : Int) = (x : Int) := by rw [IntKind.wrap_u64]; omega
  have z2 : IntKind.u64.wrap (s : Int) = (s : Int) := by rw [IntKind.wrap_u64]; omega
  have y1 : (x : Int) ≤ (n : Int) := by omega
  have y2 : (s : Int) ≤ (dcap : Int) := by omega
  have t1 : ((x : Int) + (m : Int)).toNat = x + m := by omega
  have t2 : ((s : Int) + (m : Int)).toNat = s + m := by omega
  have f1 : (0 : Int) ≤ (x : Int) + (m : Int) := by omega
  have f2 : (x : Int) + (m : Int) ≤ (n : Int) := by omega
  have f3 : (0 : Int) ≤ (s : Int) + (m : Int) := by omega
  have f4 : (s : Int) + (m : Int) ≤ (dcap : Int) := by omega
  by_cases hx : n = x
  · have hm0 : m = 0 := by omega
    subst hm0
    subst hx
    by_cases hs : dcap = s
    · subst hs
      go_region_law (refine step_copyR rfl (.tmp 38) (.tmp 44) 31 5 rfl Try.underlying31 sz5 g n n _ ROW.out _ _ _ _ _ _ rfl rfl C ?_ ?_ ?_ H1.out ?_; (rw [HL.out]; simp); (intro h0; rw [HL.out] at h0; omega); (rw [HL.out]; omega); intro w4 r4 t4; have R4 := Lib.hid r4; have T4 := Lib.hid t4; clear r4 t4)
      go_wp2
      go_ret
      exact ⟨rfl, FIN.out _ R4.out T4.out, ⟨T4.out.os, T4.out.tape, T4.out.output, T4.out.size, T4.out.block⟩⟩
    · have hs' : s < dcap := by omega
      go_region_law (refine step_copyR rfl (.tmp 38) (.tmp 44) 31 5 rfl Try.underlying31 sz5 g n n _ ROW.out _ _ _ _ _ _ rfl rfl C ?_ ?_ ?_ H1.out ?_; (rw [HL.out]; simp); (intro h0; rw [HL.out] at h0; omega); (rw [HL.out]; omega); intro w4 r4 t4; have R4 := Lib.hid r4; have T4 := Lib.hid t4; clear r4 t4)
      go_wp2
      go_ret
      exact ⟨rfl, FIN.out _ R4.out T4.out, ⟨T4.out.os, T4.out.tape, T4.out.output, T4.out.size, T4.out.block⟩⟩
  · by_cases hs : dcap = s
    · have hm0 : m = 0 := by omega
      subst hm0
      subst hs
      go_region_law (refine step_copyR rfl (.tmp 38) (.tmp 44) 31 5 rfl Try.underlying31 sz5 g x n _ ROW.out _ _ _ _ _ _ rfl rfl C ?_ ?_ ?_ H1.out ?_; (rw [HL.out]; simp); (intro h0; rw [HL.out] at h0; omega); (rw [HL.out]; omega); intro w4 r4 t4; have R4 := Lib.hid r4; have T4 := Lib.hid t4; clear r4 t4)
      go_wp2
      go_ret
      exact ⟨rfl, FIN.out _ R4.out T4.out, ⟨T4.out.os, T4.out.tape, T4.out.output, T4.out.size, T4.out.block⟩⟩
    · go_region_law (refine step_copyR rfl (.tmp 38) (.tmp 44) 31 5 rfl Try.underlying31 sz5 g x n _ ROW.out _ _ _ _ _ _ rfl rfl C ?_ ?_ ?_ H1.out ?_; (rw [HL.out]; simp); (intro _; exact ⟨rfl, _, rfl, HSRC.out⟩); (rw [HL.out]; omega); intro w4 r4 t4; have R4 := Lib.hid r4; have T4 := Lib.hid t4; clear r4 t4)
      go_wp2
      go_ret
      exact ⟨rfl, FIN.out _ R4.out T4.out, ⟨T4.out.os, T4.out.tape, T4.out.output, T4.out.size, T4.out.block⟩⟩

set_option maxRecDepth 100000 in
theorem Init_bad {w : World} {p g n : Nat} {wd hm : Bool} {mn mx : Nat} {f : Nat → Nat} (h : MemIs w p g n wd hm mn mx f) (x s m : Nat) (da : Option Addr) (dl dcap : Nat)
    (hx : x < 18446744073709551616) (hs : s < 18446744073709551616) (hm' : m < 18446744073709551616) (hl : dl ≤ 2097152) (hin : ¬ (x + m ≤ n ∧ s + m ≤ dl)) :
    Calls Try.prog 15 #[.pointer (some ⟨p, 0, none⟩), .int .u64 x, .slice da dl dcap, .int .u64 s, .int .u64 m] w fun e w' => e = .returned (.int .i64 260) ∧ w = w' := by
  have hc := h.c4
  have hb := h.big
  have I1 := in_any x m n hx hm' (by omega)
  have I2 := in_any s m dl hs hm' (by omega)
  by_cases h1 : x + m ≤ n
  · have h2 : ¬ s + m ≤ dl := by omega
    rw [show decide (x + m ≤ n) = true by simpa using h1] at I1
    rw [show decide (s + m ≤ dl) = false by simpa using h2] at I2
    have I1 := Lib.hid I1
    have I2 := Lib.hid I2
    clear h hx hs hm' hin h1 h2
    go_enter Try.func15, Try.ntmps15
    go_wp2_with fail
    refine (I1.out _).mono ?_
    rintro e w1 ⟨rfl, rfl⟩
    go_wp2_with fail
    refine (I2.out _).mono ?_
    rintro e w1 ⟨rfl, rfl⟩
    go_wp2
    go_ret
    exact ⟨rfl, rfl⟩
  · rw [show decide (x + m ≤ n) = false by simpa using h1] at I1
    have I1 := Lib.hid I1
    clear I2 h hx hs hm' hin h1
    go_enter Try.func15, Try.ntmps15
    go_wp2_with fail
    refine (I1.out _).mono ?_
    rintro e w1 ⟨rfl, rfl⟩
    go_wp2
    go_ret
    exact ⟨rfl, rfl⟩

theorem Init_nil (x s m : Int) (da : Option Addr) (dl dcap : Nat) (w : World) :
    Calls Try.prog 15 #[.pointer none, .int .u64 x, .slice da dl dcap, .int .u64 s, .int .u64 m] w fun e w' => e = .returned (.int .i64 1) ∧ w = w' := by
  go_enter Try.func15, Try.ntmps15
  go_wp2
  go_ret
  exact ⟨rfl, rfl⟩
theorem Copy_nil1 (q : Option Addr) (x s m : Int) (w : World) :
    Calls Try.prog 12 #[.pointer none, .int .u64 x, .pointer q, .int .u64 s, .int .u64 m] w fun e w' => e = .returned (.int .i64 1) ∧ w = w' := by
  go_enter Try.func12, Try.ntmps12
  go_wp2
  go_ret
  exact ⟨rfl, rfl⟩
theorem Copy_nil2 (q : Addr) (x s m : Int) (w : World) :
    Calls Try.prog 12 #[.pointer (some q), .int .u64 x, .pointer none, .int .u64 s, .int .u64 m] w fun e w' => e = .returned (.int .i64 1) ∧ w = w' := by
  go_enter Try.func12, Try.ntmps12
  go_wp2
  go_ret
  exact ⟨rfl, rfl⟩
theorem place_nil (x o k : Int) (w : World) :
    Calls Try.prog 31 #[.pointer none, .int .u64 x, .int .u64 o, .int .i64 k] w fun e w' => e = .returned (.tuple #[.int .u64 0, .int .i64 1]) ∧ w = w' := by
  go_enter Try.func31, Try.ntmps31
  go_wp2
  go_ret2
  exact ⟨rfl, rfl⟩
theorem Load_nil (x o k : Int) (w : World) :
    Calls Try.prog 11 #[.pointer none, .int .u64 x, .int .u64 o, .int .i64 k] w fun e w' => e = .returned (.tuple #[.int .u64 0, .int .i64 1]) ∧ w = w' := by
  go_enter Try.func11, Try.ntmps11
  go_wp2_with fail
  refine (place_nil x o k _).mono ?_
  rintro e w1 ⟨rfl, rfl⟩
  go_wp2
  go_ret2
  exact ⟨rfl, rfl⟩
theorem Store_nil (x o k y : Int) (w : World) :
    Calls Try.prog 9 #[.pointer none, .int .u64 x, .int .u64 o, .int .i64 k, .int .u64 y] w fun e w' => e = .returned (.int .i64 1) ∧ w = w' := by
  go_enter Try.func9, Try.ntmps9
  go_wp2_with fail
  refine (place_nil x o k _).mono ?_
  rintro e w1 ⟨rfl, rfl⟩
  go_wp2
  go_ret
  exact ⟨rfl, rfl⟩
theorem Bytes_nil (x m : Int) (w : World) :
    Calls Try.prog 10 #[.pointer none, .int .u64 x, .int .u64 m] w fun e w' => e = .returned (.tuple #[.slice none 0 0, .int .i64 1]) ∧ w = w' := by
  go_enter Try.func10, Try.ntmps10
  go_wp2
  go_ret2
  exact ⟨rfl, rfl⟩
theorem Grow_nil (x : Int) (w : World) :
    Calls Try.prog 13 #[.pointer none, .int .u64 x] w fun e w' => e = .returned (.tuple #[.int .u64 0, .bool false]) ∧ w = w' := by
  go_enter Try.func13, Try.ntmps13
  go_wp2
  go_ret2
  exact ⟨rfl, rfl⟩
theorem Fill_nil (x y m : Int) (w : World) :
    Calls Try.prog 14 #[.pointer none, .int .u64 x, .int .u8 y, .int .u64 m] w fun e w' => e = .returned (.int .i64 1) ∧ w = w' := by
  go_enter Try.func14, Try.ntmps14
  go_wp2
  go_ret
  exact ⟨rfl, rfl⟩
theorem Size_nil (w : World) : Calls Try.prog 16 #[.pointer none] w fun e w' => e = .returned (.int .u64 0) ∧ w = w' := by
  go_enter Try.func16, Try.ntmps16
  go_wp2
  go_ret
  exact ⟨rfl, rfl⟩
theorem CloneM_nil (w : World) : Calls Try.prog 18 #[.pointer none] w fun e w' => e = .returned (.pointer none) ∧ w = w' := by
  go_enter Try.func18, Try.ntmps18
  go_wp2
  go_ret
  exact ⟨rfl, rfl⟩
end Go.Proofs.Ytalgpmnjkfconaa
