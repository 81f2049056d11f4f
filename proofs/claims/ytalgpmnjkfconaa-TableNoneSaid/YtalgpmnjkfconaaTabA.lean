/- A table in the heap; Size, Get, Set; the calls on no table. -/
import Derived.Test.YtalgpmnjkfconaaWords
import Derived.Test.YtalgpmnjkfconaaKeepL
namespace Go.Proofs.Ytalgpmnjkfconaa
open Go.RowKit Go.Deep

/-- at block p stands a table: its type (no element type is asked for), and n words f in block g, with room for c -/
structure TabIs (w : World) (p g n c : Nat) (hm : Bool) (mn mx : Nat) (f : Nat → Nat) : Prop where
  c0 : w.cell? ⟨p, 0, none⟩ = some (.int .i64 0)
  c1 : w.cell? ⟨p, 1, none⟩ = some (.bool false)
  c2 : w.cell? ⟨p, 2, none⟩ = some (.int .i64 0)
  c3 : w.cell? ⟨p, 3, none⟩ = some (.int .i64 0)
  c4 : w.cell? ⟨p, 4, none⟩ = some (.bool false)
  c5 : w.cell? ⟨p, 5, none⟩ = some (.int .u64 mn)
  c6 : w.cell? ⟨p, 6, none⟩ = some (.int .u64 mx)
  c7 : w.cell? ⟨p, 7, none⟩ = some (.bool hm)
  c8 : w.cell? ⟨p, 8, none⟩ = some (.slice (some ⟨g, 0, none⟩) n c)
  z8 : w.frozen? ⟨p, 8, none⟩ = false
  row : ∃ F, w.rowIs g 22 c F ∧ ∀ i, i < n → F i = .int .u64 (f i : Int)
  ne : p ≠ g
  room : n ≤ c
  big : n ≤ 10000
  lt : ∀ i, f i < 18446744073709551616

theorem TabIs.lt_size {w : World} {p g n c : Nat} {hm : Bool} {mn mx : Nat} {f : Nat → Nat} (h : TabIs w p g n c hm mn mx f) : p < w.heap.size := by
  have := h.c0
  unfold World.cell? at this
  rcases Nat.lt_or_ge p w.heap.size with hlt | hge
  · exact hlt
  · rw [Array.getElem?_eq_none hge] at this; simp at this
theorem TabIs.glt {w : World} {p g n c : Nat} {hm : Bool} {mn mx : Nat} {f : Nat → Nat} (h : TabIs w p g n c hm mn mx f) : g < w.heap.size := by
  obtain ⟨F, r, _⟩ := h.row
  exact r.lt
theorem TabIs.cell {w : World} {p g n c : Nat} {hm : Bool} {mn mx : Nat} {f : Nat → Nat} (h : TabIs w p g n c hm mn mx f) {i : Nat} (hi : i < n) : w.cell? ⟨g, i, none⟩ = some (.int .u64 (f i : Int)) := by
  obtain ⟨F, r, e⟩ := h.row
  have := h.room
  rw [r.cell (by omega), e i hi]
theorem TabIs.frozen {w : World} {p g n c : Nat} {hm : Bool} {mn mx : Nat} {f : Nat → Nat} (h : TabIs w p g n c hm mn mx f) (i : Nat) : w.frozen? ⟨g, i, none⟩ = false := by
  obtain ⟨F, r, e⟩ := h.row
  exact r.frozen i
theorem TabIs.moved {w w' : World} {p g n c : Nat} {hm : Bool} {mn mx : Nat} {f f' : Nat → Nat} (h : TabIs w p g n c hm mn mx f) (e : w'.heap[p]? = w.heap[p]?) (hr : ∃ F, w'.rowIs g 22 c F ∧ ∀ i, i < n → F i = .int .u64 (f' i : Int)) (hl : ∀ i, f' i < 18446744073709551616) : TabIs w' p g n c hm mn mx f' := by
  refine ⟨?_, ?_, ?_, ?_, ?_, ?_, ?_, ?_, ?_, ?_, hr, h.ne, h.room, h.big, hl⟩
  · exact (World.cell?_of_block (w := w) e).trans h.c0
  · exact (World.cell?_of_block (w := w) e).trans h.c1
  · exact (World.cell?_of_block (w := w) e).trans h.c2
  · exact (World.cell?_of_block (w := w) e).trans h.c3
  · exact (World.cell?_of_block (w := w) e).trans h.c4
  · exact (World.cell?_of_block (w := w) e).trans h.c5
  · exact (World.cell?_of_block (w := w) e).trans h.c6
  · exact (World.cell?_of_block (w := w) e).trans h.c7
  · exact (World.cell?_of_block (w := w) e).trans h.c8
  · exact (World.frozen?_of_block (w := w) e).trans h.z8
theorem TabIs.other {w w' : World} {p g n c : Nat} {hm : Bool} {mn mx : Nat} {f : Nat → Nat} (h : TabIs w p g n c hm mn mx f) (e : w'.heap[p]? = w.heap[p]?) (e2 : w'.heap[g]? = w.heap[g]?) : TabIs w' p g n c hm mn mx f := by
  obtain ⟨F, r, hF⟩ := h.row
  exact h.moved e ⟨F, r.of_block e2, hF⟩ h.lt
theorem TabIs.kept {w w' : World} {p g n c : Nat} {hm : Bool} {mn mx : Nat} {f : Nat → Nat} (h : TabIs w p g n c hm mn mx f) (hb : Below w.heap.size w w') : TabIs w' p g n c hm mn mx f :=
  h.other (hb.block p h.lt_size) (hb.block g h.glt)
theorem TabIs.touched {w w' : World} {p g n c b : Nat} {hm : Bool} {mn mx : Nat} {f : Nat → Nat} (h : TabIs w p g n c hm mn mx f) (ht : Touch b w w') (h1 : p ≠ b) (h2 : g ≠ b) : TabIs w' p g n c hm mn mx f :=
  h.other (ht.block p h.lt_size h1) (ht.block g h.glt h2)
theorem TabIs.set {w : World} {p g n c : Nat} {hm : Bool} {mn mx : Nat} {f : Nat → Nat} (h : TabIs w p g n c hm mn mx f) (i v : Nat) (hv : v < 18446744073709551616) :
    TabIs (w.setCell ⟨g, i, none⟩ (.int .u64 (v : Int))) p g n c hm mn mx (fun j => if j = i then v else f j) := by
  obtain ⟨F, r, hF⟩ := h.row
  refine h.moved (Below.heap_setCell w _ _ p h.ne) ⟨_, r.set i _, fun j hj => ?_⟩ (fun j => ?_)
  · by_cases e : j = i
    · simp [e]
    · simp [e, hF j hj]
  · by_cases e : j = i
    · simp [e, hv]
    · simp [e]; exact h.lt j
theorem TabIs.congr {w : World} {p g n c : Nat} {hm : Bool} {mn mx : Nat} {f f' : Nat → Nat} (h : TabIs w p g n c hm mn mx f) (e : ∀ i, f i = f' i) : TabIs w p g n c hm mn mx f' := by
  obtain rfl : f = f' := funext e
  exact h

set_option maxRecDepth 100000 in
theorem TSize_any {w : World} {p g n c : Nat} {hm : Bool} {mn mx : Nat} {f : Nat → Nat} (h : TabIs w p g n c hm mn mx f) :
    Calls Try.prog 29 #[.pointer (some ⟨p, 0, none⟩)] w fun e w' => e = .returned (.int .u64 (n : Int)) ∧ w = w' := by
  have hc := h.c8
  have hb := h.big
  clear h
  go_enter Try.func29, Try.ntmps29
  go_wp2
  go_ret
  exact ⟨rfl, rfl⟩

set_option maxRecDepth 100000 in
theorem Get_ok {w : World} {p g n c : Nat} {hm : Bool} {mn mx : Nat} {f : Nat → Nat} (h : TabIs w p g n c hm mn mx f) (i : Nat) (hi : i < n) :
    Calls Try.prog 25 #[.pointer (some ⟨p, 0, none⟩), .int .u64 i] w fun e w' => e = .returned (.tuple #[.int .u64 (f i : Int), .int .i64 0]) ∧ w = w' := by
  have hc := h.c8
  have hcell := h.cell hi
  have HS := Lib.hid (TSize_any h)
  clear h
  go_enter Try.func25, Try.ntmps25
  go_wp2_with fail
  refine HS.out.mono ?_
  rintro e w1 ⟨rfl, rfl⟩
  go_wp2
  go_ret2
  exact ⟨rfl, rfl⟩

set_option maxRecDepth 100000 in
theorem Get_bad {w : World} {p g n c : Nat} {hm : Bool} {mn mx : Nat} {f : Nat → Nat} (h : TabIs w p g n c hm mn mx f) (i : Nat) (hi : n ≤ i) :
    Calls Try.prog 25 #[.pointer (some ⟨p, 0, none⟩), .int .u64 i] w fun e w' => e = .returned (.tuple #[.int .u64 0, .int .i64 260]) ∧ w = w' := by
  have HS := Lib.hid (TSize_any h)
  clear h
  go_enter Try.func25, Try.ntmps25
  go_wp2_with fail
  refine HS.out.mono ?_
  rintro e w1 ⟨rfl, rfl⟩
  go_wp2
  go_ret2
  exact ⟨rfl, rfl⟩

set_option maxRecDepth 100000 in
theorem Set_ok {w : World} {p g n c : Nat} {hm : Bool} {mn mx : Nat} {f : Nat → Nat} (h : TabIs w p g n c hm mn mx f) (i v : Nat) (hi : i < n) (hv : v < 18446744073709551616) :
    Calls Try.prog 22 #[.pointer (some ⟨p, 0, none⟩), .int .u64 i, .int .u64 v] w fun e w' => e = .returned (.int .i64 0) ∧ TabIs w' p g n c hm mn mx (fun j => if j = i then v else f j) ∧ Touch g w w' := by
  have hc := h.c8
  have hcell := h.cell hi
  have hfr := h.frozen i
  have HS := Lib.hid (TSize_any h)
  have HST := Lib.hid (h.set i v hv)
  clear h hv
  go_enter Try.func22, Try.ntmps22
  go_wp2_with fail
  refine HS.out.mono ?_
  rintro e w1 ⟨rfl, rfl⟩
  go_wp2
  go_ret
  exact ⟨rfl, HST.out, (Touch.refl g w).setCell (q := ⟨g, i, none⟩) rfl _⟩

theorem Get_nil (i : Int) (w : World) : Calls Try.prog 25 #[.pointer none, .int .u64 i] w fun e w' => e = .returned (.tuple #[.int .u64 0, .int .i64 1]) ∧ w = w' := by
  go_enter Try.func25, Try.ntmps25
  go_wp2
  go_ret2
  exact ⟨rfl, rfl⟩
theorem TGrow_nil (n x : Int) (w : World) : Calls Try.prog 27 #[.pointer none, .int .u64 n, .int .u64 x] w fun e w' => e = .returned (.tuple #[.int .u64 0, .bool false]) ∧ w = w' := by
  go_enter Try.func27, Try.ntmps27
  go_wp2
  go_ret2
  exact ⟨rfl, rfl⟩
theorem Set_nil (i v : Int) (w : World) : Calls Try.prog 22 #[.pointer none, .int .u64 i, .int .u64 v] w fun e w' => e = .returned (.int .i64 1) ∧ w = w' := by
  go_enter Try.func22, Try.ntmps22
  go_wp2
  go_ret
  exact ⟨rfl, rfl⟩
theorem TFill_nil (a v m : Int) (w : World) : Calls Try.prog 26 #[.pointer none, .int .u64 a, .int .u64 v, .int .u64 m] w fun e w' => e = .returned (.int .i64 1) ∧ w = w' := by
  go_enter Try.func26, Try.ntmps26
  go_wp2
  go_ret
  exact ⟨rfl, rfl⟩
theorem TCopy_nil1 (q : Option Addr) (x s m : Int) (w : World) : Calls Try.prog 24 #[.pointer none, .int .u64 x, .pointer q, .int .u64 s, .int .u64 m] w fun e w' => e = .returned (.int .i64 1) ∧ w = w' := by
  go_enter Try.func24, Try.ntmps24
  go_wp2
  go_ret
  exact ⟨rfl, rfl⟩
theorem TCopy_nil2 (q : Addr) (x s m : Int) (w : World) : Calls Try.prog 24 #[.pointer (some q), .int .u64 x, .pointer none, .int .u64 s, .int .u64 m] w fun e w' => e = .returned (.int .i64 1) ∧ w = w' := by
  go_enter Try.func24, Try.ntmps24
  go_wp2
  go_ret
  exact ⟨rfl, rfl⟩
theorem TInit_nil (x s m : Int) (da : Option Addr) (dl dcap : Nat) (w : World) : Calls Try.prog 21 #[.pointer none, .int .u64 x, .slice da dl dcap, .int .u64 s, .int .u64 m] w fun e w' => e = .returned (.int .i64 1) ∧ w = w' := by
  go_enter Try.func21, Try.ntmps21
  go_wp2
  go_ret
  exact ⟨rfl, rfl⟩
theorem TSize_nil (w : World) : Calls Try.prog 29 #[.pointer none] w fun e w' => e = .returned (.int .u64 0) ∧ w = w' := by
  go_enter Try.func29, Try.ntmps29
  go_wp2
  go_ret
  exact ⟨rfl, rfl⟩
theorem TClone_nil (w : World) : Calls Try.prog 23 #[.pointer none] w fun e w' => e = .returned (.pointer none) ∧ w = w' := by
  go_enter Try.func23, Try.ntmps23
  go_wp2
  go_ret
  exact ⟨rfl, rfl⟩
end Go.Proofs.Ytalgpmnjkfconaa
