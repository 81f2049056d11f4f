/- The walk of TableNone. -/
import Derived.Test.YtalgpmnjkfconaaKnownT
import Derived.RangeFuncFrom
import Derived.RangeFuncBound
import Derived.RangeFuncCalls
import Derived.RangeFuncLeaves
import Derived.OwnWalkIn
import Derived.TacticsInMore
import Derived.LoopIn
import Derived.Shelf.Abstract
namespace Go.Proofs.Ytalgpmnjkfconaa
open Go.RowKit Go.Deep Go.Shelf
attribute [local go_sem] Oper.semAt_some

theorem box_kept {W W' : World} {q : Nat} {v : Value} (h : W.cell? ⟨q, 0, none⟩ = some v ∧ W.frozen? ⟨q, 0, none⟩ = false) (hb : Below W.heap.size W W') : W'.cell? ⟨q, 0, none⟩ = some v ∧ W'.frozen? ⟨q, 0, none⟩ = false := by
  have e := hb.block q (block_lt_of_cell h.1)
  exact ⟨(World.cell?_of_block (w := W) e).trans h.1, (World.frozen?_of_block (w := W) e).trans h.2⟩

theorem box_new (w : World) (v : Value) (t : TypeId) : (w.alloc (.cells #[v] t)).cell? ⟨w.heap.size, 0, none⟩ = some v ∧ (w.alloc (.cells #[v] t)).frozen? ⟨w.heap.size, 0, none⟩ = false :=
  ⟨World.cell?_alloc_at _ _ _ _ rfl, by simp⟩

theorem All_nil (w : World) : Calls Try.prog 28 #[.pointer none] w fun e w' => e = .returned (.func (.func 39) #[] #[.pointer (some ⟨w.heap.size, 0, none⟩)]) ∧ w' = w.alloc (.cells #[.pointer none] 48) := by
  go_enter Try.func28, Try.ntmps28
  go_wp2
  go_ret
  exact ⟨rfl, rfl⟩

theorem Type_nil (w : World) : Calls Try.prog 30 #[.pointer none] w fun e w' => e = .returned (tt 0 0 false) ∧ Below w.heap.size w w' := by
  unfold tt
  go_enter Try.func30, Try.ntmps30
  go_wp2
  refine bodyPost_ret (v := .agg #[.int .i64 0, .bool false, .int .i64 0, .int .i64 0, .bool false, .int .u64 0, .int .u64 0, .bool false]) (by simp [results, Try.results30, go_sem]) rfl ⟨rfl, ?_⟩
  exact (Below.refl _ _).alloc (Nat.le_refl _) _

theorem allNil_stops (n n0 q : Nat) (w0 : World) (hc : w0.cell? ⟨q, 0, none⟩ = some (.pointer none)) :
    SeqStopsK Fence.wide n Try.prog 39 #[.pointer (some ⟨q, 0, none⟩)] (fun _ : Empty => #[]) (Below n0) (fun _ => True) (fun _ => False) 0 w0 := by
  intro l J Jx W hW hJ hJx hY h0
  refine callsIn_wide.2 ?_
  have hc' : W.cell? ⟨q, 0, none⟩ = some (.pointer none) := (hW.cell (p := ⟨q, 0, none⟩) (block_lt_of_cell hc)).trans hc
  go_enter Try.func39, Try.ntmps39
  go_wp2
  refine bodyPost_ret (results_none rfl _ _ _) rfl ?_
  exact ⟨⟨_, rfl⟩, [], h0⟩

theorem run_eql58 (w : World) : (binOp .eql 58 (tt 0 0 false) (tt 0 0 false)).run Try.prog w = .ok (.bool true) w := by
  kernel_rfl

set_option maxRecDepth 100000 in
set_option maxHeartbeats 4000000 in
theorem TableNone_walk (a0 : Int) (a1 : Int) (a2 : Int) (_w0 : (Lit.int .u64 a0).wf = true) (_w1 : (Lit.int .u64 a1).wf = true) (_w2 : (Lit.int .u64 a2).wf = true) (w : World) :
    Calls Try.prog 6 #[.int .u64 a0, .int .u64 a1, .int .u64 a2] w fun e w' => e = .returned (.bool true) ∧ Below w.heap.size w w' := by
  clear _w0 _w1 _w2
  refine (callsIn_wide (n := 3)).1 ?_
  refine callsIn_of_wp_marks Try.func6 rfl trivial ?_ rfl
  simp only [Try.ntmps6, List.size_toArray, List.length_cons, List.length_nil, Nat.reduceAdd, Nat.reduceSub, Array.replicate_succ, Array.replicate_zero, List.push_toArray, List.append_toArray, List.nil_append, List.cons_append]
  gi_wp2_with fail
  refine ⟨trivial, (callsIn_wide.2 (knownT_any _)).mono ?_⟩
  rintro e w1 ⟨rfl, b1⟩
  have K1 := Lib.hid (box_kept (box_new w (.bool false) 4) b1)
  have B1 := Lib.hid (((Below.refl _ w).alloc (Nat.le_refl _) (.cells #[.bool false] 4)).trans (b1.mono (by simp)))
  have h8 : ∀ W : World, Calls Try.prog 20 #[tt 0 0 false, .int .u64 0] W fun e w' =>
      ∃ p g, e = .returned (.tuple #[.pointer (some ⟨p, 0, none⟩), .int .i64 0]) ∧ TabIs w' p g 0 0 false 0 0 (fun _ => 0) ∧ W.heap.size ≤ p ∧ W.heap.size ≤ g ∧ Below W.heap.size W w' := fun W => TNew_any false 0 0 0 W (by omega) (by omega)
  unfold tt at h8
  have H8 := Lib.hid h8
  clear b1 h8
  gi_wp2_with fail
  refine ⟨trivial, (callsIn_wide.2 (H8.out _)).mono ?_⟩
  rintro e w2 ⟨p, g, rfl, m2, hp, hg, b2⟩
  have K2 := Lib.hid (box_kept K1.out b2)
  have B2 := Lib.hid (B1.out.trans (b2.mono B1.out.size))
  clear H8 m2 hp hg b2 K1 B1
  gi_wp2_with fail
  refine ⟨trivial, (callsIn_wide.2 (Get_nil _ _)).mono ?_⟩
  rintro e w3 ⟨rfl, rfl⟩
  gi_wp2_with fail
  refine ⟨trivial, (callsIn_wide.2 (TGrow_nil _ _ _)).mono ?_⟩
  rintro e w3 ⟨rfl, rfl⟩
  gi_wp2_with fail
  refine ⟨trivial, (callsIn_wide.2 (All_nil _)).mono ?_⟩
  rintro e w3 ⟨rfl, hw3⟩
  have hc3 : w3.cell? ⟨w2.heap.size, 0, none⟩ = some (.pointer none) := by rw [hw3]; exact World.cell?_alloc_at _ _ _ _ rfl
  have b3 : Below w2.heap.size w2 w3 := by rw [hw3]; exact (Below.refl _ _).alloc (Nat.le_refl _) _
  have k3 := box_kept K2.out b3
  have b3' := B2.out.trans (b3.mono B2.out.size)
  have hlt3 : w.heap.size < w3.heap.size := block_lt_of_cell k3.1
  clear hw3 K2 B2 b3
  gi_wp2_with fail
  refine wpIn_rangeFunc_ownF rfl (by omega) (gf := 39) (lb := #[.pointer (some ⟨w2.heap.size, 0, none⟩)]) rfl trivial (enters_of Try.func39 (by kernel_rfl) rfl)
    (allNil_stops 2 w3.heap.size w2.heap.size w3 hc3) belowK_t (belowK_b (Nat.le_refl _)) (Below.refl _ _) (fun x => x.elim)
    (fun _ W => (W.cell? ⟨w.heap.size, 0, none⟩ = some (.bool false) ∧ W.frozen? ⟨w.heap.size, 0, none⟩ = false) ∧ Below w.heap.size w W)
    (fun _ _ _ => False)
    (OwnFrom.and (Own.from (fun s A B row hs hg hr => ⟨cell_kept hs.1 hg hr, (frozen_kept hs.1 hg hr).trans hs.2⟩) _) (ownFrom_below (Nat.le_refl _) (Nat.le_of_lt hlt3)))
    (fun _ _ _ _ _ hs _ _ => hs)
    ⟨k3, b3'⟩
    (fun x => x.elim) ?assign ?body ?done ?stop
  case assign => intro l x; exact x.elim
  case body => rintro l pre x; exact x.elim
  case stop =>
    rintro D c pre W _ _ h _
    exact h.elim
  case done =>
    rintro D ys W hD _ ⟨hk, hB⟩ hK
    have hDW : D < W.heap.size := (Array.getElem?_eq_some_iff.1 hK).1
    have KB := Lib.hid (And.intro hk hB)
    have HK := Lib.hid (And.intro hK (And.intro hDW (show w.heap.size ≤ D by omega)))
    clear hk hB hK hDW hD k3 b3' hlt3 hc3
    gi_wp2_with fail
    refine ⟨trivial, (callsIn_wide.2 (Set_nil _ _ _)).mono ?_⟩
    rintro e w4 ⟨rfl, rfl⟩
    gi_wp2_with fail
    refine ⟨trivial, (callsIn_wide.2 (TFill_nil _ _ _ _)).mono ?_⟩
    rintro e w4 ⟨rfl, rfl⟩
    gi_wp2_with fail
    refine ⟨trivial, (callsIn_wide.2 (TCopy_nil1 _ _ _ _ _)).mono ?_⟩
    rintro e w4 ⟨rfl, rfl⟩
    gi_wp2_with fail
    refine ⟨trivial, (callsIn_wide.2 (TCopy_nil2 _ _ _ _ _)).mono ?_⟩
    rintro e w4 ⟨rfl, rfl⟩
    gi_wp2_with fail
    refine ⟨trivial, (callsIn_wide.2 (TInit_nil _ _ _ _ _ _ _)).mono ?_⟩
    rintro e w4 ⟨rfl, rfl⟩
    gi_wp2_with fail
    refine ⟨trivial, (callsIn_wide.2 (TSize_nil _)).mono ?_⟩
    rintro e w4 ⟨rfl, rfl⟩
    gi_wp2_with fail
    refine ⟨trivial, (callsIn_wide.2 (Type_nil _)).mono ?_⟩
    rintro e w5 ⟨rfl, b5⟩
    have KB5 := Lib.hid (And.intro (box_kept KB.out.1 b5) (KB.out.2.trans (b5.mono KB.out.2.size)))
    have HK5 := Lib.hid (And.intro ((b5.block D HK.out.2.1).trans HK.out.1) (And.intro (Nat.lt_of_lt_of_le HK.out.2.1 b5.size) HK.out.2.2))
    have hq := run_eql58
    unfold tt at hq ⊢
    clear KB HK b5
    gi_wp2_with fail
    refine ⟨trivial, (callsIn_wide.2 (TClone_nil _)).mono ?_⟩
    rintro e w6 ⟨rfl, rfl⟩
    gi_wp2_with fail
    refine ⟨trivial, (callsIn_wide.2 (knownT_any _)).mono ?_⟩
    rintro e w7 ⟨rfl, b7⟩
    have k7 := box_kept KB5.out.1 b7
    have hc7 := k7.1
    have hf7 := k7.2
    have B7 := Lib.hid (KB5.out.2.trans (b7.mono KB5.out.2.size))
    have hK7 := (b7.block D HK5.out.2.1).trans HK5.out.1
    have HD7 := Lib.hid HK5.out.2.2
    clear KB5 HK5 b7 k7 hq
    gi_wp2
    have hK' := (KeepsOthers.setCell w7 ⟨w.heap.size, 0, none⟩ (.bool true)).same D _ hK7 rfl
    refine ⟨by simp, .inl ⟨_, _, rfl, run_takeDeferred hK', ?_⟩⟩
    have hc8 := cell_kept (World.cell?_setCell_same' w7 ⟨w.heap.size, 0, none⟩ (.bool true) (by rw [hc7]; rfl)) (grownBy_putObj' _ D (.deferred none)) (fun r e => by cases e; exact ⟨_, hK', rfl⟩)
    refine ⟨.bool true, ?_, rfl, (B7.out.setCell (p := ⟨w.heap.size, 0, none⟩) (Nat.le_refl _) _).trans (belowK_b (w := w) (Nat.le_refl _) _ D _ _ HD7.out hK' rfl rfl)⟩
    simp [results, Try.f6, go_sem, hc8]
end Go.Proofs.Ytalgpmnjkfconaa
