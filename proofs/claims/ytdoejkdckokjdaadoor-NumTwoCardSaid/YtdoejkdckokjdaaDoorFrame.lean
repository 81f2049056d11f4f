/- The frame of the seven rows: what the two listed variables give a walk. -/
import Derived.Test.YtdoejkdckokjdaaDoorLaw0
import Derived.ProofKit
import Derived.LaidMore
import Derived.OpenShut
import Derived.Stop.Joined
import Derived.Lib.LaidTab
namespace Go.Proofs.YtdoejkdckokjdaaDoor
open Go.ChangeShapes Go.WideShapes Go.ChangeAt Go.RowKit

def laid2 : List (String × DataW Unit) := [("math/bits.deBruijn64tab", Rows.laid_math_bits_deBruijn64tab), ("geode/num.runs", Rows.laid_geode_num_runs)]

theorem own : ownKnob Tryd.prog.godebug = none := by kernel_rfl
theorem gDeb : Tryd.prog.globalNamed "math/bits.deBruijn64tab" = some 1 := by kernel_rfl
theorem gRuns : Tryd.prog.globalNamed "geode/num.runs" = some 0 := by kernel_rfl
theorem tDeb : (Tryd.prog.globals[1]?).map (·.type) = some 74 := by kernel_rfl
theorem tRuns : (Tryd.prog.globals[0]?).map (·.type) = some 63 := by kernel_rfl
theorem c62 : Tryd.prog.cellsOf 62 = 4 := by kernel_rfl
theorem c63 : Tryd.prog.cellsOf 63 = 32 := by kernel_rfl
theorem c74 : Tryd.prog.cellsOf 74 = 64 := by kernel_rfl
theorem c22 : Tryd.prog.cellsOf 22 = 1 := by kernel_rfl
theorem c3 : Tryd.prog.cellsOf 3 = 1 := by kernel_rfl
theorem c5 : Tryd.prog.cellsOf 5 = 1 := by kernel_rfl

/-- a run that reads as four numbers holds them, cell for cell -/
theorem row4 {H : Type} {enc : TypeId × Value → H} {w : World} {fuel : Nat} {sp : Nat → Bool} {held : Bool} {cs : List Value} {q : List MemPlace} {a b c d : Int}
    (h : DataW.trod enc Tryd.prog w 0 sp held fuel 62 cs = some (.agg [.lit (.int .i64 a), .lit (.int .i64 b), .lit (.int .i64 c), .lit (.int .i64 d)], q)) : cs = [.int .i64 a, .int .i64 b, .int .i64 c, .int .i64 d] := by
  obtain ⟨xs, n, _, hx, hl, hn, hf⟩ := DataW.trod_struct Tryd.underlying62 h
  rw [c62] at hl
  simp only [Prod.mk.injEq, DataW.agg.injEq] at hx
  match xs, hn, hx, hf with
  | [x0, x1, x2, x3], _, hx, hf =>
    simp only [List.map_cons, List.map_nil, List.cons.injEq, and_true] at hx
    obtain ⟨⟨y0, y1, y2, y3⟩, _⟩ := hx
    match cs, hl, hf with
    | [v0, v1, v2, v3], _, hf =>
      have f0 := hf 0 { name := "first", type := 22, offset := 0, embedded := false, tag := "", pkgPath := "geode/num", byteOffset := 0 } rfl
      have f1 := hf 1 { name := "many", type := 3, offset := 1, embedded := false, tag := "", pkgPath := "geode/num", byteOffset := 8 } rfl
      have f2 := hf 2 { name := "w", type := 3, offset := 2, embedded := false, tag := "", pkgPath := "geode/num", byteOffset := 16 } rfl
      have f3 := hf 3 { name := "at", type := 3, offset := 3, embedded := false, tag := "", pkgPath := "geode/num", byteOffset := 24 } rfl
      simp only [c22, c3, List.drop_zero, List.drop_succ_cons, List.take_succ_cons, List.take_zero, List.getElem?_cons_zero, List.getElem?_cons_succ] at f0 f1 f2 f3
      obtain ⟨k0, e0, g0, _⟩ := DataW.trod_int Tryd.underlying22 f0
      obtain ⟨k1, e1, g1, _⟩ := DataW.trod_int Tryd.underlying3 f1
      obtain ⟨k2, e2, g2, _⟩ := DataW.trod_int Tryd.underlying3 f2
      obtain ⟨k3, e3, g3, _⟩ := DataW.trod_int Tryd.underlying3 f3
      rw [g0] at y0
      rw [g1] at y1
      rw [g2] at y2
      rw [g3] at y3
      simp only [DataW.lit.injEq, Lit.int.injEq, true_and] at y0 y1 y2 y3
      simp only [List.cons.injEq, and_true] at e0 e1 e2 e3
      rw [e0, e1, e2, e3, y0, y1, y2, y3]

theorem chop {cs : List Value} {k : Nat} {r : List Value} (h : (cs.drop k).take 4 = r) : cs.drop k = r ++ cs.drop (k + 4) := by
  have := (List.take_append_drop 4 (cs.drop k)).symm
  rw [h, List.drop_drop] at this
  exact this

/-- WHAT THE CONDITION GIVES THE WALKS: the two variables' cells. -/
theorem of_laid {W : World} (h : laidMetH Tryd.prog laid2 W) : Laid W := by
  rw [MakeChecks.laidMetH_plain _ _ _ (by kernel_rfl)] at h
  obtain ⟨ps, ⟨g0, t0, cs0, f0, p0, q0, hg0, ht0, hv0, hd0, ⟨g1, t1, cs1, f1, p1, q1, hg1, ht1, hv1, hd1, _, _⟩, _⟩, _, _⟩ := h
  obtain rfl := Option.some.inj (gDeb.symm.trans hg0)
  obtain rfl := Option.some.inj (gRuns.symm.trans hg1)
  obtain rfl := Option.some.inj (tDeb.symm.trans ht0)
  obtain rfl := Option.some.inj (tRuns.symm.trans ht1)
  refine ⟨fun j v hj => ?_, fun j v hj => ?_⟩
  · obtain ⟨xs, m1, rfl, hx1, hlen, hn3, hel⟩ := DataW.trod_array Tryd.underlying63 hd1
    rw [c63] at hlen
    simp only [c62] at hel
    have e0 := hel 0 (by decide)
    have e1 := hel 1 (by decide)
    have e2 := hel 2 (by decide)
    have e3 := hel 3 (by decide)
    have e4 := hel 4 (by decide)
    have e5 := hel 5 (by decide)
    have e6 := hel 6 (by decide)
    have e7 := hel 7 (by decide)
    clear hel hd1
    unfold Rows.laid_geode_num_runs at hx1
    simp only [Prod.mk.injEq, DataW.agg.injEq] at hx1
    match xs, hn3, hx1, e0, e1, e2, e3, e4, e5, e6, e7 with
    | [x0, x1, x2, x3, x4, x5, x6, x7], _, hx1, e0, e1, e2, e3, e4, e5, e6, e7 =>
      simp only [List.map_cons, List.map_nil, List.cons.injEq, and_true] at hx1
      obtain ⟨⟨y0, y1, y2, y3, y4, y5, y6, y7⟩, _⟩ := hx1
      obtain ⟨d0, z0⟩ := x0
      have r0 : (cs1.toList.drop 0).take 4 = [.int .i64 69, .int .i64 11, .int .i64 32, .int .i64 0] := row4 (q := z0) (by rw [y0]; exact e0)
      obtain ⟨d1, z1⟩ := x1
      have r1 : (cs1.toList.drop 4).take 4 = [.int .i64 80, .int .i64 11, .int .i64 64, .int .i64 0] := row4 (q := z1) (by rw [y1]; exact e1)
      obtain ⟨d2, z2⟩ := x2
      have r2 : (cs1.toList.drop 8).take 4 = [.int .i64 103, .int .i64 18, .int .i64 32, .int .i64 11] := row4 (q := z2) (by rw [y2]; exact e2)
      obtain ⟨d3, z3⟩ := x3
      have r3 : (cs1.toList.drop 12).take 4 = [.int .i64 121, .int .i64 18, .int .i64 64, .int .i64 11] := row4 (q := z3) (by rw [y3]; exact e3)
      obtain ⟨d4, z4⟩ := x4
      have r4 : (cs1.toList.drop 16).take 4 = [.int .i64 192, .int .i64 2, .int .i64 32, .int .i64 29] := row4 (q := z4) (by rw [y4]; exact e4)
      obtain ⟨d5, z5⟩ := x5
      have r5 : (cs1.toList.drop 20).take 4 = [.int .i64 194, .int .i64 3, .int .i64 64, .int .i64 29] := row4 (q := z5) (by rw [y5]; exact e5)
      obtain ⟨d6, z6⟩ := x6
      have r6 : (cs1.toList.drop 24).take 4 = [.int .i64 167, .int .i64 1, .int .i64 64, .int .i64 32] := row4 (q := z6) (by rw [y6]; exact e6)
      obtain ⟨d7, z7⟩ := x7
      have r7 : (cs1.toList.drop 28).take 4 = [.int .i64 172, .int .i64 2, .int .i64 32, .int .i64 33] := row4 (q := z7) (by rw [y7]; exact e7)
      have hcs : cs1.toList = runC.toList := by
        rw [← List.drop_zero (l := cs1.toList), chop r0, chop r1, chop r2, chop r3, chop r4, chop r5, chop r6, chop r7, show cs1.toList.drop (28 + 4) = [] from List.drop_eq_nil_of_le (by omega)]
        rfl
      rw [World.var?_cell hg1 hv1 j, ← Array.getElem?_toList, hcs]
      exact hj
  · have hcs := Lib.cells_of_tab (k := .u8) (zs := debL.map fun (n : Nat) => (n : Int)) (p := p0) Tryd.underlying74 Tryd.underlying5 c5 c74 hd0
    rw [World.var?_cell hg0 hv0 j, ← Array.getElem?_toList, hcs, List.map_map, List.getElem?_map, hj]
    rfl

/-- The door's own heap meets the condition: three closed facts. -/
theorem door_met (os : Os) (args : Array Value) : laidMetH Tryd.prog laid2 ((World.doorLaid Tryd.prog 400 os).forCall (fun _ _ => 0) ⟨#[], args, []⟩).memory :=
  laidMetH_of_parts3 (fuel := 8) (laidMet_of_run' 8 (by kernel_rfl) (by kernel_rfl)) (by kernel_rfl) (by kernel_rfl)
end Go.Proofs.YtdoejkdckokjdaaDoor
