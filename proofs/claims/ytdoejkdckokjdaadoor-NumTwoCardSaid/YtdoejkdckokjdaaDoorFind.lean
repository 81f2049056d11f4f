/- The listed variables in the heap; num.find. -/
import Derived.Test.YtdoejkdckokjdaaDoorTabW
import Derived.Deep.RegionWith
namespace Go.Proofs.YtdoejkdckokjdaaDoor
open Go.RowKit

/-- the runs: first, many, width, place -/
def runL : List (Nat × Nat × Nat × Nat) := [(69, 11, 32, 0), (80, 11, 64, 0), (103, 18, 32, 11), (121, 18, 64, 11), (192, 2, 32, 29), (194, 3, 64, 29), (167, 1, 64, 32), (172, 2, 32, 33)]
def runC : Array Value := #[.int .i64 69, .int .i64 11, .int .i64 32, .int .i64 0, .int .i64 80, .int .i64 11, .int .i64 64, .int .i64 0, .int .i64 103, .int .i64 18, .int .i64 32, .int .i64 11, .int .i64 121, .int .i64 18, .int .i64 64, .int .i64 11,
  .int .i64 192, .int .i64 2, .int .i64 32, .int .i64 29, .int .i64 194, .int .i64 3, .int .i64 64, .int .i64 29, .int .i64 167, .int .i64 1, .int .i64 64, .int .i64 32, .int .i64 172, .int .i64 2, .int .i64 32, .int .i64 33]
def debL : List Nat := [0, 1, 56, 2, 57, 49, 28, 3, 61, 58, 42, 50, 38, 29, 17, 4, 62, 47, 59, 36, 45, 43, 51, 22, 53, 39, 33, 30, 24, 18, 12, 5, 63, 55, 48, 27, 60, 41, 37, 16, 46, 35, 44, 21, 52, 32, 23, 11, 54, 26, 40, 15, 34, 20, 31, 10, 25, 14, 19, 9, 13, 8, 7, 6]

/-- the two listed variables stand as the program's text lays them -/
structure Laid (w : World) : Prop where
  runs : ∀ j v, runC.toList[j]? = some v → w.cell? ⟨0, j, none⟩ = some v
  deb : ∀ j v, debL[j]? = some v → w.cell? ⟨1, j, none⟩ = some (.int .u8 (v : Nat))
theorem Laid.kept {w w' : World} (h : Laid w) (hb : Below w.heap.size w w') : Laid w' := by
  refine ⟨fun j v hv => ?_, fun j v hv => ?_⟩
  · have := h.runs j v hv
    exact (hb.cell (p := ⟨0, j, none⟩) (block_lt_of_cell this)).trans this
  · have := h.deb j v hv
    exact (hb.cell (p := ⟨1, j, none⟩) (block_lt_of_cell this)).trans this

theorem load_runs {w : World} (h : Laid w) : (loadVar 63 ⟨0, 0, none⟩).run Tryd.prog w = .ok (.agg runC) w := by
  have hl : (loadCells ⟨0, 0, none⟩ 32).run Tryd.prog w = .ok runC w := run_loadCells_list (P := Tryd.prog) (w := w) ⟨0, 0, none⟩ runC.toList (fun j v hv => by rw [Addr.add_lit, Nat.zero_add]; exact h.runs j v hv)
  unfold loadVar
  simp [hl, Result.andThen]

theorem wpList_runs {w : World} {ops : Array Oper} {rest : List Oper} {o : Oper} {a : Act} {Q : Exit → Act → World → Prop} (hgd : o.guard = none) (ho : o.op = .load 63 (.global 0)) (hL : Laid w)
    (h : wpList Tryd.prog ops Q rest (a.put o.dst (.agg runC)) w) : wpList Tryd.prog ops Q (o :: rest) a w := by
  refine wpList_plain hgd fun K hK => ?_
  have hr := load_runs hL
  have hr' : (Instr.loadAt 63 (a.eval (.global 0))).run Tryd.prog w = .ok (.agg runC) w := by
    rw [show a.eval (.global 0) = .pointer (some ⟨0, 0, none⟩) from rfl]
    simp only [Instr.loadAt, Instr.sureAddr, Sem.run_bind, Sem.run_pure, Result.andThen]
    exact hr
  unfold Oper.wp
  simp only [execOp, ho]
  simp [hr', Result.andThen]
  exact hK _ _ h

theorem index_run0 (w : World) : (Instr.index 63 (.agg runC) (.int .i64 0)).run Tryd.prog w = .ok (.agg #[.int .i64 69, .int .i64 11, .int .i64 32, .int .i64 0]) w := by kernel_rfl
theorem index_run1 (w : World) : (Instr.index 63 (.agg runC) (.int .i64 1)).run Tryd.prog w = .ok (.agg #[.int .i64 80, .int .i64 11, .int .i64 64, .int .i64 0]) w := by kernel_rfl
theorem index_run2 (w : World) : (Instr.index 63 (.agg runC) (.int .i64 2)).run Tryd.prog w = .ok (.agg #[.int .i64 103, .int .i64 18, .int .i64 32, .int .i64 11]) w := by kernel_rfl
theorem index_run3 (w : World) : (Instr.index 63 (.agg runC) (.int .i64 3)).run Tryd.prog w = .ok (.agg #[.int .i64 121, .int .i64 18, .int .i64 64, .int .i64 11]) w := by kernel_rfl
theorem index_run4 (w : World) : (Instr.index 63 (.agg runC) (.int .i64 4)).run Tryd.prog w = .ok (.agg #[.int .i64 192, .int .i64 2, .int .i64 32, .int .i64 29]) w := by kernel_rfl
theorem index_run5 (w : World) : (Instr.index 63 (.agg runC) (.int .i64 5)).run Tryd.prog w = .ok (.agg #[.int .i64 194, .int .i64 3, .int .i64 64, .int .i64 29]) w := by kernel_rfl
theorem index_run6 (w : World) : (Instr.index 63 (.agg runC) (.int .i64 6)).run Tryd.prog w = .ok (.agg #[.int .i64 167, .int .i64 1, .int .i64 64, .int .i64 32]) w := by kernel_rfl
theorem index_run7 (w : World) : (Instr.index 63 (.agg runC) (.int .i64 7)).run Tryd.prog w = .ok (.agg #[.int .i64 172, .int .i64 2, .int .i64 32, .int .i64 33]) w := by kernel_rfl
theorem index_runs (i : Nat) (r : Nat × Nat × Nat × Nat) (h : runL[i]? = some r) (w : World) : (Instr.index 63 (.agg runC) (.int .i64 (i : Int))).run Tryd.prog w = .ok (.agg #[.int .i64 (r.1 : Nat), .int .i64 (r.2.1 : Nat), .int .i64 (r.2.2.1 : Nat), .int .i64 (r.2.2.2 : Nat)]) w := by
  match i, h with
  | 0, h =>
    obtain rfl := (Option.some.inj (show some (69, 11, 32, 0) = some r from h))
    exact index_run0 w
  | 1, h =>
    obtain rfl := (Option.some.inj (show some (80, 11, 64, 0) = some r from h))
    exact index_run1 w
  | 2, h =>
    obtain rfl := (Option.some.inj (show some (103, 18, 32, 11) = some r from h))
    exact index_run2 w
  | 3, h =>
    obtain rfl := (Option.some.inj (show some (121, 18, 64, 11) = some r from h))
    exact index_run3 w
  | 4, h =>
    obtain rfl := (Option.some.inj (show some (192, 2, 32, 29) = some r from h))
    exact index_run4 w
  | 5, h =>
    obtain rfl := (Option.some.inj (show some (194, 3, 64, 29) = some r from h))
    exact index_run5 w
  | 6, h =>
    obtain rfl := (Option.some.inj (show some (167, 1, 64, 32) = some r from h))
    exact index_run6 w
  | 7, h =>
    obtain rfl := (Option.some.inj (show some (172, 2, 32, 33) = some r from h))
    exact index_run7 w

/-- where an opcode's operation stands in the table, and of how many bits its numbers are -/
def hit (op : Int) : Option (Nat × Nat) :=
  (runL.find? fun r => decide ((r.1 : Int) ≤ op ∧ op < (r.1 : Int) + (r.2.1 : Int))).map fun r => (r.2.2.2 + (op - (r.1 : Int)).toNat, r.2.2.1)

def hitAt (op : Int) (r : Nat × Nat × Nat × Nat) : Bool := decide ((r.1 : Int) ≤ op ∧ op < (r.1 : Int) + (r.2.1 : Int))

theorem runL_bounds (i : Nat) (r : Nat × Nat × Nat × Nat) (h : runL[i]? = some r) : i < 8 ∧ r.1 ≤ 200 ∧ r.2.1 ≤ 18 ∧ r.2.2.1 ≤ 64 ∧ r.2.2.2 + r.2.1 ≤ 35 ∧ 1 ≤ r.2.2.1 := by
  have hi : i < 8 := (List.getElem?_eq_some_iff.1 h).1
  have : ∀ i, i < 8 → ∀ r, runL[i]? = some r → r.1 ≤ 200 ∧ r.2.1 ≤ 18 ∧ r.2.2.1 ≤ 64 ∧ r.2.2.2 + r.2.1 ≤ 35 ∧ 1 ≤ r.2.2.1 := by
    intro i hi r h
    match i, hi with
    | 0, _ => cases h; decide
    | 1, _ => cases h; decide
    | 2, _ => cases h; decide
    | 3, _ => cases h; decide
    | 4, _ => cases h; decide
    | 5, _ => cases h; decide
    | 6, _ => cases h; decide
    | 7, _ => cases h; decide
  exact ⟨hi, this i hi r h⟩

/-- the first run that holds the opcode -/
theorem hit_some (op : Int) (i : Nat) (r : Nat × Nat × Nat × Nat) (h : runL[i]? = some r) (hr : hitAt op r = true) (hno : ∀ j, j < i → ∀ q, runL[j]? = some q → hitAt op q = false) : hit op = some (r.2.2.2 + (op - (r.1 : Int)).toNat, r.2.2.1) := by
  have : runL.find? (fun r => hitAt op r) = some r := by
    rw [List.find?_eq_some_iff_getElem]
    obtain ⟨hi, e⟩ := List.getElem?_eq_some_iff.1 h
    refine ⟨hr, i, hi, e, fun j hj => ?_⟩
    have := hno j hj _ (List.getElem?_eq_getElem (by omega))
    simp [this]
  unfold hit
  rw [show (runL.find? fun r => decide ((r.1 : Int) ≤ op ∧ op < (r.1 : Int) + (r.2.1 : Int))) = some r from this]
  rfl
theorem hit_none (op : Int) (hno : ∀ j, j < 8 → ∀ q, runL[j]? = some q → hitAt op q = false) : hit op = none := by
  have : runL.find? (fun r => hitAt op r) = none := by
    rw [List.find?_eq_none]
    intro q hq
    obtain ⟨j, hj, e⟩ := List.getElem_of_mem hq
    have := hno j hj q (by rw [List.getElem?_eq_getElem hj, e])
    simp [this]
  unfold hit
  rw [show (runL.find? fun r => decide ((r.1 : Int) ≤ op ∧ op < (r.1 : Int) + (r.2.1 : Int))) = none from this]
  rfl

/-- what find hands out -/
def findV (op : Int) : Value := match hit op with
  | some (a, wd) => .tuple #[opV a, .int .i64 (wd : Nat)]
  | none => .tuple #[.agg #[.int .i64 0, .nilFunc, .nilFunc, .nilFunc], .int .i64 0]
end Go.Proofs.YtdoejkdckokjdaaDoor
