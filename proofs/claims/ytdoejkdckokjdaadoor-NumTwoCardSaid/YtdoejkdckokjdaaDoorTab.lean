/- num.table: the table's rows. -/
import Derived.Test.YtdoejkdckokjdaaDoorRows
import Derived.WalkKit
import Derived.WalkSpells
import Derived.Lib.Hide
import Derived.Deep.WholeRow
namespace Go.Proofs.YtdoejkdckokjdaaDoor
open Go.RowKit

/-- the table's rows: the width told, and the numbers of the three functions (0: none) -/
def opc : Nat → Nat × Nat × Nat × Nat
  | 0 => (32, 34, 0, 0)
  | 1 => (32, 0, 35, 0)
  | 2 => (32, 0, 37, 0)
  | 3 => (32, 0, 38, 0)
  | 4 => (32, 0, 40, 0)
  | 5 => (32, 0, 41, 0)
  | 6 => (32, 0, 42, 0)
  | 7 => (32, 0, 43, 0)
  | 8 => (32, 0, 44, 0)
  | 9 => (32, 0, 45, 0)
  | 10 => (32, 0, 46, 0)
  | 11 => (0, 47, 0, 0)
  | 12 => (0, 48, 0, 0)
  | 13 => (0, 49, 0, 0)
  | 14 => (0, 0, 50, 0)
  | 15 => (0, 0, 52, 0)
  | 16 => (0, 0, 53, 0)
  | 17 => (0, 0, 0, 54)
  | 18 => (0, 0, 0, 55)
  | 19 => (0, 0, 0, 56)
  | 20 => (0, 0, 0, 57)
  | 21 => (0, 0, 58, 0)
  | 22 => (0, 0, 59, 0)
  | 23 => (0, 0, 60, 0)
  | 24 => (0, 0, 61, 0)
  | 25 => (0, 0, 62, 0)
  | 26 => (0, 0, 63, 0)
  | 27 => (0, 0, 64, 0)
  | 28 => (0, 0, 65, 0)
  | 29 => (0, 66, 0, 0)
  | 30 => (0, 68, 0, 0)
  | 31 => (0, 69, 0, 0)
  | 32 => (32, 70, 0, 0)
  | 33 => (64, 71, 0, 0)
  | 34 => (64, 72, 0, 0)
  | _ => (0, 0, 0, 0)

def fnV (k : Nat) : Value := if k = 0 then .nilFunc else .func (.func k) #[] #[]

def tabC : Array Value := #[.int .i64 32, .func (.func 34) #[] #[], .nilFunc, .nilFunc, .int .i64 32, .nilFunc, .func (.func 35) #[] #[], .nilFunc, .int .i64 32, .nilFunc, .func (.func 37) #[] #[], .nilFunc, .int .i64 32, .nilFunc, .func (.func 38) #[] #[], .nilFunc, .int .i64 32, .nilFunc, .func (.func 40) #[] #[], .nilFunc, .int .i64 32, .nilFunc, .func (.func 41) #[] #[], .nilFunc, .int .i64 32, .nilFunc, .func (.func 42) #[] #[], .nilFunc, .int .i64 32, .nilFunc, .func (.func 43) #[] #[], .nilFunc, .int .i64 32, .nilFunc, .func (.func 44) #[] #[], .nilFunc, .int .i64 32, .nilFunc, .func (.func 45) #[] #[], .nilFunc, .int .i64 32, .nilFunc, .func (.func 46) #[] #[], .nilFunc, .int .i64 0, .func (.func 47) #[] #[], .nilFunc, .nilFunc, .int .i64 0, .func (.func 48) #[] #[], .nilFunc, .nilFunc, .int .i64 0, .func (.func 49) #[] #[], .nilFunc, .nilFunc, .int .i64 0, .nilFunc, .func (.func 50) #[] #[], .nilFunc, .int .i64 0, .nilFunc, .func (.func 52) #[] #[], .nilFunc, .int .i64 0, .nilFunc, .func (.func 53) #[] #[], .nilFunc, .int .i64 0, .nilFunc, .nilFunc, .func (.func 54) #[] #[], .int .i64 0, .nilFunc, .nilFunc, .func (.func 55) #[] #[], .int .i64 0, .nilFunc, .nilFunc, .func (.func 56) #[] #[], .int .i64 0, .nilFunc, .nilFunc, .func (.func 57) #[] #[], .int .i64 0, .nilFunc, .func (.func 58) #[] #[], .nilFunc, .int .i64 0, .nilFunc, .func (.func 59) #[] #[], .nilFunc, .int .i64 0, .nilFunc, .func (.func 60) #[] #[], .nilFunc, .int .i64 0, .nilFunc, .func (.func 61) #[] #[], .nilFunc, .int .i64 0, .nilFunc, .func (.func 62) #[] #[], .nilFunc, .int .i64 0, .nilFunc, .func (.func 63) #[] #[], .nilFunc, .int .i64 0, .nilFunc, .func (.func 64) #[] #[], .nilFunc, .int .i64 0, .nilFunc, .func (.func 65) #[] #[], .nilFunc, .int .i64 0, .func (.func 66) #[] #[], .nilFunc, .nilFunc, .int .i64 0, .func (.func 68) #[] #[], .nilFunc, .nilFunc, .int .i64 0, .func (.func 69) #[] #[], .nilFunc, .nilFunc, .int .i64 32, .func (.func 70) #[] #[], .nilFunc, .nilFunc, .int .i64 64, .func (.func 71) #[] #[], .nilFunc, .nilFunc, .int .i64 64, .func (.func 72) #[] #[], .nilFunc, .nilFunc]

theorem built72 : Tryd.prog.built 72 [(0, .agg #[.int .i64 32, .func (.func 34) #[] #[], .nilFunc, .nilFunc]), (1, .agg #[.int .i64 32, .nilFunc, .func (.func 35) #[] #[], .nilFunc]), (2, .agg #[.int .i64 32, .nilFunc, .func (.func 37) #[] #[], .nilFunc]), (3, .agg #[.int .i64 32, .nilFunc, .func (.func 38) #[] #[], .nilFunc]), (4, .agg #[.int .i64 32, .nilFunc, .func (.func 40) #[] #[], .nilFunc]), (5, .agg #[.int .i64 32, .nilFunc, .func (.func 41) #[] #[], .nilFunc]), (6, .agg #[.int .i64 32, .nilFunc, .func (.func 42) #[] #[], .nilFunc]), (7, .agg #[.int .i64 32, .nilFunc, .func (.func 43) #[] #[], .nilFunc]), (8, .agg #[.int .i64 32, .nilFunc, .func (.func 44) #[] #[], .nilFunc]), (9, .agg #[.int .i64 32, .nilFunc, .func (.func 45) #[] #[], .nilFunc]), (10, .agg #[.int .i64 32, .nilFunc, .func (.func 46) #[] #[], .nilFunc]), (11, .agg #[.int .i64 0, .func (.func 47) #[] #[], .nilFunc, .nilFunc]), (12, .agg #[.int .i64 0, .func (.func 48) #[] #[], .nilFunc, .nilFunc]), (13, .agg #[.int .i64 0, .func (.func 49) #[] #[], .nilFunc, .nilFunc]), (14, .agg #[.int .i64 0, .nilFunc, .func (.func 50) #[] #[], .nilFunc]), (15, .agg #[.int .i64 0, .nilFunc, .func (.func 52) #[] #[], .nilFunc]), (16, .agg #[.int .i64 0, .nilFunc, .func (.func 53) #[] #[], .nilFunc]), (17, .agg #[.int .i64 0, .nilFunc, .nilFunc, .func (.func 54) #[] #[]]), (18, .agg #[.int .i64 0, .nilFunc, .nilFunc, .func (.func 55) #[] #[]]), (19, .agg #[.int .i64 0, .nilFunc, .nilFunc, .func (.func 56) #[] #[]]), (20, .agg #[.int .i64 0, .nilFunc, .nilFunc, .func (.func 57) #[] #[]]), (21, .agg #[.int .i64 0, .nilFunc, .func (.func 58) #[] #[], .nilFunc]), (22, .agg #[.int .i64 0, .nilFunc, .func (.func 59) #[] #[], .nilFunc]), (23, .agg #[.int .i64 0, .nilFunc, .func (.func 60) #[] #[], .nilFunc]), (24, .agg #[.int .i64 0, .nilFunc, .func (.func 61) #[] #[], .nilFunc]), (25, .agg #[.int .i64 0, .nilFunc, .func (.func 62) #[] #[], .nilFunc]), (26, .agg #[.int .i64 0, .nilFunc, .func (.func 63) #[] #[], .nilFunc]), (27, .agg #[.int .i64 0, .nilFunc, .func (.func 64) #[] #[], .nilFunc]), (28, .agg #[.int .i64 0, .nilFunc, .func (.func 65) #[] #[], .nilFunc]), (29, .agg #[.int .i64 0, .func (.func 66) #[] #[], .nilFunc, .nilFunc]), (30, .agg #[.int .i64 0, .func (.func 68) #[] #[], .nilFunc, .nilFunc]), (31, .agg #[.int .i64 0, .func (.func 69) #[] #[], .nilFunc, .nilFunc]), (32, .agg #[.int .i64 32, .func (.func 70) #[] #[], .nilFunc, .nilFunc]), (33, .agg #[.int .i64 64, .func (.func 71) #[] #[], .nilFunc, .nilFunc]), (34, .agg #[.int .i64 64, .func (.func 72) #[] #[], .nilFunc, .nilFunc])] = some tabC := by kernel_rfl

def tabF (a j : Nat) : Value := match j with | 0 => .int .i64 ((opc a).1 : Nat) | 1 => fnV (opc a).2.1 | 2 => fnV (opc a).2.2.1 | _ => fnV (opc a).2.2.2

theorem tabC_eq : tabC.toList = (List.range 140).map fun i => tabF (i / 4) (i % 4) := by kernel_rfl

theorem tab_at (a j : Nat) (h : a < 35) (hj : j < 4) : tabC[a * 4 + j]? = some (tabF a j) := by
  rw [← Array.getElem?_toList, tabC_eq, List.getElem?_map, List.getElem?_range (by omega)]
  simp only [Option.map_some]
  rw [show (a * 4 + j) / 4 = a by omega, show (a * 4 + j) % 4 = j by omega]
theorem tab_cell (w : World) (b : Nat) (hb : b = w.heap.size) (a j : Nat) (h : a < 35) (hj : j < 4) : (w.alloc (.cells tabC 72)).cell? ⟨b, a * 4 + j, none⟩ = some (tabF a j) := by
  rw [World.cell?_alloc_at _ _ _ _ hb]; exact tab_at a j h hj

/-- just one of the three functions is there -/
theorem opc_kind (a : Nat) (h : a < 35) : ((opc a).2.1 ≠ 0 ∧ (opc a).2.2.1 = 0 ∧ (opc a).2.2.2 = 0) ∨ ((opc a).2.1 = 0 ∧ (opc a).2.2.1 ≠ 0 ∧ (opc a).2.2.2 = 0) ∨ ((opc a).2.1 = 0 ∧ (opc a).2.2.1 = 0 ∧ (opc a).2.2.2 ≠ 0) := by
  have : ∀ a, a < 35 → ((opc a).2.1 ≠ 0 ∧ (opc a).2.2.1 = 0 ∧ (opc a).2.2.2 = 0) ∨ ((opc a).2.1 = 0 ∧ (opc a).2.2.1 ≠ 0 ∧ (opc a).2.2.2 = 0) ∨ ((opc a).2.1 = 0 ∧ (opc a).2.2.1 = 0 ∧ (opc a).2.2.2 ≠ 0) := by decide
  exact this a h

theorem wpList_build {P : Program} {w : World} {ops : Array Oper} {rest : List Oper} {o : Oper} {a : Act} {Q : Exit → Act → World → Prop} (hgd : o.guard = none) (t : TypeId) (parts : Array (Nat × Operand))
    (ho : o.op = .build t parts) (cells : Array Value) (hb : P.built t (parts.map fun p => (p.1, a.eval p.2)).toList = some cells) (h : wpList P ops Q rest (a.put o.dst (.agg cells)) w) : wpList P ops Q (o :: rest) a w := by
  refine wpList_plain hgd fun K hK => ?_
  have hr := run_build (P := P) w t _ cells hb
  unfold Oper.wp
  simp only [execOp, ho]
  simp [hr, Result.andThen]
  exact hK _ _ h
theorem wpList_storeNew {P : Program} {w : World} {ops : Array Oper} {rest : List Oper} {o : Oper} {a : Act} {Q : Exit → Act → World → Prop} (hgd : o.guard = none) (t : TypeId) (p v : Operand)
    (ho : o.op = .store t p v) (c c' : Array Value) (hi : (P.info? t).map (·.size) = some c'.size) (hc : c.size = c'.size) (h1 : c'.all (·.oneCell') = true)
    (b : Nat) (hbs : b = w.heap.size) (hp : a.eval p = .pointer (some ⟨b, 0, none⟩)) (hv : a.eval v = .agg c') (h : wpList P ops Q rest (a.put o.dst undef) (w.alloc (.cells c' t))) : wpList P ops Q (o :: rest) a (w.alloc (.cells c t)) := by
  refine wpList_plain hgd fun K hK => ?_
  subst hbs
  have hr := run_storeAt_new (P := P) w t c c' hi hc h1
  unfold Oper.wp
  simp only [execOp, ho, hp, hv]
  simp [hr, Result.andThen]
  exact hK _ _ h
end Go.Proofs.YtdoejkdckokjdaaDoor
