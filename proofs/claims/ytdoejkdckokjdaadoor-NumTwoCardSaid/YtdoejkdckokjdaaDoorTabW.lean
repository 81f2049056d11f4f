/- num.table. -/
import Derived.Test.YtdoejkdckokjdaaDoorTab
import Derived.Deep.Cut
import Derived.Laws.EntriesVeiled
namespace Go.Proofs.YtdoejkdckokjdaaDoor
open Go.RowKit

/-- an operation: what table hands out -/
def opV (a : Nat) : Value := .agg #[.int .i64 ((opc a).1 : Nat), fnV (opc a).2.1, fnV (opc a).2.2.1, fnV (opc a).2.2.2]

theorem size72 : (Tryd.prog.info? 72).map (·.size) = some tabC.size := by kernel_rfl
theorem size72z : Tryd.zeroCells72.size = tabC.size := by kernel_rfl
theorem ones72 : tabC.all (·.oneCell') = true := by kernel_rfl

theorem fnV_pos {k : Nat} (h : k ≠ 0) : fnV k = .func (.func k) #[] #[] := if_neg h
theorem fnV_zero : fnV 0 = .nilFunc := if_pos rfl

set_option maxRecDepth 100000 in
set_option maxHeartbeats 8000000 in
theorem table_core (a t x y z : Nat) (h : a < 35) (hop : opc a = (t, x, y, z)) (w : World) : Calls Tryd.prog 30 #[.int .i64 a] w fun e w' => e = .returned (.agg #[.int .i64 t, fnV x, fnV y, fnV z]) ∧ Below w.heap.size w w' := by
  have hs1 : w.heap.size + 1 = (w.alloc (.cells #[.int .i64 0, .nilFunc, .nilFunc, .nilFunc] 46)).heap.size := by simp
  have HS1 := Lib.hid hs1
  have HA := Lib.hid h
  have HOP := Lib.hid hop
  clear hs1 hop
  go_enter Tryd.func30, Tryd.ntmps30
  go_upto_region 2 with (first
    | (refine wpList_build rfl 72 _ rfl tabC (by kernel_rfl) ?_)
    | (refine wpList_storeNew rfl 72 _ _ rfl Tryd.zeroCells72 tabC size72 size72z ones72 (w.heap.size + 1) HS1.out (by kernel_rfl) (by kernel_rfl) ?_))
  have k0 := tab_cell (w.alloc (.cells #[.int .i64 0, .nilFunc, .nilFunc, .nilFunc] 46)) (w.heap.size + 1) HS1.out a 0 HA.out (by omega)
  have k1 := tab_cell (w.alloc (.cells #[.int .i64 0, .nilFunc, .nilFunc, .nilFunc] 46)) (w.heap.size + 1) HS1.out a 1 HA.out (by omega)
  have k2 := tab_cell (w.alloc (.cells #[.int .i64 0, .nilFunc, .nilFunc, .nilFunc] 46)) (w.heap.size + 1) HS1.out a 2 HA.out (by omega)
  have k3 := tab_cell (w.alloc (.cells #[.int .i64 0, .nilFunc, .nilFunc, .nilFunc] 46)) (w.heap.size + 1) HS1.out a 3 HA.out (by omega)
  have hk := opc_kind a HA.out
  simp only [tabF, Nat.add_zero, HOP.out] at k0 k1 k2 k3 hk
  rcases hk with ⟨hx, rfl, rfl⟩ | ⟨rfl, hy, rfl⟩ | ⟨rfl, rfl, hz⟩
  · rw [fnV_pos hx] at k1
    rw [fnV_zero] at k2 k3
    go_wp2
    refine bodyPost_ret (v := .agg #[.int .i64 t, .func (.func x) #[] #[], .nilFunc, .nilFunc]) (by simp [results, Tryd.results30, go_sem]) rfl ⟨by rw [fnV_pos hx, fnV_zero], ((Below.refl _ _).alloc (Nat.le_refl _) _).alloc (by simp) _⟩
  · rw [fnV_pos hy] at k2
    rw [fnV_zero] at k1 k3
    go_wp2
    refine bodyPost_ret (v := .agg #[.int .i64 t, .nilFunc, .func (.func y) #[] #[], .nilFunc]) (by simp [results, Tryd.results30, go_sem]) rfl ⟨by rw [fnV_pos hy, fnV_zero], ((Below.refl _ _).alloc (Nat.le_refl _) _).alloc (by simp) _⟩
  · rw [fnV_pos hz] at k3
    rw [fnV_zero] at k1 k2
    go_wp2
    refine bodyPost_ret (v := .agg #[.int .i64 t, .nilFunc, .nilFunc, .func (.func z) #[] #[]]) (by simp [results, Tryd.results30, go_sem]) rfl ⟨by rw [fnV_pos hz, fnV_zero], ((Below.refl _ _).alloc (Nat.le_refl _) _).alloc (by simp) _⟩

theorem table_any (a : Nat) (h : a < 35) (w : World) : Calls Tryd.prog 30 #[.int .i64 a] w fun e w' => e = .returned (opV a) ∧ Below w.heap.size w w' :=
  table_core a (opc a).1 (opc a).2.1 (opc a).2.2.1 (opc a).2.2.2 h rfl w
end Go.Proofs.YtdoejkdckokjdaaDoor
