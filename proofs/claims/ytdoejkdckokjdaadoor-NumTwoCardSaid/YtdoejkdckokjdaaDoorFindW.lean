/- num.find. -/
import Derived.Test.YtdoejkdckokjdaaDoorFind
import Derived.Deep.Cut
import Derived.Laws.EntriesVeiled
namespace Go.Proofs.YtdoejkdckokjdaaDoor
open Go.RowKit

theorem fnV_one (k : Nat) : (fnV k).oneCell' = true := by
  unfold fnV
  by_cases h : k = 0
  · rw [if_pos h]; rfl
  · rw [if_neg h]; rfl

set_option maxRecDepth 100000 in
set_option maxHeartbeats 4000000 in
theorem find_any (op : Int) (h1 : -9223372036854775808 ≤ op) (h2 : op < 9223372036854775808) (w : World) (hL : Laid w) :
    Calls Tryd.prog 20 #[.int .i64 op] w fun e w' => e = .returned (findV op) ∧ Below w.heap.size w w' := by
  have HOP := Lib.hid (And.intro h1 h2)
  obtain ⟨W0, hW0⟩ : ∃ W0, W0 = w.alloc (.cells #[.int .i64 0, .nilFunc, .nilFunc, .nilFunc] 46) := ⟨_, rfl⟩
  have b0 : Below w.heap.size w W0 := by rw [hW0]; exact (Below.refl _ _).alloc (Nat.le_refl _) _
  have l0 : Laid W0 := hL.kept b0
  have hsz0 : W0.heap.size = w.heap.size + 1 := by rw [hW0]; simp
  have HL0 := Lib.hid l0
  have HB0 := Lib.hid b0
  have HW0 := Lib.hid hW0
  have HS0 := Lib.hid hsz0
  clear h1 h2 hL b0 l0 hW0 hsz0
  go_enter Tryd.func20, Tryd.ntmps20
  go_wp2_with (rw [← HW0.out]; refine wpList_runs rfl rfl HL0.out ?_)
  go_loopw [7, 5] (fun b _ wr => ∃ i : Nat, b = .int .i64 (i : Int) ∧ i ≤ 8 ∧ (∀ j, j < i → ∀ q, runL[j]? = some q → hitAt op q = false) ∧ Below W0.heap.size W0 wr) (fun b _ _ => 8 - (intOf b).toNat)
  case atStart => exact ⟨0, rfl, by omega, fun j hj => absurd hj (by omega), Below.refl _ _⟩
  case round =>
    obtain ⟨i, rfl, hi, hno, hb⟩ := hrel
    have HB := Lib.hid hb
    have HNO := Lib.hid hno
    have hbox : wr.heap[w.heap.size]? = some (.cells #[.int .i64 0, .nilFunc, .nilFunc, .nilFunc] 46) := by
      rw [hb.block _ (by rw [HS0.out]; omega), HW0.out]
      exact heap_alloc_last w _
    have HBOX := Lib.hid hbox
    have hsz : w.heap.size < wr.heap.size := by have := hb.size; have := HS0.out; omega
    have HSZ := Lib.hid hsz
    clear hb hno hbox hsz
    by_cases hlt : i < 8
    · obtain ⟨r, hr⟩ : ∃ r, runL[i]? = some r := ⟨_, List.getElem?_eq_getElem (show i < runL.length from hlt)⟩
      have hx := index_runs i r hr
      have hbd := runL_bounds i r hr
      have HR := Lib.hid hr
      obtain ⟨f, m, wd, pl⟩ := r
      dsimp only at hx hbd
      have HBD := Lib.hid hbd
      have w1 : IntKind.i64.wrap ((f : Int) + (m : Int)) = (f : Int) + (m : Int) := by have := HBD.out; rw [IntKind.wrap_i64]; omega
      clear hr hbd
      by_cases hc1 : (f : Int) ≤ op
      · by_cases hc2 : op < (f : Int) + (m : Int)
        · have d1 : decide ((f : Int) ≤ op) = true := by simpa using hc1
          have d2 : decide (op < (f : Int) + (m : Int)) = true := by simpa using hc2
          obtain ⟨a, ha⟩ : ∃ a, a = pl + (op - (f : Int)).toNat := ⟨_, rfl⟩
          have w2 : IntKind.i64.wrap (op - (f : Int)) = op - (f : Int) := by have := HBD.out; rw [IntKind.wrap_i64]; omega
          have w3' : IntKind.i64.wrap ((pl : Int) + (op - (f : Int))) = (a : Int) := by have := HBD.out; rw [IntKind.wrap_i64]; omega
          have hhit := hit_some op i _ HR.out (by simp only [hitAt, decide_eq_true_eq]; omega) HNO.out
          dsimp only at hhit
          rw [← ha] at hhit
          have hfv : findV op = .tuple #[.agg #[.int .i64 ((opc a).1 : Nat), fnV (opc a).2.1, fnV (opc a).2.2.1, fnV (opc a).2.2.2], .int .i64 (wd : Nat)] := by unfold findV; rw [hhit]; rfl
          have htab := fun W => table_core a (opc a).1 (opc a).2.1 (opc a).2.2.1 (opc a).2.2.2 (by have := HBD.out; omega) rfl W
          generalize (opc a).1 = t at hfv htab
          generalize (opc a).2.1 = x at hfv htab
          generalize (opc a).2.2.1 = y at hfv htab
          generalize (opc a).2.2.2 = z at hfv htab
          have st1 : ∀ (W : World) (p : Addr) (md : Mode), (store p (fnV x) md).run Tryd.prog W = stored Tryd.prog W p (fnV x) md := fun W p md => run_store _ W p _ md (fnV_one x)
          have st2 : ∀ (W : World) (p : Addr) (md : Mode), (store p (fnV y) md).run Tryd.prog W = stored Tryd.prog W p (fnV y) md := fun W p md => run_store _ W p _ md (fnV_one y)
          have st3 : ∀ (W : World) (p : Addr) (md : Mode), (store p (fnV z) md).run Tryd.prog W = stored Tryd.prog W p (fnV z) md := fun W p md => run_store _ W p _ md (fnV_one z)
          have HT := Lib.hid htab
          have HFV := Lib.hid hfv
          clear hc1 hc2 ha hhit hfv htab
          generalize fnV x = X at st1 HT HFV
          generalize fnV y = Y at st2 HT HFV
          generalize fnV z = Z at st3 HT HFV
          have hne1 : w.heap.size ≠ wr.heap.size := by have := HSZ.out; omega
          have hne2 : wr.heap.size ≠ w.heap.size := by have := HSZ.out; omega
          go_upto_region 5 with fail
          go_region_with (go_at_call 30; refine (HT.out _).mono ?_; rintro e w4 ⟨rfl, b4⟩; (
            have kr : ∀ j, w4.cell? ⟨wr.heap.size, j, none⟩ = (wr.alloc (.cells #[.int .i64 f, .int .i64 m, .int .i64 wd, .int .i64 pl] 62)).cell? ⟨wr.heap.size, j, none⟩ := fun j => b4.cell (p := ⟨wr.heap.size, j, none⟩) (by simp)
            have k0 := (kr 0).trans (World.cell?_alloc_at _ _ _ _ rfl)
            have k1 := (kr 1).trans (World.cell?_alloc_at _ _ _ _ rfl)
            have k2 := (kr 2).trans (World.cell?_alloc_at _ _ _ _ rfl)
            have k3 := (kr 3).trans (World.cell?_alloc_at _ _ _ _ rfl)
            have hbx : w4.heap[w.heap.size]? = some (.cells #[.int .i64 0, .nilFunc, .nilFunc, .nilFunc] 46) := (b4.block _ (by have := HSZ.out; simp; omega)).trans ((Below.heap_alloc wr _ _ HSZ.out).trans HBOX.out)
            have c0 : w4.cell? ⟨w.heap.size, 0, none⟩ = some (.int .i64 0) := by simp [World.cell?, hbx]
            have c1 : w4.cell? ⟨w.heap.size, 1, none⟩ = some .nilFunc := by simp [World.cell?, hbx]
            have c2 : w4.cell? ⟨w.heap.size, 2, none⟩ = some .nilFunc := by simp [World.cell?, hbx]
            have c3 : w4.cell? ⟨w.heap.size, 3, none⟩ = some .nilFunc := by simp [World.cell?, hbx]
            have z0 : ∀ j, w4.frozen? ⟨w.heap.size, j, none⟩ = false := fun j => by simp [World.frozen?, hbx]
            have B4 := Lib.hid ((HB.out.alloc HB.out.size (.cells #[.int .i64 f, .int .i64 m, .int .i64 wd, .int .i64 pl] 62)).drew.trans (b4.mono (by have := HB.out.size; simp; omega)))
            simp at k0 k1 k2 k3
            clear kr b4 hbx))
          all_goals go_wp2
          all_goals (
            refine bodyPost_ret (v := .tuple #[.agg #[.int .i64 t, X, Y, Z], .int .i64 wd]) ?_ rfl ⟨by rw [HFV.out], ?_⟩
            · simp [results, Tryd.results20, go_sem, c0, c1, c2, c3]
            · have hfin : Below w.heap.size w w4 := HB0.out.trans (B4.out.mono (by have := HS0.out; omega))
              exact (((hfin.setCell (p := ⟨w.heap.size, 0, none⟩) (Nat.le_refl _) _).setCell (p := ⟨w.heap.size, 1, none⟩) (Nat.le_refl _) _).setCell (p := ⟨w.heap.size, 2, none⟩) (Nat.le_refl _) _).setCell (p := ⟨w.heap.size, 3, none⟩) (Nat.le_refl _) _)
        · have d1 : decide ((f : Int) ≤ op) = true := by simpa using hc1
          have d2 : decide (op < (f : Int) + (m : Int)) = false := by simpa using hc2
          have HN2 : ∀ j, j < i + 1 → ∀ q, runL[j]? = some q → hitAt op q = false := by
            intro j hj q hq
            by_cases e : j = i
            · subst e
              obtain rfl := Option.some.inj (HR.out.symm.trans hq)
              simp only [hitAt, decide_eq_false_iff_not]; omega
            · exact HNO.out j (by omega) q hq
          have HN2 := Lib.hid HN2
          clear hc1 hc2
          go_wp2
          go_roundw
          case rel => exact ⟨i + 1, by go_num, by omega, HN2.out, HB.out.alloc HB.out.size _⟩
          case measure => simp [intOf]; omega
      · have d1 : decide ((f : Int) ≤ op) = false := by simpa using hc1
        have HN2 : ∀ j, j < i + 1 → ∀ q, runL[j]? = some q → hitAt op q = false := by
          intro j hj q hq
          by_cases e : j = i
          · subst e
            obtain rfl := Option.some.inj (HR.out.symm.trans hq)
            simp only [hitAt, decide_eq_false_iff_not]; omega
          · exact HNO.out j (by omega) q hq
        have HN2 := Lib.hid HN2
        clear hc1
        go_wp2
        go_roundw
        case rel => exact ⟨i + 1, by go_num, by omega, HN2.out, HB.out.alloc HB.out.size _⟩
        case measure => simp [intOf]; omega
    · have hi8 : i = 8 := by omega
      subst hi8
      have hfv : findV op = .tuple #[.agg #[.int .i64 0, .nilFunc, .nilFunc, .nilFunc], .int .i64 0] := by unfold findV; rw [hit_none op HNO.out]
      have HFV := Lib.hid hfv
      have hbx := HBOX.out
      have c0 : wr.cell? ⟨w.heap.size, 0, none⟩ = some (.int .i64 0) := by simp [World.cell?, hbx]
      have c1 : wr.cell? ⟨w.heap.size, 1, none⟩ = some .nilFunc := by simp [World.cell?, hbx]
      have c2 : wr.cell? ⟨w.heap.size, 2, none⟩ = some .nilFunc := by simp [World.cell?, hbx]
      have c3 : wr.cell? ⟨w.heap.size, 3, none⟩ = some .nilFunc := by simp [World.cell?, hbx]
      have z0 : ∀ j, wr.frozen? ⟨w.heap.size, j, none⟩ = false := fun j => by simp [World.frozen?, hbx]
      clear hbx hfv hlt hi
      go_wp2
      refine bodyPost_ret (v := .tuple #[.agg #[.int .i64 0, .nilFunc, .nilFunc, .nilFunc], .int .i64 0]) ?_ rfl ⟨by rw [HFV.out], ?_⟩
      · simp [results, Tryd.results20, go_sem, c0, c1, c2, c3]
      · have hfin : Below w.heap.size w wr := HB0.out.trans (HB.out.mono (by have := HS0.out; omega))
        exact (((hfin.setCell (p := ⟨w.heap.size, 0, none⟩) (Nat.le_refl _) _).setCell (p := ⟨w.heap.size, 1, none⟩) (Nat.le_refl _) _).setCell (p := ⟨w.heap.size, 2, none⟩) (Nat.le_refl _) _).setCell (p := ⟨w.heap.size, 3, none⟩) (Nat.le_refl _) _
end Go.Proofs.YtdoejkdckokjdaaDoor
