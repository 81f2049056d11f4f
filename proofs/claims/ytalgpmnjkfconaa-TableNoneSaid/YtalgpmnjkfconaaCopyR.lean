/- The builtin copy into a row that is known; Init, Copy. -/
import Derived.Test.YtalgpmnjkfconaaNewW
import Derived.Laws.CopyOwn
namespace Go.Proofs.Ytalgpmnjkfconaa
open Go.RowKit Go.Deep

theorem Touch.setRow (g : Nat) (w : World) (cs : Array Value) : Touch g w (w.setRow g cs) :=
  ⟨rfl, rfl, rfl, by simp [World.setRow], fun k _ hg => setRow_other w g k cs hg⟩

/-- cells laid from X on -/
def over (F : Nat → Value) (X : Nat) (cs : List Value) : Nat → Value := fun j => if X ≤ j ∧ j < X + cs.length then cs.getD (j - X) undef else F j

theorem run_copyR {w : World} (T ty e : TypeId) (hu : Try.prog.underlying T = some (.slice e)) (hs : (Try.prog.info? e).map (·.size) = some 1) (g X n : Nat) (F : Nat → Value) (row : w.rowIs g e n F)
    (dp sp : Option Addr) (dLen dCap sLen sCap : Nat) (cs : List Value) (hm : cs.length = Nat.min sLen dLen)
    (hpos : 0 < cs.length → dp = some ⟨g, X, none⟩ ∧ ∃ ad, sp = some ad ∧ ∀ j v, cs[j]? = some v → w.cell? (ad.add j) = some v) (hfit : X + cs.length ≤ n) (h1 : ∀ v ∈ cs, v.oneCell' = true) :
    ∃ w', (Builtin.copy_ #[T, T] ty #[.slice dp dLen dCap, .slice sp sLen sCap]).run Try.prog w = .ok (goInt cs.length) w' ∧ w'.rowIs g e n (over F X cs) ∧ Touch g w w' := by
  by_cases h0 : cs.length = 0
  · obtain rfl : cs = [] := List.eq_nil_of_length_eq_zero h0
    refine ⟨w, run_copy_none (P := Try.prog) w T T ty e dp sp dLen dCap sLen sCap hu hs (by simpa using hm.symm), row.congr (fun j _ => ?_), Touch.refl _ _⟩
    unfold over
    rw [if_neg (by simp)]
  · obtain ⟨rfl, ad, rfl, hsrc⟩ := hpos (by omega)
    obtain ⟨cur, hg, hsz, hc⟩ := row
    refine ⟨_, run_copy_row (P := Try.prog) w T T ty e g X dLen dCap ad sLen sCap cur e cs hu hs hg hm hsrc (by omega) h1, ⟨_, setRow_heap w g _ _ e _ hg, ?_, fun j hj => ?_⟩, Touch.setRow _ _ _⟩
    · simp; omega
    · unfold over
      have hl : cur.toList.length = n := by simpa using hsz
      rw [List.getElem?_toArray]
      by_cases ha : j < X
      · rw [if_neg (by omega), List.append_assoc, List.getElem?_append_left (by rw [List.length_take]; omega), List.getElem?_take_of_lt ha, Array.getElem?_toList]
        exact hc j hj
      · by_cases hb : j < X + cs.length
        · rw [if_pos (by omega), List.append_assoc, List.getElem?_append_right (by rw [List.length_take]; omega), List.length_take, Nat.min_eq_left (by omega), List.getElem?_append_left (by omega),
            List.getD_eq_getElem?_getD, List.getElem?_eq_getElem (by omega)]
          rfl
        · rw [if_neg (by omega), List.getElem?_append_right (by rw [List.length_append, List.length_take]; omega), List.length_append, List.length_take, Nat.min_eq_left (by omega), List.getElem?_drop,
            show X + cs.length + (j - (X + cs.length)) = j by omega, Array.getElem?_toList]
          exact hc j hj

/-- copy as an operation of a region that keeps its order -/
theorem wpList_copyR {w : World} {ops : Array Oper} {rest : List Oper} {o : Oper} {a : Act} {Q : Exit → Act → World → Prop} (hgd : o.guard = none) (d s : Operand) (T e : TypeId)
    (ho : o.op = .call { callee := .builtin .copy, args := #[d, s], argTypes := #[T, T] }) (hu : Try.prog.underlying T = some (.slice e)) (hs : (Try.prog.info? e).map (·.size) = some 1)
    (g X n : Nat) (F : Nat → Value) (row : w.rowIs g e n F) (dp sp : Option Addr) (dLen dCap sLen sCap : Nat) (hd : a.eval d = .slice dp dLen dCap) (hs' : a.eval s = .slice sp sLen sCap) (cs : List Value) (hm : cs.length = Nat.min sLen dLen)
    (hpos : 0 < cs.length → dp = some ⟨g, X, none⟩ ∧ ∃ ad, sp = some ad ∧ ∀ j v, cs[j]? = some v → w.cell? (ad.add j) = some v) (hfit : X + cs.length ≤ n) (h1 : ∀ v ∈ cs, v.oneCell' = true)
    (h : ∀ w', w'.rowIs g e n (over F X cs) → Touch g w w' → wpList Try.prog ops Q rest (a.put o.dst (goInt cs.length)) w') : wpList Try.prog ops Q (o :: rest) a w := by
  refine wpList_plain hgd fun K hK => ?_
  obtain ⟨w', hr, h2, h3⟩ := run_copyR T o.type e hu hs g X n F row dp sp dLen dCap sLen sCap cs hm hpos hfit h1
  unfold Oper.wp
  simp [execOp, ho, resolve, invoke, builtin, hd, hs', hr, Result.andThen]
  exact hK _ _ (h w' h2 h3)

/-- .. and of one that draws it -/
theorem step_copyR {w : World} {ops : Array Oper} {o : Oper} {a : Act} {K : Act → World → Prop} {Q : Exit → Act → World → Prop} {E : Prop} (hgd : o.guard = none) (d s : Operand) (T e : TypeId)
    (ho : o.op = .call { callee := .builtin .copy, args := #[d, s], argTypes := #[T, T] }) (hu : Try.prog.underlying T = some (.slice e)) (hs : (Try.prog.info? e).map (·.size) = some 1)
    (g X n : Nat) (F : Nat → Value) (row : w.rowIs g e n F) (dp sp : Option Addr) (dLen dCap sLen sCap : Nat) (hd : a.eval d = .slice dp dLen dCap) (hs' : a.eval s = .slice sp sLen sCap) (cs : List Value) (hm : cs.length = Nat.min sLen dLen)
    (hpos : 0 < cs.length → dp = some ⟨g, X, none⟩ ∧ ∃ ad, sp = some ad ∧ ∀ j v, cs[j]? = some v → w.cell? (ad.add j) = some v) (hfit : X + cs.length ≤ n) (h1 : ∀ v ∈ cs, v.oneCell' = true)
    (h : ∀ w', w'.rowIs g e n (over F X cs) → Touch g w w' → K (a.put o.dst (goInt cs.length)) w') :
    if Region.wanted o (yielded ops a.tmps) = true then Oper.wp Try.prog o a w K Q else E := by
  have hw : Region.wanted o (yielded ops a.tmps) = true := by simp [Region.wanted, hgd]
  rw [if_pos hw]
  obtain ⟨w', hr, h2, h3⟩ := run_copyR T o.type e hu hs g X n F row dp sp dLen dCap sLen sCap cs hm hpos hfit h1
  unfold Oper.wp
  simp [execOp, ho, resolve, invoke, builtin, hd, hs', hr, Result.andThen]
  exact h w' h2 h3
end Go.Proofs.Ytalgpmnjkfconaa
