/- Bytes in memory: what they are, what is kept, what is made, appending one list of bytes to another, a list of bytes as a string. -/
import Derived.Test.YtalgpmnjkfconaaBase
import Derived.Laws.AppendOwnNone
namespace Go.Proofs.Ytalgpmnjkfconaa
open Go.RowKit

theorem u8_wf {n : Int} (h : (Lit.int .u8 n).wf = true) : 0 ≤ n ∧ n < 256 := by
  simp [Lit.wf, IntKind.min, IntKind.max, IntKind.signed, IntKind.bits] at h; omega
theorem u64_wf {n : Int} (h : (Lit.int .u64 n).wf = true) : 0 ≤ n ∧ n < 18446744073709551616 := by
  simp [Lit.wf, IntKind.min, IntKind.max, IntKind.signed, IntKind.bits] at h; omega
theorem i64_wf {n : Int} (h : (Lit.int .i64 n).wf = true) : -9223372036854775808 ≤ n ∧ n < 9223372036854775808 := by
  simp [Lit.wf, IntKind.min, IntKind.max, IntKind.signed, IntKind.bits] at h; omega
/-- the bytes bs lie at an address -/
def Bts (w : World) (a : Option Addr) (bs : List Nat) : Prop :=
  (∀ c ∈ bs, c < 256) ∧ (bs = [] ∨ ∃ b off, a = some ⟨b, off, none⟩ ∧ ∀ i, i < bs.length → w.cell? ⟨b, off + i, none⟩ = some (.int .u8 ((bs.getD i 0 : Nat) : Int)))

theorem Bts.lt {w : World} {a : Option Addr} {bs : List Nat} (h : Bts w a bs) (i : Nat) : bs.getD i 0 < 256 := by
  rw [List.getD_eq_getElem?_getD]
  by_cases hi : i < bs.length
  · rw [List.getElem?_eq_getElem hi]; exact h.1 _ (List.getElem_mem hi)
  · rw [List.getElem?_eq_none (by omega)]; simp

theorem info5 : (Try.prog.info? 5).map (fun i => (i.zero, i.size, i.bytes)) = some (some (.int .u8 0), 1, 1) := by kernel_rfl

/-- bytes as cells -/
def cellsOf (l : List Nat) : List Value := l.map fun (c : Nat) => Value.int .u8 (c : Int)
/-- the slice v, made since block B, holds the bytes l -/
def Own (w : World) (B : Nat) (v : Value) (l : List Nat) : Prop := w.ownsRow B 5 1 v l.length (cellsOf l)

theorem Own.kept {w w1 : World} {B : Nat} {v : Value} {l : List Nat} (h : Own w B v l) (hb : Below w.heap.size w w1) : Own w1 B v l := by
  have hlt := World.ownsRow.lt h
  obtain ⟨h1, h2⟩ := h
  refine ⟨h1, ?_⟩
  rcases h2 with h2 | ⟨g, cap, cur, hv, hg, hh, r⟩
  · exact .inl h2
  · refine .inr ⟨g, cap, cur, hv, hg, ?_, r⟩
    rw [hb.block g (hlt g (by rw [hv]; rfl)).2]; exact hh

theorem Bts.kept {w w1 : World} {a : Option Addr} {bs : List Nat} (h : Bts w a bs) (hb : Below w.heap.size w w1) : Bts w1 a bs := by
  refine ⟨h.1, ?_⟩
  rcases h.2 with rfl | ⟨b, off, rfl, hc⟩
  · exact .inl rfl
  · refine .inr ⟨b, off, rfl, fun i hi => ?_⟩
    rw [hb.cell (p := ⟨b, off + i, none⟩) (block_lt_of_cell (hc i hi))]
    exact hc i hi

theorem Bts.alloc {w : World} {a : Option Addr} {bs : List Nat} (h : Bts w a bs) (o : Obj) : Bts (w.alloc o) a bs := h.kept ((Below.refl _ _).alloc (Nat.le_refl _) o)

theorem getElem?_cellsOf (l : List Nat) (i : Nat) (h : i < l.length) : (cellsOf l)[i]? = some (.int .u8 ((l.getD i 0 : Nat) : Int)) := by
  simp [cellsOf, List.getD_eq_getElem?_getD, List.getElem?_eq_getElem h]

theorem Bts_lit (w : World) (l : List Nat) (h : ∀ c ∈ l, c < 256) : Bts (w.alloc (.cells (cellsOf l).toArray 5)) (some ⟨w.heap.size, 0, none⟩) l := by
  refine ⟨h, .inr ⟨w.heap.size, 0, rfl, fun i hi => ?_⟩⟩
  rw [World.cell?_alloc_at _ _ _ _ rfl]
  simpa using getElem?_cellsOf l (0 + i) (by omega)

theorem Own.bts {w : World} {B : Nat} {v : Value} {l : List Nat} (h : Own w B v l) (hl : ∀ c ∈ l, c < 256) :
    ∃ a cap, v = .slice a l.length cap ∧ Bts w a l ∧ (a = none → cap = 0) ∧ l.length ≤ cap := by
  rcases h.2 with ⟨hv, hx⟩ | ⟨g, cap, cur, hv, hg, hh, hm, r1, r2, r3⟩
  · have : l = [] := by simpa [cellsOf] using hx
    subst this
    exact ⟨none, 0, hv, ⟨hl, .inl rfl⟩, fun _ => rfl, Nat.le_refl _⟩
  · refine ⟨some ⟨g, 0, none⟩, cap, hv, ⟨hl, ?_⟩, fun e => by simp at e, by omega⟩
    refine .inr ⟨g, 0, rfl, fun i hi => ?_⟩
    have := World.ownsRow.cells h (g := g) (by rw [hv]; rfl) i _ (getElem?_cellsOf l i hi)
    rw [Addr.add_lit] at this
    exact this

/-- appending bytes to bytes of the call's own -/
theorem wpList_app {w : World} {ops : Array Oper} {rest : List Oper} {o : Oper} {a : Act} {Q : Exit → Act → World → Prop} (hgd : o.guard = none) (s x : Operand)
    (ho : o.op = .call { callee := .builtin .append, args := #[s, x], argTypes := #[31, 31] }) (B : Nat) (v : Value) (l : List Nat) (hs : a.eval s = v) (hown : Own w B v l)
    (ax : Option Addr) (m cap : Nat) (ys : List Nat) (hx : a.eval x = .slice ax m cap) (hm : m = ys.length) (hy : Bts w ax ys) (hnil : ax = none → cap = 0) (hlen : l.length + ys.length ≤ 140737488355328) (hB : B ≤ w.heap.size)
    (h : ∀ v' w', Own w' B v' (l ++ ys) → Below B w w' → wpList Try.prog ops Q rest (a.put o.dst v') w') : wpList Try.prog ops Q (o :: rest) a w := by
  obtain ⟨i0, hi, hz0, hz1, hz2⟩ := info_parts info5
  have hown' : w.ownsRow B 5 1 v l.length (cellsOf l) := hown
  subst hm
  cases ax with
  | none =>
    have hys : ys = [] := by
      rcases hy.2 with h | ⟨b, off, h, _⟩
      · exact h
      · simp at h
    subst hys
    have hc := hnil rfl
    subst hc
    refine wpList_append_own_none hgd s x 31 ho B 5 i0 1 Try.underlying31 hi v _ _ hs hown' hx (h v w ?_ (Below.refl _ _))
    simpa using hown
  | some ad =>
    refine wpList_append_own w hgd s x 31 ho B 5 i0 (.int .u8 0) 1 1 Try.underlying31 hi hz0 hz1 hz2 rfl (by decide) v _ _ hs hown' ad ys.length cap (cellsOf ys) hx (by simp [cellsOf]) ?_ ?_ (by unfold maxLen; omega) (by omega) hB ?_
    · intro j u hj
      rcases hy.2 with rfl | ⟨b, off, h, hc⟩
      · simp [cellsOf] at hj
      · obtain rfl := Option.some.inj h
        have hjl : j < ys.length := by
          rcases Nat.lt_or_ge j ys.length with h | h
          · exact h
          · rw [List.getElem?_eq_none (by simpa [cellsOf] using h)] at hj; simp at hj
        rw [getElem?_cellsOf _ _ hjl] at hj
        obtain rfl := Option.some.inj hj
        rw [Addr.add_lit]
        exact hc j hjl
    · intro u hu
      obtain ⟨_, _, rfl⟩ := List.mem_map.1 hu
      rfl
    · intro v' w' hown2 hg _
      refine h v' w' ?_ ((Below.refl _ _).grown hg hB fun k hk => (hown'.lt k hk).1)
      simpa [Own, cellsOf] using hown2

/-- bytes as a string -/
def strN (l : List Nat) : ByteArray := ⟨(l.map UInt8.ofNat).toArray⟩

theorem run_str {w : World} {a : Option Addr} {l : List Nat} (h : Bts w a l) (cap : Nat) : (convert 31 9 (.slice a l.length cap)).run Try.prog w = .ok (.string (strN l)) w := by
  rcases h.2 with rfl | ⟨b, off, rfl, hc⟩
  · cases a with
    | none => exact run_convert_bytes_nil w 31 5 Try.underlying31 Try.underlying5 0 cap 9 Try.underlying9
    | some ad =>
      obtain ⟨b, off, sp⟩ := ad
      rw [run_convert_bytes_string w 31 9 5 _ _ cap Try.underlying31 Try.underlying5 Try.underlying9]
      show Sem.run Try.prog (Conv.bytesToString (Value.slice _ 0 cap)) w = _
      rw [run_bytesToString w _ 0 cap [] (by simpa using run_loadCells_list (P := Try.prog) w ⟨b, off, sp⟩ [] (by simp))]
      rfl
  · have := run_convert_bytes_arg (P := Try.prog) w 31 5 Try.underlying31 Try.underlying5 b off l.length cap (l.map fun (c : Nat) => (c : Int)) (by simp) (fun i hi => by
      rw [hc i hi]; simp [List.getD_eq_getElem?_getD, List.getElem?_eq_getElem hi]) 9 Try.underlying9
    rw [this]
    unfold strOfNums strN
    rw [List.map_map]
    rfl

/-- 'string(b)' in a walk -/
theorem wpList_str {w : World} {ops : Array Oper} {rest : List Oper} {o : Oper} {a : Act} {Q : Exit → Act → World → Prop} (hgd : o.guard = none) (x : Operand)
    (ho : o.op = .convert 31 9 x) (ax : Option Addr) (m cap : Nat) (l : List Nat) (hx : a.eval x = .slice ax m cap) (hm : m = l.length) (hy : Bts w ax l)
    (h : wpList Try.prog ops Q rest (a.put o.dst (.string (strN l))) w) : wpList Try.prog ops Q (o :: rest) a w := by
  subst hm
  refine wpList_plain hgd fun K hK => ?_
  have hrun := run_str hy cap
  unfold Oper.wp
  simp [execOp, ho, hx, hrun, Result.andThen]
  exact hK _ _ h

theorem Own_new (w : World) : Own (w.alloc (.cells #[] 5)) w.heap.size (.slice (some ⟨w.heap.size, 0, none⟩) 0 0) [] :=
  World.ownsRow_lit w #[] 0 (Nat.le_refl _) (by simp) rfl
theorem Own_nil (w : World) (B : Nat) : Own w B (.slice none 0 0) [] := World.ownsRow_nil w B 5 1
end Go.Proofs.Ytalgpmnjkfconaa
