/- Putting a name: name.Put and the reference's Put. -/
import Derived.Test.YtbaihhkcnlhdmaaRCountW
import Derived.Test.YtbaihhkcnlhdmaaPutU
import Derived.Test.YtbaihhkcnlhdmaaRefB
import Derived.Lib.AppendStr
namespace Go.Proofs.Ytbaihhkcnlhdmaa
open Go.RowKit NameM

theorem strCells_nb (s : ByteArray) : Lib.strCells s = cellsOf (nb s) := by
  unfold Lib.strCells cellsOf nb
  simp

/-- appending a string's bytes to bytes of the call's own -/
theorem wpList_apps {w : World} {ops : Array Oper} {rest : List Oper} {o : Oper} {a : Act} {Q : Exit → Act → World → Prop} (hgd : o.guard = none) (s x : Operand)
    (ho : o.op = .call { callee := .builtin .append, args := #[s, x], argTypes := #[22, 9] }) (B : Nat) (v : Value) (l : List Nat) (hs : a.eval s = v) (hown : Own w B v l)
    (str : ByteArray) (hx : a.eval x = .string str) (hlen : l.length + str.size ≤ 140737488355328) (hB : B ≤ w.heap.size)
    (h : ∀ v' w', Own w' B v' (l ++ nb str) → Below B w w' → wpList Try.prog ops Q rest (a.put o.dst v') w') : wpList Try.prog ops Q (o :: rest) a w := by
  obtain ⟨i0, hi, hz0, hz1, hz2⟩ := info_parts info5
  have hown' : w.ownsRow B 5 1 v l.length (cellsOf l) := hown
  refine Lib.wpList_append_own_string w hgd s x 22 9 ho B 5 i0 Try.underlying22 Try.underlying9 hi hz0 hz1 hz2 v _ _ hs hown' str hx (by unfold maxLen; omega) (by omega) hB ?_
  intro v' w' hown2 hg _
  refine h v' w' ?_ ((Below.refl _ _).grown hg hB fun k hk => (hown'.lt k hk).1)
  rw [strCells_nb] at hown2
  simpa [Own, cellsOf, len_nb] using hown2

theorem Own_nil (w : World) (B : Nat) : Own w B (.slice none 0 0) [] := World.ownsRow_nil w B 5 1
theorem Own.low {w : World} {B B' : Nat} {v : Value} {l : List Nat} (h : Own w B v l) (hB : B' ≤ B) : Own w B' v l := by
  refine ⟨h.1, ?_⟩
  rcases h.2 with h2 | ⟨g, cap, cur, hv, hg, h3⟩
  · exact .inl h2
  · exact .inr ⟨g, cap, cur, hv, Nat.le_trans hB hg, h3⟩

/-- a name's bytes, and the error -/
def putN (l : List Nat) : List Nat × Nat :=
  if cnt l < 0 then ([], 20) else if 100000 < l.length then ([], 3) else (LebM.putU l.length ++ l, 0)

set_option maxRecDepth 100000 in
set_option maxHeartbeats 1000000 in
theorem NPut_any (s : ByteArray) (hs : s.size ≤ 4611686018427387904) (w : World) :
    Calls Try.prog 31 #[.string s] w fun e w' => ∃ v, e = .returned (.tuple #[v, .int .i64 ((putN (nb s)).2 : Nat)]) ∧ Own w' w.heap.size v (putN (nb s)).1 ∧ Below w.heap.size w w' := by
  have W1 := Lib.hid (Well_any s hs)
  obtain ⟨r, hr⟩ : ∃ r, r = putN (nb s) := ⟨_, rfl⟩
  rw [← hr]
  by_cases h1 : cnt (nb s) < 0
  · have HR := Lib.hid (show r = ([], 20) by rw [hr]; unfold putN; rw [if_pos h1])
    rw [show decide (0 ≤ cnt (nb s)) = false by simp; omega] at W1
    clear hr h1
    go_enter Try.func31, Try.ntmps31
    go_wp2_with fail
    refine (W1.out w).mono ?_
    rintro e w1 ⟨rfl, b1⟩
    have B1 := Lib.hid b1
    clear b1
    go_wp2
    go_ret2
    exact ⟨_, by rw [HR.out]; rfl, by rw [HR.out]; exact Own_nil _ _, B1.out⟩
  · rw [show decide (0 ≤ cnt (nb s)) = true by simp; omega] at W1
    by_cases h2 : 100000 < s.size
    · have HR := Lib.hid (show r = ([], 3) by rw [hr]; unfold putN; rw [if_neg h1, if_pos (by rw [len_nb]; exact h2)])
      clear hr h1
      go_enter Try.func31, Try.ntmps31
      go_wp2_with fail
      refine (W1.out w).mono ?_
      rintro e w1 ⟨rfl, b1⟩
      have B1 := Lib.hid b1
      clear b1
      go_wp2
      go_ret2
      exact ⟨_, by rw [HR.out]; rfl, by rw [HR.out]; exact Own_nil _ _, B1.out⟩
    · have HR := Lib.hid (show r = (LebM.putU s.size ++ nb s, 0) by rw [hr]; unfold putN; rw [if_neg h1, if_neg (by rw [len_nb]; exact h2), len_nb])
      have P1 := Lib.hid (PutU_any s.size)
      have HL := Lib.hid (LebM.putU_len_le (n := s.size) (k := 10) (by omega) (by omega))
      clear hr h1
      go_enter Try.func31, Try.ntmps31
      go_wp2_with fail
      refine (W1.out w).mono ?_
      rintro e w1 ⟨rfl, b1⟩
      have B1 := Lib.hid b1
      clear b1
      go_wp2_with fail
      refine (P1.out (by omega) w1).mono ?_
      rintro e w2 ⟨v, rfl, o2, b2⟩
      have O2 := Lib.hid o2
      have B2 := Lib.hid b2
      clear o2 b2
      go_wp2_with (at_builtin; refine wpList_apps rfl (.tmp 13) (.tmp 14) rfl w1.heap.size v (LebM.putU s.size) rfl O2.out s rfl (by have := HL.out; omega) B2.out.size ?_; intro v3 w3 o3 b3; have O3 := Lib.hid o3; have B3 := Lib.hid (B2.out.trans b3); clear o3 b3)
      go_ret2
      exact ⟨_, by rw [HR.out]; rfl, by rw [HR.out]; exact O3.out.low B1.out.size, B1.out.trans (B3.out.mono B1.out.size)⟩
theorem conv_below (w : World) (c : Array Value) (t : TypeId) (fr : Nat × Nat) : Below w.heap.size w (w.drew.alloc (.cells c t fr)) := ((Below.refl _ _).drew).alloc (Nat.le_refl _) _
theorem cell_new (w : World) (c : Array Value) (t : TypeId) (fr : Nat × Nat) (i : Nat) : (w.alloc (.cells c t fr)).cell? ⟨w.heap.size, i, none⟩ = c[i]? := by
  show (match (w.heap.push (.cells c t fr))[w.heap.size]? with | some (.cells c _ _) => c[i]? | _ => none) = _
  rw [Array.getElem?_push_size]
theorem Bts_conv (w : World) (s : ByteArray) (cap : Nat) (fr : Nat × Nat) : Bts (w.drew.alloc (.cells (bytesRow s cap) 5 fr)) (some ⟨w.heap.size, 0, none⟩) (nb s) := by
  refine ⟨nb_lt s, .inr ⟨w.heap.size, 0, rfl, fun i hi => ?_⟩⟩
  rw [len_nb] at hi
  rw [Nat.zero_add]
  have e := cell_new w.drew (bytesRow s cap) 5 fr i
  exact e.trans ((bytesRow_at s cap i hi).trans (by rw [← byte_at s i hi]; rfl))

set_option maxRecDepth 100000 in
set_option maxHeartbeats 1000000 in
theorem rPut_any (s : ByteArray) (hs : s.size ≤ 4611686018427387904) (w : World) :
    Calls Try.prog 32 #[.string s] w fun e w' => ∃ v, e = .returned (.tuple #[v, .int .i64 ((putN (nb s)).2 : Nat)]) ∧ Own w' w.heap.size v (putN (nb s)).1 ∧ Below w.heap.size w w' := by
  have W1 := Lib.hid (rCount_any s hs)
  obtain ⟨r, hr⟩ : ∃ r, r = putN (nb s) := ⟨_, rfl⟩
  rw [← hr]
  by_cases h1 : cnt (nb s) < 0
  · have HR := Lib.hid (show r = ([], 20) by rw [hr]; unfold putN; rw [if_pos h1])
    clear hr
    generalize cnt (nb s) = C at W1 h1
    go_enter Try.func32, Try.ntmps32
    go_wp2_with fail
    refine (W1.out w).mono ?_
    rintro e w1 ⟨rfl, b1⟩
    have B1 := Lib.hid b1
    clear b1
    go_wp2
    go_ret2
    exact ⟨_, by rw [HR.out]; rfl, by rw [HR.out]; exact Own_nil _ _, B1.out⟩
  · by_cases h2 : 100000 < s.size
    · have HR := Lib.hid (show r = ([], 3) by rw [hr]; unfold putN; rw [if_neg h1, if_pos (by rw [len_nb]; exact h2)])
      clear hr
      generalize cnt (nb s) = C at W1 h1
      go_enter Try.func32, Try.ntmps32
      go_wp2_with fail
      refine (W1.out w).mono ?_
      rintro e w1 ⟨rfl, b1⟩
      have B1 := Lib.hid b1
      clear b1
      go_wp2
      go_ret2
      exact ⟨_, by rw [HR.out]; rfl, by rw [HR.out]; exact Own_nil _ _, B1.out⟩
    · have HR := Lib.hid (show r = (LebM.putU s.size ++ nb s, 0) by rw [hr]; unfold putN; rw [if_neg h1, if_neg (by rw [len_nb]; exact h2), len_nb])
      have P1 := Lib.hid (rPutU_any s.size s.size)
      have HL := Lib.hid (LebM.putU_len_le (n := s.size) (k := 10) (by omega) (by omega))
      clear hr
      generalize cnt (nb s) = C at W1 h1
      have hcv := fun w s => run_bytes_of_string (P := Try.prog) w 9 22 5 s Try.underlying9 Try.underlying22 Try.underlying5
      go_enter Try.func32, Try.ntmps32
      go_wp2_with fail
      refine (W1.out w).mono ?_
      rintro e w1 ⟨rfl, b1⟩
      have B1 := Lib.hid b1
      clear b1
      go_wp2_with fail
      refine (P1.out w1 (Nat.le_refl _) (by omega)).mono ?_
      rintro e w2 ⟨v, rfl, o2, b2⟩
      have O2 := Lib.hid o2
      have B2 := Lib.hid b2
      clear o2 b2
      go_wp2_with (at_builtin; refine wpList_app rfl (.tmp 13) (.tmp 15) rfl w1.heap.size v (LebM.putU s.size) rfl (O2.out.kept (conv_below _ _ _ _)) (some ⟨w2.heap.size, 0, none⟩) s.size _ (nb s) rfl (len_nb s).symm (Bts_conv w2 s _ _) (fun h => by cases h) (by have := HL.out; rw [len_nb]; omega) (Nat.le_trans B2.out.size (conv_below _ _ _ _).size) ?_; intro v3 w3 o3 b3; have O3 := Lib.hid o3; have B3 := Lib.hid (B2.out.trans (((conv_below w2 _ _ _).mono B2.out.size).trans b3)); clear o3 b3)
      go_ret2
      exact ⟨_, by rw [HR.out]; rfl, by rw [HR.out]; exact O3.out.low B1.out.size, B1.out.trans (B3.out.mono B1.out.size)⟩
end Go.Proofs.Ytbaihhkcnlhdmaa
