/- slices.Clone of bytes; Bytes. -/
import Derived.Test.YtalgpmnjkfconaaStoreW
namespace Go.Proofs.Ytalgpmnjkfconaa
open Go.RowKit Go.Deep

theorem run_eql_nil31 (w : World) (a : Option Addr) (l c : Nat) : (binOp .eql 31 (.slice a l c) (.slice none 0 0)).run Try.prog w = .ok (.bool a.isNone) w := by
  simp only [binOp]
  simp [run_equal_slice_nil w 31 5 a l c Try.underlying31]

set_option maxRecDepth 100000 in
theorem CloneB_any (ad : Addr) (n cap : Nat) (l : List Nat) (hn : n = l.length) (w : World) (h : Bts w (some ad) l) (hl : l.length ≤ 140737488355328) :
    Calls Try.prog 34 #[.slice (some ad) n cap] w fun e w' => ∃ v, e = .returned v ∧ Own w' w.heap.size v l ∧ Below w.heap.size w w' := by
  subst hn
  have H := Lib.hid h
  have HL := Lib.hid hl
  clear h hl
  have hnil := fun (w : World) => run_eql_nil31 w (some ad) l.length cap
  go_enter Try.func34, Try.ntmps34
  go_wp2_with (at_builtin; refine wpList_app rfl (.tmp 5) (.tmp 6) rfl w.heap.size _ [] rfl (Own_new w) (some ad) l.length cap l rfl rfl (H.out.alloc _) (fun h => by cases h) (by simp only [List.length_nil, Nat.zero_add]; exact HL.out) (by simp) ?_; intro v2 w2 o2 b2; have O2 := Lib.hid o2; have B2 := Lib.hid (((Below.refl w.heap.size w).alloc (Nat.le_refl _) _).trans b2); clear o2 b2)
  go_ret
  exact ⟨v2, rfl, O2.out, B2.out⟩

/-- n bytes from x on -/
def part (f : Nat → Nat) (x n : Nat) : List Nat := (List.range n).map fun i => f (x + i)
theorem len_part (f : Nat → Nat) (x n : Nat) : (part f x n).length = n := by simp [part]
theorem part_lt {f : Nat → Nat} (hf : ∀ i, f i < 256) (x n : Nat) : ∀ c ∈ part f x n, c < 256 := by
  intro c hc
  obtain ⟨i, _, rfl⟩ := List.mem_map.1 hc
  exact hf _
theorem part_at (f : Nat → Nat) (x n i : Nat) (h : i < n) : (part f x n).getD i 0 = f (x + i) := by
  simp [part, List.getD_eq_getElem?_getD, h]
theorem MemIs.part {w : World} {p g n : Nat} {wd hm : Bool} {mn mx : Nat} {f : Nat → Nat} (h : MemIs w p g n wd hm mn mx f) (x m : Nat) (hx : x + m ≤ n) : Bts w (some ⟨g, x, none⟩) (part f x m) := by
  refine ⟨part_lt h.lt x m, .inr ⟨g, x, rfl, fun i hi => ?_⟩⟩
  rw [len_part] at hi
  rw [part_at _ _ _ _ hi]
  exact h.row.cell (by omega)

/-- the bytes from x on, and the error -/
def bytesV (n : Nat) (f : Nat → Nat) (x m : Nat) : List Nat × Nat := if x + m ≤ n then (part f x m, 0) else ([], 260)

set_option maxRecDepth 100000 in
set_option maxHeartbeats 1000000 in
theorem Bytes_any {w : World} {p g n : Nat} {wd hm : Bool} {mn mx : Nat} {f : Nat → Nat} (h : MemIs w p g n wd hm mn mx f) (x m : Nat) (h1 : x < 18446744073709551616) (h2 : m < 18446744073709551616) :
    Calls Try.prog 10 #[.pointer (some ⟨p, 0, none⟩), .int .u64 x, .int .u64 m] w fun e w' => ∃ v, e = .returned (.tuple #[v, .int .i64 ((bytesV n f x m).2 : Nat)]) ∧ Own w' w.heap.size v (bytesV n f x m).1 ∧ Below w.heap.size w w' := by
  have hc := h.c4
  have hb := h.big
  have hI := in_any x m n h1 h2 (by omega)
  obtain ⟨r, hr⟩ : ∃ r, r = bytesV n f x m := ⟨_, rfl⟩
  rw [← hr]
  unfold bytesV at hr
  by_cases hin : x + m ≤ n
  · rw [show decide (x + m ≤ n) = true by simpa using hin] at hI
    have HI := Lib.hid hI
    have HR := Lib.hid (hr.trans (if_pos hin))
    have hP := h.part x m hin
    have HL := Lib.hid (len_part f x m)
    generalize part f x m = l at *
    have HP := Lib.hid hP
    clear hP hI hr h h1 h2
    by_cases hx : x = n
    · subst hx
      have hm0 : m = 0 := by omega
      subst hm0
      have hl0 : l = [] := List.eq_nil_of_length_eq_zero HL.out
      subst hl0
      have hC := Lib.hid (fun w => CloneB_any ⟨g, 0, none⟩ 0 0 [] rfl w ⟨by simp, .inl rfl⟩ (by simp))
      go_enter Try.func10, Try.ntmps10
      go_wp2_with fail
      refine (HI.out _).mono ?_
      rintro e w1 ⟨rfl, rfl⟩
      go_wp2_with fail
      refine (hC.out _).mono ?_
      rintro e w1 ⟨v, rfl, o1, b1⟩
      have O1 := Lib.hid o1
      have B1 := Lib.hid b1
      clear o1 b1
      go_wp2
      go_ret2
      exact ⟨v, by rw [HR.out]; rfl, by rw [HR.out]; exact O1.out, B1.out⟩
    · have hC := Lib.hid (CloneB_any ⟨g, x, none⟩ m (n - x) l HL.out.symm w HP.out (by have := HL.out; omega))
      have hxn : x < n := by omega
      go_enter Try.func10, Try.ntmps10
      go_wp2_with fail
      refine (HI.out _).mono ?_
      rintro e w1 ⟨rfl, rfl⟩
      go_wp2_with fail
      simp only [Nat.add_sub_cancel_left]
      refine hC.out.mono ?_
      rintro e w1 ⟨v, rfl, o1, b1⟩
      have O1 := Lib.hid o1
      have B1 := Lib.hid b1
      clear o1 b1
      go_wp2
      go_ret2
      exact ⟨v, by rw [HR.out]; rfl, by rw [HR.out]; exact O1.out, B1.out⟩
  · rw [show decide (x + m ≤ n) = false by simpa using hin] at hI
    have HI := Lib.hid hI
    have HR := Lib.hid (hr.trans (if_neg hin))
    clear hI hr h h1 h2
    go_enter Try.func10, Try.ntmps10
    go_wp2_with fail
    refine (HI.out _).mono ?_
    rintro e w1 ⟨rfl, rfl⟩
    go_wp2
    go_ret2
    exact ⟨_, by rw [HR.out]; rfl, by rw [HR.out]; exact Own_nil _ _, Below.refl _ _⟩
end Go.Proofs.Ytalgpmnjkfconaa
