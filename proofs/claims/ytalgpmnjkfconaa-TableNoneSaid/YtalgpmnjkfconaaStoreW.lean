/- Store. -/
import Derived.Test.YtalgpmnjkfconaaLoadW
namespace Go.Proofs.Ytalgpmnjkfconaa
open Go.RowKit Go.Deep

/-- all that was there is as it was, but for block g -/
structure Touch (g : Nat) (w w' : World) : Prop where
  os : w'.os = w.os
  tape : w'.tape = w.tape
  output : w'.output = w.output
  size : w.heap.size ≤ w'.heap.size
  block : ∀ k, k < w.heap.size → k ≠ g → w'.heap[k]? = w.heap[k]?
theorem Touch.refl (g : Nat) (w : World) : Touch g w w := ⟨rfl, rfl, rfl, Nat.le_refl _, fun _ _ _ => rfl⟩
theorem Touch.trans {g : Nat} {a b c : World} (h : Touch g a b) (k : Touch g b c) : Touch g a c :=
  ⟨k.os.trans h.os, k.tape.trans h.tape, k.output.trans h.output, Nat.le_trans h.size k.size, fun i hi hg => (k.block i (Nat.lt_of_lt_of_le hi h.size) hg).trans (h.block i hi hg)⟩
theorem Touch.setCell {g : Nat} {a w : World} (h : Touch g a w) {q : Addr} (hq : q.block = g) (u : Value) : Touch g a (w.setCell q u) :=
  ⟨h.os, h.tape, h.output, by rw [World.size_setCell]; exact h.size, fun k hk hg => (Below.heap_setCell w q u k (by rw [hq]; exact hg)).trans (h.block k hk hg)⟩
theorem Touch.below {g B : Nat} {w w' : World} (h : Touch g w w') (hB : B ≤ g) (hw : B ≤ w.heap.size) : Below B w w' :=
  ⟨h.os, h.tape, h.output, h.size, fun k hk => h.block k (Nat.lt_of_lt_of_le hk hw) (by omega)⟩
theorem Touch.ofBelow {g : Nat} {w w' : World} (h : Below w.heap.size w w') : Touch g w w' :=
  ⟨h.os, h.tape, h.output, h.size, fun k hk _ => h.block k hk⟩

theorem MemIs.set {w : World} {p g n : Nat} {wd hm : Bool} {mn mx : Nat} {f : Nat → Nat} (h : MemIs w p g n wd hm mn mx f) (i v : Nat) (hv : v < 256) :
    MemIs (w.setCell ⟨g, i, none⟩ (.int .u8 (v : Int))) p g n wd hm mn mx (fun j => if j = i then v else f j) := by
  have hne : ∀ k, (⟨p, k, none⟩ : Addr) ≠ ⟨g, i, none⟩ := fun k e => h.ne (by injection e)
  refine ⟨?_, ?_, ?_, ?_, ?_, ?_, ?_, ?_, h.ne, h.big⟩
  · rw [World.cell?_setCell_other (h := (hne 0).symm)]; exact h.c0
  · rw [World.cell?_setCell_other (h := (hne 1).symm)]; exact h.c1
  · rw [World.cell?_setCell_other (h := (hne 2).symm)]; exact h.c2
  · rw [World.cell?_setCell_other (h := (hne 3).symm)]; exact h.c3
  · rw [World.cell?_setCell_other (h := (hne 4).symm)]; exact h.c4
  · rw [World.frozen?_setCell]; exact h.z4
  · exact (h.row.set i _).congr (fun j _ => by by_cases e : j = i <;> simp [e])
  · intro j
    by_cases e : j = i
    · simp [e, hv]
    · simp [e]; exact h.lt j
theorem MemIs.congr {w : World} {p g n : Nat} {wd hm : Bool} {mn mx : Nat} {f f' : Nat → Nat} (h : MemIs w p g n wd hm mn mx f) (e : ∀ i, f i = f' i) : MemIs w p g n wd hm mn mx f' := by
  obtain rfl : f = f' := funext e
  exact h

/-- the low bytes of x laid from X on, i of them -/
def lay (f : Nat → Nat) (X x i : Nat) : Nat → Nat := fun j => if X ≤ j ∧ j < X + i then x / 256 ^ (j - X) % 256 else f j
theorem lay_zero (f : Nat → Nat) (X x : Nat) (j : Nat) : f j = lay f X x 0 j := by
  unfold lay; rw [if_neg (by omega)]
theorem lay_succ (f : Nat → Nat) (X x i : Nat) (j : Nat) : (if j = X + i then x / 256 ^ i % 256 else lay f X x i j) = lay f X x (i + 1) j := by
  unfold lay
  by_cases e : j = X + i
  · subst e; rw [if_pos rfl, if_pos (by omega), Nat.add_sub_cancel_left]
  · rw [if_neg e]
    by_cases h : X ≤ j ∧ j < X + i
    · rw [if_pos h, if_pos (by omega)]
    · rw [if_neg h, if_neg (by omega)]

set_option maxRecDepth 100000 in
set_option maxHeartbeats 1000000 in
theorem Store_any {w : World} {p g n : Nat} {wd hm : Bool} {mn mx : Nat} {f : Nat → Nat} (h : MemIs w p g n wd hm mn mx f) (x o : Nat) (k : Int) (y : Nat) (h1 : x < 18446744073709551616) (h2 : o < 18446744073709551616) (h3 : y < 18446744073709551616) :
    Calls Try.prog 9 #[.pointer (some ⟨p, 0, none⟩), .int .u64 x, .int .u64 o, .int .i64 k, .int .u64 y] w fun e w' =>
      e = .returned (.int .i64 ((placeV n x o k).2 : Nat)) ∧ MemIs w' p g n wd hm mn mx (if (placeV n x o k).2 = 0 then lay f (x + o) y k.toNat else f) ∧ Touch g w w' := by
  have hP := place_any h x o k h1 h2
  have HOK := Lib.hid (placeV_ok (n := n) (x := x) (o := o) (k := k))
  generalize placeV n x o k = q at hP HOK
  obtain ⟨q1, q2⟩ := q
  simp only at hP HOK
  have HP := Lib.hid hP
  clear hP
  by_cases hq : q2 = 0
  · subst hq
    rw [if_pos rfl]
    obtain ⟨hw, hle, rfl⟩ := HOK.out rfl
    have hk := wide_cases hw
    obtain ⟨K, rfl⟩ := Int.eq_ofNat_of_zero_le (show 0 ≤ k by omega)
    rw [Int.toNat_natCast] at hle
    rw [Int.toNat_natCast]
    have hK1 : 1 ≤ K := by omega
    have hK8 : K ≤ 8 := by omega
    have hc := h.c4
    have hb := h.big
    have HM := Lib.hid h
    have HA := Lib.hid (fun i (hi : i ≤ 7) => at_any y i h3 hi)
    generalize x + o = X at *
    clear h hw hk h1 h2 h3
    go_enter Try.func9, Try.ntmps9
    go_wp2_with fail
    refine HP.out.mono ?_
    rintro e w1 ⟨rfl, rfl⟩
    go_wp2
    simp only [Nat.add_sub_cancel_left]
    go_loopw [39, 15] (fun b _ wr => ∃ i : Nat, b = .int .i64 (i : Int) ∧ i ≤ K ∧ MemIs wr p g n wd hm mn mx (lay f X y i) ∧ Touch g w wr) (fun b _ _ => K - (intOf b).toNat)
    case atStart => exact ⟨0, rfl, by omega, HM.out.congr (lay_zero f X y), Touch.refl _ _⟩
    case round =>
      obtain ⟨i, rfl, hi, hm, ht⟩ := hrel
      have HMI := Lib.hid hm
      have HT := Lib.hid ht
      clear hm ht
      by_cases hlt : i < K
      · have hcell := HMI.out.row.cell (show X + i < n by omega)
        have hfr := HMI.out.row.frozen (X + i)
        have hbv : y / 256 ^ i % 256 < 256 := Nat.mod_lt _ (by omega)
        have hA := HA.out i (by omega)
        have HST := Lib.hid ((HMI.out.set (X + i) (y / 256 ^ i % 256) hbv).congr (lay_succ f X y i))
        generalize y / 256 ^ i % 256 = v at *
        have HA1 := Lib.hid hA
        clear hA
        go_wp2_with fail
        refine (HA1.out _).mono ?_
        rintro e w1 ⟨rfl, rfl⟩
        go_wp2
        go_roundw
        case rel => exact ⟨i + 1, by go_num, by omega, HST.out, HT.out.setCell rfl _⟩
        case measure => simp [intOf]; omega
      · have hiK : i = K := by omega
        subst hiK
        go_wp2
        go_ret
        exact ⟨rfl, HMI.out, HT.out⟩
  · rw [if_neg hq]
    have HM := Lib.hid h
    have hqb : ((q2 : Int) != 0) = true := by simp; omega
    clear h
    go_enter Try.func9, Try.ntmps9
    go_wp2_with fail
    refine HP.out.mono ?_
    rintro e w1 ⟨rfl, rfl⟩
    go_wp2
    go_ret
    exact ⟨rfl, HM.out, Touch.refl _ _⟩
end Go.Proofs.Ytalgpmnjkfconaa
