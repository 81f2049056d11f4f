/- Fill. -/
import Derived.Test.YtalgpmnjkfconaaCopyW
namespace Go.Proofs.Ytalgpmnjkfconaa
open Go.RowKit Go.Deep

def fillV (f : Nat → Nat) (x m v : Nat) : Nat → Nat := fun j => if x ≤ j ∧ j < x + m then v else f j
theorem fillV_zero (f : Nat → Nat) (x v : Nat) (j : Nat) : f j = fillV f x 0 v j := by unfold fillV; rw [if_neg (by omega)]
theorem fillV_succ (f : Nat → Nat) (x i v : Nat) (j : Nat) : (if j = x + i then v else fillV f x i v j) = fillV f x (i + 1) v j := by
  unfold fillV
  by_cases e : j = x + i
  · rw [if_pos e, if_pos (by omega)]
  · rw [if_neg e]
    by_cases h : x ≤ j ∧ j < x + i
    · rw [if_pos h, if_pos (by omega)]
    · rw [if_neg h, if_neg (by omega)]

set_option maxRecDepth 100000 in
set_option maxHeartbeats 1000000 in
theorem Fill_ok {w : World} {p g n : Nat} {wd hm : Bool} {mn mx : Nat} {f : Nat → Nat} (h : MemIs w p g n wd hm mn mx f) (x m v : Nat) (hv : v < 256) (hin : x + m ≤ n) :
    Calls Try.prog 14 #[.pointer (some ⟨p, 0, none⟩), .int .u64 x, .int .u8 v, .int .u64 m] w fun e w' => e = .returned (.int .i64 0) ∧ MemIs w' p g n wd hm mn mx (fillV f x m v) ∧ Touch g w w' := by
  have hc := h.c4
  have hb := h.big
  have I1 := in_any x m n (by omega) (by omega) (by omega)
  rw [show decide (x + m ≤ n) = true by simpa using hin] at I1
  have I1 := Lib.hid I1
  have HM := Lib.hid h
  clear h
  by_cases hx : x = n
  · have hm0 : m = 0 := by omega
    subst hm0
    have HM := Lib.hid (HM.out.congr (fillV_zero f x v))
    subst hx
    go_enter Try.func14, Try.ntmps14
    go_wp2_with fail
    refine (I1.out _).mono ?_
    rintro e w1 ⟨rfl, rfl⟩
    go_wp2
    refine wp_loop_rounds 1 ?_
    rw [rounds_succ]
    go_wp2
    go_ret
    exact ⟨rfl, HM.out, Touch.refl _ _⟩
  · go_enter Try.func14, Try.ntmps14
    go_wp2_with fail
    refine (I1.out _).mono ?_
    rintro e w1 ⟨rfl, rfl⟩
    have hxn : x < n := by omega
    go_wp2
    simp only [Nat.add_sub_cancel_left]
    go_loopw [33, 10] (fun b _ wr => ∃ i : Nat, b = .int .i64 (i : Int) ∧ i ≤ m ∧ MemIs wr p g n wd hm mn mx (fillV f x i v) ∧ Touch g w wr) (fun b _ _ => m - (intOf b).toNat)
    case atStart => exact ⟨0, rfl, by omega, HM.out.congr (fillV_zero f x v), Touch.refl _ _⟩
    case round =>
      obtain ⟨i, rfl, hi, hm', ht⟩ := hrel
      have HMI := Lib.hid hm'
      have HT := Lib.hid ht
      clear hm' ht
      by_cases hlt : i < m
      · have hcell := HMI.out.row.cell (show x + i < n by omega)
        have hfr := HMI.out.row.frozen (x + i)
        have HST := Lib.hid ((HMI.out.set (x + i) v hv).congr (fillV_succ f x i v))
        go_wp2
        go_roundw
        case rel => exact ⟨i + 1, by go_num, by omega, HST.out, HT.out.setCell rfl _⟩
        case measure => simp [intOf]; omega
      · have hiK : i = m := by omega
        subst hiK
        go_wp2
        go_ret
        exact ⟨rfl, HMI.out, HT.out⟩
end Go.Proofs.Ytalgpmnjkfconaa
