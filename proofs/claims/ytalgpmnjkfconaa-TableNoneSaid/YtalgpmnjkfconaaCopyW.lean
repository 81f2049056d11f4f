/- Size, Limits of nil, Fill, Grow, Copy. -/
import Derived.Test.YtalgpmnjkfconaaInitW
namespace Go.Proofs.Ytalgpmnjkfconaa
open Go.RowKit Go.Deep

set_option maxRecDepth 100000 in
theorem Size_any {w : World} {p g n : Nat} {wd hm : Bool} {mn mx : Nat} {f : Nat → Nat} (h : MemIs w p g n wd hm mn mx f) :
    Calls Try.prog 16 #[.pointer (some ⟨p, 0, none⟩)] w fun e w' => e = .returned (.int .u64 ((n / 65536 : Nat) : Int)) ∧ w = w' := by
  have hc := h.c4
  have hb := h.big
  clear h
  go_enter Try.func16, Try.ntmps16
  go_wp2
  go_ret
  exact ⟨ret_i (by omega), rfl⟩

theorem Limits_nil (w : World) : Calls Try.prog 17 #[.pointer none] w fun e w' => e = .returned (.agg #[.bool false, .int .u64 0, .int .u64 0, .bool false]) ∧ Below w.heap.size w w' := by
  go_enter Try.func17, Try.ntmps17
  go_wp2
  refine bodyPost_ret (v := .agg #[.bool false, .int .u64 0, .int .u64 0, .bool false]) (by simp [results, Try.results17, go_sem]) rfl ⟨rfl, (Below.refl _ _).alloc (Nat.le_refl _) _⟩

set_option maxRecDepth 100000 in
set_option maxHeartbeats 1000000 in
theorem Copy_ok {w : World} {p g n : Nat} {wd hm : Bool} {mn mx : Nat} {f : Nat → Nat} {p2 g2 n2 : Nat} {wd2 hm2 : Bool} {mn2 mx2 : Nat} {f2 : Nat → Nat} (h : MemIs w p g n wd hm mn mx f) (h2 : MemIs w p2 g2 n2 wd2 hm2 mn2 mx2 f2) (x s m : Nat)
    (hin1 : x + m ≤ n) (hin2 : s + m ≤ n2) :
    Calls Try.prog 12 #[.pointer (some ⟨p, 0, none⟩), .int .u64 x, .pointer (some ⟨p2, 0, none⟩), .int .u64 s, .int .u64 m] w fun e w' =>
      e = .returned (.int .i64 0) ∧ MemIs w' p g n wd hm mn mx (put f x (part f2 0 n2) s m) ∧ Touch g w w' := by
  have hc := h2.c4
  have hb := h2.big
  have hl := len_part f2 0 n2
  have HI := Init_ok h x s m ⟨g2, 0, none⟩ (part f2 0 n2) n2 (h2.part 0 n2 (by omega)) (by omega) (by omega) hin1 (by omega)
  rw [hl] at HI
  have HI := Lib.hid HI
  clear h h2 hl hin1 hin2
  go_enter Try.func12, Try.ntmps12
  go_wp2_with fail
  refine HI.out.mono ?_
  rintro e w1 ⟨rfl, hm, ht⟩
  have HM := Lib.hid hm
  have HT := Lib.hid ht
  clear hm ht
  go_wp2
  go_ret
  exact ⟨rfl, HM.out, HT.out⟩
theorem Copy_bad {w : World} {p g n : Nat} {wd hm : Bool} {mn mx : Nat} {f : Nat → Nat} {p2 g2 n2 : Nat} {wd2 hm2 : Bool} {mn2 mx2 : Nat} {f2 : Nat → Nat} (h : MemIs w p g n wd hm mn mx f) (h2 : MemIs w p2 g2 n2 wd2 hm2 mn2 mx2 f2) (x s m : Nat)
    (hx : x < 18446744073709551616) (hs : s < 18446744073709551616) (hm' : m < 18446744073709551616) (hin : ¬ (x + m ≤ n ∧ s + m ≤ n2)) :
    Calls Try.prog 12 #[.pointer (some ⟨p, 0, none⟩), .int .u64 x, .pointer (some ⟨p2, 0, none⟩), .int .u64 s, .int .u64 m] w fun e w' => e = .returned (.int .i64 260) ∧ w = w' := by
  have hc := h2.c4
  have HI := Lib.hid (Init_bad h x s m (some ⟨g2, 0, none⟩) n2 n2 hx hs hm' h2.big hin)
  clear h h2 hx hs hm' hin
  go_enter Try.func12, Try.ntmps12
  go_wp2_with fail
  refine HI.out.mono ?_
  rintro e w1 ⟨rfl, rfl⟩
  go_wp2
  go_ret
  exact ⟨rfl, rfl⟩
end Go.Proofs.Ytalgpmnjkfconaa
