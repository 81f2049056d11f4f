/- The walk of MemNone. -/
import Derived.Test.YtalgpmnjkfconaaKnownM
namespace Go.Proofs.Ytalgpmnjkfconaa
open Go.RowKit Go.Deep

theorem CloneM_none (w : World) : Calls Try.prog 18 #[.pointer none] w fun e w' => e = .returned (.pointer none) ∧ w = w' := by
  go_enter Try.func18, Try.ntmps18
  go_wp2
  go_ret
  exact ⟨rfl, rfl⟩

theorem run_eql29 (w : World) : (binOp .eql 29 (.agg #[.bool false, .int .u64 0, .int .u64 0, .bool false]) (.agg #[.bool false, .int .u64 0, .int .u64 0, .bool false])).run Try.prog w = .ok (.bool true) w := by
  kernel_rfl

set_option maxRecDepth 100000 in
set_option maxHeartbeats 2000000 in
theorem MemNone_walk (a0 : Int) (a1 : Int) (a2 : Int) (_w0 : (Lit.int .u64 a0).wf = true) (_w1 : (Lit.int .u64 a1).wf = true) (_w2 : (Lit.int .i64 a2).wf = true) (w : World) :
    Calls Try.prog 4 #[.int .u64 a0, .int .u64 a1, .int .i64 a2] w fun e w' => e = .returned (.bool true) ∧ Below w.heap.size w w' := by
  have h8 := Lib.hid (New_any false false 0 0 w (by omega))
  clear _w0 _w1 _w2
  go_enter Try.func4, Try.ntmps4
  go_wp2_with fail
  refine h8.out.mono ?_
  rintro e w1 ⟨p, g, rfl, m1, hp, hg, hp1, hg1, b1⟩
  have B1 := Lib.hid b1
  clear h8 m1 b1
  go_wp2_with fail
  refine (Load_nil _ _ _ _).mono ?_
  rintro e w2 ⟨rfl, rfl⟩
  go_wp2_with fail
  refine (Grow_nil _ _).mono ?_
  rintro e w2 ⟨rfl, rfl⟩
  go_wp2_with fail
  refine (Bytes_nil _ _ _).mono ?_
  rintro e w2 ⟨rfl, rfl⟩
  go_wp2_with fail
  refine (Store_nil _ _ _ _ _).mono ?_
  rintro e w2 ⟨rfl, rfl⟩
  go_wp2_with fail
  refine (Fill_nil _ _ _ _).mono ?_
  rintro e w2 ⟨rfl, rfl⟩
  go_wp2_with fail
  refine (Copy_nil1 _ _ _ _ _).mono ?_
  rintro e w2 ⟨rfl, rfl⟩
  go_wp2_with fail
  refine (Copy_nil2 _ _ _ _ _).mono ?_
  rintro e w2 ⟨rfl, rfl⟩
  go_wp2_with fail
  refine (Init_nil _ _ _ _ _ _ _).mono ?_
  rintro e w2 ⟨rfl, rfl⟩
  go_wp2_with fail
  refine (Size_nil _).mono ?_
  rintro e w2 ⟨rfl, rfl⟩
  go_wp2_with fail
  refine (Limits_nil _).mono ?_
  rintro e w2 ⟨rfl, b2⟩
  have B2 := Lib.hid b2
  clear b2
  have hq := run_eql29
  go_wp2_with fail
  refine (CloneM_none _).mono ?_
  rintro e w3 ⟨rfl, rfl⟩
  go_wp2_with fail
  refine (knownM_any _).mono ?_
  rintro e w3 ⟨rfl, b3⟩
  have B3 := Lib.hid b3
  clear b3 hq
  go_wp2
  go_ret
  have hs := B1.out.size
  have hs2 := B2.out.size
  exact ⟨rfl, (B1.out.trans (B2.out.mono hs)).trans (B3.out.mono (by omega))⟩
end Go.Proofs.Ytalgpmnjkfconaa
