/- New. -/
import Derived.Test.YtalgpmnjkfconaaBytesW
namespace Go.Proofs.Ytalgpmnjkfconaa
open Go.RowKit Go.Deep

theorem MemIs_made (w : World) (wd hm : Bool) (mn mx n : Nat) (hn : n ≤ 2097152) :
    MemIs ((w.alloc (.cells (madeCells #[.int .u8 0] n) 5)).alloc (.cells #[.bool wd, .int .u64 mn, .int .u64 mx, .bool hm, .slice (some ⟨w.heap.size, 0, none⟩) n n] 73)) (w.heap.size + 1) w.heap.size n wd hm mn mx (fun _ => 0) := by
  have hs : w.heap.size + 1 = (w.alloc (.cells (madeCells #[.int .u8 0] n) 5)).heap.size := by simp
  refine ⟨?_, ?_, ?_, ?_, ?_, ?_, ((World.rowIs_made w (.int .u8 0) n 5).alloc _).congr (fun _ _ => rfl), fun _ => by omega, by omega, hn⟩
  · rw [World.cell?_alloc_at _ _ _ _ hs]; rfl
  · rw [World.cell?_alloc_at _ _ _ _ hs]; rfl
  · rw [World.cell?_alloc_at _ _ _ _ hs]; rfl
  · rw [World.cell?_alloc_at _ _ _ _ hs]; rfl
  · rw [World.cell?_alloc_at _ _ _ _ hs]; rfl
  · simp

set_option maxRecDepth 100000 in
set_option maxHeartbeats 1000000 in
theorem New_any (wd hm : Bool) (mn mx : Nat) (w : World) (h : mn ≤ 32) :
    Calls Try.prog 8 #[.agg #[.bool wd, .int .u64 mn, .int .u64 mx, .bool hm]] w fun e w' =>
      ∃ p g, e = .returned (.tuple #[.pointer (some ⟨p, 0, none⟩), .int .i64 0]) ∧ MemIs w' p g (mn * 65536) wd hm mn mx (fun _ => 0) ∧ w.heap.size ≤ p ∧ w.heap.size ≤ g ∧ p < w'.heap.size ∧ g < w'.heap.size ∧ Below w.heap.size w w' := by
  have hmk := run_make_row' (P := Try.prog) 31 5 (.int .u8 0) 1 Try.underlying31 info5 rfl .u64 .u64 (mn * 65536) (by omega) (by omega)
  rw [show ((mn * 65536 : Nat) : Int) = (mn : Int) * 65536 by omega] at hmk
  go_enter Try.func8, Try.ntmps8
  go_wp2
  go_region
  all_goals go_wp2
  all_goals go_ret2
  refine ⟨w.heap.size + 1 + 1, w.heap.size + 1, rfl, ?_, by omega, by omega, by simp, by simp, ?_⟩
  · have := MemIs_made (w.alloc (.cells #[.bool wd, .int .u64 mn, .int .u64 mx, .bool hm] 29)) wd hm mn mx (mn * 65536) (by omega)
    rw [World.size_alloc] at this
    exact ⟨this.c0, this.c1, this.c2, this.c3, this.c4, this.z4, this.row, this.lt, this.ne, this.big⟩
  · exact ((((Below.refl _ _).alloc (Nat.le_refl _) _).alloc (by simp) _).alloc (by simp; omega) _).drew
end Go.Proofs.Ytalgpmnjkfconaa
