/- table.New. -/
import Derived.Test.YtalgpmnjkfconaaTNewW
namespace Go.Proofs.Ytalgpmnjkfconaa
open Go.RowKit Go.Deep

/-- the type of a table, no element type asked for -/
def tt (mn mx : Nat) (hm : Bool) : Value := .agg #[.int .i64 0, .bool false, .int .i64 0, .int .i64 0, .bool false, .int .u64 mn, .int .u64 mx, .bool hm]

theorem Repeat_ex (q x n : Nat) (hn : n ≤ 10000) (w : World) (hc : w.cell? ⟨q, 0, none⟩ = some (.int .u64 (x : Int))) :
    Calls Try.prog 36 #[.slice (some ⟨q, 0, none⟩) 1 1, .int .i64 n] w fun e w' => ∃ g, e = .returned (.slice (some ⟨g, 0, none⟩) n n) ∧ w'.rowIs g 22 n (fun _ => .int .u64 (x : Int)) ∧ w.heap.size ≤ g ∧ g < w'.heap.size ∧ Below w.heap.size w w' := by
  refine (Repeat_any q x n hn w hc).mono ?_
  rintro e w' ⟨rfl, r, b⟩
  exact ⟨_, rfl, r, Nat.le_refl _, r.lt, b⟩

theorem TabIs_made (w : World) (g n c : Nat) (hm : Bool) (mn mx : Nat) (f : Nat → Nat) (hr : ∃ F, w.rowIs g 22 c F ∧ ∀ i, i < n → F i = .int .u64 (f i : Int)) (hg : g < w.heap.size) (hc : n ≤ c) (hb : n ≤ 10000) (hl : ∀ i, f i < 18446744073709551616) :
    TabIs (w.alloc (.cells #[.int .i64 0, .bool false, .int .i64 0, .int .i64 0, .bool false, .int .u64 mn, .int .u64 mx, .bool hm, .slice (some ⟨g, 0, none⟩) n c] 82)) w.heap.size g n c hm mn mx f := by
  obtain ⟨F, r, hF⟩ := hr
  refine ⟨?_, ?_, ?_, ?_, ?_, ?_, ?_, ?_, ?_, ?_, ⟨F, r.alloc _, hF⟩, by omega, hc, hb, hl⟩
  all_goals first
    | (rw [World.cell?_alloc_at _ _ _ _ rfl]; rfl)
    | simp

set_option maxRecDepth 100000 in
set_option maxHeartbeats 1000000 in
theorem TNew_any (hm : Bool) (mn mx x : Nat) (w : World) (h : mn ≤ 10000) (hx : x < 18446744073709551616) :
    Calls Try.prog 20 #[tt mn mx hm, .int .u64 x] w fun e w' =>
      ∃ p g, e = .returned (.tuple #[.pointer (some ⟨p, 0, none⟩), .int .i64 0]) ∧ TabIs w' p g mn mn hm mn mx (fun _ => x) ∧ w.heap.size ≤ p ∧ w.heap.size ≤ g ∧ Below w.heap.size w w' := by
  have HR := Lib.hid (fun q w hc => Repeat_ex q x mn h w hc)
  have HH := Lib.hid (And.intro h hx)
  unfold tt
  have e0 : IntKind.i64.wrap (mn : Int) = (mn : Int) := by rw [IntKind.wrap_i64]; omega
  clear hx
  go_enter Try.func20, Try.ntmps20
  go_upto_region 3 with fail
  go_region_with (go_at_call 36; refine (HR.out _ _ ?_).mono ?_; (exact World.cell?_alloc_at _ _ _ _ (by simp)); rintro e w3 ⟨g, rfl, r3, hg3, hl3, b3⟩; (
      have kc : ∀ i, w3.cell? ⟨w.heap.size, i, none⟩ = (w.alloc (.cells #[.int .i64 0, .bool false, .int .i64 0, .int .i64 0, .bool false, .int .u64 mn, .int .u64 mx, .bool hm] 58)).cell? ⟨w.heap.size, i, none⟩ :=
        fun i => (b3.cell (p := ⟨w.heap.size, i, none⟩) (by simp; omega)).trans (World.cell?_alloc_past _ _ _ (by simp))
      have k0 := (kc 0).trans (World.cell?_alloc_at _ _ _ _ rfl)
      have k1 := (kc 1).trans (World.cell?_alloc_at _ _ _ _ rfl)
      have k2 := (kc 2).trans (World.cell?_alloc_at _ _ _ _ rfl)
      have k3 := (kc 3).trans (World.cell?_alloc_at _ _ _ _ rfl)
      have k4 := (kc 4).trans (World.cell?_alloc_at _ _ _ _ rfl)
      have k5 := (kc 5).trans (World.cell?_alloc_at _ _ _ _ rfl)
      have k6 := (kc 6).trans (World.cell?_alloc_at _ _ _ _ rfl)
      have k7 := (kc 7).trans (World.cell?_alloc_at _ _ _ _ rfl)
      simp at k0 k1 k2 k3 k4 k5 k6 k7
      have R3 := Lib.hid (TabIs_made w3 g mn mn hm mn mx (fun _ => x) ⟨_, r3, fun _ _ => rfl⟩ hl3 (Nat.le_refl _) HH.out.1 (fun _ => HH.out.2))
      have B3 : Below w.heap.size w w3 := (((Below.refl w.heap.size w).alloc (Nat.le_refl _) _).alloc (by simp) _).drew.trans (b3.mono (by simp; omega))
      have BB := Lib.hid B3
      have HG := Lib.hid (show w.heap.size ≤ g by simp at hg3; omega)
      clear kc r3 b3 hg3 hl3 B3))
  all_goals go_wp2
  all_goals go_ret2
  all_goals exact ⟨w3.heap.size, g, rfl, R3.out, BB.out.size, HG.out, BB.out.alloc BB.out.size _⟩
end Go.Proofs.Ytalgpmnjkfconaa
