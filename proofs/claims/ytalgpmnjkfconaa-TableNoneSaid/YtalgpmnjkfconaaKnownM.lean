/- The chapter's rows of the memory answer as they should. -/
import Derived.Test.YtalgpmnjkfconaaGrowW
namespace Go.Proofs.Ytalgpmnjkfconaa
open Go.RowKit Go.Deep

theorem placeV_yes {n x o : Nat} {k : Int} (hw : wide k = true) (h : x + o + k.toNat ≤ n) : placeV n x o k = (x + o, 0) := by
  unfold placeV
  rw [if_neg (by simp [hw]), if_pos h]
theorem placeV_no {n x o : Nat} {k : Int} (hw : wide k = true) (h : n < x + o + k.toNat) : placeV n x o k = (0, 260) := by
  unfold placeV
  rw [if_neg (by simp [hw]), if_neg (by omega)]
theorem loadV_ok {n : Nat} (f : Nat → Nat) {x o : Nat} {k : Int} (hw : wide k = true) (h : x + o + k.toNat ≤ n) : loadV n f x o k = (num (fun i => f (x + o + i)) k.toNat, 0) := by
  unfold loadV
  rw [placeV_yes hw h, if_pos rfl]
theorem loadV_bad {n : Nat} (f : Nat → Nat) {x o : Nat} {k : Int} (hw : wide k = true) (h : n < x + o + k.toNat) : loadV n f x o k = (0, 260) := by
  unfold loadV
  rw [placeV_no hw h]
  simp

set_option maxRecDepth 100000 in
set_option maxHeartbeats 2000000 in
theorem knownM_any (w : World) : Calls Try.prog 7 #[] w fun e w' => e = .returned (.bool true) ∧ Below w.heap.size w w' := by
  have h8 := Lib.hid (New_any false true 1 2 w (by omega))
  go_enter Try.func7, Try.ntmps7
  go_wp2_with fail
  refine h8.out.mono ?_
  rintro e w1 ⟨p, g, rfl, m1, hp, hg, hp1, hg1, b1⟩
  clear h8
  obtain ⟨F, hF⟩ : ∃ F : Nat → Nat, F = fun _ => 0 := ⟨_, rfl⟩
  obtain ⟨n, hn⟩ : ∃ n : Nat, n = 1 * 65536 := ⟨_, rfl⟩
  rw [← hF] at m1
  have h9 : Calls Try.prog 9 #[.pointer (some ⟨p, 0, none⟩), .int .u64 0, .int .u64 1, .int .i64 4, .int .u64 258] w1 fun e w' =>
      e = .returned (.int .i64 0) ∧ MemIs w' p g (1 * 65536) false true 1 2 (lay F 1 258 4) ∧ Touch g w1 w' := by
    have h := Store_any m1 0 1 4 258 (by omega) (by omega) (by omega)
    rw [placeV_yes (by decide) (by show 5 ≤ _; omega), if_pos rfl] at h
    exact h
  have HB := Lib.hid b1
  have H9 := Lib.hid h9
  clear h9 m1 b1
  go_wp2_with fail
  refine H9.out.mono ?_
  rintro e w2 ⟨rfl, m2, t2⟩
  clear H9
  have HL0 := Lib.hid hF
  have l1 : Calls Try.prog 11 #[.pointer (some ⟨p, 0, none⟩), .int .u64 0, .int .u64 1, .int .i64 1] w2 fun e w' => e = .returned (.tuple #[.int .u64 2, .int .i64 0]) ∧ w2 = w' := by
    have h := Load_any m2 0 1 1 (by omega) (by omega)
    rw [loadV_ok _ (by decide) (by show 2 ≤ _; omega)] at h
    exact h
  have l2 : Calls Try.prog 11 #[.pointer (some ⟨p, 0, none⟩), .int .u64 0, .int .u64 2, .int .i64 2] w2 fun e w' => e = .returned (.tuple #[.int .u64 1, .int .i64 0]) ∧ w2 = w' := by
    have h := Load_any m2 0 2 2 (by omega) (by omega)
    rw [loadV_ok _ (by decide) (by show 4 ≤ _; omega)] at h
    exact h
  have l3 : Calls Try.prog 11 #[.pointer (some ⟨p, 0, none⟩), .int .u64 65533, .int .u64 0, .int .i64 4] w2 fun e w' => e = .returned (.tuple #[.int .u64 0, .int .i64 260]) ∧ w2 = w' := by
    have h := Load_any m2 65533 0 4 (by omega) (by omega)
    rw [loadV_bad _ (by decide) (by show _ < 65533 + 0 + 4; omega)] at h
    exact h
  have l4 : Calls Try.prog 11 #[.pointer (some ⟨p, 0, none⟩), .int .u64 18446744073709551615, .int .u64 2, .int .i64 1] w2 fun e w' => e = .returned (.tuple #[.int .u64 0, .int .i64 260]) ∧ w2 = w' := by
    have h := Load_any m2 18446744073709551615 2 1 (by omega) (by omega)
    rw [loadV_bad _ (by decide) (by show _ < 18446744073709551615 + 2 + 1; omega)] at h
    exact h
  have g1 : Calls Try.prog 13 #[.pointer (some ⟨p, 0, none⟩), .int .u64 1] w2 fun e w' => e = .returned (.tuple #[.int .u64 1, .bool true]) ∧
      MemIs w' p w2.heap.size (2 * 65536) false true 1 2 (fun j => if j < 1 * 65536 then lay F 1 258 4 j else 0) ∧ Touch p w2 w' := Grow_ok m2 1 (by omega) (by omega) (by omega)
  have L1 := Lib.hid l1
  have L2 := Lib.hid l2
  have L3 := Lib.hid l3
  have L4 := Lib.hid l4
  have G1 := Lib.hid g1
  have T2 := Lib.hid t2
  clear l1 l2 l3 l4 g1 m2 t2
  go_wp2_with fail
  refine L1.out.mono ?_
  rintro e w3 ⟨rfl, rfl⟩
  clear L1
  go_wp2_with fail
  refine L2.out.mono ?_
  rintro e w3 ⟨rfl, rfl⟩
  clear L2
  go_wp2_with fail
  refine L3.out.mono ?_
  rintro e w3 ⟨rfl, rfl⟩
  clear L3
  go_wp2_with fail
  refine L4.out.mono ?_
  rintro e w3 ⟨rfl, rfl⟩
  clear L4
  go_wp2_with fail
  refine G1.out.mono ?_
  rintro e w3 ⟨rfl, m3, t3⟩
  clear G1
  obtain ⟨F', hF'⟩ : ∃ F' : Nat → Nat, F' = (fun j => if j < 1 * 65536 then lay F 1 258 4 j else 0) := ⟨_, rfl⟩
  rw [← hF'] at m3
  have g2 : Calls Try.prog 13 #[.pointer (some ⟨p, 0, none⟩), .int .u64 1] w3 fun e w' => e = .returned (.tuple #[.int .u64 0, .bool false]) ∧ w3 = w' := Grow_no m3 1 (by omega) (by omega) (by omega)
  have G2 := Lib.hid g2
  have f1 := Lib.hid (Fill_ok m3 65536 0 0 (by omega) (by omega))
  have T3 := Lib.hid t3
  clear g2 m3 t3
  go_wp2_with fail
  refine G2.out.mono ?_
  rintro e w4 ⟨rfl, rfl⟩
  clear G2
  go_wp2_with fail
  refine f1.out.mono ?_
  rintro e w4 ⟨rfl, m4, t4⟩
  clear f1
  have s1 : Calls Try.prog 16 #[.pointer (some ⟨p, 0, none⟩)] w4 fun e w' => e = .returned (.int .u64 2) ∧ w4 = w' := Size_any m4
  have S1 := Lib.hid s1
  have T4 := Lib.hid t4
  clear s1 m4 t4
  go_wp2_with fail
  refine S1.out.mono ?_
  rintro e w5 ⟨rfl, rfl⟩
  go_wp2
  go_ret
  have hs := HB.out.size
  have hs2 := T2.out.size
  have hs3 := T3.out.size
  exact ⟨rfl, ((HB.out.trans (T2.out.below hg hs)).trans (T3.out.below hp (by omega))).trans (T4.out.below (by omega) (by omega))⟩
end Go.Proofs.Ytalgpmnjkfconaa
