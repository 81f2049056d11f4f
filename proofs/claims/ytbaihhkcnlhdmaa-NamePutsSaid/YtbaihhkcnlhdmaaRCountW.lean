/- The reference's Count: geoderef02.Count. -/
import Derived.Test.YtbaihhkcnlhdmaaOneW
import Derived.Test.YtbaihhkcnlhdmaaCutsW
namespace Go.Proofs.Ytbaihhkcnlhdmaa
open Go.RowKit NameM

set_option maxRecDepth 100000 in
set_option maxHeartbeats 1000000 in
theorem rCount_r (s : ByteArray) (C : Int) (hs : s.size ≤ 4611686018427387904) (HCC : Hid (C = cnt (nb s))) (w : World) :
    Calls Try.prog 19 #[.string s] w fun e w' => e = .returned (.int .i64 C) ∧ Below w.heap.size w w' := by
  go_enter Try.func19, Try.ntmps19
  go_wp2
  go_loopw [3, 4] (fun x y wr => ∃ (m pos : Nat), x = .int .i64 (m : Int) ∧ y = .int .i64 (pos : Int) ∧ pos ≤ s.size ∧ m ≤ pos ∧ C = (if cnt ((nb s).drop pos) < 0 then -1 else (m : Int) + cnt ((nb s).drop pos)) ∧ Below w.heap.size w wr) (fun _ y _ => s.size - (intOf y).toNat)
  case atStart =>
    refine ⟨0, 0, rfl, rfl, by omega, by omega, ?_, Below.refl _ _⟩
    rw [HCC.out, List.drop_zero]
    have := cnt_ge (nb s)
    split <;> omega
  case round =>
    obtain ⟨m, pos, rfl, rfl, hp, hm, hC, hbl⟩ := hrel
    have HC := Lib.hid hC
    have B0 := Lib.hid hbl
    clear hC hbl
    by_cases hlt : pos < s.size
    · have hnx : nb (s.extract pos s.size) = (nb s).drop pos := by rw [nb_extract, List.take_of_length_le]; rw [List.length_drop, len_nb]; exact Nat.le_refl _
      have h1 := One_any (s.extract pos s.size) (by have := size_extract_le s pos s.size; omega)
      rw [hnx] at h1
      have H1 := Lib.hid h1
      have hle := one_le ((nb s).drop pos)
      rw [List.length_drop, len_nb] at hle
      have hne : (nb s).drop pos ≠ [] := by intro h; have := congrArg List.length h; simp [len_nb] at this; omega
      obtain ⟨o, ho⟩ : ∃ o, o = one ((nb s).drop pos) := ⟨_, rfl⟩
      rw [← ho] at H1 hle
      clear h1 hnx
      by_cases h0 : o = 0
      · subst h0
        have HCN := Lib.hid (show C = -1 by rw [HC.out, cnt_zero hne ho.symm]; simp)
        clear ho hne hle
        go_wp2_with fail
        refine (H1.out _).mono ?_
        rintro e w2 ⟨rfl, hb⟩
        have B1 := Lib.hid (B0.out.trans (hb.mono (by have := B0.out.size; omega)))
        clear hb
        go_wp2
        go_ret
        exact ⟨ret_i HCN.out.symm, B1.out⟩
      · have hcs := cnt_step (l := (nb s).drop pos) (by omega)
        have HCN := Lib.hid (show C = if cnt ((nb s).drop (pos + o)) < 0 then -1 else ((m + 1 : Nat) : Int) + cnt ((nb s).drop (pos + o)) by
          rw [HC.out, hcs, ← ho, List.drop_drop]
          split
          · rename_i h; rw [if_pos (by omega)]
          · rename_i h; rw [if_neg (by omega)]; omega)
        have hob : ((o : Int) == 0) = false := by simp; omega
        clear hcs ho hne
        go_wp2_with fail
        refine (H1.out _).mono ?_
        rintro e w2 ⟨rfl, hb⟩
        have B1 := Lib.hid (B0.out.trans (hb.mono (by have := B0.out.size; omega)))
        clear hb
        go_wp2
        go_roundw
        case rel => exact ⟨m + 1, pos + o, by go_num, by go_num, by omega, by omega, HCN.out, B1.out⟩
        case measure => simp [intOf]; omega
    · have HCN := Lib.hid (show C = m by
        rw [HC.out, List.drop_of_length_le (by rw [len_nb]; omega), cnt_nil]; simp)
      go_wp2
      go_ret
      exact ⟨ret_i HCN.out.symm, B0.out⟩

theorem rCount_any (s : ByteArray) (hs : s.size ≤ 4611686018427387904) (w : World) :
    Calls Try.prog 19 #[.string s] w fun e w' => e = .returned (.int .i64 (cnt (nb s))) ∧ Below w.heap.size w w' := rCount_r s _ hs (Lib.hid rfl) w
end Go.Proofs.Ytbaihhkcnlhdmaa
