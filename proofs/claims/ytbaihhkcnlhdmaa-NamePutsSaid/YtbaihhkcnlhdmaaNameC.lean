/- The contracts of name.Count and name.Well. -/
import Derived.Test.YtbaihhkcnlhdmaaNameD
import Derived.Lib.Strings
namespace Go.Proofs.Ytbaihhkcnlhdmaa
open Go.RowKit NameM

theorem hasPrefix_pf (s : ByteArray) (i : Nat) : Lib.hasPrefix (s.extract i s.size).data.toList [239, 191, 189] = pf ((nb s).drop i) := by
  have e : (s.extract i s.size).data.toList = s.data.toList.drop i := by
    rw [ByteArray.data_extract, Array.toList_extract]
    simp [List.extract, List.take_of_length_le]
  rw [e]
  unfold pf nb Lib.hasPrefix
  rw [← List.map_drop]
  generalize s.data.toList.drop i = l
  match l with
  | [] => rfl
  | [a] => simp [List.isPrefixOf]
  | [a, b] => simp [List.isPrefixOf]
  | a :: b :: c :: t =>
    rw [Bool.eq_iff_iff]
    simp [List.isPrefixOf, ← UInt8.toNat_inj]
    omega

set_option maxRecDepth 100000 in
set_option maxHeartbeats 1000000 in
theorem Count_r (s : ByteArray) (C : Int) (hs : s.size ≤ 4611686018427387904) (HCC : Hid (C = cnt (nb s))) (w : World) :
    Calls Try.prog 20 #[.string s] w fun e w' => e = .returned (.int .i64 C) ∧ Below w.heap.size w w' := by
  go_enter Try.func20, Try.ntmps20
  go_wp2
  go_loopw [3] (fun n wr => ∃ (pos m : Nat), wr = w.iter s pos ∧ n = .int .i64 (m : Int) ∧ pos ≤ s.size ∧ m ≤ pos ∧ C = (if cnt ((nb s).drop pos) < 0 then -1 else (m : Int) + cnt ((nb s).drop pos))) (fun _ wr => s.size - wr.iterPos w.heap.size)
  case atStart =>
    refine ⟨0, 0, rfl, rfl, by omega, by omega, ?_⟩
    rw [HCC.out, List.drop_zero]
    have := cnt_ge (nb s)
    split <;> omega
  case round =>
    obtain ⟨pos, m, rfl, rfl, hp, hm, hC⟩ := hrel
    have HC := Lib.hid hC
    clear hC
    have B1 := Lib.hid ((Below.refl w.heap.size w).alloc (Nat.le_refl _) (.stringIter s pos))
    by_cases hlt : pos < s.size
    · obtain ⟨r, wd, hd⟩ : ∃ r wd, Utf8.decode s pos = (r, wd) := ⟨_, _, rfl⟩
      have hnx : ∀ ty, (Instr.next (.pointer (some ⟨w.heap.size, 0, none⟩)) true ty).run Try.prog (w.iter s pos) = .ok (.tuple #[.bool true, .int .i64 pos, .int .i32 r]) (w.iter s (pos + wd)) := fun ty => by
        have := run_next_any (P := Try.prog) w s pos ty hlt
        rw [hd] at this; exact this
      obtain ⟨d1, d2⟩ := dec_one s pos hlt
      rw [hd] at d1 d2
      have hne : (nb s).drop pos ≠ [] := by intro h; have := congrArg List.length h; simp [len_nb] at this; omega
      have hol := one_le ((nb s).drop pos)
      rw [List.length_drop, len_nb] at hol
      have HP := Lib.hid (hasPrefix_pf s pos)
      have B2 := Lib.hid ((Below.refl w.heap.size w).alloc (Nat.le_refl _) (.stringIter s (pos + wd)))
      by_cases h1 : one ((nb s).drop pos) = 0
      · have := d1 h1
        simp only [Prod.mk.injEq] at this
        obtain ⟨rfl, rfl⟩ := this
        have hpf : pf ((nb s).drop pos) = false := by
          by_cases h : pf ((nb s).drop pos) = true
          · rw [pf_one h] at h1; omega
          · simpa using h
        have hh := Try.strings_HasPrefix (s.extract pos s.size) ⟨#[239, 191, 189]⟩
        rw [show ((⟨#[239, 191, 189]⟩ : ByteArray).data.toList) = [239, 191, 189] from rfl, HP.out, hpf] at hh
        have HH := Lib.hid hh
        have HCN := Lib.hid (show C = -1 by rw [HC.out, cnt_zero hne h1]; simp)
        clear hd d1 d2 hne hol h1 hpf hh
        go_wp2_with fail
        refine (HH.out _).mono ?_
        rintro e w2 ⟨rfl, rfl⟩
        go_wp2
        go_ret
        exact ⟨ret_i HCN.out.symm, B2.out⟩
      · obtain ⟨hw, hr⟩ := d2 h1
        simp only at hw hr
        have hcs := cnt_step h1
        have HCN := Lib.hid (show C = if cnt ((nb s).drop (pos + wd)) < 0 then -1 else ((m + 1 : Nat) : Int) + cnt ((nb s).drop (pos + wd)) by
          rw [HC.out, hcs, ← hw, List.drop_drop]
          split
          · rename_i h; rw [if_pos (by omega)]
          · rename_i h; rw [if_neg (by omega)]; omega)
        have hwd1 : 1 ≤ wd := by omega
        have hwd2 : pos + wd ≤ s.size := by omega
        by_cases hr3 : r = 65533
        · subst hr3
          have hh := Try.strings_HasPrefix (s.extract pos s.size) ⟨#[239, 191, 189]⟩
          rw [show ((⟨#[239, 191, 189]⟩ : ByteArray).data.toList) = [239, 191, 189] from rfl, HP.out, hr rfl] at hh
          have HH := Lib.hid hh
          clear hd d1 d2 hne hol h1 hw hr hcs hh
          go_wp2_with fail
          refine (HH.out _).mono ?_
          rintro e w2 ⟨rfl, rfl⟩
          go_wp2
          go_roundw
          case rel => exact ⟨pos + wd, m + 1, rfl, by go_num, hwd2, by omega, HCN.out⟩
          case measure => simp; omega
        · have hrb : ((r : Int) == 65533) = false := by simp; omega
          clear hd d1 d2 hne hol h1 hw hr hcs
          go_wp2
          go_roundw
          case rel => exact ⟨pos + wd, m + 1, rfl, by go_num, hwd2, by omega, HCN.out⟩
          case measure => simp; omega
    · have hnx : ∀ ty, (Instr.next (.pointer (some ⟨w.heap.size, 0, none⟩)) true ty).run Try.prog (w.iter s pos) = _ := fun ty => run_next_end w s pos ty hlt
      have HCN := Lib.hid (show C = m by
        rw [HC.out, List.drop_of_length_le (by rw [len_nb]; omega), cnt_nil]; simp)
      go_wp2
      go_ret
      exact ⟨ret_i HCN.out.symm, B1.out⟩

theorem Count_any (s : ByteArray) (hs : s.size ≤ 4611686018427387904) (w : World) :
    Calls Try.prog 20 #[.string s] w fun e w' => e = .returned (.int .i64 (cnt (nb s))) ∧ Below w.heap.size w w' := Count_r s _ hs (Lib.hid rfl) w

theorem Well_any (s : ByteArray) (hs : s.size ≤ 4611686018427387904) (w : World) :
    Calls Try.prog 18 #[.string s] w fun e w' => e = .returned (.bool (decide (0 ≤ cnt (nb s)))) ∧ Below w.heap.size w w' := by
  have H := Lib.hid (Count_any s hs)
  generalize cnt (nb s) = C at H
  go_enter Try.func18, Try.ntmps18
  go_wp2_with fail
  refine (H.out _).mono ?_
  rintro e w1 ⟨rfl, hb⟩
  have B1 := Lib.hid hb
  clear hb
  go_wp2
  go_ret
  exact ⟨rfl, B1.out⟩
end Go.Proofs.Ytbaihhkcnlhdmaa
