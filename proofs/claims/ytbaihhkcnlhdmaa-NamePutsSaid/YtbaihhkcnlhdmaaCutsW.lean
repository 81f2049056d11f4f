/- The walk of NameCuts. -/
import Derived.Test.YtbaihhkcnlhdmaaJoinsW
namespace Go.Proofs.Ytbaihhkcnlhdmaa
open Go.RowKit NameM

theorem nb_extract (s : ByteArray) (i j : Nat) : nb (s.extract i j) = ((nb s).drop i).take (j - i) := by
  unfold nb
  rw [Lib.extract_data, List.map_take, List.map_drop]
theorem size_extract_le (s : ByteArray) (i j : Nat) : (s.extract i j).size ≤ s.size := by simp; omega
theorem byte_nb (s : ByteArray) (i : Nat) (h : i < s.size) : (s[i]'h).toNat = ((nb s).drop i).getD 0 0 := by
  rw [getD_drop_nb, Nat.add_zero, ← get_nb]
  exact congrArg UInt8.toNat (get_at s i h).symm

set_option maxRecDepth 100000 in
set_option maxHeartbeats 1000000 in
theorem cuts_in (s t : ByteArray) (p : Nat) (w : World) (hs : s.size ≤ 200) (ht : t.size ≤ 200) (hp : p ≤ s.size) (h1 : 0 ≤ cnt (nb s)) :
    Calls Try.prog 5 #[.string s, .string t, .int .i64 p] w fun e w' => e = .returned (.bool true) ∧ Below w.heap.size w w' := by
  obtain ⟨b, hb⟩ : ∃ b, b = decide (0 ≤ cnt (nb t)) := ⟨_, rfl⟩
  have hcut : nb s = (nb s).take p ++ (nb s).drop p := (List.take_append_drop p _).symm
  have ex : nb (s.extract 0 p) = (nb s).take p := by rw [nb_extract, List.drop_zero, Nat.sub_zero]
  have ey : nb (s.extract p s.size) = (nb s).drop p := by rw [nb_extract, List.take_of_length_le]; rw [List.length_drop, len_nb]; exact Nat.le_refl _
  have hab : decide (0 ≤ cnt (nb (s ++ t))) = b := by
    rw [nb_append, cnt_app _ _ h1, hb]
    have := cnt_ge (nb t)
    by_cases h : cnt (nb t) < 0
    · rw [if_pos h]; simp; omega
    · rw [if_neg h]; simp; omega
  have hba : decide (0 ≤ cnt (nb (t ++ s))) = b := by
    rw [nb_append, hb]
    by_cases h : 0 ≤ cnt (nb t)
    · rw [cnt_app _ _ h, if_neg (by omega)]; simp; omega
    · have : ¬ 0 ≤ cnt (nb t ++ nb s) := fun hc => h (cnt_cut _ _ hc (head_ok h1)).1
      simp [h, this]
  have WA := Lib.hid (W_of (s := s) (t := true) (by omega) (by simpa using h1))
  have WB := Lib.hid (W_of (s := t) (t := b) (by omega) hb.symm)
  have WAB := Lib.hid (W_of (s := s ++ t) (t := b) (by rw [size_append]; omega) hab)
  have WBA := Lib.hid (W_of (s := t ++ s) (t := b) (by rw [size_append]; omega) hba)
  have z1 := size_extract_le s 0 p
  have z2 := size_extract_le s p s.size
  by_cases hend : p = s.size
  · have hx : decide (0 ≤ cnt (nb (s.extract 0 p))) = true := by rw [ex, List.take_of_length_le (by rw [len_nb]; omega)]; simpa using h1
    have hy : decide (0 ≤ cnt (nb (s.extract p s.size))) = true := by rw [ey, List.drop_of_length_le (by rw [len_nb]; omega), cnt_nil]; simp
    have WE := Lib.hid (W_of (s := ByteArray.empty) (t := true) (by decide) (by rw [show nb ByteArray.empty = [] from rfl, cnt_nil]; simp))
    clear hab hba hcut ex ey hx hy hb h1 z1 z2
    subst hend
    go_enter Try.func5, Try.ntmps5
    go_wp2_with fail
    refine (knownN_any _).mono ?_
    rintro e w1 ⟨rfl, hb⟩
    have B1 := Lib.hid hb
    clear hb
    go_wp2_with fail
    refine (WA.out _).mono ?_
    rintro e wn ⟨rfl, hb⟩
    have B1 := Lib.hid (B1.out.trans (hb.mono B1.out.size))
    clear hb
    go_wp2_with fail
    refine (WA.out _).mono ?_
    rintro e wn ⟨rfl, hb⟩
    have B1 := Lib.hid (B1.out.trans (hb.mono B1.out.size))
    clear hb
    go_wp2_with fail
    refine (WE.out _).mono ?_
    rintro e wn ⟨rfl, hb⟩
    have B1 := Lib.hid (B1.out.trans (hb.mono B1.out.size))
    clear hb
    go_wp2_with fail
    refine (WAB.out _).mono ?_
    rintro e wn ⟨rfl, hb⟩
    have B1 := Lib.hid (B1.out.trans (hb.mono B1.out.size))
    clear hb
    go_wp2_with fail
    refine (WB.out _).mono ?_
    rintro e wn ⟨rfl, hb⟩
    have B1 := Lib.hid (B1.out.trans (hb.mono B1.out.size))
    clear hb
    go_wp2_with fail
    refine (WBA.out _).mono ?_
    rintro e wn ⟨rfl, hb⟩
    have B1 := Lib.hid (B1.out.trans (hb.mono B1.out.size))
    clear hb
    go_wp2_with fail
    refine (WB.out _).mono ?_
    rintro e wn ⟨rfl, hb⟩
    have B1 := Lib.hid (B1.out.trans (hb.mono B1.out.size))
    clear hb
    go_wp2
    go_ret
    exact ⟨rfl, B1.out⟩
  · have hlt : p < s.size := by omega
    have hc := byte_nb s p hlt
    have hne : (nb s).drop p ≠ [] := by intro h; have := congrArg List.length h; simp [len_nb] at this; omega
    have hc256 : (s[p]'hlt).toNat < 256 := (s[p]'hlt).toNat_lt
    by_cases hco : 128 ≤ (s[p]'hlt).toNat ∧ (s[p]'hlt).toNat ≤ 191
    · have hyn : cnt ((nb s).drop p) < 0 := cnt_co hne (by rw [← hc]; exact hco)
      have hxn : ¬ 0 ≤ cnt ((nb s).take p) := by
        intro hx
        rw [hcut, cnt_app _ _ hx, if_pos hyn] at h1
        omega
      have WX := Lib.hid (W_of (s := s.extract 0 p) (t := false) (by omega) (by rw [ex]; simpa using hxn))
      have WY := Lib.hid (W_of (s := s.extract p s.size) (t := false) (by omega) (by rw [ey]; simp; omega))
      clear hab hba hcut ex ey hb h1 z1 z2 hyn hxn hne hc
      obtain ⟨hco1, hco2⟩ := hco
      have hq1 : ((p : Int) == (s.size : Int)) = false := by simp; omega
      have hq2 : decide (((s[p]'hlt).toNat : Int) < 128) = false := by simp; omega
      have hq3 : decide ((192 : Int) ≤ ((s[p]'hlt).toNat : Int)) = false := by simp; omega
      go_enter Try.func5, Try.ntmps5
      go_wp2_with fail
      refine (knownN_any _).mono ?_
      rintro e w1 ⟨rfl, hb⟩
      have B1 := Lib.hid hb
      clear hb
      go_wp2_with fail
      refine (WA.out _).mono ?_
      rintro e wn ⟨rfl, hb⟩
      have B1 := Lib.hid (B1.out.trans (hb.mono B1.out.size))
      clear hb
      go_wp2_with fail
      refine (WX.out _).mono ?_
      rintro e wn ⟨rfl, hb⟩
      have B1 := Lib.hid (B1.out.trans (hb.mono B1.out.size))
      clear hb
      go_wp2_with fail
      refine (WY.out _).mono ?_
      rintro e wn ⟨rfl, hb⟩
      have B1 := Lib.hid (B1.out.trans (hb.mono B1.out.size))
      clear hb
      go_wp2_with fail
      refine (WAB.out _).mono ?_
      rintro e wn ⟨rfl, hb⟩
      have B1 := Lib.hid (B1.out.trans (hb.mono B1.out.size))
      clear hb
      go_wp2_with fail
      refine (WB.out _).mono ?_
      rintro e wn ⟨rfl, hb⟩
      have B1 := Lib.hid (B1.out.trans (hb.mono B1.out.size))
      clear hb
      go_wp2_with fail
      refine (WBA.out _).mono ?_
      rintro e wn ⟨rfl, hb⟩
      have B1 := Lib.hid (B1.out.trans (hb.mono B1.out.size))
      clear hb
      go_wp2_with fail
      refine (WB.out _).mono ?_
      rintro e wn ⟨rfl, hb⟩
      have B1 := Lib.hid (B1.out.trans (hb.mono B1.out.size))
      clear hb
      go_wp2
      go_ret
      exact ⟨rfl, B1.out⟩
    · have hh : (nb s).drop p = [] ∨ ¬ (128 ≤ ((nb s).drop p).getD 0 0 ∧ ((nb s).drop p).getD 0 0 ≤ 191) := .inr (by rw [← hc]; exact hco)
      rw [hcut] at h1
      obtain ⟨hx, hy⟩ := cnt_cut _ _ h1 hh
      have WX := Lib.hid (W_of (s := s.extract 0 p) (t := true) (by omega) (by rw [ex]; simpa using hx))
      have WY := Lib.hid (W_of (s := s.extract p s.size) (t := true) (by omega) (by rw [ey]; simpa using hy))
      have hco' : (s[p]'hlt).toNat < 128 ∨ 192 ≤ (s[p]'hlt).toNat := by omega
      clear hab hba hcut ex ey hb h1 z1 z2 hx hy hh hne hc hco
      have hq1 : ((p : Int) == (s.size : Int)) = false := by simp; omega
      rcases hco' with hco | hco
      · have hq2 : decide (((s[p]'hlt).toNat : Int) < 128) = true := by simp; omega
        go_enter Try.func5, Try.ntmps5
        go_wp2_with fail
        refine (knownN_any _).mono ?_
        rintro e w1 ⟨rfl, hb⟩
        have B1 := Lib.hid hb
        clear hb
        go_wp2_with fail
        refine (WA.out _).mono ?_
        rintro e wn ⟨rfl, hb⟩
        have B1 := Lib.hid (B1.out.trans (hb.mono B1.out.size))
        clear hb
        go_wp2_with fail
        refine (WX.out _).mono ?_
        rintro e wn ⟨rfl, hb⟩
        have B1 := Lib.hid (B1.out.trans (hb.mono B1.out.size))
        clear hb
        go_wp2_with fail
        refine (WY.out _).mono ?_
        rintro e wn ⟨rfl, hb⟩
        have B1 := Lib.hid (B1.out.trans (hb.mono B1.out.size))
        clear hb
        go_wp2_with fail
        refine (WAB.out _).mono ?_
        rintro e wn ⟨rfl, hb⟩
        have B1 := Lib.hid (B1.out.trans (hb.mono B1.out.size))
        clear hb
        go_wp2_with fail
        refine (WB.out _).mono ?_
        rintro e wn ⟨rfl, hb⟩
        have B1 := Lib.hid (B1.out.trans (hb.mono B1.out.size))
        clear hb
        go_wp2_with fail
        refine (WBA.out _).mono ?_
        rintro e wn ⟨rfl, hb⟩
        have B1 := Lib.hid (B1.out.trans (hb.mono B1.out.size))
        clear hb
        go_wp2_with fail
        refine (WB.out _).mono ?_
        rintro e wn ⟨rfl, hb⟩
        have B1 := Lib.hid (B1.out.trans (hb.mono B1.out.size))
        clear hb
        go_wp2
        go_ret
        exact ⟨rfl, B1.out⟩
      · have hq2 : decide (((s[p]'hlt).toNat : Int) < 128) = false := by simp; omega
        have hq3 : decide ((192 : Int) ≤ ((s[p]'hlt).toNat : Int)) = true := by simp; omega
        go_enter Try.func5, Try.ntmps5
        go_wp2_with fail
        refine (knownN_any _).mono ?_
        rintro e w1 ⟨rfl, hb⟩
        have B1 := Lib.hid hb
        clear hb
        go_wp2_with fail
        refine (WA.out _).mono ?_
        rintro e wn ⟨rfl, hb⟩
        have B1 := Lib.hid (B1.out.trans (hb.mono B1.out.size))
        clear hb
        go_wp2_with fail
        refine (WX.out _).mono ?_
        rintro e wn ⟨rfl, hb⟩
        have B1 := Lib.hid (B1.out.trans (hb.mono B1.out.size))
        clear hb
        go_wp2_with fail
        refine (WY.out _).mono ?_
        rintro e wn ⟨rfl, hb⟩
        have B1 := Lib.hid (B1.out.trans (hb.mono B1.out.size))
        clear hb
        go_wp2_with fail
        refine (WAB.out _).mono ?_
        rintro e wn ⟨rfl, hb⟩
        have B1 := Lib.hid (B1.out.trans (hb.mono B1.out.size))
        clear hb
        go_wp2_with fail
        refine (WB.out _).mono ?_
        rintro e wn ⟨rfl, hb⟩
        have B1 := Lib.hid (B1.out.trans (hb.mono B1.out.size))
        clear hb
        go_wp2_with fail
        refine (WBA.out _).mono ?_
        rintro e wn ⟨rfl, hb⟩
        have B1 := Lib.hid (B1.out.trans (hb.mono B1.out.size))
        clear hb
        go_wp2_with fail
        refine (WB.out _).mono ?_
        rintro e wn ⟨rfl, hb⟩
        have B1 := Lib.hid (B1.out.trans (hb.mono B1.out.size))
        clear hb
        go_wp2
        go_ret
        exact ⟨rfl, B1.out⟩

set_option maxRecDepth 100000 in
theorem cuts_not (s t : ByteArray) (p : Nat) (w : World) (hs : s.size ≤ 200) (ht : t.size ≤ 200) (hp : p ≤ s.size) (h1 : ¬ 0 ≤ cnt (nb s)) :
    Calls Try.prog 5 #[.string s, .string t, .int .i64 p] w fun e w' => e = .returned (.bool true) ∧ Below w.heap.size w w' := by
  have WA := Lib.hid (W_of (s := s) (t := false) (by omega) (by simpa using h1))
  clear h1
  go_enter Try.func5, Try.ntmps5
  go_wp2_with fail
  refine (knownN_any _).mono ?_
  rintro e w1 ⟨rfl, hb⟩
  have B1 := Lib.hid hb
  clear hb
  go_wp2_with fail
  refine (WA.out _).mono ?_
  rintro e wn ⟨rfl, hb⟩
  have B1 := Lib.hid (B1.out.trans (hb.mono B1.out.size))
  clear hb
  go_wp2
  go_ret
  exact ⟨rfl, B1.out⟩

theorem cuts_out (s t : ByteArray) (x : Int) (w : World) (hs : s.size ≤ maxLen) (ht : t.size ≤ maxLen) (h : 200 < s.size ∨ 200 < t.size ∨ x < 0 ∨ (s.size : Int) < x) :
    Calls Try.prog 5 #[.string s, .string t, .int .i64 x] w fun e w' => e = .returned (.bool true) ∧ Below w.heap.size w w' := by
  unfold maxLen at hs ht
  by_cases c1 : 200 < s.size
  · go_enter Try.func5, Try.ntmps5
    go_wp2_with fail
    refine (knownN_any _).mono ?_
    rintro e w1 ⟨rfl, hb⟩
    have B1 := Lib.hid hb
    clear hb
    go_wp2
    go_ret
    exact ⟨rfl, B1.out⟩
  · by_cases c2 : 200 < t.size
    · go_enter Try.func5, Try.ntmps5
      go_wp2_with fail
      refine (knownN_any _).mono ?_
      rintro e w1 ⟨rfl, hb⟩
      have B1 := Lib.hid hb
      clear hb
      go_wp2
      go_ret
      exact ⟨rfl, B1.out⟩
    · by_cases c3 : x < 0
      · go_enter Try.func5, Try.ntmps5
        go_wp2_with fail
        refine (knownN_any _).mono ?_
        rintro e w1 ⟨rfl, hb⟩
        have B1 := Lib.hid hb
        clear hb
        go_wp2
        go_ret
        exact ⟨rfl, B1.out⟩
      · have c4 : (s.size : Int) < x := by omega
        go_enter Try.func5, Try.ntmps5
        go_wp2_with fail
        refine (knownN_any _).mono ?_
        rintro e w1 ⟨rfl, hb⟩
        have B1 := Lib.hid hb
        clear hb
        go_wp2
        go_ret
        exact ⟨rfl, B1.out⟩

theorem NameCuts_walk (a0 : ByteArray) (a1 : ByteArray) (a2 : Int) (w0 : a0.size ≤ maxLen) (w1 : a1.size ≤ maxLen) (_w2 : (Lit.int .i64 a2).wf = true) (w : World) :
    Calls Try.prog 5 #[.string a0, .string a1, .int .i64 a2] w fun e w' => e = .returned (.bool true) ∧ Below w.heap.size w w' := by
  by_cases h : a0.size ≤ 200 ∧ a1.size ≤ 200 ∧ 0 ≤ a2 ∧ a2 ≤ a0.size
  · obtain ⟨p, rfl⟩ := Int.eq_ofNat_of_zero_le h.2.2.1
    by_cases h1 : 0 ≤ cnt (nb a0)
    · exact cuts_in a0 a1 p w h.1 h.2.1 (by omega) h1
    · exact cuts_not a0 a1 p w h.1 h.2.1 (by omega) h1
  · exact cuts_out a0 a1 a2 w w0 w1 (by omega)
end Go.Proofs.Ytbaihhkcnlhdmaa
