/- The walk of NameJoins. -/
import Derived.Test.YtbaihhkcnlhdmaaKnownB
namespace Go.Proofs.Ytbaihhkcnlhdmaa
open Go.RowKit NameM

theorem nb_append (s t : ByteArray) : nb (s ++ t) = nb s ++ nb t := by
  unfold nb
  rw [ByteArray.data_append, Array.toList_append, List.map_append]
theorem size_append (s t : ByteArray) : (s ++ t).size = s.size + t.size := by simp
theorem W_of {s : ByteArray} {t : Bool} (hs : s.size ≤ 4611686018427387904) (h : decide (0 ≤ cnt (nb s)) = t) (w : World) :
    Calls Try.prog 18 #[.string s] w fun e w' => e = .returned (.bool t) ∧ Below w.heap.size w w' := by
  subst h; exact Well_any s hs w
theorem C_of {s : ByteArray} {t : Int} (hs : s.size ≤ 4611686018427387904) (h : cnt (nb s) = t) (w : World) :
    Calls Try.prog 20 #[.string s] w fun e w' => e = .returned (.int .i64 t) ∧ Below w.heap.size w w' := by
  subst h; exact Count_any s hs w

set_option maxRecDepth 100000 in
set_option maxHeartbeats 1000000 in
theorem joins_in (s t : ByteArray) (w : World) (hs : s.size ≤ 2000) (ht : t.size ≤ 2000) :
    Calls Try.prog 4 #[.string s, .string t] w fun e w' => e = .returned (.bool true) ∧ Below w.heap.size w w' := by
  have hst : (s ++ t).size ≤ 4000 := by rw [size_append]; omega
  have e1 := nb_append s t
  by_cases h1 : 0 ≤ cnt (nb s)
  · by_cases h2 : 0 ≤ cnt (nb t)
    · obtain ⟨m, hm⟩ := Int.eq_ofNat_of_zero_le h1
      obtain ⟨n, hn⟩ := Int.eq_ofNat_of_zero_le h2
      have hj : cnt (nb (s ++ t)) = (m : Int) + n := by rw [e1, cnt_app _ _ h1, if_neg (by omega), hm, hn]
      have g1 := cnt_ge (nb s)
      have g2 := cnt_ge (nb t)
      rw [len_nb] at g1 g2
      have WS := Lib.hid (W_of (s := s) (t := true) (by omega) (by simpa using h1))
      have WT := Lib.hid (W_of (s := t) (t := true) (by omega) (by simpa using h2))
      have WST := Lib.hid (W_of (s := s ++ t) (t := true) (by omega) (by simp; omega))
      have CS := Lib.hid (C_of (s := s) (by omega) hm)
      have CT := Lib.hid (C_of (s := t) (by omega) hn)
      have CST := Lib.hid (C_of (s := s ++ t) (by omega) hj)
      have hm1 : m ≤ 2000 := by omega
      have hn1 : n ≤ 2000 := by omega
      clear h1 h2 hm hn hj g1 g2 e1
      go_enter Try.func4, Try.ntmps4
      go_wp2_with fail
      refine (knownN_any _).mono ?_
      rintro e w1 ⟨rfl, hb⟩
      have B1 := Lib.hid hb
      clear hb
      go_wp2_with fail
      refine (WS.out _).mono ?_
      rintro e wn ⟨rfl, hb⟩
      have B1 := Lib.hid (B1.out.trans (hb.mono B1.out.size))
      clear hb
      go_wp2_with fail
      refine (WS.out _).mono ?_
      rintro e wn ⟨rfl, hb⟩
      have B1 := Lib.hid (B1.out.trans (hb.mono B1.out.size))
      clear hb
      go_wp2_with fail
      refine (WT.out _).mono ?_
      rintro e wn ⟨rfl, hb⟩
      have B1 := Lib.hid (B1.out.trans (hb.mono B1.out.size))
      clear hb
      go_wp2_with fail
      refine (WST.out _).mono ?_
      rintro e wn ⟨rfl, hb⟩
      have B1 := Lib.hid (B1.out.trans (hb.mono B1.out.size))
      clear hb
      go_wp2_with fail
      refine (CST.out _).mono ?_
      rintro e wn ⟨rfl, hb⟩
      have B1 := Lib.hid (B1.out.trans (hb.mono B1.out.size))
      clear hb
      go_wp2_with fail
      refine (CS.out _).mono ?_
      rintro e wn ⟨rfl, hb⟩
      have B1 := Lib.hid (B1.out.trans (hb.mono B1.out.size))
      clear hb
      go_wp2_with fail
      refine (CT.out _).mono ?_
      rintro e wn ⟨rfl, hb⟩
      have B1 := Lib.hid (B1.out.trans (hb.mono B1.out.size))
      clear hb
      go_wp2
      go_ret
      exact ⟨rfl, B1.out⟩
    · have hj : cnt (nb (s ++ t)) < 0 := by rw [e1, cnt_app _ _ h1, if_pos (by omega)]; omega
      have WS := Lib.hid (W_of (s := s) (t := true) (by omega) (by simpa using h1))
      have WT := Lib.hid (W_of (s := t) (t := false) (by omega) (by simpa using h2))
      have WST := Lib.hid (W_of (s := s ++ t) (t := false) (by omega) (by simp; omega))
      clear h1 h2 hj e1
      go_enter Try.func4, Try.ntmps4
      go_wp2_with fail
      refine (knownN_any _).mono ?_
      rintro e w1 ⟨rfl, hb⟩
      have B1 := Lib.hid hb
      clear hb
      go_wp2_with fail
      refine (WS.out _).mono ?_
      rintro e wn ⟨rfl, hb⟩
      have B1 := Lib.hid (B1.out.trans (hb.mono B1.out.size))
      clear hb
      go_wp2_with fail
      refine (WS.out _).mono ?_
      rintro e wn ⟨rfl, hb⟩
      have B1 := Lib.hid (B1.out.trans (hb.mono B1.out.size))
      clear hb
      go_wp2_with fail
      refine (WT.out _).mono ?_
      rintro e wn ⟨rfl, hb⟩
      have B1 := Lib.hid (B1.out.trans (hb.mono B1.out.size))
      clear hb
      go_wp2_with fail
      refine (WST.out _).mono ?_
      rintro e wn ⟨rfl, hb⟩
      have B1 := Lib.hid (B1.out.trans (hb.mono B1.out.size))
      clear hb
      go_wp2
      go_ret
      exact ⟨rfl, B1.out⟩
  · by_cases h2 : 0 ≤ cnt (nb t)
    · have hj : cnt (nb (s ++ t)) < 0 := by
        rw [e1]
        by_cases hc : 0 ≤ cnt (nb s ++ nb t)
        · exact absurd (cnt_cut _ _ hc (head_ok h2)).1 h1
        · omega
      have WS := Lib.hid (W_of (s := s) (t := false) (by omega) (by simpa using h1))
      have WT := Lib.hid (W_of (s := t) (t := true) (by omega) (by simpa using h2))
      have WST := Lib.hid (W_of (s := s ++ t) (t := false) (by omega) (by simp; omega))
      clear h1 h2 hj e1
      go_enter Try.func4, Try.ntmps4
      go_wp2_with fail
      refine (knownN_any _).mono ?_
      rintro e w1 ⟨rfl, hb⟩
      have B1 := Lib.hid hb
      clear hb
      go_wp2_with fail
      refine (WS.out _).mono ?_
      rintro e wn ⟨rfl, hb⟩
      have B1 := Lib.hid (B1.out.trans (hb.mono B1.out.size))
      clear hb
      go_wp2_with fail
      refine (WT.out _).mono ?_
      rintro e wn ⟨rfl, hb⟩
      have B1 := Lib.hid (B1.out.trans (hb.mono B1.out.size))
      clear hb
      go_wp2_with fail
      refine (WS.out _).mono ?_
      rintro e wn ⟨rfl, hb⟩
      have B1 := Lib.hid (B1.out.trans (hb.mono B1.out.size))
      clear hb
      go_wp2_with fail
      refine (WST.out _).mono ?_
      rintro e wn ⟨rfl, hb⟩
      have B1 := Lib.hid (B1.out.trans (hb.mono B1.out.size))
      clear hb
      go_wp2
      go_ret
      exact ⟨rfl, B1.out⟩
    · have WS := Lib.hid (W_of (s := s) (t := false) (by omega) (by simpa using h1))
      have WT := Lib.hid (W_of (s := t) (t := false) (by omega) (by simpa using h2))
      clear h1 h2 e1
      go_enter Try.func4, Try.ntmps4
      go_wp2_with fail
      refine (knownN_any _).mono ?_
      rintro e w1 ⟨rfl, hb⟩
      have B1 := Lib.hid hb
      clear hb
      go_wp2_with fail
      refine (WS.out _).mono ?_
      rintro e wn ⟨rfl, hb⟩
      have B1 := Lib.hid (B1.out.trans (hb.mono B1.out.size))
      clear hb
      go_wp2_with fail
      refine (WT.out _).mono ?_
      rintro e wn ⟨rfl, hb⟩
      have B1 := Lib.hid (B1.out.trans (hb.mono B1.out.size))
      clear hb
      go_wp2
      go_ret
      exact ⟨rfl, B1.out⟩

theorem joins_out (s t : ByteArray) (w : World) (hs : s.size ≤ maxLen) (ht : t.size ≤ maxLen) (h : 2000 < s.size ∨ 2000 < t.size) :
    Calls Try.prog 4 #[.string s, .string t] w fun e w' => e = .returned (.bool true) ∧ Below w.heap.size w w' := by
  unfold maxLen at hs ht
  by_cases c1 : 2000 < s.size
  · go_enter Try.func4, Try.ntmps4
    go_wp2_with fail
    refine (knownN_any _).mono ?_
    rintro e w1 ⟨rfl, hb⟩
    have B1 := Lib.hid hb
    clear hb
    go_wp2
    go_ret
    exact ⟨rfl, B1.out⟩
  · have c2 : 2000 < t.size := by omega
    go_enter Try.func4, Try.ntmps4
    go_wp2_with fail
    refine (knownN_any _).mono ?_
    rintro e w1 ⟨rfl, hb⟩
    have B1 := Lib.hid hb
    clear hb
    go_wp2
    go_ret
    exact ⟨rfl, B1.out⟩

theorem NameJoins_walk (a0 : ByteArray) (a1 : ByteArray) (w0 : a0.size ≤ maxLen) (w1 : a1.size ≤ maxLen) (w : World) :
    Calls Try.prog 4 #[.string a0, .string a1] w fun e w' => e = .returned (.bool true) ∧ Below w.heap.size w w' := by
  by_cases h : a0.size ≤ 2000 ∧ a1.size ≤ 2000
  · exact joins_in a0 a1 w h.1 h.2
  · exact joins_out a0 a1 w w0 w1 (by omega)
end Go.Proofs.Ytbaihhkcnlhdmaa
