/- The walk of NameReads. -/
import Derived.Test.YtbaihhkcnlhdmaaRReadW
import Derived.Test.YtbaihhkcnlhdmaaKnownB
namespace Go.Proofs.Ytbaihhkcnlhdmaa
open Go.RowKit NameM

set_option maxRecDepth 100000 in
set_option maxHeartbeats 1000000 in
theorem nreads_in (s : ByteArray) (a : Option Addr) (cap : Nat) (bs : List Nat) (x : Int) (w : World) (hs : s.size ≤ 3000) (hb : Bts w a bs) (hn : bs.length ≤ 3000) (hcap : bs.length ≤ cap) :
    Calls Try.prog 3 #[.string s, .slice a bs.length cap, .int .i64 x] w fun e w' => e = .returned (.bool true) ∧ Below w.heap.size w w' := by
  have H1 := Lib.hid hb
  have R1 := Lib.hid (fun w hw => NRead_any a cap bs x w hw (by omega) hcap)
  have R2 := Lib.hid (fun w hw => rRead_any a cap bs x w hw (by omega) hcap)
  have W1 := Lib.hid (Well_any s (by omega))
  have C1 := Lib.hid (rCount_any s (by omega))
  have C2 := Lib.hid (Count_any s (by omega))
  generalize cnt (nb s) = C at W1 C1 C2
  generalize rdN bs x = r at R1 R2
  obtain ⟨p, q, er⟩ := r
  unfold nmV at R1 R2
  simp only at R1 R2
  generalize strN p = str at R1 R2
  clear hb
  obtain ⟨b, hbb⟩ : ∃ b, b = decide (0 ≤ C) := ⟨_, rfl⟩
  rw [← hbb] at W1
  have hbb' := hbb.symm
  clear hbb
  go_enter Try.func3, Try.ntmps3
  go_wp2_with fail
  refine (knownN_any _).mono ?_
  rintro e w1 ⟨rfl, hb1⟩
  have B1 := Lib.hid hb1
  have H1 := Lib.hid (H1.out.kept hb1)
  clear hb1
  go_wp2_with fail
  refine (R1.out w1 H1.out).mono ?_
  rintro e w2 ⟨rfl, b2⟩
  have B2 := Lib.hid b2
  have H2 := Lib.hid (H1.out.kept b2)
  clear b2
  go_wp2_with fail
  refine (R2.out w2 H2.out).mono ?_
  rintro e w3 ⟨rfl, b3⟩
  have B3 := Lib.hid (B2.out.trans (b3.mono B2.out.size))
  clear b3
  go_wp2_with fail
  refine (W1.out w3).mono ?_
  rintro e w4 ⟨rfl, b4⟩
  have B4 := Lib.hid (B3.out.trans (b4.mono B3.out.size))
  clear b4
  go_wp2_with fail
  refine (C1.out w4).mono ?_
  rintro e w5 ⟨rfl, b5⟩
  have B5 := Lib.hid (B4.out.trans (b5.mono B4.out.size))
  clear b5
  go_wp2_with fail
  refine (C2.out w5).mono ?_
  rintro e w6 ⟨rfl, b6⟩
  have B6 := Lib.hid (B5.out.trans (b6.mono B5.out.size))
  clear b6
  go_wp2_with fail
  refine (C1.out w6).mono ?_
  rintro e w7 ⟨rfl, b7⟩
  have B7 := Lib.hid (B6.out.trans (b7.mono B6.out.size))
  clear b7
  go_wp2
  go_ret
  exact ⟨rfl, B1.out.trans (B7.out.mono B1.out.size)⟩

set_option maxRecDepth 100000 in
theorem nreads_out (s : ByteArray) (a : Option Addr) (n cap : Nat) (x : Int) (w : World) (hs : s.size ≤ maxLen) (hn : n ≤ maxLen) (h : 3000 < s.size ∨ 3000 < n) :
    Calls Try.prog 3 #[.string s, .slice a n cap, .int .i64 x] w fun e w' => e = .returned (.bool true) ∧ Below w.heap.size w w' := by
  unfold maxLen at hs hn
  by_cases c1 : 3000 < s.size
  · go_enter Try.func3, Try.ntmps3
    go_wp2_with fail
    refine (knownN_any _).mono ?_
    rintro e w1 ⟨rfl, hb1⟩
    have B1 := Lib.hid hb1
    clear hb1
    go_wp2
    go_ret
    exact ⟨rfl, B1.out⟩
  · have c2 : 3000 < n := by omega
    go_enter Try.func3, Try.ntmps3
    go_wp2_with fail
    refine (knownN_any _).mono ?_
    rintro e w1 ⟨rfl, hb1⟩
    have B1 := Lib.hid hb1
    clear hb1
    go_wp2
    go_ret
    exact ⟨rfl, B1.out⟩

theorem NameReads_walk (a0 : ByteArray) (a1 : Option Addr) (len1 cap1 : Nat) (z1 : List Int) (a2 : Int) (w : World) (w0 : a0.size ≤ maxLen) (w1 : IsRow .u8 w a1 len1 cap1 z1) (_w2 : (Lit.int .i64 a2).wf = true) :
    Calls Try.prog 3 #[.string a0, .slice a1 len1 cap1, .int .i64 a2] w fun e w' => e = .returned (.bool true) ∧ Below w.heap.size w w' := by
  obtain ⟨bs, rfl, hb, hn, hc, hm⟩ := w1.bts
  by_cases h : a0.size ≤ 3000 ∧ bs.length ≤ 3000
  · exact nreads_in a0 a1 cap1 bs a2 w h.1 hb h.2 hc
  · exact nreads_out a0 a1 bs.length cap1 a2 w w0 (Nat.le_trans hc hm) (by omega)
end Go.Proofs.Ytbaihhkcnlhdmaa
