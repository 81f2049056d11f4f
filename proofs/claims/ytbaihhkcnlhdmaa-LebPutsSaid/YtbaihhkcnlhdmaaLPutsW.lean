/- The walk of LebPuts. -/
import Derived.Test.YtbaihhkcnlhdmaaRefB
import Derived.Test.YtbaihhkcnlhdmaaPutS
import Derived.Test.YtbaihhkcnlhdmaaBackW
import Derived.Deep.RegionWith
import Derived.Deep.Cut
namespace Go.Proofs.Ytbaihhkcnlhdmaa
open Go.RowKit

set_option maxRecDepth 100000 in
set_option maxHeartbeats 4000000 in
theorem puts_in (n : Nat) (m : Int) (w : World) (hn : n < 18446744073709551616) (hm1 : -9223372036854775808 ≤ m) (hm2 : m < 9223372036854775808) :
    Calls Try.prog 7 #[.int .u64 n, .int .i64 m] w fun e w' => e = .returned (.bool true) ∧ Below w.heap.size w w' := by
  have PU := Lib.hid (fun w => PutU_any n hn w)
  have QU := Lib.hid (fun w => rPutU_any n n w (Nat.le_refl _) hn)
  have PS := Lib.hid (fun w => PutS_any m hm1 hm2 w)
  have QS := Lib.hid (fun w => rPutS_any m.natAbs m w (Nat.le_refl _) hm1 hm2)
  have LE := Lib.hid (fun w => Len_any n hn w)
  have L1 := Lib.hid (putU_lt n)
  have L2 := Lib.hid (putS_lt m.natAbs m (Nat.le_refl _))
  clear hn hm1 hm2
  generalize LebM.putU n = l1 at PU QU LE L1
  generalize LebM.putS m = l2 at PS QS L2
  go_enter Try.func7, Try.ntmps7
  go_upto_region 1 with fail
  go_region_with (first
    | (go_at_call 26; refine (PU.out _).mono ?_; rintro e w1 ⟨v1, rfl, o1, b1⟩; obtain ⟨a1, c1, rfl, h1, -, -⟩ := o1.bts L1.out; have R1 := run_str h1 c1; have H1 := Lib.hid h1; have BB := Lib.hid ((Below.refl w.heap.size w).drew.trans b1); clear o1 b1 h1)
    | (go_at_call 27; refine (QU.out _).mono ?_; rintro e w2 ⟨v2, rfl, o2, b2⟩; have R3 := run_str (H1.out.kept b2) c1; obtain ⟨a2, c2, rfl, h2, -, -⟩ := o2.bts L1.out; have R2 := run_str h2 c2; have BB := Lib.hid (BB.out.trans (b2.mono BB.out.size)); clear o2 b2 h2)
    | (go_at_call 28; refine (PS.out _).mono ?_; rintro e w3 ⟨v3, rfl, o3, b3⟩; obtain ⟨a3, c3, rfl, h3, -, -⟩ := o3.bts L2.out; have R5 := run_str h3 c3; have H3 := Lib.hid h3; have BB := Lib.hid (BB.out.trans (b3.mono BB.out.size)); clear o3 b3 h3)
    | (go_at_call 29; refine (QS.out _).mono ?_; rintro e w4 ⟨v4, rfl, o4, b4⟩; have R6 := run_str (H3.out.kept b4) c3; obtain ⟨a4, c4, rfl, h4, -, -⟩ := o4.bts L2.out; have R7 := run_str h4 c4; have BB := Lib.hid (BB.out.trans (b4.mono BB.out.size)); clear o4 b4 h4)
    | (go_at_call 30; refine (LE.out _).mono ?_; rintro e w5 ⟨rfl, rfl⟩)
    | (go_at_call 27; refine (QU.out _).mono ?_; rintro e w6 ⟨v6, rfl, o6, b6⟩; obtain ⟨a6, c6, rfl, -, -, -⟩ := o6.bts L1.out; have BB := Lib.hid (BB.out.trans (b6.mono BB.out.size)); clear o6 b6)
    | (go_at_call 21; refine (known_any _).mono ?_; rintro e w7 ⟨rfl, b7⟩; have BB := Lib.hid (BB.out.trans (b7.mono BB.out.size)); clear b7))
  all_goals go_wp2_with fail
  all_goals go_ret
  all_goals exact ⟨rfl, BB.out⟩

theorem LebPuts_walk (a0 : Int) (a1 : Int) (w0 : (Lit.int .u64 a0).wf = true) (w1 : (Lit.int .i64 a1).wf = true) (w : World) :
    Calls Try.prog 7 #[.int .u64 a0, .int .i64 a1] w fun e w' => e = .returned (.bool true) ∧ Below w.heap.size w w' := by
  have h0 := u64_wf w0
  have h1 := i64_wf w1
  obtain ⟨n, rfl⟩ := Int.eq_ofNat_of_zero_le h0.1
  exact puts_in n a1 w (by omega) h1.1 h1.2
end Go.Proofs.Ytbaihhkcnlhdmaa
