/- The walk of LebBehind. -/
import Derived.Test.YtbaihhkcnlhdmaaBackW
namespace Go.Proofs.Ytbaihhkcnlhdmaa
open Go.RowKit

set_option maxRecDepth 100000 in
set_option maxHeartbeats 1000000 in
theorem behind_in (n c : Nat) (m : Int) (w : World) (hn : n < 18446744073709551616) (hc : c < 18446744073709551616) (hm1 : -9223372036854775808 ≤ m) (hm2 : m < 9223372036854775808) :
    Calls Try.prog 11 #[.int .u64 n, .int .i64 m, .int .u64 c] w fun e w' => e = .returned (.bool true) ∧ Below w.heap.size w w' := by
  have HC := Lib.hid (show c % 4294967296 < 4294967296 by omega)
  have EC := Lib.hid (show (c : Int) % 4294967296 = ((c % 4294967296 : Nat) : Int) by omega)
  go_enter Try.func11, Try.ntmps11
  go_wp2_with fail
  refine (PutU_any n hn _).mono ?_
  rintro e w1 ⟨v1, rfl, o1, b1⟩
  obtain ⟨a1, cap1, rfl, h1, n1, -⟩ := o1.bts (putU_lt n)
  have H1 := Lib.hid h1
  have N1 := Lib.hid n1
  have B1 := Lib.hid b1
  clear o1 b1 h1 n1
  go_wp2_with fail
  refine (PutS_any m hm1 hm2 _).mono ?_
  rintro e w2 ⟨v2, rfl, o2, b2⟩
  obtain ⟨a2, cap2, rfl, h2, n2, -⟩ := o2.bts (putS_lt m.natAbs m (Nat.le_refl _))
  have H1 := Lib.hid (H1.out.kept b2)
  have H2 := Lib.hid h2
  have N2 := Lib.hid n2
  have B2 := Lib.hid (B1.out.trans (b2.mono B1.out.size))
  clear o2 b2 h2 n2
  go_wp2_with fail
  rw [EC.out]
  generalize c % 4294967296 = C at HC EC
  have hC := HC.out
  refine (PutU_any C (by omega) _).mono ?_
  rintro e w3 ⟨v3, rfl, o3, b3⟩
  obtain ⟨a3, cap3, rfl, h3, n3, -⟩ := o3.bts (putU_lt C)
  have H1 := Lib.hid (H1.out.kept b3)
  have H2 := Lib.hid (H2.out.kept b3)
  have H3 := Lib.hid h3
  have N3 := Lib.hid n3
  have B3 := Lib.hid (B2.out.trans (b3.mono B2.out.size))
  clear o3 b3 h3 n3
  have hL1 := LebM.putU_len_le (n := n) (k := 10) (by omega) (by omega)
  have hL2 := LebM.putS_len_le 10 m (by omega) (by simp; omega) (by simp; omega)
  have hL3 := LebM.putU_len_le (n := C) (k := 10) (by omega) (by omega)
  obtain ⟨u, hu⟩ : ∃ u, u = [] ++ LebM.putU n ++ LebM.putS m ++ LebM.putU C := ⟨_, rfl⟩
  have hul : ∀ c ∈ u, c < 256 := by
    intro c hc
    rw [hu] at hc
    simp only [List.nil_append, List.mem_append] at hc
    rcases hc with (hc | hc) | hc
    · exact putU_lt n c hc
    · exact putS_lt m.natAbs m (Nat.le_refl _) c hc
    · exact putU_lt C c hc
  have hu1 : u.length ≤ (LebM.putU n).length + (LebM.putS m).length + (LebM.putU C).length := by rw [hu]; simp; omega
  have hu2 : (LebM.putU n).length + (LebM.putS m).length + (LebM.putU C).length ≤ u.length := by rw [hu]; simp; omega
  have hr1 : LebM.read u 0 64 false = ((n : Int), ((LebM.putU n).length : Int), 0) := by
    rw [hu]
    have := read_putU [] (LebM.putS m ++ LebM.putU C) n 64 (by omega) (by omega) (by simpa using hn)
    simpa using this
  have hr2 : LebM.read u (LebM.putU n).length 64 true = (m, ((LebM.putU n).length : Int) + (LebM.putS m).length, 0) := by
    rw [hu]
    have := read_putS (LebM.putU n) (LebM.putU C) m 64 (by omega) (by omega) (by simpa using hm1) (by simpa using hm2)
    simpa using this
  have hr3 : LebM.read u ((LebM.putU n).length + (LebM.putS m).length) 32 false = ((C : Int), ((LebM.putU n).length : Int) + (LebM.putS m).length + (LebM.putU C).length, 0) := by
    rw [hu]
    have := read_putU (LebM.putU n ++ LebM.putS m) [] C 32 (by omega) (by omega) (by simpa using hC)
    simpa using this
  have HU := Lib.hid hu
  have HUL := Lib.hid hul
  clear hu hul
  have U1 := fun a cap w hw => Lib.hid (U_any a cap u 0 64 w hw (by omega))
  have S1 := fun a cap w hw => Lib.hid (S_any a cap u (LebM.putU n).length 64 w hw (by omega))
  have U2 := fun a cap w hw => Lib.hid (U_any a cap u ((LebM.putU n).length + (LebM.putS m).length) 32 w hw (by omega))
  rw [hr1] at U1
  rw [hr2] at S1
  rw [hr3] at U2
  clear hr1 hr2 hr3
  have U1 := Lib.hid U1
  have S1 := Lib.hid S1
  have U2 := Lib.hid U2
  go_wp2_with (first
    | (at_builtin; refine wpList_app rfl (.tmp 27) (.tmp 28) rfl w3.heap.size _ [] rfl (Own_new w3) a1 _ cap1 (LebM.putU n) rfl rfl (H1.out.alloc _) N1.out (by simp; omega) (by simp) ?_; intro v4 w4 o4 b4; have O4 := Lib.hid o4; have B4 := Lib.hid ((Below.refl w3.heap.size w3).alloc (Nat.le_refl _) _ |>.trans b4); clear o4 b4)
    | (at_builtin; refine wpList_app rfl (.tmp 29) (.tmp 30) rfl w3.heap.size _ ([] ++ LebM.putU n) rfl O4.out a2 _ cap2 (LebM.putS m) rfl rfl (H2.out.kept B4.out) N2.out (by simp; omega) B4.out.size ?_; intro v5 w5 o5 b5; have O5 := Lib.hid o5; have B5 := Lib.hid (B4.out.trans b5); clear o5 b5)
    | (at_builtin; refine wpList_app rfl (.tmp 31) (.tmp 32) rfl w3.heap.size _ ([] ++ LebM.putU n ++ LebM.putS m) rfl O5.out a3 _ cap3 (LebM.putU C) rfl rfl (H3.out.kept B5.out) N3.out (by simp; omega) B5.out.size ?_; intro v6 w6 o6 b6; rw [← HU.out] at o6; obtain ⟨a6, cap6, rfl, h6, -, -⟩ := o6.bts HUL.out; have H6 := Lib.hid h6; have B6 := Lib.hid (B5.out.trans b6); clear o6 b6 h6))
  generalize (LebM.putU n).length = L1 at *
  generalize (LebM.putS m).length = L2 at *
  generalize (LebM.putU C).length = L3 at *
  refine (U1.out a6 cap6 _ H6.out).out.mono ?_
  rintro e w7 ⟨rfl, rfl⟩
  go_wp2_with fail
  refine (S1.out a6 cap6 _ H6.out).out.mono ?_
  rintro e w7 ⟨rfl, rfl⟩
  go_wp2_with fail
  have hb2 : ((C : Int) == (c : Int) % 4294967296) = true := by rw [EC.out]; simp
  have hb : ((L1 : Int) + L2 + L3 == (u.length : Int)) = true := by simp; omega
  refine (U2.out a6 cap6 _ H6.out).out.mono ?_
  rintro e w7 ⟨rfl, rfl⟩
  go_wp2_with fail
  refine (known_any _).mono ?_
  rintro e w8 ⟨rfl, b8⟩
  have B8 := Lib.hid (B6.out.trans (b8.mono B6.out.size))
  clear b8
  go_wp2
  go_ret
  exact ⟨rfl, B3.out.trans (B8.out.mono B3.out.size)⟩

theorem LebBehind_walk (a0 : Int) (a1 : Int) (a2 : Int) (w0 : (Lit.int .u64 a0).wf = true) (w1 : (Lit.int .i64 a1).wf = true) (w2 : (Lit.int .u64 a2).wf = true) (w : World) :
    Calls Try.prog 11 #[.int .u64 a0, .int .i64 a1, .int .u64 a2] w fun e w' => e = .returned (.bool true) ∧ Below w.heap.size w w' := by
  obtain ⟨n, rfl⟩ := Int.eq_ofNat_of_zero_le (u64_wf w0).1
  obtain ⟨c, rfl⟩ := Int.eq_ofNat_of_zero_le (u64_wf w2).1
  have h0 := u64_wf w0
  have h1 := i64_wf w1
  have h2 := u64_wf w2
  exact behind_in n c a1 w (by omega) (by omega) h1.1 h1.2
end Go.Proofs.Ytbaihhkcnlhdmaa
