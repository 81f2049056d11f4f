/- The walk of LebBack. -/
import Derived.Test.YtbaihhkcnlhdmaaLawBase
namespace Go.Proofs.Ytbaihhkcnlhdmaa
open Go.RowKit

theorem Own.kept {w w1 : World} {B : Nat} {v : Value} {l : List Nat} (h : Own w B v l) (hb : Below w.heap.size w w1) : Own w1 B v l := by
  have hlt := World.ownsRow.lt h
  obtain ⟨h1, h2⟩ := h
  refine ⟨h1, ?_⟩
  rcases h2 with h2 | ⟨g, cap, cur, hv, hg, hh, r⟩
  · exact .inl h2
  · refine .inr ⟨g, cap, cur, hv, hg, ?_, r⟩
    rw [hb.block g (hlt g (by rw [hv]; rfl)).2]; exact hh

/-- what was put is read, whatever stands ahead and behind -/
theorem read_putU (xs ys : List Nat) (n K : Nat) (h1 : 1 ≤ K) (h2 : K ≤ 64) (h : n < 2 ^ K) :
    LebM.read (xs ++ LebM.putU n ++ ys) xs.length K false = ((n : Int), (xs.length : Int) + (LebM.putU n).length, 0) := by
  unfold LebM.read
  rw [if_pos ⟨by omega, by omega, by omega, by simp; omega⟩]
  rw [Int.toNat_natCast, Int.toNat_natCast, List.append_assoc, List.drop_left, LebM.rd_putU K ys n h1 h]
  rfl
theorem read_putS (xs ys : List Nat) (m : Int) (K : Nat) (h1 : 1 ≤ K) (h2 : K ≤ 64) (h3 : -(2 : Int) ^ (K - 1) ≤ m) (h4 : m < 2 ^ (K - 1)) :
    LebM.read (xs ++ LebM.putS m ++ ys) xs.length K true = (m, (xs.length : Int) + (LebM.putS m).length, 0) := by
  unfold LebM.read
  rw [if_pos ⟨by omega, by omega, by omega, by simp; omega⟩]
  have := LebM.rd_putS K ys m.natAbs m 0 0 0 (Nat.le_refl _) (by simp) (by omega) (by simpa using h3) (by simpa using h4)
  rw [Int.toNat_natCast, Int.toNat_natCast, List.append_assoc, List.drop_left, this]
  simp

theorem shr_lt (n K : Nat) (hn : n < 18446744073709551616) (hK : K ≤ 64) : n / 2 ^ (64 - K) < 2 ^ K := by
  rw [Nat.div_lt_iff_lt_mul (Nat.two_pow_pos _), ← Nat.pow_add, show K + (64 - K) = 64 by omega]
  simpa using hn
theorem shr_sle (m : Int) (K : Nat) (h1 : -9223372036854775808 ≤ m) (h2 : m < 9223372036854775808) (hK1 : 1 ≤ K) (hK : K ≤ 64) :
    -(2 : Int) ^ (K - 1) ≤ m / 2 ^ (64 - K) ∧ m / 2 ^ (64 - K) < 2 ^ (K - 1) := by
  have hp := LebM.pow_posI (64 - K)
  have e : (2 : Int) ^ (K - 1) * 2 ^ (64 - K) = 9223372036854775808 := by rw [← Int.pow_add, show K - 1 + (64 - K) = 63 by omega]; rfl
  constructor
  · rw [Int.le_ediv_iff_mul_le hp, Int.neg_mul, e]; omega
  · rw [Int.ediv_lt_iff_lt_mul hp, e]; omega
theorem pow_le64 (K : Nat) (hK : K ≤ 64) : 2 ^ K ≤ 18446744073709551616 := by
  have := Nat.pow_le_pow_right (n := 2) (by omega) hK; simpa using this
theorem pow_le63 (K : Nat) (hK1 : 1 ≤ K) (hK : K ≤ 64) : (2 : Int) ^ (K - 1) ≤ 9223372036854775808 := by
  have : 2 ^ (K - 1) ≤ 2 ^ 63 := Nat.pow_le_pow_right (n := 2) (by omega) (by omega)
  have h63 : (2 : Nat) ^ 63 = 9223372036854775808 := rfl
  rw [← LebM.two_pow_cast]; omega

set_option maxRecDepth 100000 in
set_option maxHeartbeats 1000000 in
theorem back_in (n : Nat) (m : Int) (K : Nat) (a1 a2 : Option Addr) (cap1 cap2 : Nat) (xs ys : List Nat) (w : World)
    (hn : n < 18446744073709551616) (hm1 : -9223372036854775808 ≤ m) (hm2 : m < 9223372036854775808) (hK1 : 1 ≤ K) (hK2 : K ≤ 64)
    (h1 : Bts w a1 xs) (h2 : Bts w a2 ys) (hx : xs.length ≤ 200) (hy : ys.length ≤ 200) (hc1 : a1 = none → cap1 = 0) (hc2 : a2 = none → cap2 = 0) :
    Calls Try.prog 8 #[.int .u64 n, .int .i64 m, .int .i64 K, .slice a1 xs.length cap1, .slice a2 ys.length cap2] w fun e w' => e = .returned (.bool true) ∧ Below w.heap.size w w' := by
  have H1 := Lib.hid h1
  have H2 := Lib.hid h2
  have C1 := Lib.hid hc1
  have C2 := Lib.hid hc2
  clear h1 h2 hc1 hc2
  have en : (n : Int) / 2 ^ (64 - K) = ((n / 2 ^ (64 - K) : Nat) : Int) := by rw [Int.natCast_ediv, LebM.two_pow_cast]
  have EN := Lib.hid en
  clear en
  have HN := Lib.hid (shr_lt n K hn hK2)
  have HM := Lib.hid (shr_sle m K hm1 hm2 hK1 hK2)
  have P1 := Lib.hid (pow_le64 K hK2)
  have P2 := Lib.hid (pow_le63 K hK1 hK2)
  go_enter Try.func8, Try.ntmps8
  go_wp2_with fail
  refine (known_any _).mono ?_
  rintro e w1 ⟨rfl, hb1⟩
  have B1 := Lib.hid hb1
  have H1 := Lib.hid (H1.out.kept hb1)
  have H2 := Lib.hid (H2.out.kept hb1)
  clear hb1
  -- u
  go_wp2_with (at_builtin; refine wpList_app rfl (.tmp 55) (.tmp 56) rfl w1.heap.size _ [] rfl (Own_new w1) a1 xs.length cap1 xs rfl rfl (H1.out.alloc _) C1.out (by simp; omega) (by simp) ?_; intro v1 w2 hown1 hbel1)
  rw [EN.out]
  generalize n / 2 ^ (64 - K) = N at HN EN
  generalize m / 2 ^ (64 - K) = M at HM
  have hM1 : -9223372036854775808 ≤ M := by have := HM.out; have := P2.out; omega
  have hM2 : M < 9223372036854775808 := by have := HM.out; have := P2.out; omega
  have hN1 : N < 18446744073709551616 := Nat.lt_of_lt_of_le HN.out P1.out
  have B2 := Lib.hid ((Below.refl w1.heap.size w1).alloc (Nat.le_refl _) _ |>.trans hbel1)
  have O1 := Lib.hid hown1
  clear hown1 hbel1
  refine (PutU_any N hN1 _).mono ?_
  rintro e w3 ⟨v2, rfl, hown2, hbel2⟩
  obtain ⟨a3, cap3, rfl, hbt3, hnil3, -⟩ := hown2.bts (putU_lt N)
  have O1 := Lib.hid (O1.out.kept hbel2)
  have B3 := Lib.hid (B2.out.trans (hbel2.mono B2.out.size))
  have H3 := Lib.hid hbt3
  have C3 := Lib.hid hnil3
  clear hown2 hbel2 hbt3 hnil3
  have hL := LebM.putU_len_le (n := N) (k := 10) (by omega) (by omega)
  obtain ⟨u, hu⟩ : ∃ u, u = [] ++ xs ++ LebM.putU N ++ ys := ⟨_, rfl⟩
  have hul : ∀ c ∈ u, c < 256 := by
    intro c hc
    rw [hu] at hc
    simp only [List.nil_append, List.mem_append] at hc
    rcases hc with (hc | hc) | hc
    · exact H1.out.1 c hc
    · exact putU_lt N c hc
    · exact H2.out.1 c hc
  have hu1 : u.length ≤ xs.length + (LebM.putU N).length + ys.length := by rw [hu]; simp; omega
  have hu2 : xs.length + (LebM.putU N).length + ys.length ≤ u.length := by rw [hu]; simp; omega
  have HU := Lib.hid hu
  have HUL := Lib.hid hul
  clear hu hul
  go_wp2_with (first
    | (at_builtin; refine wpList_app rfl (.tmp 57) (.tmp 59) rfl w1.heap.size _ ([] ++ xs) rfl O1.out a3 _ cap3 (LebM.putU N) rfl rfl H3.out C3.out (by simp; omega) B3.out.size ?_; intro v4 w4 o4 b4; have O4 := Lib.hid o4; have B4 := Lib.hid (B3.out.trans b4); clear o4 b4)
    | (at_builtin; refine wpList_app rfl (.tmp 60) (.tmp 61) rfl w1.heap.size _ ([] ++ xs ++ LebM.putU N) rfl O4.out a2 _ cap2 ys rfl rfl (H2.out.kept B4.out) C2.out (by simp; omega) B4.out.size ?_; intro v5 w5 o5 b5; rw [← HU.out] at o5; obtain ⟨a5, cap5, rfl, h5, -, -⟩ := o5.bts HUL.out; have H5 := Lib.hid h5; have B5 := Lib.hid (B4.out.trans b5); clear o5 b5 h5)
    | (at_builtin; refine wpList_app rfl (.tmp 63) (.tmp 64) rfl w5.heap.size _ [] rfl (Own_new w5) a1 _ cap1 xs rfl rfl ((H1.out.kept B5.out).alloc _) C1.out (by simp; omega) (by simp) ?_; intro v6 w6 o6 b6; have O6 := Lib.hid o6; have B6 := Lib.hid ((Below.refl w5.heap.size w5).alloc (Nat.le_refl _) _ |>.trans b6); clear o6 b6))
  refine (PutS_any M hM1 hM2 _).mono ?_
  rintro e w7 ⟨v7, rfl, hown7, hbel7⟩
  obtain ⟨a7, cap7, rfl, hbt7, hnil7, -⟩ := hown7.bts (putS_lt M.natAbs M (Nat.le_refl _))
  have O6 := Lib.hid (O6.out.kept hbel7)
  have B7 := Lib.hid (B6.out.trans (hbel7.mono B6.out.size))
  have H7 := Lib.hid hbt7
  have C7 := Lib.hid hnil7
  clear hown7 hbel7 hbt7 hnil7
  have hL2 := LebM.putS_len_le 10 M (by omega) (by simp; omega) (by simp; omega)
  obtain ⟨s, hs⟩ : ∃ s, s = [] ++ xs ++ LebM.putS M ++ ys := ⟨_, rfl⟩
  have hsl : ∀ c ∈ s, c < 256 := by
    intro c hc
    rw [hs] at hc
    simp only [List.nil_append, List.mem_append] at hc
    rcases hc with (hc | hc) | hc
    · exact H1.out.1 c hc
    · exact putS_lt M.natAbs M (Nat.le_refl _) c hc
    · exact H2.out.1 c hc
  have hs1 : s.length ≤ xs.length + (LebM.putS M).length + ys.length := by rw [hs]; simp; omega
  have hs2 : xs.length + (LebM.putS M).length + ys.length ≤ s.length := by rw [hs]; simp; omega
  have HS := Lib.hid hs
  have HSL := Lib.hid hsl
  clear hs hsl
  go_wp2_with (first
    | (at_builtin; refine wpList_app rfl (.tmp 65) (.tmp 67) rfl w5.heap.size _ ([] ++ xs) rfl O6.out a7 _ cap7 (LebM.putS M) rfl rfl H7.out C7.out (by simp; omega) B7.out.size ?_; intro v8 w8 o8 b8; have O8 := Lib.hid o8; have B8 := Lib.hid (B7.out.trans b8); clear o8 b8)
    | (at_builtin; refine wpList_app rfl (.tmp 68) (.tmp 69) rfl w5.heap.size _ ([] ++ xs ++ LebM.putS M) rfl O8.out a2 _ cap2 ys rfl rfl ((H2.out.kept B5.out).kept B8.out) C2.out (by simp; omega) B8.out.size ?_; intro v9 w9 o9 b9; rw [← HS.out] at o9; obtain ⟨a9, cap9, rfl, h9, -, -⟩ := o9.bts HSL.out; have H9 := Lib.hid h9; have B9 := Lib.hid (B8.out.trans b9); clear o9 b9 h9))
  have hr1 : LebM.read u xs.length K false = ((N : Int), (xs.length : Int) + (LebM.putU N).length, 0) := by rw [HU.out]; simpa using read_putU xs ys N K hK1 hK2 HN.out
  have hr2 : LebM.read u xs.length 64 false = ((N : Int), (xs.length : Int) + (LebM.putU N).length, 0) := by rw [HU.out]; simpa using read_putU xs ys N 64 (by omega) (by omega) (by simpa using hN1)
  have hr3 : LebM.read s xs.length K true = (M, (xs.length : Int) + (LebM.putS M).length, 0) := by rw [HS.out]; simpa using read_putS xs ys M K hK1 hK2 HM.out.1 HM.out.2
  have hr4 : LebM.read s xs.length 64 true = (M, (xs.length : Int) + (LebM.putS M).length, 0) := by rw [HS.out]; simpa using read_putS xs ys M 64 (by omega) (by omega) (by simpa using hM1) (by simpa using hM2)
  have hU1 := U_any a5 cap5 u xs.length K w9 (H5.out.kept B9.out) (by omega)
  have hU2 := U_any a5 cap5 u xs.length 64 w9 (H5.out.kept B9.out) (by omega)
  have hS1 := S_any a9 cap9 s xs.length K w9 H9.out (by omega)
  have hS2 := S_any a9 cap9 s xs.length 64 w9 H9.out (by omega)
  rw [hr1] at hU1
  rw [hr2] at hU2
  rw [hr3] at hS1
  rw [hr4] at hS2
  have U1 := Lib.hid hU1
  have U2 := Lib.hid hU2
  have S1 := Lib.hid hS1
  have S2 := Lib.hid hS2
  clear hr1 hr2 hr3 hr4 hU1 hU2 hS1 hS2
  generalize (LebM.putU N).length = L1 at *
  generalize (LebM.putS M).length = L2 at *
  refine U1.out.mono ?_
  rintro e w10 ⟨rfl, rfl⟩
  go_wp2_with fail
  refine U2.out.mono ?_
  rintro e w10 ⟨rfl, rfl⟩
  go_wp2_with fail
  refine S1.out.mono ?_
  rintro e w10 ⟨rfl, rfl⟩
  go_wp2_with fail
  refine S2.out.mono ?_
  rintro e w10 ⟨rfl, rfl⟩
  go_wp2
  go_ret
  exact ⟨rfl, B1.out.trans ((B5.out.trans (B9.out.mono B5.out.size)).mono B1.out.size)⟩

set_option maxRecDepth 100000 in
theorem back_out (n m k : Int) (a1 a2 : Option Addr) (l1 l2 cap1 cap2 : Nat) (w : World) (hl1 : l1 ≤ maxLen) (hl2 : l2 ≤ maxLen)
    (h : 200 < l1 ∨ 200 < l2 ∨ k < 1 ∨ 64 < k) :
    Calls Try.prog 8 #[.int .u64 n, .int .i64 m, .int .i64 k, .slice a1 l1 cap1, .slice a2 l2 cap2] w fun e w' => e = .returned (.bool true) ∧ Below w.heap.size w w' := by
  unfold maxLen at hl1 hl2
  go_enter Try.func8, Try.ntmps8
  go_wp2_with fail
  refine (known_any _).mono ?_
  rintro e w1 ⟨rfl, hb1⟩
  have B1 := Lib.hid hb1
  clear hb1
  by_cases c1 : 200 < l1
  · go_wp2
    go_ret
    exact ⟨rfl, B1.out⟩
  · by_cases c2 : 200 < l2
    · go_wp2
      go_ret
      exact ⟨rfl, B1.out⟩
    · by_cases c3 : k < 1
      · go_wp2
        go_ret
        exact ⟨rfl, B1.out⟩
      · have c4 : 64 < k := by omega
        go_wp2
        go_ret
        exact ⟨rfl, B1.out⟩

theorem LebBack_walk (a0 : Int) (a1 : Int) (a2 : Int) (a3 : Option Addr) (len3 cap3 : Nat) (z3 : List Int) (a4 : Option Addr) (len4 cap4 : Nat) (z4 : List Int) (w : World) (w0 : (Lit.int .u64 a0).wf = true) (w1 : (Lit.int .i64 a1).wf = true) (_w2 : (Lit.int .i64 a2).wf = true) (w3 : IsRow .u8 w a3 len3 cap3 z3) (w4 : IsRow .u8 w a4 len4 cap4 z4) :
    Calls Try.prog 8 #[.int .u64 a0, .int .i64 a1, .int .i64 a2, .slice a3 len3 cap3, .slice a4 len4 cap4] w fun e w' => e = .returned (.bool true) ∧ Below w.heap.size w w' := by
  obtain ⟨xs, rfl, hb3, hn3, hc3, hm3⟩ := w3.bts
  obtain ⟨ys, rfl, hb4, hn4, hc4, hm4⟩ := w4.bts
  by_cases h : xs.length ≤ 200 ∧ ys.length ≤ 200 ∧ 1 ≤ a2 ∧ a2 ≤ 64
  · obtain ⟨n, rfl⟩ := Int.eq_ofNat_of_zero_le (u64_wf w0).1
    obtain ⟨K, rfl⟩ := Int.eq_ofNat_of_zero_le (show 0 ≤ a2 by omega)
    have h0 := u64_wf w0
    have h1 := i64_wf w1
    exact back_in n a1 K a3 a4 cap3 cap4 xs ys w (by omega) h1.1 h1.2 (by omega) (by omega) hb3 hb4 h.1 h.2.1 hn3 hn4
  · exact back_out a0 a1 a2 a3 a4 xs.length ys.length cap3 cap4 w (Nat.le_trans hc3 hm3) (Nat.le_trans hc4 hm4) (by omega)
end Go.Proofs.Ytbaihhkcnlhdmaa
