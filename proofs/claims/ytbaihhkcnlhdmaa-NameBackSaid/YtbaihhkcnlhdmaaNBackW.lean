/- The walk of NameBack. -/
import Derived.Test.YtbaihhkcnlhdmaaNPutW
import Derived.Test.YtbaihhkcnlhdmaaNReadsW
namespace Go.Proofs.Ytbaihhkcnlhdmaa
open Go.RowKit NameM

theorem rdN_put (xs ys l : List Nat) (h : 0 ≤ cnt l) (hl : l.length ≤ 100000) :
    rdN (xs ++ (LebM.putU l.length ++ l) ++ ys) xs.length = (l, (xs.length : Int) + ((LebM.putU l.length ++ l).length : Nat), 0) := by
  have hr := read_putU xs (l ++ ys) l.length 32 (by omega) (by omega) (by omega)
  have e : xs ++ (LebM.putU l.length ++ l) ++ ys = xs ++ LebM.putU l.length ++ (l ++ ys) := by simp
  rw [e]
  have hlen : (xs ++ LebM.putU l.length ++ (l ++ ys)).length = xs.length + (LebM.putU l.length).length + l.length + ys.length := by simp; omega
  have hr' : LebM.read (xs ++ LebM.putU l.length ++ (l ++ ys)) (xs.length : Int) 32 false = ((l.length : Int), (xs.length : Int) + (LebM.putU l.length).length, 0) := hr
  have hp : ((xs.length : Int) + ((LebM.putU l.length).length : Nat)).toNat = (xs ++ LebM.putU l.length).length := by rw [List.length_append]; omega
  have hd : ((xs ++ LebM.putU l.length ++ (l ++ ys)).drop (xs ++ LebM.putU l.length).length).take l.length = l := by
    rw [List.drop_left, List.take_left]
  unfold rdN
  rw [hr']
  simp only
  rw [if_neg (by omega), if_neg (by omega), if_neg (by omega), hp, Int.toNat_natCast, hd, if_neg (by omega), List.length_append]
  exact Prod.ext rfl (Prod.ext (by simp only; omega) rfl)

theorem rdN_ok (ys q : List Nat) (A : Int) (hy : ∀ c ∈ ys, c < 256) (h : rdN ys 0 = (q, A, 0)) :
    0 ≤ cnt q ∧ q.length ≤ ys.length ∧ (((LebM.putU q.length).length + q.length : Nat) : Int) ≤ A ∧ ∀ c ∈ q, c < 256 := by
  unfold rdN at h
  rw [if_neg (by omega)] at h
  by_cases h0 : (LebM.read ys 0 32 false).2.2 = 0
  · rw [if_neg (by omega)] at h
    obtain ⟨j, e1, e2, e3, -⟩ := read0_ok ys 32 false (by omega) (by omega) h0
    obtain ⟨f1, f2⟩ := e3 rfl
    by_cases hlt : (ys.length : Int) - (LebM.read ys 0 32 false).2.1 < (LebM.read ys 0 32 false).1
    · rw [if_pos hlt] at h; simp at h
    · rw [if_neg hlt] at h
      generalize LebM.read ys 0 32 false = r at *
      by_cases hc : cnt ((ys.drop r.2.1.toNat).take r.1.toNat) < 0
      · rw [if_pos hc] at h; simp at h
      · rw [if_neg hc] at h
        simp only [Prod.mk.injEq] at h
        obtain ⟨rfl, rfl, -⟩ := h
        have hlen : ((ys.drop r.2.1.toNat).take r.1.toNat).length = r.1.toNat := by rw [List.length_take, List.length_drop]; omega
        refine ⟨by omega, by omega, ?_, fun c hc => hy c (List.mem_of_mem_drop (List.mem_of_mem_take hc))⟩
        rw [hlen]; omega
  · rw [if_pos h0] at h
    simp only [Prod.mk.injEq] at h
    exact absurd h.2.2 h0

set_option maxRecDepth 100000 in
set_option maxHeartbeats 2000000 in
theorem nback_ok (s : ByteArray) (a1 a2 : Option Addr) (cap1 cap2 : Nat) (xs ys : List Nat) (w : World) (hs : s.size ≤ 2000) (h1 : Bts w a1 xs) (h2 : Bts w a2 ys)
    (hx : xs.length ≤ 200) (hy : ys.length ≤ 200) (hc1 : a1 = none → cap1 = 0) (hc2 : a2 = none → cap2 = 0) (hcy : ys.length ≤ cap2) (hok : 0 ≤ cnt (nb s)) :
    Calls Try.prog 14 #[.string s, .slice a1 xs.length cap1, .slice a2 ys.length cap2] w fun e w' => e = .returned (.bool true) ∧ Below w.heap.size w w' := by
  have P1 := Lib.hid (NPut_any s (by omega))
  have hput : putN (nb s) = (LebM.putU (nb s).length ++ nb s, 0) := by unfold putN; rw [if_neg (by omega), if_neg (by rw [len_nb]; omega)]
  rw [hput] at P1
  have hrd := rdN_put xs ys (nb s) hok (by rw [len_nb]; omega)
  have hLlt : ∀ c ∈ LebM.putU (nb s).length ++ nb s, c < 256 := by
    intro c hc
    rcases List.mem_append.1 hc with h | h
    · exact putU_lt _ c h
    · exact nb_lt s c h
  have hLlen : (LebM.putU (nb s).length ++ nb s).length ≤ 3000 := by
    have := LebM.putU_len_le (n := (nb s).length) (k := 10) (by omega) (by rw [len_nb]; omega)
    rw [List.length_append]
    have := len_nb s
    omega
  have hR2 : ∀ w, Bts w a2 ys → _ := fun w hw => NRead_any a2 cap2 ys 0 w hw (by omega) hcy
  have hq := rdN_ok ys
  obtain ⟨r, hr⟩ : ∃ r, r = rdN ys 0 := ⟨_, rfl⟩
  rw [← hr] at hR2 hq
  obtain ⟨q, A, er⟩ := r
  unfold nmV at hR2
  have hstr := strN_nb s
  generalize LebM.putU (nb s).length ++ nb s = L at *
  obtain ⟨u, hu⟩ : ∃ u, u = [] ++ xs ++ L ++ ys := ⟨_, rfl⟩
  have hul : ∀ c ∈ u, c < 256 := by
    intro c hc
    rw [hu] at hc
    simp only [List.nil_append, List.mem_append] at hc
    rcases hc with (hc | hc) | hc
    · exact h1.1 c hc
    · exact hLlt c hc
    · exact h2.1 c hc
  have hu1 : u.length ≤ xs.length + L.length + ys.length := by rw [hu]; simp; omega
  have hrd' : rdN u xs.length = (nb s, (xs.length : Int) + (L.length : Nat), 0) := by rw [hu]; simpa using hrd
  have hR1 : ∀ a cap w, Bts w a u → u.length ≤ cap → Calls Try.prog 16 #[.slice a u.length cap, .int .i64 xs.length] w fun e w' => e = .returned (.tuple #[.string s, .int .i64 ((xs.length : Int) + (L.length : Nat)), .int .i64 0]) ∧ Below w.heap.size w w' := by
    intro a cap w hw hc
    have := NRead_any a cap u xs.length w hw (by omega) hc
    rw [hrd'] at this
    unfold nmV at this
    simp only [hstr] at this
    exact this
  have R1 := Lib.hid hR1
  have R2 := Lib.hid hR2
  have H1 := Lib.hid h1
  have H2 := Lib.hid h2
  have C1 := Lib.hid hc1
  have C2 := Lib.hid hc2
  have HU := Lib.hid hu
  have HUL := Lib.hid hul
  have HLL := Lib.hid hLlt
  have HQ := Lib.hid (hq q A h2.1)
  clear hR1 hR2 h1 h2 hc1 hc2 hu hul hLlt hq hr hrd hrd' hstr hput hok hcy
  by_cases he : er = 0
  · subst he
    obtain ⟨q1, q2, q3, q4⟩ := HQ.out rfl
    have P2 := Lib.hid (NPut_any (strN q) (by rw [size_strN]; omega))
    have hput : putN (nb (strN q)) = (LebM.putU q.length ++ q, 0) := by rw [nb_strN q q4]; unfold putN; rw [if_neg (by omega), if_neg (by omega)]
    rw [hput] at P2
    have hQlt : ∀ c ∈ LebM.putU q.length ++ q, c < 256 := by
      intro c hc
      rcases List.mem_append.1 hc with h | h
      · exact putU_lt _ c h
      · exact q4 c h
    have hQle : ((LebM.putU q.length ++ q).length : Int) ≤ A := by rw [List.length_append]; exact q3
    have hdec : decide (A < ((LebM.putU q.length ++ q).length : Int)) = false := by simp; rw [List.length_append] at hQle; omega
    have HQL := Lib.hid hQlt
    generalize LebM.putU q.length ++ q = Q at *
    simp only at R2 P2
    generalize strN q = str at *
    clear hput q1 q2 q3 q4 hQlt HQ
    go_enter Try.func14, Try.ntmps14
    go_wp2_with fail
    refine (knownN_any _).mono ?_
    rintro e w1 ⟨rfl, hb1⟩
    have B1 := Lib.hid hb1
    have H1 := Lib.hid (H1.out.kept hb1)
    have H2 := Lib.hid (H2.out.kept hb1)
    clear hb1
    go_wp2_with fail
    refine (P1.out w1).mono ?_
    rintro e w2 ⟨v2, rfl, o2, b2⟩
    obtain ⟨a3, cap3, rfl, h3, n3, -⟩ := o2.bts HLL.out
    have B2 := Lib.hid b2
    have H3 := Lib.hid h3
    have N3 := Lib.hid n3
    have H1 := Lib.hid (H1.out.kept b2)
    have H2 := Lib.hid (H2.out.kept b2)
    clear o2 b2 h3 n3
    go_wp2_with (first
      | (at_builtin; refine wpList_app rfl (.tmp 52) (.tmp 53) rfl w2.heap.size _ [] rfl (Own_new w2) a1 xs.length cap1 xs rfl rfl (H1.out.alloc _) C1.out (by simp; omega) (by simp) ?_; intro v3 w3 o3 b3; have O3 := Lib.hid o3; have B3 := Lib.hid ((Below.refl w2.heap.size w2).alloc (Nat.le_refl _) _ |>.trans b3); clear o3 b3)
      | (at_builtin; refine wpList_app rfl (.tmp 54) (.tmp 55) rfl w2.heap.size _ ([] ++ xs) rfl O3.out a3 _ cap3 L rfl rfl (H3.out.kept B3.out) N3.out (by simp; omega) B3.out.size ?_; intro v4 w4 o4 b4; have O4 := Lib.hid o4; have B4 := Lib.hid (B3.out.trans b4); clear o4 b4)
      | (at_builtin; refine wpList_app rfl (.tmp 56) (.tmp 57) rfl w2.heap.size _ ([] ++ xs ++ L) rfl O4.out a2 _ cap2 ys rfl rfl (H2.out.kept B4.out) C2.out (by simp; omega) B4.out.size ?_; intro v5 w5 o5 b5; rw [← HU.out] at o5; obtain ⟨a5, cap5, rfl, h5, -, n5⟩ := o5.bts HUL.out; have H5 := Lib.hid h5; have N5 := Lib.hid n5; have B5 := Lib.hid (B4.out.trans b5); clear o5 b5 h5 n5))
    refine (R1.out a5 cap5 w5 H5.out (by have := N5.out; omega)).mono ?_
    rintro e w6 ⟨rfl, b6⟩
    have B6 := Lib.hid (B5.out.trans (b6.mono B5.out.size))
    clear b6
    go_wp2_with fail
    refine (R2.out w6 (H2.out.kept B6.out)).mono ?_
    rintro e w7 ⟨rfl, b7⟩
    have B7 := Lib.hid (B6.out.trans (b7.mono B6.out.size))
    clear b7
    go_wp2_with fail
    refine (P2.out w7).mono ?_
    rintro e w8 ⟨v8, rfl, o8, b8⟩
    obtain ⟨a8, cap8, rfl, -, -, -⟩ := o8.bts HQL.out
    have B8 := Lib.hid (B7.out.trans (b8.mono B7.out.size))
    clear b8 o8
    go_wp2
    go_ret
    exact ⟨rfl, (B1.out.trans (B2.out.mono B1.out.size)).trans (B8.out.mono (Nat.le_trans B1.out.size B2.out.size))⟩
  · have heb : ((er : Int) == 0) = false := by simp; omega
    simp only at R2
    generalize strN q = str at *
    clear he HQ
    go_enter Try.func14, Try.ntmps14
    go_wp2_with fail
    refine (knownN_any _).mono ?_
    rintro e w1 ⟨rfl, hb1⟩
    have B1 := Lib.hid hb1
    have H1 := Lib.hid (H1.out.kept hb1)
    have H2 := Lib.hid (H2.out.kept hb1)
    clear hb1
    go_wp2_with fail
    refine (P1.out w1).mono ?_
    rintro e w2 ⟨v2, rfl, o2, b2⟩
    obtain ⟨a3, cap3, rfl, h3, n3, -⟩ := o2.bts HLL.out
    have B2 := Lib.hid b2
    have H3 := Lib.hid h3
    have N3 := Lib.hid n3
    have H1 := Lib.hid (H1.out.kept b2)
    have H2 := Lib.hid (H2.out.kept b2)
    clear o2 b2 h3 n3
    go_wp2_with (first
      | (at_builtin; refine wpList_app rfl (.tmp 52) (.tmp 53) rfl w2.heap.size _ [] rfl (Own_new w2) a1 xs.length cap1 xs rfl rfl (H1.out.alloc _) C1.out (by simp; omega) (by simp) ?_; intro v3 w3 o3 b3; have O3 := Lib.hid o3; have B3 := Lib.hid ((Below.refl w2.heap.size w2).alloc (Nat.le_refl _) _ |>.trans b3); clear o3 b3)
      | (at_builtin; refine wpList_app rfl (.tmp 54) (.tmp 55) rfl w2.heap.size _ ([] ++ xs) rfl O3.out a3 _ cap3 L rfl rfl (H3.out.kept B3.out) N3.out (by simp; omega) B3.out.size ?_; intro v4 w4 o4 b4; have O4 := Lib.hid o4; have B4 := Lib.hid (B3.out.trans b4); clear o4 b4)
      | (at_builtin; refine wpList_app rfl (.tmp 56) (.tmp 57) rfl w2.heap.size _ ([] ++ xs ++ L) rfl O4.out a2 _ cap2 ys rfl rfl (H2.out.kept B4.out) C2.out (by simp; omega) B4.out.size ?_; intro v5 w5 o5 b5; rw [← HU.out] at o5; obtain ⟨a5, cap5, rfl, h5, -, n5⟩ := o5.bts HUL.out; have H5 := Lib.hid h5; have N5 := Lib.hid n5; have B5 := Lib.hid (B4.out.trans b5); clear o5 b5 h5 n5))
    refine (R1.out a5 cap5 w5 H5.out (by have := N5.out; omega)).mono ?_
    rintro e w6 ⟨rfl, b6⟩
    have B6 := Lib.hid (B5.out.trans (b6.mono B5.out.size))
    clear b6
    go_wp2_with fail
    refine (R2.out w6 (H2.out.kept B6.out)).mono ?_
    rintro e w7 ⟨rfl, b7⟩
    have B7 := Lib.hid (B6.out.trans (b7.mono B6.out.size))
    clear b7
    go_wp2
    go_ret
    exact ⟨rfl, (B1.out.trans (B2.out.mono B1.out.size)).trans (B7.out.mono (Nat.le_trans B1.out.size B2.out.size))⟩

set_option maxRecDepth 100000 in
theorem nback_bad (s : ByteArray) (a1 a2 : Option Addr) (n1 n2 cap1 cap2 : Nat) (w : World) (hs : s.size ≤ 2000) (hx : n1 ≤ 200) (hy : n2 ≤ 200) (hok : ¬ 0 ≤ cnt (nb s)) :
    Calls Try.prog 14 #[.string s, .slice a1 n1 cap1, .slice a2 n2 cap2] w fun e w' => e = .returned (.bool true) ∧ Below w.heap.size w w' := by
  have P1 := Lib.hid (NPut_any s (by omega))
  have hput : putN (nb s) = ([], 20) := by unfold putN; rw [if_pos (by omega)]
  rw [hput] at P1
  have W1 := Lib.hid (Well_any s (by omega))
  rw [show decide (0 ≤ cnt (nb s)) = false by simp; omega] at W1
  clear hput hok
  go_enter Try.func14, Try.ntmps14
  go_wp2_with fail
  refine (knownN_any _).mono ?_
  rintro e w1 ⟨rfl, hb1⟩
  have B1 := Lib.hid hb1
  clear hb1
  go_wp2_with fail
  refine (P1.out w1).mono ?_
  rintro e w2 ⟨v, rfl, o2, b2⟩
  obtain ⟨a3, cap3, rfl, -, -, -⟩ := o2.bts (by simp)
  have B2 := Lib.hid b2
  clear o2 b2
  go_wp2_with fail
  refine (W1.out w2).mono ?_
  rintro e w3 ⟨rfl, b3⟩
  have B3 := Lib.hid (B2.out.trans (b3.mono B2.out.size))
  clear b3
  go_wp2
  go_ret
  exact ⟨rfl, B1.out.trans (B3.out.mono B1.out.size)⟩

set_option maxRecDepth 100000 in
theorem nback_out (s : ByteArray) (a1 a2 : Option Addr) (n1 n2 cap1 cap2 : Nat) (w : World) (hs : s.size ≤ maxLen) (hx : n1 ≤ maxLen) (hy : n2 ≤ maxLen) (h : 2000 < s.size ∨ 200 < n1 ∨ 200 < n2) :
    Calls Try.prog 14 #[.string s, .slice a1 n1 cap1, .slice a2 n2 cap2] w fun e w' => e = .returned (.bool true) ∧ Below w.heap.size w w' := by
  unfold maxLen at hs hx hy
  by_cases c1 : 2000 < s.size
  · go_enter Try.func14, Try.ntmps14
    go_wp2_with fail
    refine (knownN_any _).mono ?_
    rintro e w1 ⟨rfl, hb1⟩
    have B1 := Lib.hid hb1
    clear hb1
    go_wp2
    go_ret
    exact ⟨rfl, B1.out⟩
  · by_cases c2 : 200 < n1
    · go_enter Try.func14, Try.ntmps14
      go_wp2_with fail
      refine (knownN_any _).mono ?_
      rintro e w1 ⟨rfl, hb1⟩
      have B1 := Lib.hid hb1
      clear hb1
      go_wp2
      go_ret
      exact ⟨rfl, B1.out⟩
    · have c3 : 200 < n2 := by omega
      go_enter Try.func14, Try.ntmps14
      go_wp2_with fail
      refine (knownN_any _).mono ?_
      rintro e w1 ⟨rfl, hb1⟩
      have B1 := Lib.hid hb1
      clear hb1
      go_wp2
      go_ret
      exact ⟨rfl, B1.out⟩

theorem NameBack_walk (a0 : ByteArray) (a1 : Option Addr) (len1 cap1 : Nat) (z1 : List Int) (a2 : Option Addr) (len2 cap2 : Nat) (z2 : List Int) (w : World) (w0 : a0.size ≤ maxLen) (w1 : IsRow .u8 w a1 len1 cap1 z1) (w2 : IsRow .u8 w a2 len2 cap2 z2) :
    Calls Try.prog 14 #[.string a0, .slice a1 len1 cap1, .slice a2 len2 cap2] w fun e w' => e = .returned (.bool true) ∧ Below w.heap.size w w' := by
  obtain ⟨xs, rfl, hb1, hn1, hc1, hm1⟩ := w1.bts
  obtain ⟨ys, rfl, hb2, hn2, hc2, hm2⟩ := w2.bts
  by_cases h : a0.size ≤ 2000 ∧ xs.length ≤ 200 ∧ ys.length ≤ 200
  · by_cases hok : 0 ≤ cnt (nb a0)
    · exact nback_ok a0 a1 a2 cap1 cap2 xs ys w h.1 hb1 hb2 h.2.1 h.2.2 hn1 hn2 hc2 hok
    · exact nback_bad a0 a1 a2 _ _ cap1 cap2 w h.1 h.2.1 h.2.2 hok
  · exact nback_out a0 a1 a2 _ _ cap1 cap2 w w0 (Nat.le_trans hc1 hm1) (Nat.le_trans hc2 hm2) (by omega)
end Go.Proofs.Ytbaihhkcnlhdmaa

