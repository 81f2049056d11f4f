/- The reference's contracts: geoderef01.PutU, PutS. -/
import Derived.Test.YtbaihhkcnlhdmaaRefA
namespace Go.Proofs.Ytbaihhkcnlhdmaa
open Go.RowKit

theorem Own_one (w : World) (x : Int) (c : Nat) (hx : x = c) : Own (w.alloc (.cells #[.int .u8 x] 5)) w.heap.size (.slice (some ⟨w.heap.size, 0, none⟩) 1 1) [c] := by
  subst hx
  have := World.ownsRow_lit (base := w.heap.size) (e := 5) (size := 1) w #[.int .u8 (c : Int)] 1 (Nat.le_refl _) (by unfold maxLen; omega) rfl
  simpa [Own, cellsOf] using this

set_option maxRecDepth 100000 in
set_option maxHeartbeats 400000 in
theorem rPutU_any (f : Nat) : ∀ (n : Nat) (w : World), n ≤ f → n < 18446744073709551616 →
    Calls Try.prog 27 #[.int .u64 n] w fun e w' => ∃ v, e = .returned v ∧ Own w' w.heap.size v (LebM.putU n) ∧ Below w.heap.size w w' := by
  induction f using Nat.strongRecOn with
  | ind f ih =>
    intro n w hf hn
    by_cases h : n < 128
    · have HR := Lib.hid (show LebM.putU n = [n] by rw [LebM.putU, if_pos h])
      clear ih
      go_enter Try.func27, Try.ntmps27
      go_wp2
      go_ret
      refine ⟨_, rfl, ?_, (Below.refl _ _).alloc (Nat.le_refl _) _⟩
      rw [HR.out]
      exact Own_one w n n rfl
    · have HR := Lib.hid (show LebM.putU n = [n % 128 + 128] ++ LebM.putU (n / 128) by rw [LebM.putU, if_neg h]; rfl)
      have IH := Lib.hid (ih (n / 128) (by omega) (n / 128) (w.alloc (.cells #[.int .u8 ((n : Int) % 128 + 128)] 5)) (Nat.le_refl _) (by omega))
      have EN := Lib.hid (show (n : Int) / 128 = ((n / 128 : Nat) : Int) by omega)
      have hL := LebM.putU_len_le (n := n / 128) (k := 10) (by omega) (by omega)
      have HL := Lib.hid hL
      clear ih hL
      go_enter Try.func27, Try.ntmps27
      go_wp2_with fail
      rw [EN.out]
      refine IH.out.mono ?_
      rintro e w1 ⟨v, rfl, o1, b1⟩
      obtain ⟨a1, cap1, rfl, h1, n1, -⟩ := o1.bts (putU_lt _)
      have hO := (Own_one w ((n : Int) % 128 + 128) (n % 128 + 128) (by omega)).kept b1
      have B1 := Lib.hid (((Below.refl w.heap.size w).alloc (Nat.le_refl _) _).trans (b1.mono (by simp)))
      have H1 := Lib.hid h1
      have N1 := Lib.hid n1
      have O1 := Lib.hid hO
      clear o1 b1 h1 n1 hO
      go_wp2_with (at_builtin; refine wpList_app rfl (.tmp 12) (.tmp 15) rfl w.heap.size _ [n % 128 + 128] rfl O1.out a1 _ cap1 (LebM.putU (n / 128)) rfl rfl H1.out N1.out (by have := HL.out; simp; omega) B1.out.size ?_; intro v4 w4 o4 b4; have O4 := Lib.hid o4; have B4 := Lib.hid (B1.out.trans b4); clear o4 b4)
      go_ret
      refine ⟨_, rfl, ?_, B4.out⟩
      rw [HR.out]
      exact O4.out

theorem tdiv_less (n : Int) : n.tdiv 128 - (if n < 0 ∧ n % 128 ≠ 0 then 1 else 0) = n / 128 := by
  rw [Int.tdiv_eq_ediv]
  have h128 : (128 : Int).sign = 1 := rfl
  rw [h128]
  by_cases h : 0 ≤ n
  · rw [if_pos (.inl h), if_neg (by omega)]; omega
  · by_cases h2 : n % 128 = 0
    · rw [if_pos (.inr (Int.dvd_of_emod_eq_zero h2)), if_neg (by simp [h2])]; omega
    · have hn : ¬ (0 ≤ n ∨ 128 ∣ n) := by
        intro hc
        rcases hc with hc | hc
        · exact h hc
        · exact h2 (Int.emod_eq_zero_of_dvd hc)
      rw [if_neg hn, if_pos ⟨by omega, h2⟩]; omega

theorem low7 (n : Int) : (IntKind.u64.wrap n).tmod 128 = n % 128 := by
  rw [IntKind.wrap_u64, Int.tmod_eq_emod_of_nonneg (by omega)]; omega

set_option maxRecDepth 100000 in
set_option maxHeartbeats 400000 in
theorem rPutS_any (f : Nat) : ∀ (n : Int) (w : World), n.natAbs ≤ f → -9223372036854775808 ≤ n → n < 9223372036854775808 →
    Calls Try.prog 29 #[.int .i64 n] w fun e w' => ∃ v, e = .returned v ∧ Own w' w.heap.size v (LebM.putS n) ∧ Below w.heap.size w w' := by
  induction f using Nat.strongRecOn with
  | ind f ih =>
    intro n w hf hn1 hn2
    have HX := low7 n
    by_cases h : -64 ≤ n ∧ n < 64
    · have HR := Lib.hid (show LebM.putS n = [(n % 128).toNat] by rw [LebM.putS, if_pos h])
      clear ih
      go_enter Try.func29, Try.ntmps29
      go_wp2
      go_ret
      refine ⟨_, rfl, ?_, (Below.refl _ _).alloc (Nat.le_refl _) _⟩
      rw [HR.out]
      exact Own_one w _ _ (by omega)
    · have HR := Lib.hid (show LebM.putS n = [(n % 128).toNat + 128] ++ LebM.putS (n / 128) by rw [LebM.putS, if_neg h]; rfl)
      obtain ⟨r, hr⟩ : ∃ r : Int, r = if n < 0 ∧ n % 128 ≠ 0 then 1 else 0 := ⟨_, rfl⟩
      have hr0 : 0 ≤ r ∧ r ≤ 1 := by rw [hr]; split <;> omega
      have ht : n.tdiv 128 - r = n / 128 := by rw [hr]; exact tdiv_less n
      have HRR := Lib.hid hr
      clear hr
      have IH := Lib.hid (ih (n / 128).natAbs (by omega) (n / 128) (w.alloc (.cells #[.int .u8 (n % 128 + 128)] 5)) (Nat.le_refl _) (by omega) (by omega))
      have hL := LebM.putS_len_le 10 (n / 128) (by omega) (by simp; omega) (by simp; omega)
      have HL := Lib.hid hL
      have q1 : -9223372036854775808 ≤ n / 128 := by omega
      have q2 : n / 128 < 9223372036854775808 := by omega
      have hw : wrap64 (n.tdiv 128 - r) = n / 128 := by rw [ht]; unfold wrap64; omega
      have HW := Lib.hid hw
      have HT := Lib.hid ht
      clear ih hL hw ht q1 q2
      have hc : n < -64 ∨ 64 ≤ n := by omega
      rcases hc with hc | hc
      all_goals
        go_enter Try.func29, Try.ntmps29
        go_wp2_with fail
        refine (less_r n r (Lib.hid HRR.out) _).mono ?_
        rintro e w1 ⟨rfl, rfl⟩
        go_wp2_with fail
        first | rw [HW.out] | (rw [show n / 128 - r = n / 128 by rw [HRR.out, if_neg (by omega)]; omega])
        refine IH.out.mono ?_
        rintro e w2 ⟨v, rfl, o1, b1⟩
        obtain ⟨a1, cap1, rfl, h1, n1, -⟩ := o1.bts (putS_lt _ _ (Nat.le_refl _))
        have hO := (Own_one w (n % 128 + 128) ((n % 128).toNat + 128) (by omega)).kept b1
        have B1 := Lib.hid (((Below.refl w.heap.size w).alloc (Nat.le_refl _) _).trans (b1.mono (by simp)))
        have H1 := Lib.hid h1
        have N1 := Lib.hid n1
        have O1 := Lib.hid hO
        clear o1 b1 h1 n1 hO
        go_wp2_with (at_builtin; refine wpList_app rfl (.tmp 22) (.tmp 28) rfl w.heap.size _ [(n % 128).toNat + 128] rfl O1.out a1 _ cap1 (LebM.putS (n / 128)) rfl rfl H1.out N1.out (by have := HL.out; simp; omega) B1.out.size ?_; intro v4 w4 o4 b4; have O4 := Lib.hid o4; have B4 := Lib.hid (B1.out.trans b4); clear o4 b4)
        go_ret
        refine ⟨_, rfl, ?_, B4.out⟩
        rw [HR.out]
        exact O4.out
end Go.Proofs.Ytbaihhkcnlhdmaa
