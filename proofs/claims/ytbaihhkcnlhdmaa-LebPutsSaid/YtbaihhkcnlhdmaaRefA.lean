/- The reference's contracts: geoderef01.bit, less. -/
import Derived.Test.YtbaihhkcnlhdmaaShortW
namespace Go.Proofs.Ytbaihhkcnlhdmaa
open Go.RowKit

theorem bit_r (c j r : Nat) (hc : c < 256) (hj : j ≤ 7) (hr : Hid (r = c / 2 ^ j % 2)) (w : World) :
    Calls Try.prog 43 #[.int .u8 c, .int .i64 j] w fun e w' => e = .returned (.int .i64 (r : Int)) ∧ w = w' := by
  go_enter Try.func43, Try.ntmps43
  go_wp2
  go_loop [0, 5] (fun x i => ∃ k y : Nat, k ≤ j ∧ i = .int .i64 (k : Int) ∧ x = .int .u8 (y : Int) ∧ y < 256 ∧ y = c / 2 ^ k) (fun _ i => j - (intOf i).toNat)
  case atStart => exact ⟨0, c, by omega, rfl, rfl, hc, by simp⟩
  case round =>
    obtain ⟨k, y, hk, rfl, rfl, hy, hyk⟩ := hrel
    have HY := Lib.hid hyk
    clear hyk
    by_cases hlt : k < j
    · go_wp2
      go_round
      case rel => exact ⟨k + 1, y / 2, by omega, by go_num, by go_num, by omega, by rw [HY.out, Nat.div_div_eq_div_mul, Nat.pow_succ]⟩
      case measure => simp [intOf]; omega
    · go_wp2
      go_ret
      have : k = j := by omega
      subst this
      exact ⟨ret_i (by rw [hr.out, ← HY.out]; omega), rfl⟩

theorem bit_any (c j : Nat) (hc : c < 256) (hj : j ≤ 7) (w : World) :
    Calls Try.prog 43 #[.int .u8 c, .int .i64 j] w fun e w' => e = .returned (.int .i64 ((c / 2 ^ j % 2 : Nat) : Int)) ∧ w = w' := bit_r c j _ hc hj (Lib.hid rfl) w

theorem less_r (n r : Int) (hr : Hid (r = if n < 0 ∧ n % 128 ≠ 0 then 1 else 0)) (w : World) :
    Calls Try.prog 39 #[.int .i64 n] w fun e w' => e = .returned (.int .i64 r) ∧ w = w' := by
  by_cases h : n < 0
  · by_cases h2 : n % 128 = 0
    · have HR := Lib.hid (hr.out.trans (if_neg (by simp [h2])))
      have ht : (n.tmod 128 != 0) = false := by
        have := Int.dvd_of_emod_eq_zero h2
        simp [Int.tmod_eq_zero_of_dvd this]
      clear h2
      go_enter Try.func39, Try.ntmps39
      go_wp2
      go_ret
      exact ⟨ret_i HR.out.symm, rfl⟩
    · have HR := Lib.hid (hr.out.trans (if_pos ⟨h, h2⟩))
      have ht : (n.tmod 128 != 0) = true := by
        simp only [bne_iff_ne, ne_eq]
        intro h0
        exact h2 (Int.emod_eq_zero_of_dvd (Int.dvd_of_tmod_eq_zero h0))
      clear h2
      go_enter Try.func39, Try.ntmps39
      go_wp2
      go_ret
      exact ⟨ret_i HR.out.symm, rfl⟩
  · have HR := Lib.hid (hr.out.trans (if_neg (by simp [h])))
    go_enter Try.func39, Try.ntmps39
    go_wp2
    go_ret
    exact ⟨ret_i HR.out.symm, rfl⟩
end Go.Proofs.Ytbaihhkcnlhdmaa
