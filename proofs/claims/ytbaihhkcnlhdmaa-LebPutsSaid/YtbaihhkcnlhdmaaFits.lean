/- The contract of the reader's test of one byte (leb.fits). -/
import Derived.Test.YtbaihhkcnlhdmaaBase
namespace Go.Proofs.Ytbaihhkcnlhdmaa
open Go.RowKit

theorem eq0_cast (x p : Nat) : ((x : Int) / 2 ^ p == 0) = (x / 2 ^ p == 0) := by
  rw [Bool.eq_iff_iff, beq_iff_eq, beq_iff_eq, ← LebM.two_pow_cast, ← Int.natCast_ediv]; omega
theorem eqm_cast (x p : Nat) : ((x : Int) / 2 ^ p == 127 / 2 ^ p) = (x / 2 ^ p == 127 / 2 ^ p) := by
  have : (127 : Int) / 2 ^ p = ((127 / 2 ^ p : Nat) : Int) := by rw [Int.natCast_ediv, LebM.two_pow_cast]; rfl
  rw [Bool.eq_iff_iff, beq_iff_eq, beq_iff_eq, this, ← LebM.two_pow_cast, ← Int.natCast_ediv]; omega
theorem fitsU_val (c l : Nat) (h : ¬ 7 ≤ l) : ((c : Int) % 128 / 2 ^ l == 0) = LebM.fits c l false := by
  have := eq0_cast (c % 128) l
  rw [Int.natCast_emod] at this
  exact this.trans (by simp [LebM.fits, h])
theorem fitsS_val (c l : Nat) (h : ¬ 7 ≤ l) : ((c : Int) % 128 / 2 ^ (l - 1) == 0 || (c : Int) % 128 / 2 ^ (l - 1) == 127 / 2 ^ (l - 1)) = LebM.fits c l true := by
  have h1 := eq0_cast (c % 128) (l - 1)
  have h2 := eqm_cast (c % 128) (l - 1)
  rw [Int.natCast_emod] at h1 h2
  have e : ((128 : Nat) : Int) = 128 := rfl
  rw [e] at h1 h2
  rw [h1, h2]; simp [LebM.fits, h]

theorem fits_any (c l : Nat) (s : Bool) (hc : c < 256) (hl : 1 ≤ l) (hl' : l ≤ 64) (w : World) :
    Calls Try.prog 42 #[.int .u8 c, .int .i64 l, .bool s] w fun e w' => e = .returned (.bool (LebM.fits c l s)) ∧ w = w' := by
  by_cases h7 : 7 ≤ l
  · go_enter Try.func42, Try.ntmps42
    go_wp2
    go_ret
    exact ⟨by simp [LebM.fits, h7], rfl⟩
  · have e1 := and127 c hc
    cases s
    · go_enter Try.func42, Try.ntmps42
      go_wp2
      go_ret
      exact ⟨ret_b (fitsU_val c l h7), rfl⟩
    · have hv := Lib.hid (fitsS_val c l h7)
      go_enter Try.func42, Try.ntmps42
      go_wp2
      all_goals go_ret
      · have h0 : (c : Int) % 128 / 2 ^ (l - 1) = 0 := by assumption
        exact ⟨ret_b (by rw [← hv.out, h0]; rfl), rfl⟩
      · exact ⟨ret_b hv.out, rfl⟩
end Go.Proofs.Ytbaihhkcnlhdmaa
