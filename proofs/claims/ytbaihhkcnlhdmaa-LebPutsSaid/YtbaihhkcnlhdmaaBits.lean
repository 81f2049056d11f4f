/- Plain laws on the reader's words of 64 bits. -/
import Derived.Test.YtbaihhkcnlhdmaaBase
namespace Go.Proofs.Ytbaihhkcnlhdmaa
open Go.RowKit

theorem and128 (c : Nat) (hc : c < 256) : bits .and .u8 (c : Int) 128 = ((c / 128 * 128 : Nat) : Int) := by
  have := u8_and_nat c 128 hc (by omega)
  rw [show (128 : Nat) = 2 ^ 7 from rfl, nat_bit] at this
  refine this.trans ?_
  congr 1; omega
theorem and64 (c : Nat) (hc : c < 256) : bits .and .u8 (c : Int) 64 = ((c / 64 % 2 * 64 : Nat) : Int) := by
  have := u8_and_nat c 64 hc (by omega)
  rw [show (64 : Nat) = 2 ^ 6 from rfl, nat_bit] at this
  exact this

/-- ones from a place on -/
def ones (c : Int) : Int := u64 (18446744073709551615 * 2 ^ min c.toNat 64)
theorem shl_ones (P : Program) (w : World) (c : Int) (h : 0 ≤ c) : (Op.shift .shl .u64 18446744073709551615 .i64 c).run P w = .ok (.int .u64 (ones c)) w := by
  rw [shift_shl_any _ _ _ _ h, IntKind.wrap_u64]; rfl

theorem nat_add_mod_pow (a x d : Nat) (ha : a < 2 ^ d) (hd : d ≤ 64) : a ||| (x * 2 ^ d) % 18446744073709551616 = (a + x * 2 ^ d) % 18446744073709551616 := by
  have e : (18446744073709551616 : Nat) = 2 ^ d * 2 ^ (64 - d) := by rw [← LebM.pow_split hd]
  have hx : x % 2 ^ (64 - d) < 2 ^ (64 - d) := Nat.mod_lt _ (Nat.two_pow_pos _)
  have hq : x = x % 2 ^ (64 - d) + 2 ^ (64 - d) * (x / 2 ^ (64 - d)) := (Nat.mod_add_div _ _).symm
  have e1 : (x * 2 ^ d) % 18446744073709551616 = 2 ^ d * (x % 2 ^ (64 - d)) := by rw [e, Nat.mul_comm x, Nat.mul_mod_mul_left]
  have h2 := Nat.mul_le_mul_left (2 ^ d) (Nat.succ_le_of_lt hx)
  rw [← e, Nat.succ_eq_add_one, Nat.mul_add, Nat.mul_one] at h2
  have e2 : x * 2 ^ d = 2 ^ d * (x % 2 ^ (64 - d)) + 18446744073709551616 * (x / 2 ^ (64 - d)) := by
    rw [e, Nat.mul_assoc, ← Nat.mul_add, ← hq, Nat.mul_comm]
  rw [e1, Nat.or_comm, nat_join d _ _ (by simp) ha, e2]
  generalize 2 ^ d * (x % 2 ^ (64 - d)) = y at *
  generalize x / 2 ^ (64 - d) = z at *
  generalize 2 ^ d = q at *
  omega

theorem u64_nat (n : Nat) : u64 (n : Int) = ((n % 18446744073709551616 : Nat) : Int) := by unfold u64; omega
theorem lt_of_pow64 {a d : Nat} (h : a < 2 ^ d) (hd : d ≤ 64) : a < 18446744073709551616 :=
  Nat.lt_of_lt_of_le h (by have := Nat.pow_le_pow_right (n := 2) (by omega) hd; simpa using this)

/-- the next places -/
theorem or_next (a c d : Nat) (ha : a < 2 ^ d) (hd : d ≤ 64) :
    bits .or .u64 (a : Int) (IntKind.u64.wrap ((c : Int) % 128 * 2 ^ d)) = u64 ((a + c % 128 * 2 ^ d : Nat) : Int) := by
  have e : IntKind.u64.wrap ((c : Int) % 128 * 2 ^ d) = ((c % 128 * 2 ^ d % 18446744073709551616 : Nat) : Int) := by
    rw [IntKind.wrap_u64]
    simp only [Int.natCast_emod, Int.natCast_mul, LebM.two_pow_cast]
    rfl
  rw [e, u64_or_nat _ _ (lt_of_pow64 ha hd) (Nat.mod_lt _ (by omega)), nat_add_mod_pow _ _ _ ha hd, u64_nat]

/-- the sign's places -/
theorem or_ones (a d : Nat) (ha : a < 2 ^ d) (hd : d ≤ 70) (h70 : d ≤ 63 ∨ d = 70) :
    bits .or .u64 (u64 (a : Int)) (ones (d : Int)) = u64 ((a : Int) - 2 ^ d) := by
  rcases h70 with h | rfl
  · have hl := LebM.pow_split (d := d) (bits := 64) (by omega)
    have e : ones (d : Int) = ((2 ^ d * (2 ^ (64 - d) - 1) : Nat) : Int) := by
      unfold ones
      rw [show min ((d : Int)).toNat 64 = d by omega, ← LebM.two_pow_cast]
      have : (18446744073709551615 : Int) * ((2 ^ d : Nat) : Int) = ((18446744073709551615 * 2 ^ d : Nat) : Int) := by simp
      rw [this, u64_nat]
      congr 1
      have hle : 2 ^ d ≤ 2 ^ 64 := Nat.pow_le_pow_right (by omega) (by omega)
      rw [Nat.mul_sub, ← hl]
      have hp := Nat.two_pow_pos d
      generalize 2 ^ d = q at *
      omega
    have h64 : a < 18446744073709551616 := lt_of_pow64 ha (by omega)
    have hm : 2 ^ d * (2 ^ (64 - d) - 1) < 18446744073709551616 := by
      rw [Nat.mul_sub, ← hl]; have := Nat.two_pow_pos d; omega
    rw [e, u64_nat, Nat.mod_eq_of_lt h64, u64_or_nat _ _ h64 hm, Nat.or_comm, nat_join d _ _ (by simp) ha, Nat.mul_sub, ← hl, ← LebM.two_pow_cast]
    have hle : 2 ^ d ≤ 2 ^ 64 := Nat.pow_le_pow_right (by omega) (by omega)
    generalize 2 ^ d = q at *
    unfold u64
    omega
  · have e : ones ((70 : Nat) : Int) = ((0 : Nat) : Int) := by decide +kernel
    rw [e, u64_nat, u64_or_nat _ _ (Nat.mod_lt _ (by omega)) (by omega)]
    simp only [Nat.or_zero]
    unfold u64
    omega
end Go.Proofs.Ytbaihhkcnlhdmaa
