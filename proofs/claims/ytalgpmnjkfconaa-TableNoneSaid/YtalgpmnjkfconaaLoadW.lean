/- The bytes of a number: number.at, number.with; Load. -/
import Derived.Test.YtalgpmnjkfconaaMemA
namespace Go.Proofs.Ytalgpmnjkfconaa
open Go.RowKit Go.Deep

theorem pow8 (i : Nat) : 2 ^ (8 * i) = 256 ^ i := by rw [Nat.pow_mul]
theorem pow8I (i : Nat) : (2 : Int) ^ (8 * i) = ((256 ^ i : Nat) : Int) := by rw [← pow8]; simp
theorem pow_le7 (i : Nat) (hi : i ≤ 7) : 256 ^ i ≤ 72057594037927936 := Nat.pow_le_pow_right (n := 256) (by omega) hi

theorem at_any (x : Nat) (i : Nat) (_hx : x < 18446744073709551616) (hi : i ≤ 7) (w : World) :
    Calls Try.prog 32 #[.int .u64 x, .int .i64 i] w fun e w' => e = .returned (.int .u8 ((x / 256 ^ i % 256 : Nat) : Int)) ∧ w = w' := by
  have hsg : IntKind.i64.signed = true := rfl
  have E := Lib.hid (pow8I i)
  go_enter Try.func32, Try.ntmps32
  go_wp2
  go_ret
  exact ⟨ret_i (by rw [E.out, Int.natCast_emod, Int.natCast_ediv]; rfl), rfl⟩

theorem or_with (x b i : Nat) (hx : x < 256 ^ i) (hb : b < 256) (hi : i ≤ 7) :
    bits .or .u64 (x : Int) (IntKind.u64.wrap ((b : Int) * 2 ^ (8 * i))) = ((x + b * 256 ^ i : Nat) : Int) := by
  have hp := pow_le7 i hi
  have hbp : b * 256 ^ i ≤ 255 * 72057594037927936 := Nat.mul_le_mul (by omega) hp
  have e1 : IntKind.u64.wrap ((b : Int) * 2 ^ (8 * i)) = ((b * 256 ^ i : Nat) : Int) := by
    rw [pow8I, IntKind.wrap_u64, ← Int.natCast_mul]
    omega
  rw [e1, u64_or_nat x _ (by omega) (by omega), Nat.or_comm, nat_join (8 * i) (b * 256 ^ i) x (by rw [pow8]; exact Nat.mul_mod_left _ _) (by rw [pow8]; exact hx), Nat.add_comm]
theorem with_any (x b i : Nat) (hx : x < 256 ^ i) (hb : b < 256) (hi : i ≤ 7) (w : World) :
    Calls Try.prog 35 #[.int .u64 x, .int .i64 i, .int .u8 b] w fun e w' => e = .returned (.int .u64 ((x + b * 256 ^ i : Nat) : Int)) ∧ w = w' := by
  have hsg : IntKind.i64.signed = true := rfl
  have E := Lib.hid (or_with x b i hx hb hi)
  clear hx
  go_enter Try.func35, Try.ntmps35
  go_wp2
  go_ret
  exact ⟨ret_i E.out, rfl⟩

/-- the number that n bytes stand for, the lowest one first -/
def num (f : Nat → Nat) : Nat → Nat
  | 0 => 0
  | n + 1 => num f n + f n * 256 ^ n
theorem num_lt (f : Nat → Nat) (hf : ∀ i, f i < 256) (n : Nat) : num f n < 256 ^ n := by
  induction n with
  | zero => simp [num]
  | succ n ih =>
    have h := hf n
    have : f n * 256 ^ n ≤ 255 * 256 ^ n := Nat.mul_le_mul_right _ (by omega)
    rw [num, Nat.pow_succ]
    omega

/-- a number of k bytes that is loaded, and the error -/
def loadV (n : Nat) (f : Nat → Nat) (x o : Nat) (k : Int) : Nat × Nat :=
  if (placeV n x o k).2 = 0 then (num (fun i => f (x + o + i)) k.toNat, 0) else (0, (placeV n x o k).2)

theorem placeV_ok {n x o : Nat} {k : Int} (h : (placeV n x o k).2 = 0) : wide k = true ∧ x + o + k.toNat ≤ n ∧ (placeV n x o k).1 = x + o := by
  unfold placeV at h ⊢
  by_cases hw : wide k = false
  · rw [if_pos hw] at h; simp at h
  · rw [if_neg hw] at h ⊢
    by_cases hs : x + o + k.toNat ≤ n
    · rw [if_pos hs]; exact ⟨by simpa using hw, hs, rfl⟩
    · rw [if_neg hs] at h; simp at h

set_option maxRecDepth 100000 in
set_option maxHeartbeats 1000000 in
theorem Load_any {w : World} {p g n : Nat} {wd hm : Bool} {mn mx : Nat} {f : Nat → Nat} (h : MemIs w p g n wd hm mn mx f) (x o : Nat) (k : Int) (h1 : x < 18446744073709551616) (h2 : o < 18446744073709551616) :
    Calls Try.prog 11 #[.pointer (some ⟨p, 0, none⟩), .int .u64 x, .int .u64 o, .int .i64 k] w fun e w' => e = .returned (.tuple #[.int .u64 (loadV n f x o k).1, .int .i64 (loadV n f x o k).2]) ∧ w = w' := by
  have hc := h.c4
  have hb := h.big
  have hP := place_any h x o k h1 h2
  have HOK := Lib.hid (placeV_ok (n := n) (x := x) (o := o) (k := k))
  obtain ⟨r, hr⟩ : ∃ r, r = loadV n f x o k := ⟨_, rfl⟩
  rw [← hr]
  unfold loadV at hr
  generalize placeV n x o k = q at hP HOK hr
  obtain ⟨q1, q2⟩ := q
  simp only at hP HOK hr
  have HP := Lib.hid hP
  clear hP
  by_cases hq : q2 = 0
  · subst hq
    obtain ⟨hw, hle, rfl⟩ := HOK.out rfl
    have hk := wide_cases hw
    obtain ⟨K, rfl⟩ := Int.eq_ofNat_of_zero_le (show 0 ≤ k by omega)
    rw [Int.toNat_natCast] at hle hr
    have hK1 : 1 ≤ K := by omega
    have hK8 : K ≤ 8 := by omega
    have HR := Lib.hid (hr.trans (if_pos rfl))
    have ROW := Lib.hid h.row
    have LT := Lib.hid h.lt
    generalize x + o = X at *
    clear h hr hw hk h1 h2
    go_enter Try.func11, Try.ntmps11
    go_wp2_with fail
    refine HP.out.mono ?_
    rintro e w1 ⟨rfl, rfl⟩
    go_wp2
    simp only [Nat.add_sub_cancel_left]
    go_loopw [13, 38, 14, 15] (fun a b _ _ wr => ∃ i : Nat, a = .int .u64 ((num (fun i => f (X + i)) i : Nat) : Int) ∧ b = .int .i64 (i : Int) ∧ i ≤ K ∧ wr = w) (fun _ b _ _ _ => K - (intOf b).toNat)
    case atStart => exact ⟨0, rfl, rfl, by omega, rfl⟩
    case round =>
      obtain ⟨i, rfl, rfl, hi, rfl⟩ := hrel
      by_cases hlt : i < K
      · have hcell := ROW.out.cell (show X + i < n by omega)
        have hW := Lib.hid (with_any (num (fun i => f (X + i)) i) (f (X + i)) i (num_lt _ (fun i => LT.out _) i) (LT.out _) (by omega))
        have hst : num (fun i => f (X + i)) i + f (X + i) * 256 ^ i = num (fun i => f (X + i)) (i + 1) := rfl
        rw [hst] at hW
        clear hst
        go_wp2_with fail
        refine (hW.out _).mono ?_
        rintro e w1 ⟨rfl, rfl⟩
        go_wp2
        go_roundw
        case rel => exact ⟨i + 1, rfl, by go_num, by omega, trivial⟩
        case measure => simp [intOf]; omega
      · have hiK : i = K := by omega
        subst hiK
        go_wp2
        go_ret2
        exact ⟨by rw [HR.out]; rfl, rfl⟩
  · have HR := Lib.hid (hr.trans (if_neg hq))
    have hqb : ((q2 : Int) != 0) = true := by simp; omega
    clear hr
    go_enter Try.func11, Try.ntmps11
    go_wp2_with fail
    refine HP.out.mono ?_
    rintro e w1 ⟨rfl, rfl⟩
    go_wp2
    go_ret2
    exact ⟨by rw [HR.out]; rfl, rfl⟩
end Go.Proofs.Ytalgpmnjkfconaa
