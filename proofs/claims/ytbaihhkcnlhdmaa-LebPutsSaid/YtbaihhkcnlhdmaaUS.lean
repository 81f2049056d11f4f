/- The reader at any numbers and any bytes; leb.U and leb.S. -/
import Derived.Test.YtbaihhkcnlhdmaaRead
namespace Go.Proofs.Ytbaihhkcnlhdmaa
open Go.RowKit

theorem read_bad (a : Option Addr) (n cap : Nat) (x y : Int) (s : Bool) (w : World) (_hn : n ≤ 4611686018427387904)
    (h : y < 1 ∨ 64 < y ∨ x < 0 ∨ (n : Int) < x) :
    Calls Try.prog 35 #[.slice a n cap, .int .i64 x, .int .i64 y, .bool s] w fun e w' => e = .returned (.tuple #[.int .u64 0, .int .i64 0, .int .i64 2]) ∧ w = w' := by
  go_enter Try.func35, Try.ntmps35
  go_wp2
  refine wp_scope_jumps 0 (Fails35 w (0, 0, 2)) (fun _ _ => 0) rfl ?_ ?_
  · by_cases c1 : y < 1
    · go_wp2
      go_step3
      exact ⟨rfl, rfl, rfl, rfl, 2, rfl, rfl, by omega⟩
    · by_cases c2 : 64 < y
      · go_wp2
        go_step3
        exact ⟨rfl, rfl, rfl, rfl, 2, rfl, rfl, by omega⟩
      · by_cases c3 : x < 0
        · go_wp2
          go_step3
          exact ⟨rfl, rfl, rfl, rfl, 2, rfl, rfl, by omega⟩
        · have c4 : (n : Int) < x := by omega
          go_wp2
          go_step3
          exact ⟨rfl, rfl, rfl, rfl, 2, rfl, rfl, by omega⟩
  · rintro ⟨t, d⟩ w' ⟨rfl, hdf, hsz, e, h13, hR, he⟩
    obtain ⟨u, rfl⟩ := arr76 t hsz e h13
    clear hsz h13
    obtain rfl : d = [] := hdf
    simp at hR
    subst hR
    go_wp2
    simp only [Exit.jump]
    go_ret3
    exact ⟨rfl, rfl⟩

theorem read_nil (a : Option Addr) (cap B : Nat) (s : Bool) (w : World) (h1 : 1 ≤ B) (h2 : B ≤ 64) :
    Calls Try.prog 35 #[.slice a 0 cap, .int .i64 0, .int .i64 B, .bool s] w fun e w' => e = .returned (.tuple #[.int .u64 0, .int .i64 0, .int .i64 10]) ∧ w = w' := by
  go_enter Try.func35, Try.ntmps35
  go_wp2
  refine wp_scope_jumps 0 (Fails35 w (0, 0, 10)) (fun _ _ => 0) rfl ?_ ?_
  · go_wp2
    refine wp_loop_rounds 1 ?_
    rw [rounds_succ]
    go_wp2
    go_step3
    exact ⟨rfl, rfl, rfl, rfl, 10, rfl, rfl, by omega⟩
  · rintro ⟨t, d⟩ w' ⟨rfl, hdf, hsz, e, h13, hR, he⟩
    obtain ⟨u, rfl⟩ := arr76 t hsz e h13
    clear hsz h13
    obtain rfl : d = [] := hdf
    simp at hR
    subst hR
    go_wp2
    simp only [Exit.jump]
    go_ret3
    exact ⟨rfl, rfl⟩

theorem wrap64_u64 {v : Int} (h0 : -9223372036854775808 ≤ v) (h : v < 9223372036854775808) : wrap64 (u64 v) = v := by unfold wrap64 u64; omega

/-- the reader's answer as a value -/
def rdV (R : Int × Int × Nat) : Value := .tuple #[.int .u64 (u64 R.1), .int .i64 R.2.1, .int .i64 R.2.2]

theorem read_any (a : Option Addr) (cap : Nat) (bs : List Nat) (x y : Int) (s : Bool) (w : World) (hB : Bts w a bs) (hn : bs.length ≤ 4611686018427387904) :
    Calls Try.prog 35 #[.slice a bs.length cap, .int .i64 x, .int .i64 y, .bool s] w fun e w' => e = .returned (rdV (LebM.read bs x y s)) ∧ w = w' := by
  by_cases h : 1 ≤ y ∧ y ≤ 64 ∧ 0 ≤ x ∧ x ≤ bs.length
  · obtain ⟨B, rfl⟩ := Int.eq_ofNat_of_zero_le (show 0 ≤ y by omega)
    obtain ⟨p, rfl⟩ := Int.eq_ofNat_of_zero_le h.2.2.1
    have e : rdOut p (LebM.rd B s (bs.drop p) 0 0 0) = rdV (LebM.read bs p B s) := by
      unfold rdOut rdV LebM.read
      rw [if_pos h, Int.toNat_natCast, Int.toNat_natCast]
      split
      · rfl
      · rename_i hne
        rfl
    rcases hB.2 with rfl | ⟨b, off, rfl, hc⟩
    · have hp : p = 0 := by have := h.2.2.2; simp at this; omega
      subst hp
      refine (read_nil a cap B s w (by omega) (by omega)).mono ?_
      rintro e' w' ⟨rfl, rfl⟩
      exact ⟨by rw [← e]; rfl, rfl⟩
    · refine (read_in b off cap bs p B s w _ (by omega) (by omega) (by omega) hn (fun i => hB.lt i) hc (Lib.hid rfl)).mono ?_
      rintro e' w' ⟨rfl, rfl⟩
      exact ⟨by rw [e], rfl⟩
  · refine (read_bad a bs.length cap x y s w hn (by omega)).mono ?_
    rintro e' w' ⟨rfl, rfl⟩
    refine ⟨?_, rfl⟩
    unfold LebM.read
    rw [if_neg h]
    rfl

theorem read_val (bs : List Nat) (x y : Int) :
    (0 ≤ (LebM.read bs x y false).1 ∧ (LebM.read bs x y false).1 < 18446744073709551616) ∧
    (-9223372036854775808 ≤ (LebM.read bs x y true).1 ∧ (LebM.read bs x y true).1 < 9223372036854775808) := by
  have key : ∀ s, (s = false → 0 ≤ (LebM.read bs x y s).1 ∧ (LebM.read bs x y s).1 < 18446744073709551616) ∧ (s = true → -9223372036854775808 ≤ (LebM.read bs x y s).1 ∧ (LebM.read bs x y s).1 < 9223372036854775808) := by
    intro s
    unfold LebM.read
    split
    · split
      · rename_i h h0
        obtain ⟨B, rfl⟩ := Int.eq_ofNat_of_zero_le (show 0 ≤ y by omega)
        rw [Int.toNat_natCast] at h0 ⊢
        generalize hr : LebM.rd B s (bs.drop x.toNat) 0 0 0 = r at h0 ⊢
        obtain ⟨v, j, e⟩ := r
        simp only at h0 ⊢
        subst h0
        obtain ⟨_, _, hu, hs⟩ := LebM.rd_bounds B s _ 0 0 v j (by omega) (by simp) hr
        have e1 : (2 : Int) ^ B ≤ 2 ^ 64 := by
          have : (2 : Nat) ^ B ≤ 2 ^ 64 := Nat.pow_le_pow_right (by omega) (by omega)
          rw [← LebM.two_pow_cast, ← LebM.two_pow_cast]; exact_mod_cast this
        have e2 : (2 : Int) ^ (B - 1) ≤ 2 ^ 63 := by
          have : (2 : Nat) ^ (B - 1) ≤ 2 ^ 63 := Nat.pow_le_pow_right (by omega) (by omega)
          rw [← LebM.two_pow_cast, ← LebM.two_pow_cast]; exact_mod_cast this
        constructor
        · intro h; have := hu h; omega
        · intro h; have := hs h; omega
      · simp
    · simp
  exact ⟨(key false).1 rfl, (key true).2 rfl⟩

/-- leb.U -/
theorem U_any (a : Option Addr) (cap : Nat) (bs : List Nat) (x y : Int) (w : World) (hB : Bts w a bs) (hn : bs.length ≤ 4611686018427387904) :
    Calls Try.prog 22 #[.slice a bs.length cap, .int .i64 x, .int .i64 y] w fun e w' =>
      e = .returned (.tuple #[.int .u64 (LebM.read bs x y false).1, .int .i64 (LebM.read bs x y false).2.1, .int .i64 (LebM.read bs x y false).2.2]) ∧ w = w' := by
  have H := Lib.hid (read_any a cap bs x y false w hB hn)
  have HV := Lib.hid (read_val bs x y).1
  generalize LebM.read bs x y false = r at H HV
  clear hn
  have HB := Lib.hid hB; clear hB
  go_enter Try.func22, Try.ntmps22
  go_wp2_with fail
  refine H.out.mono ?_
  rintro e w1 ⟨rfl, rfl⟩
  unfold rdV
  go_wp2
  go_ret3
  exact ⟨ret_3 (u64_small HV.out.1 HV.out.2) rfl rfl, rfl⟩

/-- leb.S -/
theorem S_any (a : Option Addr) (cap : Nat) (bs : List Nat) (x y : Int) (w : World) (hB : Bts w a bs) (hn : bs.length ≤ 4611686018427387904) :
    Calls Try.prog 24 #[.slice a bs.length cap, .int .i64 x, .int .i64 y] w fun e w' =>
      e = .returned (.tuple #[.int .i64 (LebM.read bs x y true).1, .int .i64 (LebM.read bs x y true).2.1, .int .i64 (LebM.read bs x y true).2.2]) ∧ w = w' := by
  have H := Lib.hid (read_any a cap bs x y true w hB hn)
  have HV := Lib.hid (read_val bs x y).2
  generalize LebM.read bs x y true = r at H HV
  clear hn
  have HB := Lib.hid hB; clear hB
  go_enter Try.func24, Try.ntmps24
  go_wp2_with fail
  refine H.out.mono ?_
  rintro e w1 ⟨rfl, rfl⟩
  unfold rdV
  go_wp2
  go_ret3
  exact ⟨ret_3 (wrap64_u64 HV.out.1 HV.out.2) rfl rfl, rfl⟩
end Go.Proofs.Ytbaihhkcnlhdmaa
