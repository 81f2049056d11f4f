/- The contract of the reader (leb.read), and of leb.U and leb.S. -/
import Derived.Test.YtbaihhkcnlhdmaaFits
import Derived.Test.YtbaihhkcnlhdmaaBits
import Derived.WalkMore
import Derived.ScopeJumps
namespace Go.Proofs.Ytbaihhkcnlhdmaa
open Go.RowKit

theorem arr_lit (t : Array Value) : t = ((List.range t.size).map (fun i => t.getD i undef)).toArray := by
  apply Array.ext
  · simp
  · intro i h1 h2
    simp [h1]

theorem arr76 (t : Array Value) (h : t.size = 76) (e : Nat) (he : t.getD 13 undef = .int .i64 e) : ∃ u : Nat → Value, t = #[u 0, u 1, u 2, u 3, u 4, u 5, u 6, u 7, u 8, u 9, u 10, u 11, u 12, .int .i64 (e : Int), u 14, u 15, u 16, u 17, u 18, u 19, u 20, u 21, u 22, u 23, u 24, u 25, u 26, u 27, u 28, u 29, u 30, u 31, u 32, u 33, u 34, u 35, u 36, u 37, u 38, u 39, u 40, u 41, u 42, u 43, u 44, u 45, u 46, u 47, u 48, u 49, u 50, u 51, u 52, u 53, u 54, u 55, u 56, u 57, u 58, u 59, u 60, u 61, u 62, u 63, u 64, u 65, u 66, u 67, u 68, u 69, u 70, u 71, u 72, u 73, u 74, u 75] := by
  refine ⟨fun i => t.getD i undef, ?_⟩
  have := arr_lit t
  rw [h] at this
  refine this.trans ?_
  rw [← he]
  rfl

/-- the act in which the reader's error is told -/
def Fails35 (w : World) (R : Int × Nat × Nat) (a' : Act) (w' : World) : Prop :=
  w' = w ∧ a'.defers = [] ∧ a'.tmps.size = 76 ∧ ∃ e : Nat, a'.tmps.getD 13 undef = .int .i64 e ∧ R = (0, 0, e) ∧ e ≠ 0

/-- what the reader tells -/
def rdOut (p : Int) (R : Int × Nat × Nat) : Value :=
  if R.2.2 = 0 then .tuple #[.int .u64 (u64 R.1), .int .i64 (p + R.2.1), .int .i64 0] else .tuple #[.int .u64 0, .int .i64 0, .int .i64 (R.2.2)]
theorem rdOut_err (p : Int) (e : Nat) (h : e ≠ 0) : rdOut p (0, 0, e) = .tuple #[.int .u64 0, .int .i64 0, .int .i64 e] := by simp [rdOut, h]
theorem rdOut_ok (p v : Int) (j : Nat) : rdOut p (v, j, 0) = .tuple #[.int .u64 (u64 v), .int .i64 (p + j), .int .i64 0] := rfl

section
open LebM
variable {B d n k c : Nat} {s : Bool} {cs : List Nat}
theorem rd_wide (hf : fits c (B - d) s = false) : rd B s (c :: cs) d n k = (0, 0, 11) := by rw [rd, if_pos hf]
theorem rd_last (hf : fits c (B - d) s = true) (h : c < 128) : rd B s (c :: cs) d n k = (fin s c (n + (c % 128) * 2 ^ d) (d + 7), k + 1, 0) := by
  rw [rd, if_neg (by simp [hf]), if_pos h]
theorem rd_over (hf : fits c (B - d) s = true) (h : ¬ c < 128) (hB : B ≤ d + 7) : rd B s (c :: cs) d n k = (0, 0, 11) := by
  rw [rd, if_neg (by simp [hf]), if_neg h, if_pos hB]
theorem rd_next (hf : fits c (B - d) s = true) (h : ¬ c < 128) (hB : ¬ B ≤ d + 7) : rd B s (c :: cs) d n k = rd B s cs (d + 7) (n + (c % 128) * 2 ^ d) (k + 1) := by
  rw [rd, if_neg (by simp [hf]), if_neg h, if_neg hB]
end

set_option maxHeartbeats 400000 in
theorem read_in (b off cap : Nat) (bs : List Nat) (p B : Nat) (s : Bool) (w : World) (R : Int × Nat × Nat)
   (h1 : 1 ≤ B) (h2 : B ≤ 64) (h3 : p ≤ bs.length) (hlen : bs.length ≤ 4611686018427387904) (hb : ∀ i, bs.getD i 0 < 256)
   (hc : ∀ i, i < bs.length → w.cell? ⟨b, off + i, none⟩ = some (.int .u8 ((bs.getD i 0 : Nat) : Int)))
   (HR : Hid (R = LebM.rd B s (bs.drop p) 0 0 0)) :
    Calls Try.prog 35 #[.slice (some ⟨b, off, none⟩) bs.length cap, .int .i64 p, .int .i64 B, .bool s] w fun e w' =>
      e = .returned (rdOut p R) ∧ w = w' := by
  have HC := Lib.hid hc
  have HB := Lib.hid hb
  clear hc hb
  have hd1 : decide ((B : Int) < 1) = false := by simp; omega
  have hd2 : decide (64 < (B : Int)) = false := by simp; omega
  have hd3 : decide ((p : Int) < 0) = false := by simp
  have hd4 : decide (bs.length < p) = false := by simp; omega
  go_enter Try.func35, Try.ntmps35
  go_wp2
  refine wp_scope_jumps 0 (Fails35 w R) (fun _ _ => 0) rfl ?_ ?_
  · go_wp2
    go_loop [1, 11, 14] (fun at' n d => ∃ k acc : Nat, at' = .int .i64 ((p + k : Nat) : Int) ∧ n = .int .u64 (acc : Int) ∧ d = .int .i64 ((7 * k : Nat) : Int) ∧ p + k ≤ bs.length ∧ 7 * k < B ∧ acc < 2 ^ (7 * k) ∧
        LebM.rd B s (bs.drop (p + k)) (7 * k) acc k = R)
      (fun _ _ d => 64 - (intOf d).toNat)
    case atStart => exact ⟨0, 0, rfl, rfl, rfl, h3, by omega, by simp, HR.out.symm⟩
    case round =>
      obtain ⟨k, acc, rfl, rfl, rfl, hk, hd, hacc, hrd⟩ := hrel
      have HACC := Lib.hid hacc
      clear hacc
      by_cases hlt : p + k < bs.length
      · rw [drop_cons hlt] at hrd
        have hcell := HC.out (p + k) hlt
        have hb := HB.out (p + k)
        generalize bs.getD (p + k) 0 = c at hcell hb hrd
        have HRD := Lib.hid hrd
        clear hrd
        have e1 := and127 c hb
        have hfc := fits_any c (B - 7 * k) s hb (by omega) (by omega)
        have E2 := Lib.hid (show ((B : Int) - 7 * (k : Int)) = ((B - 7 * k : Nat) : Int) by omega)
        cases hf : LebM.fits c (B - 7 * k) s
        · have HR' := Lib.hid (HRD.out.symm.trans (rd_wide hf))
          rw [hf] at hfc
          have HFC := Lib.hid hfc
          clear hfc hf
          go_wp2_with fail
          rw [E2.out]
          refine (HFC.out _).mono ?_
          rintro e w1 ⟨rfl, rfl⟩
          go_wp2
          go_step3
          exact ⟨rfl, rfl, rfl, rfl, 11, rfl, HR'.out, by omega⟩
        · rw [hf] at hfc
          have HFC := Lib.hid hfc
          clear hfc
          have HF := Lib.hid hf
          clear hf
          by_cases h128 : c < 128
          · have t1 : (bits .and .u8 (c : Int) 128 == 0) = true := by rw [and128 c hb]; simp; omega
            have HR' := Lib.hid (HRD.out.symm.trans (rd_last HF.out h128))
            cases s
            · go_wp2_with fail
              rw [E2.out]
              refine (HFC.out _).mono ?_
              rintro e w1 ⟨rfl, rfl⟩
              go_wp2
              simp only [Exit.jump]
              go_ret3
              refine ⟨?_, rfl⟩
              rw [HR'.out, rdOut_ok]
              exact ret_3 (by rw [or_next _ _ _ HACC.out (by omega)]; simp [LebM.fin]) (by omega) rfl
            · by_cases h64 : 64 ≤ c
              · have hsh := fun w => shl_ones Try.prog w (7 * (k : Int) + 7) (by omega)
                have t2 : (bits .and .u8 (c : Int) 64 != 0) = true := by rw [and64 c hb]; simp; omega
                go_wp2_with fail
                rw [E2.out]
                refine (HFC.out _).mono ?_
                rintro e w1 ⟨rfl, rfl⟩
                go_wp2
                simp only [Exit.jump]
                go_ret3
                refine ⟨?_, rfl⟩
                rw [HR'.out, rdOut_ok]
                refine ret_3 ?_ (by omega) rfl
                have h7 := LebM.step_lt (x := c % 128) HACC.out (by omega)
                rw [or_next _ _ _ HACC.out (by omega), show (7 * (k : Int) + 7) = ((7 * k + 7 : Nat) : Int) by omega, or_ones _ _ h7 (by omega) (by omega), LebM.fin, if_pos ⟨rfl, by omega⟩]
              · have t2 : (bits .and .u8 (c : Int) 64 != 0) = false := by rw [and64 c hb]; simp; omega
                go_wp2_with fail
                rw [E2.out]
                refine (HFC.out _).mono ?_
                rintro e w1 ⟨rfl, rfl⟩
                go_wp2
                simp only [Exit.jump]
                go_ret3
                refine ⟨?_, rfl⟩
                rw [HR'.out, rdOut_ok]
                exact ret_3 (by rw [or_next _ _ _ HACC.out (by omega), LebM.fin, if_neg (by simp; omega)]) (by omega) rfl
          · have t1 : (bits .and .u8 (c : Int) 128 == 0) = false := by rw [and128 c hb]; simp; omega
            by_cases hB : B ≤ 7 * k + 7
            · have HR' := Lib.hid (HRD.out.symm.trans (rd_over HF.out h128 hB))
              go_wp2_with fail
              rw [E2.out]
              refine (HFC.out _).mono ?_
              rintro e w1 ⟨rfl, rfl⟩
              go_wp2
              go_step3
              exact ⟨rfl, rfl, rfl, rfl, 11, rfl, HR'.out, by omega⟩
            · have HR' := Lib.hid ((rd_next HF.out h128 hB).symm.trans HRD.out)
              go_wp2_with fail
              rw [E2.out]
              refine (HFC.out _).mono ?_
              rintro e w1 ⟨rfl, rfl⟩
              go_wp2
              go_round
              case rel =>
                have h7 := LebM.step_lt (x := c % 128) HACC.out (by omega)
                refine ⟨k + 1, acc + (c % 128) * 2 ^ (7 * k), by go_num, ?_, by go_num, by omega, by omega, h7, HR'.out⟩
                have hp : 2 ^ (7 * k + 7) ≤ 2 ^ 63 := Nat.pow_le_pow_right (by omega) (by omega)
                rw [or_next _ _ _ HACC.out (by omega), u64_small (by omega) (by omega)]
              case measure => simp [intOf]; omega
      · have HR' := Lib.hid (show R = (0, 0, 10) by rw [← hrd, List.drop_of_length_le (by omega)]; rfl)
        clear hrd
        go_wp2
        go_step3
        exact ⟨rfl, rfl, rfl, rfl, 10, rfl, HR'.out, by omega⟩
  · rintro ⟨t, d⟩ w' ⟨rfl, hdf, hsz, e, h13, hR, he⟩
    obtain ⟨u, rfl⟩ := arr76 t hsz e h13
    clear hsz h13
    obtain rfl : d = [] := hdf
    subst hR
    go_wp2
    simp only [Exit.jump]
    go_ret3
    exact ⟨by rw [rdOut_err _ _ he]; rfl, rfl⟩
end Go.Proofs.Ytbaihhkcnlhdmaa

