/- geoderef03.One. -/
import Derived.Test.YtdoejkdckokjdaaDoorRefD
namespace Go.Proofs.YtdoejkdckokjdaaDoor
open Go.RowKit

theorem pop_snoc : ∀ (i a : Nat), Lib.popAux (i + 1) a = Lib.popAux i a + a / 2 ^ i % 2
  | 0, a => by simp [Lib.popAux]
  | i + 1, a => by
    rw [Lib.popAux, pop_snoc i (a / 2), Lib.popAux, Nat.div_div_eq_div_mul, Nat.pow_succ, Nat.mul_comm 2]
    omega
theorem ones_at {W M : Nat} (h : Wd W M) (a : Nat) (ha : a < M) : Lib.popAux W a = Lib.onesCount a := by
  have := h.lt
  have e := pop_fuel W (64 - W) a (by rw [← h.pow]; exact ha)
  rw [show W + (64 - W) = 64 by omega] at e
  exact e.symm
theorem top64 : ∀ (f x : Nat), x < 2 ^ f → x < 2 ^ Lib.bitLenAux f x
  | 0, x, h => h
  | f + 1, x, h => by
    unfold Lib.bitLenAux
    split
    · omega
    · have := top64 f (x / 2) (by rw [Nat.pow_succ] at h; omega)
      rw [Nat.add_comm, Nat.pow_succ]
      omega
theorem popAux_le' : ∀ (f x : Nat), Lib.popAux f x ≤ f
  | 0, _ => Nat.zero_le _
  | f + 1, x => by
    have := popAux_le' f (x / 2)
    unfold Lib.popAux
    omega
theorem lead_at (n a : Nat) (h1 : a < 2 ^ n) (hn : n ≤ 64) (h2 : n = 0 ∨ a / 2 ^ (n - 1) % 2 = 1) : Lib.bitLen a = n := by
  have h64 : a < 2 ^ 64 := Nat.lt_of_lt_of_le h1 (Nat.pow_le_pow_right (by omega) hn)
  have l1 : Lib.bitLen a ≤ n := Lib.bitLenAux_le 64 a n h1
  rcases h2 with h2 | h2
  · omega
  · apply Nat.le_antisymm l1
    apply Nat.le_of_not_lt
    intro hlt
    have ht : a < 2 ^ Lib.bitLen a := top64 64 a h64
    have : 2 ^ Lib.bitLen a ≤ 2 ^ (n - 1) := Nat.pow_le_pow_right (by omega) (by omega)
    rw [Nat.div_eq_of_lt (by omega)] at h2
    omega
theorem lead_step (n a : Nat) (h1 : a < 2 ^ (n + 1)) (h2 : a / 2 ^ n % 2 = 0) : a < 2 ^ n := by
  apply Nat.lt_of_not_le
  intro hle
  have : a / 2 ^ n = 1 := by
    apply Nat.le_antisymm
    · apply Nat.le_of_lt_succ; rw [Nat.div_lt_iff_lt_mul (Nat.pow_pos (by omega))]; rw [Nat.pow_succ] at h1; omega
    · rw [Nat.le_div_iff_mul_le (Nat.pow_pos (by omega))]; omega
  omega
theorem trail_step (n a : Nat) (h1 : a % 2 ^ n = 0) (h2 : a / 2 ^ n % 2 = 0) : a % 2 ^ (n + 1) = 0 := by
  rw [Nat.pow_succ, Nat.mod_mul, h1, h2]; simp
theorem trail_at {W M : Nat} (h : Wd W M) (a n : Nat) (ha : a < M) (hn : n ≤ W) (h1 : a % 2 ^ n = 0) (h2 : n = W ∨ a / 2 ^ n % 2 = 1) : min (Lib.ctz 64 a) W = n := by
  have hW := h.lt
  by_cases h0 : a = 0
  · subst h0
    rw [show Lib.ctz 64 0 = 64 from rfl]
    rcases h2 with h2 | h2
    · omega
    · rw [Nat.zero_div] at h2; omega
  · have hnW : n ≠ W := by
      intro e
      rw [e, ← h.pow, Nat.mod_eq_of_lt ha] at h1
      exact h0 h1
    have h2 : a / 2 ^ n % 2 = 1 := h2.resolve_left hnW
    obtain ⟨m, hm, hc⟩ := Lib.ctzFrom_spec 64 a (by omega) (by omega)
    have ec : Lib.ctz 64 a = Lib.ctzFrom 64 a := by unfold Lib.ctz; rw [if_neg h0]
    rw [ec]
    generalize Lib.ctzFrom 64 a = c at *
    have hcn : c = n := by
      rcases Nat.lt_trichotomy c n with hlt | he | hgt
      · exfalso
        obtain ⟨d, rfl⟩ : ∃ d, n = c + d + 1 := ⟨n - c - 1, by omega⟩
        rw [hm, Nat.add_assoc, Nat.pow_add, Nat.mul_mod_mul_left] at h1
        have h3 : (2 * m + 1) % 2 ^ (d + 1) = 0 := by
          rcases Nat.mul_eq_zero.1 h1 with h1 | h1
          · exact absurd h1 (Nat.ne_of_gt (Nat.pow_pos (by omega)))
          · exact h1
        rw [Nat.pow_succ, Nat.mul_comm (2 ^ d), Nat.mod_mul] at h3
        omega
      · exact he
      · exfalso
        obtain ⟨d, rfl⟩ : ∃ d, c = n + d + 1 := ⟨c - n - 1, by omega⟩
        rw [hm, Nat.add_assoc, Nat.pow_add, Nat.mul_assoc, Nat.mul_div_cancel_left _ (Nat.pow_pos (by omega)), Nat.pow_succ, Nat.mul_comm (2 ^ d), Nat.mul_assoc] at h2
        omega
    omega

theorem fits_wd {W M : Nat} (h : Wd W M) (a : Nat) : decide (a % 2 ^ W = a) = decide (a < M) := by
  rw [← h.pow]
  have hM := h.lt
  by_cases ha : a < M
  · rw [Nat.mod_eq_of_lt ha, decide_eq_true rfl, decide_eq_true ha]
  · have := Nat.mod_lt a (show 0 < M by omega)
    rw [decide_eq_false (by omega), decide_eq_false ha]

theorem OneR_many (op : Int) (a pl W T m : Nat) (hm : m ≠ 1) (w : World) (hOf : Ofs op (pl, W, T, m) w) :
    Calls Tryd.prog 17 #[.int .i64 op, .int .u64 a] w fun e w' => e = .returned (.tuple #[.int .u64 0, .int .i64 2]) ∧ Below w.heap.size w w' := by
  have HOF := Lib.hid hOf
  have hn : ((m : Int) != 1) = true := by simp; omega
  clear hOf hm
  go_enter Tryd.func17, Tryd.ntmps17
  go_wp2_with fail
  refine HOF.out.mono ?_
  rintro e w1 ⟨rfl, b⟩
  have B := Lib.hid b
  clear b
  go_wp2
  go_ret2
  exact ⟨rfl, B.out.alloc B.out.size _⟩

theorem OneR_bad {W M : Nat} (h : Wd W M) (op : Int) (a pl T : Nat) (ha : a < 18446744073709551616) (hb : ¬ a < M) (w : World) (hOf : Ofs op (pl, W, T, 1) w) :
    Calls Tryd.prog 17 #[.int .i64 op, .int .u64 a] w fun e w' => e = .returned (.tuple #[.int .u64 0, .int .i64 2]) ∧ Below w.heap.size w w' := by
  have HOF := Lib.hid hOf
  have hW := h.lt
  have F := fun w => Fits_ref a W ha (by omega) (by omega) w
  rw [fits_wd h, decide_eq_false hb] at F
  have F := Lib.hid F
  clear hOf h hb hW ha
  go_enter Tryd.func17, Tryd.ntmps17
  go_wp2_with fail
  refine HOF.out.mono ?_
  rintro e w1 ⟨rfl, b⟩
  have B := Lib.hid b
  clear b
  go_wp2_with fail
  refine (F.out _).mono ?_
  rintro e w2 ⟨rfl, b⟩
  have B2 := Lib.hid ((B.out.alloc B.out.size _).trans (b.mono (by have := B.out.size; simp; omega)))
  clear b
  go_wp2
  go_ret2
  exact ⟨rfl, B2.out⟩

theorem ret_t {k : IntKind} {j : IntKind} {a b c d : Int} (h : a = b) (h2 : c = d) : Ending.returned (.tuple #[.int k a, .int j c]) = .returned (.tuple #[.int k b, .int j d]) := by rw [h, h2]

/-- the places of one number -/
def Uno (p : Nat) : Prop := p = 0 ∨ p = 11 ∨ p = 12 ∨ p = 13 ∨ p = 29 ∨ p = 30 ∨ p = 31 ∨ p = 32 ∨ p = 33 ∨ p = 34

set_option maxRecDepth 100000 in
set_option maxHeartbeats 8000000 in
theorem OneR_ok {W M : Nat} (h : Wd W M) (op : Int) (a p T : Nat) (hp : Uno p) (h33 : p = 33 → W = 32) (h31 : p = 31 → W = 64) (hT : 29 ≤ p → p ≤ 31 → T = W) (ha : a < M) (w : World) (hOf : Ofs op (plc p, W, T, 1) w) :
    Calls Tryd.prog 17 #[.int .i64 op, .int .u64 a] w fun e w' => e = .returned (.tuple #[.int .u64 (((una p W M a).1 : Nat) : Int), .int .i64 0]) ∧ Below w.heap.size w w' := by
  have HOF := Lib.hid hOf
  have hW := h.lt
  have F := fun w => Fits_ref a W (by omega) (by omega) (by omega) w
  rw [fits_wd h, decide_eq_true ha] at F
  have F := Lib.hid F
  have BT := Lib.hid (fun w => Bits_ref a W (by omega) (by omega) w)
  have HD := Lib.hid h
  have HA := Lib.hid (And.intro ha hW)
  have HP := Lib.hid (And.intro hp (And.intro h33 (And.intro h31 hT)))
  obtain ⟨pl, hpl⟩ : ∃ pl, pl = plc p := ⟨_, rfl⟩
  have HPL := Lib.hid hpl
  clear hOf h hW ha hp h33 h31 hT
  rw [← hpl] at HOF
  clear hpl
  go_enter Tryd.func17, Tryd.ntmps17
  go_wp2_with fail
  refine HOF.out.mono ?_
  rintro e w1 ⟨rfl, b⟩
  have B := Lib.hid b
  clear b
  go_wp2_with fail
  refine (F.out _).mono ?_
  rintro e w2 ⟨rfl, b⟩
  have cc : ∀ j, w2.cell? ⟨w1.heap.size, j, none⟩ = (w1.alloc (.cells #[.int .i64 (pl : Nat), .int .i64 (W : Nat), .int .i64 (T : Nat), .int .i64 1] 39)).cell? ⟨w1.heap.size, j, none⟩ := fun j => b.cell (p := ⟨w1.heap.size, j, none⟩) (by simp)
  have c0 : w2.cell? ⟨w1.heap.size, 0, none⟩ = some (.int .i64 (pl : Nat)) := (cc 0).trans (World.cell?_alloc_at _ _ _ _ rfl)
  have c1 : w2.cell? ⟨w1.heap.size, 1, none⟩ = some (.int .i64 (W : Nat)) := (cc 1).trans (World.cell?_alloc_at _ _ _ _ rfl)
  have c2 : w2.cell? ⟨w1.heap.size, 2, none⟩ = some (.int .i64 (T : Nat)) := (cc 2).trans (World.cell?_alloc_at _ _ _ _ rfl)
  have B2 := Lib.hid ((B.out.alloc B.out.size (.cells #[.int .i64 (pl : Nat), .int .i64 (W : Nat), .int .i64 (T : Nat), .int .i64 1] 39)).trans (b.mono (by have := B.out.size; simp; omega)))
  clear b cc B
  generalize w1.heap.size = bx at *
  go_wp2_with fail
  refine (BT.out _).mono ?_
  rintro e w3 ⟨v, rfl, o, b⟩
  obtain ⟨g, cap, rfl⟩ := o.form (by rw [bitsL_len]; have := HA.out; omega)
  have row := o.row rfl
  have d0 := (b.cell (p := ⟨bx, 0, none⟩) (block_lt_of_cell c0)).trans c0
  have d2 := (b.cell (p := ⟨bx, 2, none⟩) (block_lt_of_cell c2)).trans c2
  rw [bitsL_len]
  have HR := Lib.hid row
  have B3 := Lib.hid (B2.out.trans (b.mono B2.out.size))
  clear b o row c0 c1 c2
  go_wp2_with fail
  go_loopw [8, 9] (fun s c wr => ∃ i : Nat, s = .int .i64 ((Lib.popAux i a : Nat) : Int) ∧ c = .int .i64 (i : Int) ∧ i ≤ W ∧ w3 = wr) (fun _ c _ => W - (intOf c).toNat)
  case atStart => exact ⟨0, rfl, rfl, by omega, rfl⟩
  case round =>
    obtain ⟨i, rfl, rfl, hi, rfl⟩ := hrel
    by_cases hlt : i < W
    · have hc := HR.out i _ (bitsL_get W a i hlt)
      have hs := pop_snoc i a
      obtain ⟨b, hb⟩ : ∃ b, b = a / 2 ^ i % 2 := ⟨_, rfl⟩
      rw [← hb] at hc hs
      have hle := popAux_le' i a
      have hb1 : b ≤ 1 := by omega
      have hi64 : i < 64 := by have := HA.out; omega
      have HS := Lib.hid hs
      obtain ⟨s, hse⟩ : ∃ s, s = Lib.popAux i a := ⟨_, rfl⟩
      rw [← hse] at HS hle ⊢
      have hw : wrap64 ((s : Int) + (b : Int)) = ((s + b : Nat) : Int) := by unfold wrap64; omega
      clear hb hs hle hb1 hse
      go_wp2
      go_roundw
      case rel => exact ⟨i + 1, by rw [HS.out]; exact congrArg (Value.int IntKind.i64) hw, by go_num, by omega, by simp⟩
      case measure => simp [intOf]; omega
    · obtain rfl : i = W := by omega
      have hone : Lib.popAux i a = Lib.onesCount a := ones_at HD.out a HA.out.1
      rw [hone]
      clear hone hlt hi
      go_wp2_with fail
      have hv0 : 1 ≤ i := by have := HA.out; omega
      obtain ⟨v, hv⟩ : ∃ v, v = i - 1 := ⟨_, rfl⟩
      have hw1 : wrap64 ((i : Int) - 1) = (v : Int) := by have := HA.out; unfold wrap64; omega
      have HV := Lib.hid hv
      clear hv hv0
      go_loopw [10] (fun c wr => ∃ k : Nat, c = .int .i64 (k : Int) ∧ k ≤ i ∧ a < 2 ^ (i - k) ∧ w3 = wr) (fun c _ => i - (intOf c).toNat)
      case atStart => exact ⟨0, rfl, by omega, by rw [Nat.sub_zero, ← HD.out.pow]; exact HA.out.1, rfl⟩
      case round =>
        obtain ⟨k, rfl, hk, hz, rfl⟩ := hrel
        have hk64 : k ≤ 64 := by have := HA.out; omega
        by_cases hlt : k < i
        · obtain ⟨d, hd⟩ : ∃ d, d = i - 1 - k := ⟨_, rfl⟩
          have hw2 : wrap64 ((v : Int) - (k : Int)) = (d : Int) := by have := HV.out; have := HA.out; unfold wrap64; omega
          have hdl : (d : Int) < (i : Int) := by omega
          have hc := HR.out d _ (bitsL_get i a d (by omega))
          obtain ⟨b, hb⟩ : ∃ b, b = a / 2 ^ d % 2 := ⟨_, rfl⟩
          rw [← hb] at hc
          rw [show i - k = d + 1 by omega] at hz
          by_cases hb0 : b = 0
          · subst hb0
            have hz2 := lead_step d a hz hb.symm
            rw [show d = i - (k + 1) by omega] at hz2
            have HZ := Lib.hid hz2
            clear hz hz2 hb hd
            go_wp2
            go_roundw
            case rel => exact ⟨k + 1, by go_num, by omega, HZ.out, by simp⟩
            case measure => simp [intOf]; omega
          · have hb1 : b = 1 := by omega
            subst hb1
            have hbl : Lib.bitLen a = i - k := by
              have := lead_at (d + 1) a hz (by have := HA.out; omega) (Or.inr hb.symm)
              omega
            clear hz hb hb0 hd
            go_wp2_with fail
            go_loopw [11] (fun c wr => ∃ n : Nat, c = .int .i64 (n : Int) ∧ n ≤ i ∧ a % 2 ^ n = 0 ∧ w3 = wr) (fun c _ => i - (intOf c).toNat)
            case atStart => exact ⟨0, rfl, by omega, by rw [Nat.pow_zero, Nat.mod_one], rfl⟩
            case round =>
              obtain ⟨n, rfl, hn, hz, rfl⟩ := hrel
              have hn64 : n ≤ 64 := by have := HA.out; omega
              by_cases hlt : n < i
              · have hc := HR.out n _ (bitsL_get i a n hlt)
                obtain ⟨b, hb⟩ : ∃ b, b = a / 2 ^ n % 2 := ⟨_, rfl⟩
                rw [← hb] at hc
                by_cases hb0 : b = 0
                · subst hb0
                  have HZ := Lib.hid (trail_step n a hz hb.symm)
                  clear hz hb
                  go_wp2
                  go_roundw
                  case rel => exact ⟨n + 1, by go_num, by omega, HZ.out, by simp⟩
                  case measure => simp [intOf]; omega
                · have hb1 : b = 1 := by omega
                  subst hb1
                  have htz : min (Lib.ctz 64 a) i = n := trail_at HD.out a n HA.out.1 hn hz (Or.inr hb.symm)
                  clear hz hb hb0
                  have HN := Lib.hid (And.intro hbl htz)
                  clear hbl htz
                  rcases HP.out.1 with rfl | rfl | rfl | rfl | rfl | rfl | rfl | rfl | rfl | rfl
                  · obtain rfl : pl = 0 := HPL.out
                    have Y := Lib.hid (fun w => yes_ref ((a : Int) == 0) w)
                    go_wp2_with (go_at_call 23; refine (Y.out _).mono ?_; rintro e w4 ⟨rfl, rfl⟩)
                    go_ret2
                    exact ⟨ret_t (by rw [show ((a : Int) == 0) = decide (a = 0) by rw [Bool.eq_iff_iff]; simp]; rfl) rfl, B3.out⟩
                  · obtain rfl : pl = 1 := HPL.out
                    have hr : IntKind.u64.wrap (k : Int) = (k : Int) := wrap_nat k (by omega)
                    go_wp2
                    go_ret2
                    exact ⟨ret_t (by show (k : Int) = ((i - Lib.bitLen a : Nat) : Int); have := HN.out.1; omega) rfl, B3.out⟩
                  · obtain rfl : pl = 2 := HPL.out
                    have hr : IntKind.u64.wrap (n : Int) = (n : Int) := wrap_nat n (by omega)
                    go_wp2
                    go_ret2
                    exact ⟨ret_t (by show (n : Int) = ((min (Lib.ctz 64 a) i : Nat) : Int); rw [HN.out.2]) rfl, B3.out⟩
                  · obtain rfl : pl = 3 := HPL.out
                    have ho := ones_le a (by have := HA.out; omega)
                    have hr : IntKind.u64.wrap ((Lib.onesCount a : Nat) : Int) = ((Lib.onesCount a : Nat) : Int) := wrap_nat _ (by omega)
                    clear ho
                    go_wp2
                    go_ret2
                    exact ⟨ret_t rfl rfl, B3.out⟩
                  · obtain rfl : pl = 4 := HPL.out
                    obtain rfl : T = i := HP.out.2.2.2 (by omega) (by omega)
                    have X := Extend_ref (V := 8) (N := 256) (by unfold Fd; omega) HD.out (by have := HA.out; omega) a (by have := HA.out; omega) w3
                    have X := Lib.hid X
                    go_wp2_with fail
                    refine X.out.mono ?_
                    rintro e w4 ⟨rfl, b⟩
                    have B4 := Lib.hid (B3.out.trans (b.mono B3.out.size))
                    clear b
                    go_wp2
                    go_ret2
                    exact ⟨rfl, B4.out⟩
                  · obtain rfl : pl = 5 := HPL.out
                    obtain rfl : T = i := HP.out.2.2.2 (by omega) (by omega)
                    have X := Extend_ref (V := 16) (N := 65536) (by unfold Fd; omega) HD.out (by have := HA.out; omega) a (by have := HA.out; omega) w3
                    have X := Lib.hid X
                    go_wp2_with fail
                    refine X.out.mono ?_
                    rintro e w4 ⟨rfl, b⟩
                    have B4 := Lib.hid (B3.out.trans (b.mono B3.out.size))
                    clear b
                    go_wp2
                    go_ret2
                    exact ⟨rfl, B4.out⟩
                  · obtain rfl : pl = 6 := HPL.out
                    obtain rfl : T = i := HP.out.2.2.2 (by omega) (by omega)
                    have X := Extend_ref (V := 32) (N := 4294967296) (by unfold Fd; omega) HD.out (by have := HA.out; have := HP.out.2.2.1 rfl; omega) a (by have := HA.out; omega) w3
                    have X := Lib.hid X
                    go_wp2_with fail
                    refine X.out.mono ?_
                    rintro e w4 ⟨rfl, b⟩
                    have B4 := Lib.hid (B3.out.trans (b.mono B3.out.size))
                    clear b
                    go_wp2
                    go_ret2
                    exact ⟨rfl, B4.out⟩
                  · obtain rfl : pl = 7 := HPL.out
                    have X := Lib.hid (cut_ref a 32 (by have := HA.out; omega) (by omega) (by omega) w3)
                    go_wp2_with fail
                    refine X.out.mono ?_
                    rintro e w4 ⟨rfl, b⟩
                    have B4 := Lib.hid (B3.out.trans (b.mono B3.out.size))
                    clear b
                    go_wp2
                    go_ret2
                    exact ⟨rfl, B4.out⟩
                  · obtain rfl : pl = 8 := HPL.out
                    have X := Lib.hid (Extend_ref (V := 32) (N := 4294967296) (W := 64) (M := 18446744073709551616) (by unfold Fd; omega) (by unfold Wd; omega) (by omega) a (by have := HA.out; omega) w3)
                    go_wp2_with fail
                    refine X.out.mono ?_
                    rintro e w4 ⟨rfl, b⟩
                    have B4 := Lib.hid (B3.out.trans (b.mono B3.out.size))
                    clear b
                    go_wp2
                    go_ret2
                    exact ⟨rfl, B4.out⟩
                  · obtain rfl : pl = 9 := HPL.out
                    go_wp2
                    go_ret2
                    exact ⟨rfl, B3.out⟩
              · have htz : min (Lib.ctz 64 a) i = n := trail_at HD.out a n HA.out.1 hn hz (Or.inl (by omega))
                clear hz
                have HN := Lib.hid (And.intro hbl htz)
                clear hbl htz
                rcases HP.out.1 with rfl | rfl | rfl | rfl | rfl | rfl | rfl | rfl | rfl | rfl
                · obtain rfl : pl = 0 := HPL.out
                  have Y := Lib.hid (fun w => yes_ref ((a : Int) == 0) w)
                  go_wp2_with (go_at_call 23; refine (Y.out _).mono ?_; rintro e w4 ⟨rfl, rfl⟩)
                  go_ret2
                  exact ⟨ret_t (by rw [show ((a : Int) == 0) = decide (a = 0) by rw [Bool.eq_iff_iff]; simp]; rfl) rfl, B3.out⟩
                · obtain rfl : pl = 1 := HPL.out
                  have hr : IntKind.u64.wrap (k : Int) = (k : Int) := wrap_nat k (by omega)
                  go_wp2
                  go_ret2
                  exact ⟨ret_t (by show (k : Int) = ((i - Lib.bitLen a : Nat) : Int); have := HN.out.1; omega) rfl, B3.out⟩
                · obtain rfl : pl = 2 := HPL.out
                  have hr : IntKind.u64.wrap (n : Int) = (n : Int) := wrap_nat n (by omega)
                  go_wp2
                  go_ret2
                  exact ⟨ret_t (by show (n : Int) = ((min (Lib.ctz 64 a) i : Nat) : Int); rw [HN.out.2]) rfl, B3.out⟩
                · obtain rfl : pl = 3 := HPL.out
                  have ho := ones_le a (by have := HA.out; omega)
                  have hr : IntKind.u64.wrap ((Lib.onesCount a : Nat) : Int) = ((Lib.onesCount a : Nat) : Int) := wrap_nat _ (by omega)
                  clear ho
                  go_wp2
                  go_ret2
                  exact ⟨ret_t rfl rfl, B3.out⟩
                · obtain rfl : pl = 4 := HPL.out
                  obtain rfl : T = i := HP.out.2.2.2 (by omega) (by omega)
                  have X := Extend_ref (V := 8) (N := 256) (by unfold Fd; omega) HD.out (by have := HA.out; omega) a (by have := HA.out; omega) w3
                  have X := Lib.hid X
                  go_wp2_with fail
                  refine X.out.mono ?_
                  rintro e w4 ⟨rfl, b⟩
                  have B4 := Lib.hid (B3.out.trans (b.mono B3.out.size))
                  clear b
                  go_wp2
                  go_ret2
                  exact ⟨rfl, B4.out⟩
                · obtain rfl : pl = 5 := HPL.out
                  obtain rfl : T = i := HP.out.2.2.2 (by omega) (by omega)
                  have X := Extend_ref (V := 16) (N := 65536) (by unfold Fd; omega) HD.out (by have := HA.out; omega) a (by have := HA.out; omega) w3
                  have X := Lib.hid X
                  go_wp2_with fail
                  refine X.out.mono ?_
                  rintro e w4 ⟨rfl, b⟩
                  have B4 := Lib.hid (B3.out.trans (b.mono B3.out.size))
                  clear b
                  go_wp2
                  go_ret2
                  exact ⟨rfl, B4.out⟩
                · obtain rfl : pl = 6 := HPL.out
                  obtain rfl : T = i := HP.out.2.2.2 (by omega) (by omega)
                  have X := Extend_ref (V := 32) (N := 4294967296) (by unfold Fd; omega) HD.out (by have := HA.out; have := HP.out.2.2.1 rfl; omega) a (by have := HA.out; omega) w3
                  have X := Lib.hid X
                  go_wp2_with fail
                  refine X.out.mono ?_
                  rintro e w4 ⟨rfl, b⟩
                  have B4 := Lib.hid (B3.out.trans (b.mono B3.out.size))
                  clear b
                  go_wp2
                  go_ret2
                  exact ⟨rfl, B4.out⟩
                · obtain rfl : pl = 7 := HPL.out
                  have X := Lib.hid (cut_ref a 32 (by have := HA.out; omega) (by omega) (by omega) w3)
                  go_wp2_with fail
                  refine X.out.mono ?_
                  rintro e w4 ⟨rfl, b⟩
                  have B4 := Lib.hid (B3.out.trans (b.mono B3.out.size))
                  clear b
                  go_wp2
                  go_ret2
                  exact ⟨rfl, B4.out⟩
                · obtain rfl : pl = 8 := HPL.out
                  have X := Lib.hid (Extend_ref (V := 32) (N := 4294967296) (W := 64) (M := 18446744073709551616) (by unfold Fd; omega) (by unfold Wd; omega) (by omega) a (by have := HA.out; omega) w3)
                  go_wp2_with fail
                  refine X.out.mono ?_
                  rintro e w4 ⟨rfl, b⟩
                  have B4 := Lib.hid (B3.out.trans (b.mono B3.out.size))
                  clear b
                  go_wp2
                  go_ret2
                  exact ⟨rfl, B4.out⟩
                · obtain rfl : pl = 9 := HPL.out
                  go_wp2
                  go_ret2
                  exact ⟨rfl, B3.out⟩
        · have hbl : Lib.bitLen a = i - k := by
            have hki : i - k = 0 := by omega
            rw [hki] at hz ⊢
            exact lead_at 0 a hz (by omega) (Or.inl rfl)
          clear hz
          go_wp2_with fail
          go_loopw [11] (fun c wr => ∃ n : Nat, c = .int .i64 (n : Int) ∧ n ≤ i ∧ a % 2 ^ n = 0 ∧ w3 = wr) (fun c _ => i - (intOf c).toNat)
          case atStart => exact ⟨0, rfl, by omega, by rw [Nat.pow_zero, Nat.mod_one], rfl⟩
          case round =>
            obtain ⟨n, rfl, hn, hz, rfl⟩ := hrel
            have hn64 : n ≤ 64 := by have := HA.out; omega
            by_cases hlt : n < i
            · have hc := HR.out n _ (bitsL_get i a n hlt)
              obtain ⟨b, hb⟩ : ∃ b, b = a / 2 ^ n % 2 := ⟨_, rfl⟩
              rw [← hb] at hc
              by_cases hb0 : b = 0
              · subst hb0
                have HZ := Lib.hid (trail_step n a hz hb.symm)
                clear hz hb
                go_wp2
                go_roundw
                case rel => exact ⟨n + 1, by go_num, by omega, HZ.out, by simp⟩
                case measure => simp [intOf]; omega
              · have hb1 : b = 1 := by omega
                subst hb1
                have htz : min (Lib.ctz 64 a) i = n := trail_at HD.out a n HA.out.1 hn hz (Or.inr hb.symm)
                clear hz hb hb0
                have HN := Lib.hid (And.intro hbl htz)
                clear hbl htz
                rcases HP.out.1 with rfl | rfl | rfl | rfl | rfl | rfl | rfl | rfl | rfl | rfl
                · obtain rfl : pl = 0 := HPL.out
                  have Y := Lib.hid (fun w => yes_ref ((a : Int) == 0) w)
                  go_wp2_with (go_at_call 23; refine (Y.out _).mono ?_; rintro e w4 ⟨rfl, rfl⟩)
                  go_ret2
                  exact ⟨ret_t (by rw [show ((a : Int) == 0) = decide (a = 0) by rw [Bool.eq_iff_iff]; simp]; rfl) rfl, B3.out⟩
                · obtain rfl : pl = 1 := HPL.out
                  have hr : IntKind.u64.wrap (k : Int) = (k : Int) := wrap_nat k (by omega)
                  go_wp2
                  go_ret2
                  exact ⟨ret_t (by show (k : Int) = ((i - Lib.bitLen a : Nat) : Int); have := HN.out.1; omega) rfl, B3.out⟩
                · obtain rfl : pl = 2 := HPL.out
                  have hr : IntKind.u64.wrap (n : Int) = (n : Int) := wrap_nat n (by omega)
                  go_wp2
                  go_ret2
                  exact ⟨ret_t (by show (n : Int) = ((min (Lib.ctz 64 a) i : Nat) : Int); rw [HN.out.2]) rfl, B3.out⟩
                · obtain rfl : pl = 3 := HPL.out
                  have ho := ones_le a (by have := HA.out; omega)
                  have hr : IntKind.u64.wrap ((Lib.onesCount a : Nat) : Int) = ((Lib.onesCount a : Nat) : Int) := wrap_nat _ (by omega)
                  clear ho
                  go_wp2
                  go_ret2
                  exact ⟨ret_t rfl rfl, B3.out⟩
                · obtain rfl : pl = 4 := HPL.out
                  obtain rfl : T = i := HP.out.2.2.2 (by omega) (by omega)
                  have X := Extend_ref (V := 8) (N := 256) (by unfold Fd; omega) HD.out (by have := HA.out; omega) a (by have := HA.out; omega) w3
                  have X := Lib.hid X
                  go_wp2_with fail
                  refine X.out.mono ?_
                  rintro e w4 ⟨rfl, b⟩
                  have B4 := Lib.hid (B3.out.trans (b.mono B3.out.size))
                  clear b
                  go_wp2
                  go_ret2
                  exact ⟨rfl, B4.out⟩
                · obtain rfl : pl = 5 := HPL.out
                  obtain rfl : T = i := HP.out.2.2.2 (by omega) (by omega)
                  have X := Extend_ref (V := 16) (N := 65536) (by unfold Fd; omega) HD.out (by have := HA.out; omega) a (by have := HA.out; omega) w3
                  have X := Lib.hid X
                  go_wp2_with fail
                  refine X.out.mono ?_
                  rintro e w4 ⟨rfl, b⟩
                  have B4 := Lib.hid (B3.out.trans (b.mono B3.out.size))
                  clear b
                  go_wp2
                  go_ret2
                  exact ⟨rfl, B4.out⟩
                · obtain rfl : pl = 6 := HPL.out
                  obtain rfl : T = i := HP.out.2.2.2 (by omega) (by omega)
                  have X := Extend_ref (V := 32) (N := 4294967296) (by unfold Fd; omega) HD.out (by have := HA.out; have := HP.out.2.2.1 rfl; omega) a (by have := HA.out; omega) w3
                  have X := Lib.hid X
                  go_wp2_with fail
                  refine X.out.mono ?_
                  rintro e w4 ⟨rfl, b⟩
                  have B4 := Lib.hid (B3.out.trans (b.mono B3.out.size))
                  clear b
                  go_wp2
                  go_ret2
                  exact ⟨rfl, B4.out⟩
                · obtain rfl : pl = 7 := HPL.out
                  have X := Lib.hid (cut_ref a 32 (by have := HA.out; omega) (by omega) (by omega) w3)
                  go_wp2_with fail
                  refine X.out.mono ?_
                  rintro e w4 ⟨rfl, b⟩
                  have B4 := Lib.hid (B3.out.trans (b.mono B3.out.size))
                  clear b
                  go_wp2
                  go_ret2
                  exact ⟨rfl, B4.out⟩
                · obtain rfl : pl = 8 := HPL.out
                  have X := Lib.hid (Extend_ref (V := 32) (N := 4294967296) (W := 64) (M := 18446744073709551616) (by unfold Fd; omega) (by unfold Wd; omega) (by omega) a (by have := HA.out; omega) w3)
                  go_wp2_with fail
                  refine X.out.mono ?_
                  rintro e w4 ⟨rfl, b⟩
                  have B4 := Lib.hid (B3.out.trans (b.mono B3.out.size))
                  clear b
                  go_wp2
                  go_ret2
                  exact ⟨rfl, B4.out⟩
                · obtain rfl : pl = 9 := HPL.out
                  go_wp2
                  go_ret2
                  exact ⟨rfl, B3.out⟩
            · have htz : min (Lib.ctz 64 a) i = n := trail_at HD.out a n HA.out.1 hn hz (Or.inl (by omega))
              clear hz
              have HN := Lib.hid (And.intro hbl htz)
              clear hbl htz
              rcases HP.out.1 with rfl | rfl | rfl | rfl | rfl | rfl | rfl | rfl | rfl | rfl
              · obtain rfl : pl = 0 := HPL.out
                have Y := Lib.hid (fun w => yes_ref ((a : Int) == 0) w)
                go_wp2_with (go_at_call 23; refine (Y.out _).mono ?_; rintro e w4 ⟨rfl, rfl⟩)
                go_ret2
                exact ⟨ret_t (by rw [show ((a : Int) == 0) = decide (a = 0) by rw [Bool.eq_iff_iff]; simp]; rfl) rfl, B3.out⟩
              · obtain rfl : pl = 1 := HPL.out
                have hr : IntKind.u64.wrap (k : Int) = (k : Int) := wrap_nat k (by omega)
                go_wp2
                go_ret2
                exact ⟨ret_t (by show (k : Int) = ((i - Lib.bitLen a : Nat) : Int); have := HN.out.1; omega) rfl, B3.out⟩
              · obtain rfl : pl = 2 := HPL.out
                have hr : IntKind.u64.wrap (n : Int) = (n : Int) := wrap_nat n (by omega)
                go_wp2
                go_ret2
                exact ⟨ret_t (by show (n : Int) = ((min (Lib.ctz 64 a) i : Nat) : Int); rw [HN.out.2]) rfl, B3.out⟩
              · obtain rfl : pl = 3 := HPL.out
                have ho := ones_le a (by have := HA.out; omega)
                have hr : IntKind.u64.wrap ((Lib.onesCount a : Nat) : Int) = ((Lib.onesCount a : Nat) : Int) := wrap_nat _ (by omega)
                clear ho
                go_wp2
                go_ret2
                exact ⟨ret_t rfl rfl, B3.out⟩
              · obtain rfl : pl = 4 := HPL.out
                obtain rfl : T = i := HP.out.2.2.2 (by omega) (by omega)
                have X := Extend_ref (V := 8) (N := 256) (by unfold Fd; omega) HD.out (by have := HA.out; omega) a (by have := HA.out; omega) w3
                have X := Lib.hid X
                go_wp2_with fail
                refine X.out.mono ?_
                rintro e w4 ⟨rfl, b⟩
                have B4 := Lib.hid (B3.out.trans (b.mono B3.out.size))
                clear b
                go_wp2
                go_ret2
                exact ⟨rfl, B4.out⟩
              · obtain rfl : pl = 5 := HPL.out
                obtain rfl : T = i := HP.out.2.2.2 (by omega) (by omega)
                have X := Extend_ref (V := 16) (N := 65536) (by unfold Fd; omega) HD.out (by have := HA.out; omega) a (by have := HA.out; omega) w3
                have X := Lib.hid X
                go_wp2_with fail
                refine X.out.mono ?_
                rintro e w4 ⟨rfl, b⟩
                have B4 := Lib.hid (B3.out.trans (b.mono B3.out.size))
                clear b
                go_wp2
                go_ret2
                exact ⟨rfl, B4.out⟩
              · obtain rfl : pl = 6 := HPL.out
                obtain rfl : T = i := HP.out.2.2.2 (by omega) (by omega)
                have X := Extend_ref (V := 32) (N := 4294967296) (by unfold Fd; omega) HD.out (by have := HA.out; have := HP.out.2.2.1 rfl; omega) a (by have := HA.out; omega) w3
                have X := Lib.hid X
                go_wp2_with fail
                refine X.out.mono ?_
                rintro e w4 ⟨rfl, b⟩
                have B4 := Lib.hid (B3.out.trans (b.mono B3.out.size))
                clear b
                go_wp2
                go_ret2
                exact ⟨rfl, B4.out⟩
              · obtain rfl : pl = 7 := HPL.out
                have X := Lib.hid (cut_ref a 32 (by have := HA.out; omega) (by omega) (by omega) w3)
                go_wp2_with fail
                refine X.out.mono ?_
                rintro e w4 ⟨rfl, b⟩
                have B4 := Lib.hid (B3.out.trans (b.mono B3.out.size))
                clear b
                go_wp2
                go_ret2
                exact ⟨rfl, B4.out⟩
              · obtain rfl : pl = 8 := HPL.out
                have X := Lib.hid (Extend_ref (V := 32) (N := 4294967296) (W := 64) (M := 18446744073709551616) (by unfold Fd; omega) (by unfold Wd; omega) (by omega) a (by have := HA.out; omega) w3)
                go_wp2_with fail
                refine X.out.mono ?_
                rintro e w4 ⟨rfl, b⟩
                have B4 := Lib.hid (B3.out.trans (b.mono B3.out.size))
                clear b
                go_wp2
                go_ret2
                exact ⟨rfl, B4.out⟩
              · obtain rfl : pl = 9 := HPL.out
                go_wp2
                go_ret2
                exact ⟨rfl, B3.out⟩
end Go.Proofs.YtdoejkdckokjdaaDoor
