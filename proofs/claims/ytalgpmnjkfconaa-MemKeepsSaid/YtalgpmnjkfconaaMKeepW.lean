/- The walk of MemKeeps. -/
import Derived.Test.YtalgpmnjkfconaaKeepL
import Derived.Deep.QuietTactic
import Derived.BigQuiet
namespace Go.Proofs.Ytalgpmnjkfconaa
open Go.RowKit Go.Deep Go.Instr

theorem Below_drewN (B : Nat) (w : World) (n : Nat) : Below B w (w.drewN n) := ⟨rfl, rfl, rfl, Nat.le_refl _, fun _ _ => rfl⟩

theorem wrap_mod (a : Nat) : IntKind.u64.wrap (a : Int) = ((a % 18446744073709551616 : Nat) : Int) := by rw [IntKind.wrap_u64]; omega

set_option maxRecDepth 100000 in
set_option maxHeartbeats 4000000 in
theorem MemKeeps_in (at' x other src to n : Nat) (h0 : at' < 18446744073709551616) (h1 : x < 18446744073709551616) (h2 : other < 18446744073709551616) (h3 : src < 18446744073709551616) (h4 : to < 18446744073709551616) (h5 : n < 18446744073709551616) (w : World) :
    Calls Try.prog 3 #[.int .u64 at', .int .u64 x, .int .u64 other, .int .u64 src, .int .u64 to, .int .u64 n] w fun e w' => e = .returned (.bool true) ∧ Below w.heap.size w w' := by
  by_cases hg : ¬ (at' ≤ 70000 ∧ src ≤ 70000 ∧ to ≤ 70000 ∧ n ≤ 200)
  · by_cases g1 : 70000 < at'
    · go_enter Try.func3, Try.ntmps3
      go_wp2_with fail
      refine (knownM_any _).mono ?_
      rintro e w1 ⟨rfl, b1⟩
      go_wp2
      go_ret
      exact ⟨rfl, b1⟩
    · have c1 : decide (70000 < (at' : Int)) = false := by simp; omega
      by_cases g2 : 70000 < src
      · go_enter Try.func3, Try.ntmps3
        go_wp2_with fail
        refine (knownM_any _).mono ?_
        rintro e w1 ⟨rfl, b1⟩
        go_wp2
        go_ret
        exact ⟨rfl, b1⟩
      · by_cases g3 : 70000 < to
        · go_enter Try.func3, Try.ntmps3
          go_wp2_with fail
          refine (knownM_any _).mono ?_
          rintro e w1 ⟨rfl, b1⟩
          go_wp2
          go_ret
          exact ⟨rfl, b1⟩
        · have g4 : 200 < n := by omega
          go_enter Try.func3, Try.ntmps3
          go_wp2_with fail
          refine (knownM_any _).mono ?_
          rintro e w1 ⟨rfl, b1⟩
          go_wp2
          go_ret
          exact ⟨rfl, b1⟩
  · obtain ⟨g1, g2, g3, g4⟩ := Classical.not_not.1 hg
    clear hg
    clear h0 h3 h4 h5
    have G1 := Lib.hid g1
    have G2 := Lib.hid g2
    have G3 := Lib.hid g3
    have G4 := Lib.hid g4
    have H1 := Lib.hid h1
    have H2 := Lib.hid h2
    have c1 : decide ((70000 : Int) < (at' : Int)) = false := by simp; omega
    have c2 : decide ((70000 : Int) < (src : Int)) = false := by simp; omega
    have c3 : decide ((70000 : Int) < (to : Int)) = false := by simp; omega
    have c4 : decide ((200 : Int) < (n : Int)) = false := by simp; omega
    clear h1 h2 g1 g2 g3 g4
    go_enter Try.func3, Try.ntmps3
    go_wp2_with fail
    refine (knownM_any _).mono ?_
    rintro e w1 ⟨rfl, b1⟩
    have B1 := Lib.hid b1
    have h8 := Lib.hid (New_any false false 1 0 w1 (by omega))
    clear b1
    go_wp2_with fail
    refine h8.out.mono ?_
    rintro e w2 ⟨p, g, rfl, m2, hp, hg, hp2, hg2, b2⟩
    have hpg := Lib.hid (And.intro (Nat.le_trans B1.out.size hp) (Nat.le_trans B1.out.size hg))
    have B2 := Lib.hid (B1.out.trans (b2.mono B1.out.size))
    rw [show 1 * 65536 = 65536 from rfl] at m2
    have h9 := Lib.hid (Store_any m2 0 65528 8 other (by omega) (by omega) H2.out)
    rw [placeV_yes (by decide) (by show 0 + 65528 + 8 ≤ _; omega)] at h9
    clear h8 hp hg hp2 hg2 b2 m2 B1 c1 c2 c3 c4
    go_wp2_with fail
    refine h9.out.mono ?_
    rintro e w3 ⟨rfl, m3, t3⟩
    rw [if_pos trivial] at m3
    have B3 := Lib.hid (B2.out.trans (t3.below hpg.out.2 B2.out.size))
    obtain ⟨f3, hf3⟩ : ∃ f : Nat → Nat, f = lay (fun _ => 0) (0 + 65528) other (Int.toNat 8) := ⟨_, rfl⟩
    rw [← hf3] at m3
    have M3 := Lib.hid m3
    clear m3 t3 hf3 h9 B2
    go_wp2
    go_loopw [15] (fun b wr => ∃ (i : Nat) (f : Nat → Nat), b = .int .u64 (i : Int) ∧ i ≤ 300 ∧ MemIs wr p g 65536 false false 1 0 f ∧ Below w.heap.size w wr) (fun b _ => 300 - (intOf b).toNat)
    case atStart => exact ⟨0, f3, rfl, by omega, M3.out, B3.out⟩
    case round =>
      obtain ⟨i, f, rfl, hi, m4, b4⟩ := hrel
      have M4 := Lib.hid m4
      have B4 := Lib.hid b4
      clear m4 b4 M3 B3
      by_cases hlt : i < 300
      · have h9 := Store_any M4.out (i * 8) 0 8 (i * other % 18446744073709551616) (by omega) (by omega) (by omega)
        rw [placeV_yes (by decide) (by show i * 8 + 0 + 8 ≤ _; omega)] at h9
        rw [show ((i * 8 : Nat) : Int) = (i : Int) * 8 by omega] at h9
        have e2 : IntKind.u64.wrap ((i : Int) * (other : Int)) = ((i * other % 18446744073709551616 : Nat) : Int) := by rw [← Int.natCast_mul, wrap_mod]
        have H9 := Lib.hid h9
        have E2 := Lib.hid e2
        clear h9 e2
        go_wp2_with fail
        rw [E2.out]
        refine H9.out.mono ?_
        rintro e w5 ⟨rfl, m5, t5⟩
        rw [if_pos trivial] at m5
        have M5 := Lib.hid m5
        have B5 := Lib.hid (B4.out.trans (t5.below hpg.out.2 B4.out.size))
        clear m5 t5 H9
        go_wp2
        go_roundw
        case rel => exact ⟨i + 1, _, by go_num, by omega, M5.out, B5.out⟩
        case measure => simp [intOf]; omega
      · have hi3 : i = 300 := by omega
        subst hi3
        have HB1 := Lib.hid (Bytes_all M4.out (by omega))
        clear hlt hi
        go_wp2_with fail
        refine HB1.out.mono ?_
        rintro e w5 ⟨b5, c5, rfl, s5, k5⟩
        have hsz := B4.out.size
        have M5 := Lib.hid (M4.out.kept k5)
        have B5 := Lib.hid (B4.out.trans (k5.mono hsz))
        have S5 := Lib.hid s5
        clear HB1 M4 B4 s5 k5 hsz
        have h9 := Store_any M5.out at' 0 8 x (by have := G1.out; omega) (by omega) H1.out
        by_cases hok : at' + 8 ≤ 65536
        · rw [placeV_yes (by decide) (by show at' + 0 + 8 ≤ _; omega), if_pos rfl] at h9
          have H9 := Lib.hid h9
          clear h9
          go_wp2_with fail
          refine H9.out.mono ?_
          rintro e w6 ⟨rfl, m6, t6⟩
          rw [Nat.add_zero, show Int.toNat 8 = 8 from rfl] at m6
          obtain ⟨lo, hlo⟩ : ∃ lo, lo = x % 4294967296 := ⟨_, rfl⟩
          obtain ⟨hi, hhi⟩ : ∃ hi, hi = x / 4294967296 := ⟨_, rfl⟩
          have hx := H1.out
          have l1 : Calls Try.prog 11 #[.pointer (some ⟨p, 0, none⟩), .int .u64 (at' : Nat), .int .u64 0, .int .i64 8] w6 fun e w' => e = .returned (.tuple #[.int .u64 (x : Nat), .int .i64 0]) ∧ w6 = w' := by
            have h := Load_any m6 at' 0 8 (by omega) (by omega)
            rw [loadV_ok _ (by decide) (by show at' + 0 + 8 ≤ _; omega), Nat.add_zero] at h
            rw [show num (fun i => lay f at' x 8 (at' + i)) (Int.toNat 8) = x from (num_lay f at' x 8 8 (by omega)).trans (by omega)] at h
            exact h
          have l2 : Calls Try.prog 11 #[.pointer (some ⟨p, 0, none⟩), .int .u64 (at' : Nat), .int .u64 0, .int .i64 4] w6 fun e w' => e = .returned (.tuple #[.int .u64 (lo : Nat), .int .i64 0]) ∧ w6 = w' := by
            have h := Load_any m6 at' 0 4 (by omega) (by omega)
            rw [loadV_ok _ (by decide) (by show at' + 0 + 4 ≤ _; omega), Nat.add_zero] at h
            rw [show num (fun i => lay f at' x 8 (at' + i)) (Int.toNat 4) = lo from (num_lay f at' x 8 4 (by omega)).trans hlo.symm] at h
            exact h
          have l3 : Calls Try.prog 11 #[.pointer (some ⟨p, 0, none⟩), .int .u64 (at' : Nat), .int .u64 4, .int .i64 4] w6 fun e w' => e = .returned (.tuple #[.int .u64 (hi : Nat), .int .i64 0]) ∧ w6 = w' := by
            have h := Load_any m6 at' 4 4 (by omega) (by omega)
            rw [loadV_ok _ (by decide) (by show at' + 4 + 4 ≤ _; omega)] at h
            rw [show num (fun i => lay f at' x 8 (at' + 4 + i)) (Int.toNat 4) = hi from (num_lay_at f at' x 8 4 4 (by omega)).trans (by omega)] at h
            exact h
          have HX := Lib.hid (show x = lo + hi * 4294967296 ∧ lo < 4294967296 ∧ hi < 4294967296 by omega)
          have HO := Lib.hid (fun k (hk : k < at' ∨ at' + 8 ≤ k) => lay_out f at' x 8 k hk)
          obtain ⟨F, hF⟩ : ∃ F, F = lay f at' x 8 := ⟨_, rfl⟩
          rw [← hF] at m6 HO
          have S6 := Lib.hid (S5.out.touch t6)
          have B6 := Lib.hid (B5.out.trans (t6.below hpg.out.2 B5.out.size))
          have M6 := Lib.hid m6
          have HB2 := Lib.hid (Bytes_all m6 (by omega))
          have L1 := Lib.hid l1
          have L2 := Lib.hid l2
          have L3 := Lib.hid l3
          have HOK := Lib.hid hok
          clear m6 t6 H9 l1 l2 l3 hx hhi hlo hF hok M5 S5 B5
          go_wp2_with fail
          refine L1.out.mono ?_
          rintro e w6 ⟨rfl, rfl⟩
          go_wp2_with fail
          refine L2.out.mono ?_
          rintro e w6 ⟨rfl, rfl⟩
          go_wp2_with fail
          refine L3.out.mono ?_
          rintro e w6 ⟨rfl, rfl⟩
          go_wp2_with fail
          refine HB2.out.mono ?_
          rintro e w7 ⟨b7, c7, rfl, s7, k7⟩
          have hsz := B6.out.size
          have M7 := Lib.hid (M6.out.kept k7)
          have B7 := Lib.hid (B6.out.trans (k7.mono hsz))
          have S7 := Lib.hid (S6.out.below k7)
          have T7 := Lib.hid s7
          clear L1 L2 L3 HB2 M6 B6 S6 s7 k7 hsz
          -- the strings
          obtain ⟨A1, -, -, p1, q1⟩ := S7.out.cut 0 at' (by omega) (by have := HOK.out; omega)
          obtain ⟨A2, -, -, p2, q2⟩ := T7.out.cut 0 at' (by omega) (by have := HOK.out; omega)
          obtain ⟨A3, -, p3, -, q3⟩ := S7.out.cut (at' + 8) 65536 HOK.out (by omega)
          obtain ⟨A4, -, p4, -, q4⟩ := T7.out.cut (at' + 8) 65536 HOK.out (by omega)
          have p1 := p1 rfl
          have p2 := p2 rfl
          have p3 := p3 rfl
          have p4 := p4 rfl
          rw [part_congr F f 0 (at' - 0) (fun k hk => HO.out (0 + k) (by omega))] at q2
          rw [part_congr F f (at' + 8) (65536 - (at' + 8)) (fun k hk => HO.out (at' + 8 + k) (by omega))] at q4
          rw [Nat.sub_zero] at p1 p2 q1 q2
          rw [Nat.sub_zero] at p1 p2 q1 q2
          rw [show ((at' + 8 : Nat) : Int) = (at' : Int) + 8 by omega] at p3 p4
          generalize strN (part f 0 at') = SA at q1 q2
          generalize strN (part f (at' + 8) (65536 - (at' + 8))) = SB at q3 q4
          generalize 65536 - (at' + 8) = u3 at p3 p4 q3 q4
          generalize c7 - (at' + 8) = u4 at p3 p4 q3 q4
          generalize c5 - (at' + 8) = u5 at p3 p4 q3 q4
          have i1 : (at' : Int) + 8 ≤ 65536 := by have := HOK.out; omega
          have i2 : IntKind.u64.wrap ((at' : Int) + 8) = (at' : Int) + 8 := by rw [IntKind.wrap_u64]; omega
          have i3 : IntKind.u64.wrap ((hi : Int) * 4294967296) = (hi : Int) * 4294967296 := by have := HX.out; rw [IntKind.wrap_u64]; omega
          have i4 : IntKind.u64.wrap ((lo : Int) + (hi : Int) * 4294967296) = (x : Int) := by have := HX.out; rw [IntKind.wrap_u64]; omega
          go_wp2
          go_quiet (fail)
          clear p1 p2 p3 p4 q1 q2 q3 q4 i1 i2 i3 i4 HO HX HOK S7
          by_cases hin : to + n ≤ 65536 ∧ src + n ≤ 65536
          · obtain ⟨hin1, hin2⟩ := hin
            have hcp := Copy_ok (M7.out.kept (Below_drewN _ w7 nq)) (M7.out.kept (Below_drewN _ w7 nq)) to src n hin1 hin2
            have HC := Lib.hid hcp
            have S8 := Lib.hid (T7.out.below (Below_drewN _ w7 nq))
            have B8 := Lib.hid (B7.out.trans (Below_drewN _ w7 nq))
            have c1 : decide ((65536 : Int) < (src : Int) + (n : Int)) = false := by simp; omega
            have c2 : decide ((65536 : Int) < (to : Int) + (n : Int)) = false := by simp; omega
            have HIN := Lib.hid (And.intro hin1 hin2)
            have i1 : IntKind.u64.wrap ((to : Int) + (n : Int)) = (to : Int) + (n : Int) := by rw [IntKind.wrap_u64]; omega
            have i2 : IntKind.u64.wrap ((src : Int) + (n : Int)) = (src : Int) + (n : Int) := by rw [IntKind.wrap_u64]; omega
            clear hcp hin1 hin2 T7 M7 B7
            go_wp2_with fail
            refine HC.out.mono ?_
            rintro e w9 ⟨rfl, m9, t9⟩
            have hput1 := fun k (hk : k < n) => put_in F to src n 65536 k hk HIN.out.2
            have hput2 := fun k (hk : k < to ∨ to + n ≤ k) => put_out F to src n 65536 k hk
            obtain ⟨F', hF'⟩ : ∃ F', F' = put F to (part F 0 65536) src n := ⟨_, rfl⟩
            rw [← hF'] at m9 hput1 hput2
            have HP1 := Lib.hid hput1
            have HP2 := Lib.hid hput2
            have S9 := Lib.hid (S8.out.touch t9)
            have B9 := Lib.hid (B8.out.trans (t9.below hpg.out.2 B8.out.size))
            have HB3 := Lib.hid (Bytes_all m9 (by omega))
            clear hput1 hput2 hF' m9 t9 S8 B8 HC
            go_wp2_with fail
            refine HB3.out.mono ?_
            rintro e w10 ⟨b10, c10, rfl, s10, k10⟩
            have B10 := Lib.hid (B9.out.trans (k10.mono B9.out.size))
            have S10 := Lib.hid (S9.out.below k10)
            have T10 := Lib.hid s10
            clear HB3 S9 B9 s10 k10
            obtain ⟨C1, p1, -, -, q1⟩ := T10.out.cut to (to + n) (by omega) HIN.out.1
            obtain ⟨C2, p2, -, -, q2⟩ := S10.out.cut src (src + n) (by omega) HIN.out.2
            obtain ⟨C3, -, -, p3, q3⟩ := T10.out.cut 0 to (by omega) (by have := HIN.out; omega)
            obtain ⟨C4, -, -, p4, q4⟩ := S10.out.cut 0 to (by omega) (by have := HIN.out; omega)
            obtain ⟨C5, -, p5, -, q5⟩ := T10.out.cut (to + n) 65536 HIN.out.1 (by omega)
            obtain ⟨C6, -, p6, -, q6⟩ := S10.out.cut (to + n) 65536 HIN.out.1 (by omega)
            replace p3 := p3 rfl
            replace p4 := p4 rfl
            replace p5 := p5 rfl
            replace p6 := p6 rfl
            rw [Nat.sub_zero] at p3 p4 q3 q4
            rw [Nat.sub_zero] at p3 p4 q3 q4
            rw [Nat.add_sub_cancel_left] at p1 p2 q1 q2
            rw [part_moved F' F to src n (fun k hk => HP1.out k hk)] at q1
            rw [part_congr F' F 0 to (fun k hk => HP2.out (0 + k) (by omega))] at q3
            rw [part_congr F' F (to + n) (65536 - (to + n)) (fun k hk => HP2.out (to + n + k) (by omega))] at q5
            rw [show ((to + n : Nat) : Int) = (to : Int) + (n : Int) by omega] at p1 p5 p6
            rw [show ((src + n : Nat) : Int) = (src : Int) + (n : Int) by omega] at p2
            generalize strN (part F src n) = SA' at q1 q2
            generalize strN (part F 0 to) = SB' at q3 q4
            generalize strN (part F (to + n) (65536 - (to + n))) = SC' at q5 q6
            generalize 65536 - (to + n) = v1 at p5 p6 q5 q6
            generalize c10 - (to + n) = v2 at p5 p6 q5 q6
            generalize c7 - (to + n) = v3 at p5 p6 q5 q6
            generalize c10 - to = v4 at p1 p2 q1 q2
            generalize c7 - src = v5 at p1 p2 q1 q2
            go_wp2
            go_quiet (fail)
            go_wp2
            go_ret
            exact ⟨rfl, B10.out.trans (Below_drewN _ _ _)⟩
          · have hcp := Copy_bad (M7.out.kept (Below_drewN _ w7 nq)) (M7.out.kept (Below_drewN _ w7 nq)) to src n (by have := G3.out; omega) (by have := G2.out; omega) (by have := G4.out; omega) hin
            have HC := Lib.hid hcp
            have S8 := Lib.hid (T7.out.below (Below_drewN _ w7 nq))
            have B8 := Lib.hid (B7.out.trans (Below_drewN _ w7 nq))
            have HB3 := Lib.hid (Bytes_all (M7.out.kept (Below_drewN _ w7 nq)) (by omega))
            have HIN := Lib.hid hin
            have i1 : IntKind.u64.wrap ((to : Int) + (n : Int)) = (to : Int) + (n : Int) := by have := G3.out; have := G4.out; rw [IntKind.wrap_u64]; omega
            have i2 : IntKind.u64.wrap ((src : Int) + (n : Int)) = (src : Int) + (n : Int) := by have := G2.out; have := G4.out; rw [IntKind.wrap_u64]; omega
            clear hcp T7 M7 B7 hin
            go_wp2_with fail
            refine HC.out.mono ?_
            rintro e w9 ⟨rfl, rfl⟩
            go_wp2_with fail
            refine HB3.out.mono ?_
            rintro e w10 ⟨b10, c10, rfl, s10, k10⟩
            have B10 := Lib.hid (B8.out.trans (k10.mono B8.out.size))
            have hc7 := s10.str0
            have hc6 := (S8.out.below k10).str0
            generalize strN (part F 0 65536) = S at hc7 hc6
            clear s10 k10 HB3 S8 B8 HC
            by_cases hs : 65536 < src + n
            · have c1 : decide ((65536 : Int) < (src : Int) + (n : Int)) = true := by simp; omega
              go_wp2
              go_ret
              exact ⟨rfl, B10.out⟩
            · have c1 : decide ((65536 : Int) < (src : Int) + (n : Int)) = false := by simp; omega
              have c2 : decide ((65536 : Int) < (to : Int) + (n : Int)) = true := by have := HIN.out; simp; omega
              go_wp2
              go_ret
              exact ⟨rfl, B10.out⟩
        · rw [placeV_no (by decide) (by show _ < at' + 0 + 8; omega), if_neg (by simp)] at h9
          have H9 := Lib.hid h9
          clear h9
          go_wp2_with fail
          refine H9.out.mono ?_
          rintro e w6 ⟨rfl, m6, t6⟩
          have S6 := Lib.hid (S5.out.touch t6)
          have B6 := Lib.hid (B5.out.trans (t6.below hpg.out.2 B5.out.size))
          have HB2 := Lib.hid (Bytes_all m6 (by omega))
          clear m6 t6 H9
          go_wp2_with fail
          refine HB2.out.mono ?_
          rintro e w7 ⟨b7, c7, rfl, s7, k7⟩
          have B7 := Lib.hid (B6.out.trans (k7.mono B6.out.size))
          have hc7 := s7.str0
          have hc6 := (S6.out.below k7).str0
          have hlt : (65528 : Int) < (at' : Int) := by omega
          generalize strN (part f 0 65536) = S at hc7 hc6
          clear s7 k7 HB2
          go_wp2
          go_ret
          exact ⟨rfl, B7.out⟩
theorem u64_nat {n : Int} (h : (Lit.int .u64 n).wf = true) : ∃ m : Nat, n = (m : Int) ∧ m < 18446744073709551616 :=
  ⟨n.toNat, by have := u64_wf h; omega, by have := u64_wf h; omega⟩

theorem MemKeeps_walk (a0 : Int) (a1 : Int) (a2 : Int) (a3 : Int) (a4 : Int) (a5 : Int) (w0 : (Lit.int .u64 a0).wf = true) (w1 : (Lit.int .u64 a1).wf = true) (w2 : (Lit.int .u64 a2).wf = true) (w3 : (Lit.int .u64 a3).wf = true) (w4 : (Lit.int .u64 a4).wf = true) (w5 : (Lit.int .u64 a5).wf = true) (w : World) :
    Calls Try.prog 3 #[.int .u64 a0, .int .u64 a1, .int .u64 a2, .int .u64 a3, .int .u64 a4, .int .u64 a5] w fun e w' => e = .returned (.bool true) ∧ Below w.heap.size w w' := by
  obtain ⟨n0, rfl, h0⟩ := u64_nat w0
  obtain ⟨n1, rfl, h1⟩ := u64_nat w1
  obtain ⟨n2, rfl, h2⟩ := u64_nat w2
  obtain ⟨n3, rfl, h3⟩ := u64_nat w3
  obtain ⟨n4, rfl, h4⟩ := u64_nat w4
  obtain ⟨n5, rfl, h5⟩ := u64_nat w5
  exact MemKeeps_in n0 n1 n2 n3 n4 n5 h0 h1 h2 h3 h4 h5 w
end Go.Proofs.Ytalgpmnjkfconaa
