/- The walk of LebPadded. -/
import Derived.Test.YtbaihhkcnlhdmaaCutW
namespace Go.Proofs.Ytbaihhkcnlhdmaa
open Go.RowKit

theorem pad_zero : ∀ m : Nat, LebM.padU 0 (m + 1) = List.replicate m 128 ++ [0]
  | 0 => rfl
  | m + 1 => by rw [LebM.padU, show (0 : Nat) / 128 = 0 from rfl, pad_zero m]; rfl

theorem pad_rep : ∀ (M n : Nat), n < 2 ^ (7 * (M + 1)) → ∃ (pre : List Nat) (x : Nat), LebM.padU n (M + 1) = pre ++ [x] ∧ x < 128 ∧ pre.length = M ∧
    ∀ m, LebM.padU n (M + 2 + m) = pre ++ [x + 128] ++ List.replicate m 128 ++ [0] := by
  intro M
  induction M with
  | zero =>
    intro n h
    refine ⟨[], n % 128, rfl, by omega, rfl, fun m => ?_⟩
    have h0 : n / 128 = 0 := by simp at h; omega
    rw [show 0 + 2 + m = m + 2 by omega, LebM.padU, h0, pad_zero]
    simp
  | succ M ih =>
    intro n h
    obtain ⟨pre, x, h1, h2, h3, h4⟩ := ih (n / 128) (by
      rw [Nat.div_lt_iff_lt_mul (by omega)]
      have : 2 ^ (7 * (M + 1)) * 128 = 2 ^ (7 * (M + 1 + 1)) := by rw [show 7 * (M + 1 + 1) = 7 * (M + 1) + 7 by omega, Nat.pow_add _ _ 7]
      omega)
    refine ⟨(n % 128 + 128) :: pre, x, ?_, h2, by simp [h3], fun m => ?_⟩
    · rw [LebM.padU, h1]; rfl
    · rw [show M + 1 + 2 + m = (M + 1 + m) + 2 by omega, LebM.padU, show M + 1 + m + 1 = M + 2 + m by omega, h4]; rfl

set_option maxRecDepth 100000 in
set_option maxHeartbeats 4000000 in
theorem padded_in (n m : Nat) (w : World) (hn : n < 18446744073709551616) (hm1 : 1 ≤ m) (hm : m ≤ 12) :
    Calls Try.prog 12 #[.int .u64 n, .int .i64 m] w fun e w' => e = .returned (.bool true) ∧ Below w.heap.size w w' := by
  obtain ⟨i0, hi, hz0, hz1, hz2⟩ := info_parts info5
  go_enter Try.func12, Try.ntmps12
  go_wp2_with fail
  go_loopw [0, 5] (fun y b wr => ∃ (q a : Nat), 1 ≤ q ∧ q ≤ 3 ∧ y = .int .u64 (a : Int) ∧ b = .int .i64 ((32 * q : Nat) : Int) ∧ a < 18446744073709551616 ∧ Below w.heap.size w wr)
    (fun _ b _ => 96 - (intOf b).toNat)
  case atStart => exact ⟨1, n, by omega, by omega, rfl, rfl, hn, Below.refl _ _⟩
  case round =>
    obtain ⟨q, a, hq1, hq2, rfl, rfl, ha, hbel⟩ := hrel
    have hbw := Lib.hid hbel
    clear hbel hn
    rcases (show q = 1 ∨ q = 2 ∨ q = 3 by omega) with hq | hq | hq
    · subst hq
      obtain ⟨wo, rfl⟩ : ∃ wo : World, wo = wr := ⟨_, rfl⟩
      have ea := Lib.hid (show (a : Int) % 4294967296 = ((a % 4294967296 : Nat) : Int) by omega)
      have ha' := Lib.hid (show a % 4294967296 < 4294967296 by omega)
      go_wp2_with fail
      rw [ea.out]
      generalize a % 4294967296 = A at ea ha'
      have hA : A < 2 ^ 32 := by have := ha'.out; simpa using this
      have hA64 : A < 18446744073709551616 := by have := ha'.out; omega
      clear ea ha'
      refine (PutU_any A hA64 _).mono ?_
      rintro e w2 ⟨v, rfl, o2, b2⟩
      have hL1 := LebM.putU_pos A
      have hL2 := LebM.putU_len_le (n := A) (k := 10) (by omega) (by omega)
      obtain ⟨hp1, hp2, -⟩ := LebM.putU_pad A
      obtain ⟨M, hM⟩ : ∃ M, (LebM.putU A).length = M + 1 := ⟨(LebM.putU A).length - 1, by omega⟩
      rw [hM] at hp1 hp2 hL2
      obtain ⟨pre, x, e1, hx, hpre, e2⟩ := pad_rep M A hp2
      subst hpre
      rw [hp1, e1] at o2
      obtain ⟨g, cap, rfl, hg, hcap1, hcap2, hcell, hfro, hst⟩ := o2.at
      have E2 := Lib.hid e2
      have HP2 := Lib.hid hp2
      have HA := Lib.hid hA
      have HST := Lib.hid (hst (x + 128))
      have HB2 := Lib.hid (b2.setCell (p := ⟨g, pre.length, none⟩) hg (.int .u8 ((x + 128 : Nat) : Int)))
      have hlen0 : ((pre.length : Int) + 1 == 0) = false := by simp; omega
      clear e1 e2 hp1 hp2 hM o2 b2 hst hL1 hA
      unfold maxLen at hcap2
      have hor : bits .or .u8 (x : Int) 128 = (x : Int) + 128 := by have := or128 x hx; simpa using this
      go_wp2_with fail
      clear hcell hfro hor hlen0
      go_loopw [6, 7] (fun b i wr => ∃ k : Nat, i = .int .i64 ((k + 1 : Nat) : Int) ∧ k + 1 ≤ m ∧ Own wr wo.heap.size b (pre ++ [x + 128] ++ List.replicate k 128) ∧ Below wo.heap.size wo wr)
        (fun _ i _ => m - (intOf i).toNat)
      case atStart => exact ⟨0, rfl, by omega, by simpa using HST.out, HB2.out⟩
      case round =>
        obtain ⟨k, rfl, hk, hown, hbel⟩ := hrel
        obtain ⟨l, hl⟩ : ∃ l, l = pre ++ [x + 128] ++ List.replicate k 128 := ⟨_, rfl⟩
        rw [← hl] at hown
        have hll : l.length ≤ pre.length + 1 + k := by rw [hl]; simp; omega
        have HLD := Lib.hid hl
        clear hl
        have HO := Lib.hid hown
        have HBL := Lib.hid hbel
        have hsz := hbel.size
        clear hown hbel
        by_cases hlt : k + 1 < m
        · go_wp2_with (at_builtin; refine wpList_append_own _ rfl _ _ 22 rfl wo.heap.size 5 i0 (.int .u8 0) 1 1 Try.underlying22 hi hz0 hz1 hz2 rfl (by decide) _ _ _ rfl (World.ownsRow.alloc HO.out _) ⟨wr.heap.size, 0, none⟩ 1 1 [.int .u8 128] rfl rfl ?c1pa ?c2pa ?c3pa ?c4pa ?c5pa ?_)
          case c1pa =>
            intro j u hj
            match j, hj with
            | 0, hj => simp at hj; subst hj; rw [Addr.add_lit, World.cell?_alloc_at _ _ _ _ (by simp)]; rfl
          case c2pa => intro u hu; simp at hu; subst hu; rfl
          case c3pa => unfold maxLen; simp; omega
          case c4pa => simp; omega
          case c5pa => simp; omega
          · intro v' w3 hown' hgrow _
            have R1 : Own w3 wo.heap.size v' (pre ++ [x + 128] ++ List.replicate (k + 1) 128) := by
              have := hown'
              rw [List.replicate_succ', ← List.append_assoc, ← HLD.out]
              simpa [Own, cellsOf] using this
            have R2 := HBL.out.grownOwn hsz HO.out _ hgrow
            have R1 := Lib.hid R1
            have R2 := Lib.hid R2
            clear hown' hgrow
            go_wp2
            go_roundw
            case rel => exact ⟨k + 1, by go_num, by omega, R1.out, R2.out⟩
            case measure => simp [intOf]; omega
        · have hkm : k + 1 = m := by omega
          subst hkm
          have hLL : pre.length + 1 + (k + 1) = pre.length + 2 + k := by omega
          have hfl : ∀ c ∈ LebM.padU A (pre.length + 2 + k), c < 256 := padU_lt _ _
          have hrd := LebM.rd_pad 32 [] (pre.length + 2 + k) A 0 0 0 (by omega) (Nat.lt_of_lt_of_le HP2.out (Nat.pow_le_pow_right (by omega) (by omega))) (by simp) (by simpa using HA.out) (by omega)
          rw [List.append_nil] at hrd
          have hr : LebM.read (LebM.padU A (pre.length + 2 + k)) 0 32 false = if pre.length + 2 + k ≤ 5 then ((A : Int), ((pre.length + 2 + k : Nat) : Int), 0) else (0, 0, 11) := by
            rw [show (32 : Int) = ((32 : Nat) : Int) from rfl, read0 _ 32 _ (by omega) (by omega)]
            by_cases hc : pre.length + 2 + k ≤ 5
            · rw [if_pos (show 0 + 7 * (pre.length + 2 + k - 1) < 32 by omega)] at hrd
              rw [hrd, if_pos hc]; simp
            · rw [if_neg (show ¬ 0 + 7 * (pre.length + 2 + k - 1) < 32 by omega)] at hrd
              rw [hrd, if_neg hc]; simp
          have HR := Lib.hid hr
          have HFL := Lib.hid hfl
          clear hrd hr hfl
          by_cases hc : pre.length + 2 + k ≤ 5
          · go_wp2_with (at_builtin; refine wpList_append_own _ rfl _ _ 22 rfl wo.heap.size 5 i0 (.int .u8 0) 1 1 Try.underlying22 hi hz0 hz1 hz2 rfl (by decide) _ _ _ rfl (World.ownsRow.alloc HO.out _) ⟨wr.heap.size, 0, none⟩ 1 1 [.int .u8 0] rfl rfl ?c1pb ?c2pb ?c3pb ?c4pb ?c5pb ?_)
            case c1pb =>
              intro j u hj
              match j, hj with
              | 0, hj => simp at hj; subst hj; rw [Addr.add_lit, World.cell?_alloc_at _ _ _ _ (by simp)]; rfl
            case c2pb => intro u hu; simp at hu; subst hu; rfl
            case c3pb => unfold maxLen; simp; omega
            case c4pb => simp; omega
            case c5pb => simp; omega
            · intro v' w3 hown' hgrow _
              have R1 : Own w3 wo.heap.size v' (LebM.padU A (pre.length + 2 + k)) := by
                rw [E2.out k, ← HLD.out]
                have := hown'
                simpa [Own, cellsOf] using this
              have R2 := Lib.hid (HBL.out.grownOwn hsz HO.out _ hgrow)
              obtain ⟨a3, cap3, rfl, h3, -, -⟩ := R1.bts HFL.out
              have U1 := U_any a3 cap3 (LebM.padU A (pre.length + 2 + k)) 0 32 w3 h3 (by rw [LebM.len_padU]; omega)
              rw [HR.out, if_pos hc, LebM.len_padU] at U1
              have U1 := Lib.hid U1
              rw [LebM.len_padU]
              clear hown' hgrow R1 h3
              go_wp2_with fail
              refine U1.out.mono ?_
              rintro e w4 ⟨rfl, rfl⟩
              go_wp2
              go_roundw
              case rel =>
                (repeat apply Exists.intro)
                exact ⟨⟨2, A, by omega, by omega, rfl, by go_num, hA64, hbw.out.trans (R2.out.mono hbw.out.size)⟩, rfl⟩
              case measure => simp [intOf]
          · go_wp2_with (at_builtin; refine wpList_append_own _ rfl _ _ 22 rfl wo.heap.size 5 i0 (.int .u8 0) 1 1 Try.underlying22 hi hz0 hz1 hz2 rfl (by decide) _ _ _ rfl (World.ownsRow.alloc HO.out _) ⟨wr.heap.size, 0, none⟩ 1 1 [.int .u8 0] rfl rfl ?c1pc ?c2pc ?c3pc ?c4pc ?c5pc ?_)
            case c1pc =>
              intro j u hj
              match j, hj with
              | 0, hj => simp at hj; subst hj; rw [Addr.add_lit, World.cell?_alloc_at _ _ _ _ (by simp)]; rfl
            case c2pc => intro u hu; simp at hu; subst hu; rfl
            case c3pc => unfold maxLen; simp; omega
            case c4pc => simp; omega
            case c5pc => simp; omega
            · intro v' w3 hown' hgrow _
              have R1 : Own w3 wo.heap.size v' (LebM.padU A (pre.length + 2 + k)) := by
                rw [E2.out k, ← HLD.out]
                have := hown'
                simpa [Own, cellsOf] using this
              have R2 := Lib.hid (HBL.out.grownOwn hsz HO.out _ hgrow)
              obtain ⟨a3, cap3, rfl, h3, -, -⟩ := R1.bts HFL.out
              have U1 := U_any a3 cap3 (LebM.padU A (pre.length + 2 + k)) 0 32 w3 h3 (by rw [LebM.len_padU]; omega)
              rw [HR.out, if_neg hc, LebM.len_padU] at U1
              have U1 := Lib.hid U1
              rw [LebM.len_padU]
              clear hown' hgrow R1 h3
              go_wp2_with fail
              refine U1.out.mono ?_
              rintro e w4 ⟨rfl, rfl⟩
              go_wp2
              go_roundw
              case rel =>
                (repeat apply Exists.intro)
                exact ⟨⟨2, A, by omega, by omega, rfl, by go_num, hA64, hbw.out.trans (R2.out.mono hbw.out.size)⟩, rfl⟩
              case measure => simp [intOf]
    · subst hq
      obtain ⟨wo, rfl⟩ : ∃ wo : World, wo = wr := ⟨_, rfl⟩
      go_wp2_with fail
      obtain ⟨A, rfl⟩ : ∃ A, A = a := ⟨_, rfl⟩
      have hA : A < 2 ^ 64 := by simpa using ha
      have hA64 : A < 18446744073709551616 := ha
      clear ha
      refine (PutU_any A hA64 _).mono ?_
      rintro e w2 ⟨v, rfl, o2, b2⟩
      have hL1 := LebM.putU_pos A
      have hL2 := LebM.putU_len_le (n := A) (k := 10) (by omega) (by omega)
      obtain ⟨hp1, hp2, -⟩ := LebM.putU_pad A
      obtain ⟨M, hM⟩ : ∃ M, (LebM.putU A).length = M + 1 := ⟨(LebM.putU A).length - 1, by omega⟩
      rw [hM] at hp1 hp2 hL2
      obtain ⟨pre, x, e1, hx, hpre, e2⟩ := pad_rep M A hp2
      subst hpre
      rw [hp1, e1] at o2
      obtain ⟨g, cap, rfl, hg, hcap1, hcap2, hcell, hfro, hst⟩ := o2.at
      have E2 := Lib.hid e2
      have HP2 := Lib.hid hp2
      have HA := Lib.hid hA
      have HST := Lib.hid (hst (x + 128))
      have HB2 := Lib.hid (b2.setCell (p := ⟨g, pre.length, none⟩) hg (.int .u8 ((x + 128 : Nat) : Int)))
      have hlen0 : ((pre.length : Int) + 1 == 0) = false := by simp; omega
      clear e1 e2 hp1 hp2 hM o2 b2 hst hL1 hA
      unfold maxLen at hcap2
      have hor : bits .or .u8 (x : Int) 128 = (x : Int) + 128 := by have := or128 x hx; simpa using this
      go_wp2_with fail
      clear hcell hfro hor hlen0
      go_loopw [6, 7] (fun b i wr => ∃ k : Nat, i = .int .i64 ((k + 1 : Nat) : Int) ∧ k + 1 ≤ m ∧ Own wr wo.heap.size b (pre ++ [x + 128] ++ List.replicate k 128) ∧ Below wo.heap.size wo wr)
        (fun _ i _ => m - (intOf i).toNat)
      case atStart => exact ⟨0, rfl, by omega, by simpa using HST.out, HB2.out⟩
      case round =>
        obtain ⟨k, rfl, hk, hown, hbel⟩ := hrel
        obtain ⟨l, hl⟩ : ∃ l, l = pre ++ [x + 128] ++ List.replicate k 128 := ⟨_, rfl⟩
        rw [← hl] at hown
        have hll : l.length ≤ pre.length + 1 + k := by rw [hl]; simp; omega
        have HLD := Lib.hid hl
        clear hl
        have HO := Lib.hid hown
        have HBL := Lib.hid hbel
        have hsz := hbel.size
        clear hown hbel
        by_cases hlt : k + 1 < m
        · go_wp2_with (at_builtin; refine wpList_append_own _ rfl _ _ 22 rfl wo.heap.size 5 i0 (.int .u8 0) 1 1 Try.underlying22 hi hz0 hz1 hz2 rfl (by decide) _ _ _ rfl (World.ownsRow.alloc HO.out _) ⟨wr.heap.size, 0, none⟩ 1 1 [.int .u8 128] rfl rfl ?c1qa ?c2qa ?c3qa ?c4qa ?c5qa ?_)
          case c1qa =>
            intro j u hj
            match j, hj with
            | 0, hj => simp at hj; subst hj; rw [Addr.add_lit, World.cell?_alloc_at _ _ _ _ (by simp)]; rfl
          case c2qa => intro u hu; simp at hu; subst hu; rfl
          case c3qa => unfold maxLen; simp; omega
          case c4qa => simp; omega
          case c5qa => simp; omega
          · intro v' w3 hown' hgrow _
            have R1 : Own w3 wo.heap.size v' (pre ++ [x + 128] ++ List.replicate (k + 1) 128) := by
              have := hown'
              rw [List.replicate_succ', ← List.append_assoc, ← HLD.out]
              simpa [Own, cellsOf] using this
            have R2 := HBL.out.grownOwn hsz HO.out _ hgrow
            have R1 := Lib.hid R1
            have R2 := Lib.hid R2
            clear hown' hgrow
            go_wp2
            go_roundw
            case rel => exact ⟨k + 1, by go_num, by omega, R1.out, R2.out⟩
            case measure => simp [intOf]; omega
        · have hkm : k + 1 = m := by omega
          subst hkm
          have hLL : pre.length + 1 + (k + 1) = pre.length + 2 + k := by omega
          have hfl : ∀ c ∈ LebM.padU A (pre.length + 2 + k), c < 256 := padU_lt _ _
          have hrd := LebM.rd_pad 64 [] (pre.length + 2 + k) A 0 0 0 (by omega) (Nat.lt_of_lt_of_le HP2.out (Nat.pow_le_pow_right (by omega) (by omega))) (by simp) (by simpa using HA.out) (by omega)
          rw [List.append_nil] at hrd
          have hr : LebM.read (LebM.padU A (pre.length + 2 + k)) 0 64 false = if pre.length + 2 + k ≤ 10 then ((A : Int), ((pre.length + 2 + k : Nat) : Int), 0) else (0, 0, 11) := by
            rw [show (64 : Int) = ((64 : Nat) : Int) from rfl, read0 _ 64 _ (by omega) (by omega)]
            by_cases hc : pre.length + 2 + k ≤ 10
            · rw [if_pos (show 0 + 7 * (pre.length + 2 + k - 1) < 64 by omega)] at hrd
              rw [hrd, if_pos hc]; simp
            · rw [if_neg (show ¬ 0 + 7 * (pre.length + 2 + k - 1) < 64 by omega)] at hrd
              rw [hrd, if_neg hc]; simp
          have HR := Lib.hid hr
          have HFL := Lib.hid hfl
          clear hrd hr hfl
          by_cases hc : pre.length + 2 + k ≤ 10
          · go_wp2_with (at_builtin; refine wpList_append_own _ rfl _ _ 22 rfl wo.heap.size 5 i0 (.int .u8 0) 1 1 Try.underlying22 hi hz0 hz1 hz2 rfl (by decide) _ _ _ rfl (World.ownsRow.alloc HO.out _) ⟨wr.heap.size, 0, none⟩ 1 1 [.int .u8 0] rfl rfl ?c1qb ?c2qb ?c3qb ?c4qb ?c5qb ?_)
            case c1qb =>
              intro j u hj
              match j, hj with
              | 0, hj => simp at hj; subst hj; rw [Addr.add_lit, World.cell?_alloc_at _ _ _ _ (by simp)]; rfl
            case c2qb => intro u hu; simp at hu; subst hu; rfl
            case c3qb => unfold maxLen; simp; omega
            case c4qb => simp; omega
            case c5qb => simp; omega
            · intro v' w3 hown' hgrow _
              have R1 : Own w3 wo.heap.size v' (LebM.padU A (pre.length + 2 + k)) := by
                rw [E2.out k, ← HLD.out]
                have := hown'
                simpa [Own, cellsOf] using this
              have R2 := Lib.hid (HBL.out.grownOwn hsz HO.out _ hgrow)
              obtain ⟨a3, cap3, rfl, h3, -, -⟩ := R1.bts HFL.out
              have U1 := U_any a3 cap3 (LebM.padU A (pre.length + 2 + k)) 0 64 w3 h3 (by rw [LebM.len_padU]; omega)
              rw [HR.out, if_pos hc, LebM.len_padU] at U1
              have U1 := Lib.hid U1
              rw [LebM.len_padU]
              clear hown' hgrow R1 h3
              go_wp2_with fail
              refine U1.out.mono ?_
              rintro e w4 ⟨rfl, rfl⟩
              go_wp2
              go_roundw
              case rel =>
                (repeat apply Exists.intro)
                exact ⟨⟨3, A, by omega, by omega, rfl, by go_num, hA64, hbw.out.trans (R2.out.mono hbw.out.size)⟩, rfl⟩
              case measure => simp [intOf]
          · go_wp2_with (at_builtin; refine wpList_append_own _ rfl _ _ 22 rfl wo.heap.size 5 i0 (.int .u8 0) 1 1 Try.underlying22 hi hz0 hz1 hz2 rfl (by decide) _ _ _ rfl (World.ownsRow.alloc HO.out _) ⟨wr.heap.size, 0, none⟩ 1 1 [.int .u8 0] rfl rfl ?c1qc ?c2qc ?c3qc ?c4qc ?c5qc ?_)
            case c1qc =>
              intro j u hj
              match j, hj with
              | 0, hj => simp at hj; subst hj; rw [Addr.add_lit, World.cell?_alloc_at _ _ _ _ (by simp)]; rfl
            case c2qc => intro u hu; simp at hu; subst hu; rfl
            case c3qc => unfold maxLen; simp; omega
            case c4qc => simp; omega
            case c5qc => simp; omega
            · intro v' w3 hown' hgrow _
              have R1 : Own w3 wo.heap.size v' (LebM.padU A (pre.length + 2 + k)) := by
                rw [E2.out k, ← HLD.out]
                have := hown'
                simpa [Own, cellsOf] using this
              have R2 := Lib.hid (HBL.out.grownOwn hsz HO.out _ hgrow)
              obtain ⟨a3, cap3, rfl, h3, -, -⟩ := R1.bts HFL.out
              have U1 := U_any a3 cap3 (LebM.padU A (pre.length + 2 + k)) 0 64 w3 h3 (by rw [LebM.len_padU]; omega)
              rw [HR.out, if_neg hc, LebM.len_padU] at U1
              have U1 := Lib.hid U1
              rw [LebM.len_padU]
              clear hown' hgrow R1 h3
              go_wp2_with fail
              refine U1.out.mono ?_
              rintro e w4 ⟨rfl, rfl⟩
              go_wp2
              go_roundw
              case rel =>
                (repeat apply Exists.intro)
                exact ⟨⟨3, A, by omega, by omega, rfl, by go_num, hA64, hbw.out.trans (R2.out.mono hbw.out.size)⟩, rfl⟩
              case measure => simp [intOf]
    · subst hq
      go_wp2_with fail
      refine (known_any _).mono ?_
      rintro e w2 ⟨rfl, b2⟩
      have B2 := Lib.hid (hbw.out.trans (b2.mono hbw.out.size))
      clear b2
      go_wp2
      go_ret
      exact ⟨rfl, B2.out⟩

theorem padded_out (n m : Int) (w : World) (h : m < 1 ∨ 12 < m) :
    Calls Try.prog 12 #[.int .u64 n, .int .i64 m] w fun e w' => e = .returned (.bool true) ∧ Below w.heap.size w w' := by
  by_cases c1 : m < 1
  · go_enter Try.func12, Try.ntmps12
    go_wp2_with fail
    refine (known_any _).mono ?_
    rintro e w1 ⟨rfl, hb1⟩
    have B1 := Lib.hid hb1
    clear hb1
    go_wp2
    go_ret
    exact ⟨rfl, B1.out⟩
  · have c2 : 12 < m := by omega
    go_enter Try.func12, Try.ntmps12
    go_wp2_with fail
    refine (known_any _).mono ?_
    rintro e w1 ⟨rfl, hb1⟩
    have B1 := Lib.hid hb1
    clear hb1
    go_wp2
    go_ret
    exact ⟨rfl, B1.out⟩

theorem LebPadded_walk (a0 : Int) (a1 : Int) (w0 : (Lit.int .u64 a0).wf = true) (_w1 : (Lit.int .i64 a1).wf = true) (w : World) :
    Calls Try.prog 12 #[.int .u64 a0, .int .i64 a1] w fun e w' => e = .returned (.bool true) ∧ Below w.heap.size w w' := by
  obtain ⟨n, rfl⟩ := Int.eq_ofNat_of_zero_le (u64_wf w0).1
  have h0 := u64_wf w0
  by_cases h : 1 ≤ a1 ∧ a1 ≤ 12
  · obtain ⟨m, rfl⟩ := Int.eq_ofNat_of_zero_le (show 0 ≤ a1 by omega)
    exact padded_in n m w (by omega) (by omega) (by omega)
  · exact padded_out n a1 w (by omega)
end Go.Proofs.Ytbaihhkcnlhdmaa
