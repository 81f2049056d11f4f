/- The walk of LebCut. -/
import Derived.Test.YtbaihhkcnlhdmaaShortW
namespace Go.Proofs.Ytbaihhkcnlhdmaa
open Go.RowKit

theorem pad_step : ∀ (M n : Nat), n < 2 ^ (7 * (M + 1)) → ∃ (pre : List Nat) (x : Nat), LebM.padU n (M + 1) = pre ++ [x] ∧ x < 128 ∧ pre.length = M ∧ LebM.padU n (M + 2) = pre ++ [x + 128, 0] := by
  intro M
  induction M with
  | zero =>
    intro n h
    refine ⟨[], n % 128, rfl, by omega, rfl, ?_⟩
    have : n / 128 % 128 = 0 := by simp at h; omega
    simp [LebM.padU, this]
  | succ M ih =>
    intro n h
    obtain ⟨pre, x, h1, h2, h3, h4⟩ := ih (n / 128) (by
      rw [Nat.div_lt_iff_lt_mul (by omega)]
      have : 2 ^ (7 * (M + 1)) * 128 = 2 ^ (7 * (M + 1 + 1)) := by rw [show 7 * (M + 1 + 1) = 7 * (M + 1) + 7 by omega, Nat.pow_add _ _ 7]
      omega)
    refine ⟨(n % 128 + 128) :: pre, x, ?_, h2, by simp [h3], ?_⟩
    · rw [LebM.padU, h1]; rfl
    · rw [LebM.padU, h4]; rfl

theorem padU_lt : ∀ (L n : Nat), ∀ c ∈ LebM.padU n L, c < 256
  | 0, _ => by simp [LebM.padU]
  | 1, n => by simp [LebM.padU]; omega
  | L + 2, n => by
    intro c hc
    rw [LebM.padU] at hc
    rcases List.mem_cons.1 hc with rfl | hc
    · omega
    · exact padU_lt (L + 1) _ c hc

theorem Own.at {w : World} {B : Nat} {v : Value} {pre : List Nat} {x : Nat} (h : Own w B v (pre ++ [x])) :
    ∃ g cap, v = .slice (some ⟨g, 0, none⟩) (pre.length + 1) cap ∧ B ≤ g ∧ pre.length + 1 ≤ cap ∧ cap ≤ maxLen ∧ w.cell? ⟨g, pre.length, none⟩ = some (.int .u8 (x : Int)) ∧ w.frozen? ⟨g, pre.length, none⟩ = false ∧
      ∀ y : Nat, Own (w.setCell ⟨g, pre.length, none⟩ (.int .u8 (y : Int))) B (.slice (some ⟨g, 0, none⟩) (pre.length + 1) cap) (pre ++ [y]) := by
  have hl : (pre ++ [x]).length = pre.length + 1 := by simp
  rcases h.2 with ⟨hv, hx⟩ | ⟨g, cap, cur, hv, hg, hh, hm, r1, r2, r3⟩
  · simp at hx
  · rw [hl] at hv hm
    refine ⟨g, cap, hv, hg, hm, r1, ?_, ?_, fun y => ?_⟩
    · have := World.ownsRow.cells h (g := g) (by rw [hv]; rfl) pre.length (.int .u8 (x : Int)) (by simp [cellsOf])
      rw [Addr.add_lit] at this
      simpa using this
    · have h' : w.ownsRow B 5 1 (.slice (some ⟨g, 0, none⟩) (pre.length + 1) cap) (pre.length + 1) (cellsOf (pre ++ [x])) := by
        have := h; unfold Own at this; rw [hl, hv] at this; exact this
      exact World.ownsRow.frozenAt h' pre.length
    · have h' : w.ownsRow B 5 1 (.slice (some ⟨g, 0, none⟩) (pre.length + 1) cap) (pre.length + 1) (cellsOf (pre ++ [x])) := by
        have := h; unfold Own at this; rw [hl, hv] at this; exact this
      have := World.ownsRow.stored h' pre.length (.int .u8 (y : Int))
      unfold Own
      simp [cellsOf] at this ⊢
      exact this.1

set_option maxRecDepth 100000 in
set_option maxHeartbeats 1000000 in
theorem cut_in (n m : Nat) (w : World) (hn : n < 18446744073709551616) (hm : m ≤ 9) :
    Calls Try.prog 10 #[.int .u64 n, .int .i64 m] w fun e w' => e = .returned (.bool true) ∧ Below w.heap.size w w' := by
  obtain ⟨i0, hi, hz0, hz1, hz2⟩ := info_parts info5
  obtain ⟨hp1, hp2, -⟩ := LebM.putU_pad n
  have hL1 := LebM.putU_pos n
  have hL2 := LebM.putU_len_le (n := n) (k := 10) (by omega) (by omega)
  have hlt := putU_lt n
  have HP1 := Lib.hid hp1
  have HP2 := Lib.hid hp2
  clear hp1 hp2
  generalize hL : (LebM.putU n).length = L0 at hL1 hL2 HP1 HP2
  have HL := Lib.hid hL
  clear hL
  go_enter Try.func10, Try.ntmps10
  go_wp2_with fail
  refine (known_any _).mono ?_
  rintro e w1 ⟨rfl, hb1⟩
  have B1 := Lib.hid hb1
  clear hb1
  go_wp2_with fail
  refine (PutU_any n hn _).mono ?_
  rintro e w2 ⟨v, rfl, o2, b2⟩
  have O2 := Lib.hid o2
  have B2 := Lib.hid b2
  clear o2 b2
  go_wp2_with fail
  go_loopw [5, 6] (fun b i wr => ∃ (k M : Nat), i = .int .i64 (k : Int) ∧ k ≤ m ∧ M ≤ 9 ∧ n < 2 ^ (7 * (M + 1)) ∧ Own wr w1.heap.size b (LebM.padU n (M + 1)) ∧ Below w1.heap.size w1 wr)
    (fun _ i _ => m - (intOf i).toNat)
  case atStart => exact ⟨0, L0 - 1, rfl, by omega, by omega, by rw [show L0 - 1 + 1 = L0 by omega]; exact HP2.out, by rw [show L0 - 1 + 1 = L0 by omega, ← HP1.out]; exact O2.out, B2.out⟩
  case round =>
    obtain ⟨k, M, rfl, hk, hM, hlt2, hown, hbel⟩ := hrel
    have HLT := Lib.hid hlt2
    obtain ⟨pre, x, e1, hx, hpre, e2⟩ := pad_step M n hlt2
    clear hlt2
    rw [e1] at hown
    obtain ⟨g, cap, rfl, hg, hcap1, hcap2, hcell, hfro, hst⟩ := hown.at
    subst hpre
    have E1 := Lib.hid e1
    have E2 := Lib.hid e2
    have HOWN := Lib.hid hown
    have HST := Lib.hid (hst (x + 128))
    have HBEL := Lib.hid hbel
    have hsz := hbel.size
    clear e1 e2 hown hst hbel
    unfold maxLen at hcap2
    have hor : bits .or .u8 (x : Int) 128 = (x : Int) + 128 := by have := or128 x hx; simpa using this
    by_cases hgo : k < m ∧ pre.length < 9
    · obtain ⟨hg1, hg2⟩ := hgo
      go_wp2_with (at_builtin; refine wpList_append_own _ rfl _ _ 22 rfl w1.heap.size 5 i0 (.int .u8 0) 1 1 Try.underlying22 hi hz0 hz1 hz2 rfl (by decide) _ _ _ rfl (World.ownsRow.alloc HST.out _) ⟨wr.heap.size, 0, none⟩ 1 1 [.int .u8 0] rfl rfl ?c1 ?c2 ?c3 ?c4 ?c5 ?_)
      case c1 =>
        intro j u hj
        match j, hj with
        | 0, hj => simp at hj; subst hj; rw [Addr.add_lit, World.cell?_alloc_at _ _ _ _ (by simp)]; rfl
      case c2 => intro u hu; simp at hu; subst hu; rfl
      case c3 => unfold maxLen; simp; omega
      case c4 => simp; omega
      case c5 => simp; omega
      · intro v' w3 hown' hgrow _
        have R1 : Own w3 w1.heap.size v' (LebM.padU n (pre.length + 1 + 1)) := by
          have := hown'
          rw [show pre.length + 1 + 1 = pre.length + 2 by omega, E2.out]
          simpa [Own, cellsOf] using this
        have R2 := ((HBEL.out.setCell (p := ⟨g, pre.length, none⟩) hg (.int .u8 ((x + 128 : Nat) : Int))).grownOwn (by simp; omega) HST.out _ hgrow)
        have R1 := Lib.hid R1
        have R2 := Lib.hid R2
        clear hown' hgrow hcell hfro
        go_wp2
        go_roundw
        case rel => exact ⟨k + 1, pre.length + 1, by go_num, by omega, by omega, by
          refine Nat.lt_of_lt_of_le HLT.out (Nat.pow_le_pow_right (by omega) (by omega)), R1.out, R2.out⟩
        case measure => simp [intOf]; omega
    · have hlen : (LebM.padU n (pre.length + 1)).length = pre.length + 1 := LebM.len_padU _ _
      have hbt : Bts wr (some ⟨g, 0, none⟩) (pre ++ [x]) := by
        obtain ⟨_, _, e, h, _⟩ := HOWN.out.bts (by rw [← E1.out]; exact padU_lt _ _)
        simp at e
        obtain ⟨e, _⟩ := e
        rw [e]; exact h
      have hr1 : LebM.read (pre ++ [x]) 0 64 false = ((n : Int), ((pre.length + 1 : Nat) : Int), 0) := by
        have := LebM.rd_pad 64 [] (pre.length + 1) n 0 0 0 (by omega) HLT.out (by simp) (by simpa using hn) (by omega)
        rw [List.append_nil, E1.out, if_pos (by omega)] at this
        rw [show (64 : Int) = ((64 : Nat) : Int) from rfl, read0 _ 64 _ (by omega) (by omega), this]
        simp
      have hr2 : LebM.read pre 0 64 false = (0, 0, 10) := by
        have := LebM.rd_padCut 64 (pre.length + 1) n 0 0 0 (by omega) (by omega)
        rw [E1.out, List.dropLast_concat] at this
        rw [show (64 : Int) = ((64 : Nat) : Int) from rfl, read0 _ 64 _ (by omega) (by omega), this]
        simp
      have hbt2 : Bts wr (some ⟨g, 0, none⟩) pre := by
        refine ⟨fun c hc => hbt.1 c (by simp [hc]), ?_⟩
        rcases hbt.2 with h | ⟨b, off, h, hc⟩
        · simp at h
        · refine .inr ⟨b, off, h, fun i hi => ?_⟩
          rw [hc i (by simp; omega)]
          simp [List.getElem?_append_left hi]
      have U1 := U_any (some ⟨g, 0, none⟩) cap (pre ++ [x]) 0 64 wr hbt (by simp; omega)
      have U2 := U_any (some ⟨g, 0, none⟩) cap pre 0 64 wr hbt2 (by omega)
      rw [hr1, show (pre ++ [x]).length = pre.length + 1 by simp] at U1
      rw [hr2] at U2
      have U1 := Lib.hid U1
      have U2 := Lib.hid U2
      clear hr1 hr2 hbt hbt2 hlen hcell hfro hor
      by_cases hg1 : k < m
      · have hg2 : ¬ pre.length < 9 := by omega
        go_wp2_with fail
        refine U1.out.mono ?_
        rintro e w4 ⟨rfl, rfl⟩
        go_wp2_with fail
        refine U2.out.mono ?_
        rintro e w4 ⟨rfl, rfl⟩
        go_wp2
        go_ret
        exact ⟨rfl, B1.out.trans (HBEL.out.mono B1.out.size)⟩
      · go_wp2_with fail
        refine U1.out.mono ?_
        rintro e w4 ⟨rfl, rfl⟩
        go_wp2_with fail
        refine U2.out.mono ?_
        rintro e w4 ⟨rfl, rfl⟩
        go_wp2
        go_ret
        exact ⟨rfl, B1.out.trans (HBEL.out.mono B1.out.size)⟩

theorem cut_out (n m : Int) (w : World) (h : m < 0 ∨ 9 < m) :
    Calls Try.prog 10 #[.int .u64 n, .int .i64 m] w fun e w' => e = .returned (.bool true) ∧ Below w.heap.size w w' := by
  go_enter Try.func10, Try.ntmps10
  go_wp2_with fail
  refine (known_any _).mono ?_
  rintro e w1 ⟨rfl, hb1⟩
  have B1 := Lib.hid hb1
  clear hb1
  by_cases c1 : m < 0
  · go_wp2
    go_ret
    exact ⟨rfl, B1.out⟩
  · have c2 : 9 < m := by omega
    go_wp2
    go_ret
    exact ⟨rfl, B1.out⟩

theorem LebCut_walk (a0 : Int) (a1 : Int) (w0 : (Lit.int .u64 a0).wf = true) (_w1 : (Lit.int .i64 a1).wf = true) (w : World) :
    Calls Try.prog 10 #[.int .u64 a0, .int .i64 a1] w fun e w' => e = .returned (.bool true) ∧ Below w.heap.size w w' := by
  obtain ⟨n, rfl⟩ := Int.eq_ofNat_of_zero_le (u64_wf w0).1
  have h0 := u64_wf w0
  by_cases h : 0 ≤ a1 ∧ a1 ≤ 9
  · obtain ⟨m, rfl⟩ := Int.eq_ofNat_of_zero_le h.1
    exact cut_in n m w (by omega) (by omega)
  · exact cut_out n a1 w (by omega)
end Go.Proofs.Ytbaihhkcnlhdmaa
