/- The walk of LebShortest. -/
import Derived.Test.YtbaihhkcnlhdmaaBackW
namespace Go.Proofs.Ytbaihhkcnlhdmaa
open Go.RowKit

theorem read0 (bs : List Nat) (B : Nat) (s : Bool) (h1 : 1 ≤ B) (h2 : B ≤ 64) :
    LebM.read bs 0 B s = (if (LebM.rd B s bs 0 0 0).2.2 = 0 then ((LebM.rd B s bs 0 0 0).1, ((LebM.rd B s bs 0 0 0).2.1 : Int), 0) else (0, 0, (LebM.rd B s bs 0 0 0).2.2)) := by
  unfold LebM.read
  rw [if_pos ⟨by omega, by omega, by omega, by omega⟩]
  simp

theorem read0_more (bs : List Nat) (B M : Nat) (s : Bool) (h1 : 1 ≤ B) (h2 : B ≤ M) (h3 : M ≤ 64) (h : (LebM.read bs 0 B s).2.2 = 0) :
    LebM.read bs 0 M s = LebM.read bs 0 B s := by
  rw [read0 bs B s h1 (by omega)] at h ⊢
  rw [read0 bs M s (by omega) h3]
  split at h
  · rename_i h0
    have := LebM.rd_more B M s h2 bs 0 0 0 (LebM.rd B s bs 0 0 0).1 (LebM.rd B s bs 0 0 0).2.1 (by omega) (Prod.ext rfl (Prod.ext rfl h0))
    rw [this, if_pos h0]; rfl
  · rename_i h0; exact absurd h h0

theorem read0_err (bs : List Nat) (B : Nat) (s : Bool) (h1 : 1 ≤ B) (h2 : B ≤ 64) (h : (LebM.read bs 0 B s).2.2 ≠ 0) : (LebM.read bs 0 B s).1 = 0 ∧ (LebM.read bs 0 B s).2.1 = 0 := by
  rw [read0 bs B s h1 h2] at h ⊢
  split
  · rename_i h0; rw [if_pos h0] at h; exact absurd rfl h
  · exact ⟨rfl, rfl⟩

theorem read0_ok (bs : List Nat) (B : Nat) (s : Bool) (h1 : 1 ≤ B) (h2 : B ≤ 64) (h : (LebM.read bs 0 B s).2.2 = 0) :
    ∃ j : Nat, (LebM.read bs 0 B s).2.1 = j ∧ 1 ≤ j ∧ (s = false → 0 ≤ (LebM.read bs 0 B s).1 ∧ (LebM.putU (LebM.read bs 0 B s).1.toNat).length ≤ j) ∧ (s = true → (LebM.putS (LebM.read bs 0 B s).1).length ≤ j) := by
  rw [read0 bs B s h1 h2] at h ⊢
  split at h
  · rename_i h0
    rw [if_pos h0]
    generalize hr : LebM.rd B s bs 0 0 0 = r at h0 ⊢
    obtain ⟨v, j, e⟩ := r
    simp only at h0
    subst h0
    obtain ⟨b1, b2, b3, b4⟩ := LebM.rd_bounds B s bs 0 0 v j (by omega) (by simp) hr
    refine ⟨j, rfl, by omega, fun hs => ?_, fun hs => ?_⟩
    · obtain ⟨c1, c2, _⟩ := b3 hs
      refine ⟨c1, LebM.putU_len_le (by omega) ?_⟩
      have h2j := LebM.two_pow_cast (7 * j)
      show v.toNat < 2 ^ (7 * j)
      omega
    · obtain ⟨c1, c2, _⟩ := b4 hs
      exact LebM.putS_len_le j v (by omega) c1 c2
  · rename_i h0; exact absurd h h0

set_option maxRecDepth 100000 in
set_option maxHeartbeats 1000000 in
theorem short_in (B M : Nat) (a : Option Addr) (cap : Nat) (bs : List Nat) (w : World)
    (hB1 : 1 ≤ B) (hB2 : B ≤ M) (hM : M ≤ 64) (hb : Bts w a bs) (hx : bs.length ≤ 200) :
    Calls Try.prog 9 #[.slice a bs.length cap, .int .i64 B, .int .i64 M] w fun e w' => e = .returned (.bool true) ∧ Below w.heap.size w w' := by
  have HB := Lib.hid hb
  clear hb
  obtain ⟨r1, hr1⟩ : ∃ r, r = LebM.read bs 0 B false := ⟨_, rfl⟩
  obtain ⟨r2, hr2⟩ : ∃ r, r = LebM.read bs 0 B true := ⟨_, rfl⟩
  have hm1 : r1.2.2 = 0 → LebM.read bs 0 M false = r1 := fun h => by rw [hr1]; exact read0_more bs B M false hB1 hB2 hM (by rw [← hr1]; exact h)
  have hm2 : r2.2.2 = 0 → LebM.read bs 0 M true = r2 := fun h => by rw [hr2]; exact read0_more bs B M true hB1 hB2 hM (by rw [← hr2]; exact h)
  have ho1 : r1.2.2 = 0 → ∃ j : Nat, r1.2.1 = j ∧ 1 ≤ j ∧ 0 ≤ r1.1 ∧ (LebM.putU r1.1.toNat).length ≤ j := fun h => by
    obtain ⟨j, e1, e2, e3, _⟩ := read0_ok bs B false hB1 (by omega) (by rw [← hr1]; exact h)
    rw [← hr1] at e1 e3
    exact ⟨j, e1, e2, e3 rfl⟩
  have ho2 : r2.2.2 = 0 → ∃ j : Nat, r2.2.1 = j ∧ 1 ≤ j ∧ (LebM.putS r2.1).length ≤ j := fun h => by
    obtain ⟨j, e1, e2, _, e4⟩ := read0_ok bs B true hB1 (by omega) (by rw [← hr2]; exact h)
    rw [← hr2] at e1 e4
    exact ⟨j, e1, e2, e4 rfl⟩
  have he2 : r2.2.2 ≠ 0 → r2.1 = 0 ∧ r2.2.1 = 0 := fun h => by
    rw [hr2]; exact read0_err bs B true hB1 (by omega) (by rw [← hr2]; exact h)
  have hv1 := (read_val bs 0 B).1
  have hv2 := (read_val bs 0 B).2
  rw [← hr1] at hv1
  rw [← hr2] at hv2
  obtain ⟨v1, j1, e1⟩ := r1
  obtain ⟨v2, j2, e2⟩ := r2
  simp only at hm1 hm2 ho1 ho2 he2 hv1 hv2
  have U1 := fun w hw => Lib.hid (U_any a cap bs 0 B w hw (by omega))
  have U2 := fun w hw => Lib.hid (U_any a cap bs 0 M w hw (by omega))
  have S1 := fun w hw => Lib.hid (S_any a cap bs 0 B w hw (by omega))
  have S2 := fun w hw => Lib.hid (S_any a cap bs 0 M w hw (by omega))
  rw [← hr1] at U1
  rw [← hr2] at S1
  clear hr1 hr2
  have U1 := Lib.hid U1
  have S1 := Lib.hid S1
  have HV1 := Lib.hid hv1
  have HV2 := Lib.hid hv2
  clear hv1 hv2
  go_enter Try.func9, Try.ntmps9
  go_wp2_with fail
  refine (known_any _).mono ?_
  rintro e w1 ⟨rfl, hb1⟩
  have B1 := Lib.hid hb1
  have HB := Lib.hid (HB.out.kept hb1)
  clear hb1
  by_cases h1 : e1 = 0
  · subst h1
    have hm := hm1 rfl
    rw [hm] at U2
    obtain ⟨j, rfl, hj1, hj0, hj2⟩ := ho1 rfl
    obtain ⟨n, rfl⟩ := Int.eq_ofNat_of_zero_le hj0
    rw [Int.toNat_natCast] at hj2
    clear hm hm1 ho1 hj0
    by_cases h2 : e2 = 0
    · subst h2
      have hm := hm2 rfl
      obtain ⟨k, rfl, hk1, hk2⟩ := ho2 rfl
      rw [hm] at S2
      clear hm hm2 ho2 he2
      go_wp2_with fail
      refine (U1.out _ HB.out).out.mono ?_
      rintro e w2 ⟨rfl, rfl⟩
      go_wp2_with fail
      refine (U2 _ HB.out).out.mono ?_
      rintro e w2 ⟨rfl, rfl⟩
      go_wp2_with fail
      refine (PutU_any n (by have := HV1.out; omega) _).mono ?_
      rintro e w2 ⟨vp, rfl, hown, hbel⟩
      obtain ⟨ap, capp, rfl, -, -, -⟩ := hown.bts (putU_lt n)
      have HB := Lib.hid (HB.out.kept hbel)
      have B1 := Lib.hid (B1.out.trans (hbel.mono B1.out.size))
      clear hown hbel
      go_wp2_with fail
      refine (S1.out _ HB.out).out.mono ?_
      rintro e w3 ⟨rfl, rfl⟩
      go_wp2_with fail
      refine (S2 _ HB.out).out.mono ?_
      rintro e w3 ⟨rfl, rfl⟩
      go_wp2_with fail
      refine (PutS_any v2 (by have := HV2.out; omega) (by have := HV2.out; omega) _).mono ?_
      rintro e w3 ⟨vq, rfl, hown, hbel⟩
      obtain ⟨aq, capq, rfl, -, -, -⟩ := hown.bts (putS_lt v2.natAbs v2 (Nat.le_refl _))
      have B1 := Lib.hid (B1.out.trans (hbel.mono B1.out.size))
      clear hown hbel
      go_wp2
      go_ret
      exact ⟨rfl, B1.out⟩
    · have hE2 : ((e2 : Int) == 0) = false := by simp; omega
      have hE2' : ((e2 : Int) != 0) = true := by simp; omega
      obtain ⟨rfl, rfl⟩ := he2 h2
      clear hm2 ho2 he2 S2
      go_wp2_with fail
      refine (U1.out _ HB.out).out.mono ?_
      rintro e w2 ⟨rfl, rfl⟩
      go_wp2_with fail
      refine (U2 _ HB.out).out.mono ?_
      rintro e w2 ⟨rfl, rfl⟩
      go_wp2_with fail
      refine (PutU_any n (by have := HV1.out; omega) _).mono ?_
      rintro e w2 ⟨vp, rfl, hown, hbel⟩
      obtain ⟨ap, capp, rfl, -, -, -⟩ := hown.bts (putU_lt n)
      have HB := Lib.hid (HB.out.kept hbel)
      have B1 := Lib.hid (B1.out.trans (hbel.mono B1.out.size))
      clear hown hbel
      go_wp2_with fail
      refine (S1.out _ HB.out).out.mono ?_
      rintro e w3 ⟨rfl, rfl⟩
      go_wp2
      go_ret
      exact ⟨rfl, B1.out⟩
  · have hE1 : ((e1 : Int) == 0) = false := by simp; omega
    clear hm1 ho1 U2
    by_cases h2 : e2 = 0
    · subst h2
      have hm := hm2 rfl
      obtain ⟨k, rfl, hk1, hk2⟩ := ho2 rfl
      rw [hm] at S2
      clear hm hm2 ho2 he2
      go_wp2_with fail
      refine (U1.out _ HB.out).out.mono ?_
      rintro e w2 ⟨rfl, rfl⟩
      go_wp2_with fail
      refine (S1.out _ HB.out).out.mono ?_
      rintro e w3 ⟨rfl, rfl⟩
      go_wp2_with fail
      refine (S2 _ HB.out).out.mono ?_
      rintro e w3 ⟨rfl, rfl⟩
      go_wp2_with fail
      refine (PutS_any v2 (by have := HV2.out; omega) (by have := HV2.out; omega) _).mono ?_
      rintro e w3 ⟨vq, rfl, hown, hbel⟩
      obtain ⟨aq, capq, rfl, -, -, -⟩ := hown.bts (putS_lt v2.natAbs v2 (Nat.le_refl _))
      have B1 := Lib.hid (B1.out.trans (hbel.mono B1.out.size))
      clear hown hbel
      go_wp2
      go_ret
      exact ⟨rfl, B1.out⟩
    · have hE2 : ((e2 : Int) == 0) = false := by simp; omega
      have hE2' : ((e2 : Int) != 0) = true := by simp; omega
      obtain ⟨rfl, rfl⟩ := he2 h2
      clear hm2 ho2 he2 S2
      go_wp2_with fail
      refine (U1.out _ HB.out).out.mono ?_
      rintro e w2 ⟨rfl, rfl⟩
      go_wp2_with fail
      refine (S1.out _ HB.out).out.mono ?_
      rintro e w3 ⟨rfl, rfl⟩
      go_wp2
      go_ret
      exact ⟨rfl, B1.out⟩

set_option maxRecDepth 100000 in
theorem short_out (x y : Int) (a : Option Addr) (l cap : Nat) (w : World) (hl : l ≤ maxLen) (h : 200 < l ∨ x < 1 ∨ 64 < x ∨ y < x ∨ 64 < y) :
    Calls Try.prog 9 #[.slice a l cap, .int .i64 x, .int .i64 y] w fun e w' => e = .returned (.bool true) ∧ Below w.heap.size w w' := by
  unfold maxLen at hl
  go_enter Try.func9, Try.ntmps9
  go_wp2_with fail
  refine (known_any _).mono ?_
  rintro e w1 ⟨rfl, hb1⟩
  have B1 := Lib.hid hb1
  clear hb1
  by_cases c1 : 200 < l
  · go_wp2
    go_ret
    exact ⟨rfl, B1.out⟩
  · by_cases c2 : x < 1
    · go_wp2
      go_ret
      exact ⟨rfl, B1.out⟩
    · by_cases c3 : 64 < x
      · go_wp2
        go_ret
        exact ⟨rfl, B1.out⟩
      · by_cases c4 : y < x
        · go_wp2
          go_ret
          exact ⟨rfl, B1.out⟩
        · have c5 : 64 < y := by omega
          go_wp2
          go_ret
          exact ⟨rfl, B1.out⟩

theorem LebShortest_walk (a0 : Option Addr) (len0 cap0 : Nat) (z0 : List Int) (a1 : Int) (a2 : Int) (w : World) (w0 : IsRow .u8 w a0 len0 cap0 z0) (_w1 : (Lit.int .i64 a1).wf = true) (_w2 : (Lit.int .i64 a2).wf = true) :
    Calls Try.prog 9 #[.slice a0 len0 cap0, .int .i64 a1, .int .i64 a2] w fun e w' => e = .returned (.bool true) ∧ Below w.heap.size w w' := by
  obtain ⟨bs, rfl, hb, hn, hc, hm⟩ := w0.bts
  by_cases h : bs.length ≤ 200 ∧ 1 ≤ a1 ∧ a1 ≤ 64 ∧ a1 ≤ a2 ∧ a2 ≤ 64
  · obtain ⟨B, rfl⟩ := Int.eq_ofNat_of_zero_le (show 0 ≤ a1 by omega)
    obtain ⟨M, rfl⟩ := Int.eq_ofNat_of_zero_le (show 0 ≤ a2 by omega)
    exact short_in B M a0 cap0 bs w (by omega) (by omega) (by omega) hb h.1
  · exact short_out a1 a2 a0 bs.length cap0 w (Nat.le_trans hc hm) (by omega)
end Go.Proofs.Ytbaihhkcnlhdmaa
