/- geodelaw03.NumShift. -/
import Derived.Test.YtdoejkdckokjdaaDoorPl
import Derived.Laws.EntriesVeiled
namespace Go.Proofs.YtdoejkdckokjdaaDoor
open Go.RowKit

theorem shift_down (M x k : Nat) (hx : x < M) (_hM : 0 < M) (_hk : 2 ^ k ≤ M) : un M (((x : Int) - (M : Int)) / 2 ^ k) = M - 1 - (M - 1 - x) / 2 ^ k := by
  obtain ⟨d, hd⟩ : ∃ d : Nat, d = 2 ^ k := ⟨_, rfl⟩
  have hd0 : 0 < d := by rw [hd]; exact Nat.pow_pos (by omega)
  have e : ((x : Int) - (M : Int)) / (d : Int) = -1 - (((M - 1 - x) / d : Nat) : Int) := by
    obtain ⟨y, hy⟩ : ∃ y, y = M - 1 - x := ⟨_, rfl⟩
    rw [← hy, show ((x : Int) - (M : Int)) = -((y : Int) + 1) by omega]
    have h1 := Nat.div_add_mod y d
    have h2 := Nat.mod_lt y hd0
    generalize y / d = q at *
    generalize y % d = r at *
    rw [← h1]
    have : (-(((d * q + r : Nat) : Int) + 1)) = ((d : Int) - 1 - (r : Int)) + (-1 - (q : Int)) * (d : Int) := by
      rw [Int.sub_mul, Int.natCast_add, Int.natCast_mul, Int.mul_comm (d : Int)]
      omega
    rw [this, Int.add_mul_ediv_right _ _ (by omega), Int.ediv_eq_zero_of_lt (by omega) (by omega)]
    omega
  rw [show ((2 : Int) ^ k) = (d : Int) by rw [hd]; simp, e, ← hd]
  have hq : (M - 1 - x) / d ≤ M - 1 - x := Nat.div_le_self _ _
  generalize (M - 1 - x) / d = q at *
  unfold un
  rw [show (-1 - (q : Int)) = ((M - 1 - q : Nat) : Int) + (-1) * (M : Int) by omega, Int.add_mul_emod_self_right, Int.emod_eq_of_lt (by omega) (by omega)]
  omega

theorem shift_pack {w : World} (hL : Laid w) {W M : Nat} (h : Wd W M) (x b k : Nat) (hx : x < M) (hb : b < M) (hk : k = b % W) :
    ∃ p s1 s2 low s3 neg s4 s5 s6 : Nat, Tw w W 116 1 k p ∧ Tw w W 116 x b s1 ∧ Tw w W 108 x p s1 ∧ Tw w W 118 x b s2 ∧ Tw w W 110 x p s2 ∧ Tw w W 112 x p low ∧ Tw w W 116 s2 k s3 ∧ Tw w W 106 s3 low x ∧ Tw w W 107 0 1 neg ∧
      ((Tw w W 72 x 0 1 ∧ Tw w W 117 x b s4 ∧ Tw w W 115 x neg s5 ∧ Tw w W 118 s5 b s6 ∧ Tw w W 115 s6 neg s4) ∨ (Tw w W 72 x 0 0 ∧ Tw w W 117 x b s2)) := by
  have hM := h.lt
  have hkW : k < W := by rw [hk]; exact Nat.mod_lt _ (by omega)
  have hpow : 2 ^ k < M := by rw [h.pow]; exact Nat.pow_lt_pow_right (by omega) hkW
  have hp0 : 2 ^ k ≠ 0 := Nat.ne_of_gt (Nat.pow_pos (by omega))
  have hkM : k < M := by omega
  have L := fun p a c ha hc => bin_lt (M := M) h p a c ha hc
  have T := fun op hop a c ha hc => Tw_is hL h op hop a c ha hc
  have c0 := T 116 (by omega) 1 k (by omega) hkM
  rw [show (bin (tw 116) W M 1 k).1 = 2 ^ k by show 1 * 2 ^ (k % W) % M = 2 ^ k; rw [Nat.mod_eq_of_lt hkW, Nat.one_mul, Nat.mod_eq_of_lt hpow]] at c0
  have c1 := T 116 (by omega) x b hx hb
  rw [show (bin (tw 116) W M x b).1 = x * 2 ^ k % M by show x * 2 ^ (b % W) % M = _; rw [hk]] at c1
  have c2 := T 108 (by omega) x (2 ^ k) hx hpow
  rw [show (bin (tw 108) W M x (2 ^ k)).1 = x * 2 ^ k % M from rfl] at c2
  have c3 := T 118 (by omega) x b hx hb
  rw [show (bin (tw 118) W M x b).1 = x / 2 ^ k by show x / 2 ^ (b % W) = _; rw [hk]] at c3
  have c4 := T 110 (by omega) x (2 ^ k) hx hpow
  rw [show (bin (tw 110) W M x (2 ^ k)).1 = x / 2 ^ k by show (if 2 ^ k = 0 then ((0 : Nat), (30 : Nat)) else (x / 2 ^ k, 0)).1 = _; rw [if_neg hp0]] at c4
  have c5 := T 112 (by omega) x (2 ^ k) hx hpow
  rw [show (bin (tw 112) W M x (2 ^ k)).1 = x % 2 ^ k by show (if 2 ^ k = 0 then ((0 : Nat), (30 : Nat)) else (x % 2 ^ k, 0)).1 = _; rw [if_neg hp0]] at c5
  have hdiv : x / 2 ^ k < M := Nat.lt_of_le_of_lt (Nat.div_le_self _ _) hx
  have hmul : x / 2 ^ k * 2 ^ k ≤ x := Nat.div_mul_le_self _ _
  have hlow : x % 2 ^ k < M := Nat.lt_of_le_of_lt (Nat.mod_le _ _) hx
  have c6 := T 116 (by omega) (x / 2 ^ k) k hdiv hkM
  rw [show (bin (tw 116) W M (x / 2 ^ k) k).1 = x / 2 ^ k * 2 ^ k by show x / 2 ^ k * 2 ^ (k % W) % M = _; rw [Nat.mod_eq_of_lt hkW, Nat.mod_eq_of_lt (by omega)]] at c6
  have c7 := T 106 (by omega) (x / 2 ^ k * 2 ^ k) (x % 2 ^ k) (by omega) hlow
  rw [show (bin (tw 106) W M (x / 2 ^ k * 2 ^ k) (x % 2 ^ k)).1 = x by show (x / 2 ^ k * 2 ^ k + x % 2 ^ k) % M = x; rw [Nat.mul_comm, Nat.div_add_mod, Nat.mod_eq_of_lt hx]] at c7
  have c8 := T 107 (by omega) 0 1 (by omega) (by omega)
  rw [show (bin (tw 107) W M 0 1).1 = M - 1 by show (0 + (M - 1)) % M = _; rw [Nat.zero_add, Nat.mod_eq_of_lt (by omega)]] at c8
  have c9 := T 72 (by omega) x 0 hx (by omega)
  have s0 : sg M 0 = 0 := by unfold sg; rw [if_pos (by omega)]; rfl
  refine ⟨2 ^ k, x * 2 ^ k % M, x / 2 ^ k, x % 2 ^ k, x / 2 ^ k * 2 ^ k, M - 1, M - 1 - (M - 1 - x) / 2 ^ k, M - 1 - x, (M - 1 - x) / 2 ^ k, c0, c1, c2, c3, c4, c5, c6, c7, c8, ?_⟩
  have c10 := T 117 (by omega) x b hx hb
  rw [show (bin (tw 117) W M x b).1 = un M (sg M x / 2 ^ k) by show un M (sg M x / 2 ^ (b % W)) = _; rw [hk]] at c10
  by_cases hs : 2 * x < M
  · right
    have e : sg M x = (x : Int) := by unfold sg; rw [if_pos hs]
    rw [show (bin (tw 72) W M x 0).1 = 0 by show bit (decide (sg M x < sg M 0)) = 0; rw [e, s0, decide_eq_false (by omega)]; rfl] at c9
    rw [e, show un M ((x : Int) / 2 ^ k) = x / 2 ^ k by
      unfold un
      rw [show ((x : Int) / 2 ^ k) = ((x / 2 ^ k : Nat) : Int) by simp, Int.emod_eq_of_lt (Int.natCast_nonneg _) (Int.ofNat_lt.2 hdiv), Int.toNat_natCast]] at c10
    exact ⟨c9, c10⟩
  · left
    have e : sg M x = (x : Int) - (M : Int) := by unfold sg; rw [if_neg hs]
    rw [show (bin (tw 72) W M x 0).1 = 1 by show bit (decide (sg M x < sg M 0)) = 1; rw [e, s0, decide_eq_true (by omega)]; rfl] at c9
    rw [e, shift_down M x k hx (by omega) (by omega)] at c10
    have c11 := T 115 (by omega) x (M - 1) hx (by omega)
    rw [show (bin (tw 115) W M x (M - 1)).1 = M - 1 - x from xor_ones h x hx] at c11
    have c12 := T 118 (by omega) (M - 1 - x) b (by omega) hb
    rw [show (bin (tw 118) W M (M - 1 - x) b).1 = (M - 1 - x) / 2 ^ k by show (M - 1 - x) / 2 ^ (b % W) = _; rw [hk]] at c12
    have hd : (M - 1 - x) / 2 ^ k < M := Nat.lt_of_le_of_lt (Nat.div_le_self _ _) (by omega)
    have c13 := T 115 (by omega) ((M - 1 - x) / 2 ^ k) (M - 1) hd (by omega)
    rw [show (bin (tw 115) W M ((M - 1 - x) / 2 ^ k) (M - 1)).1 = M - 1 - (M - 1 - x) / 2 ^ k from xor_ones h _ hd] at c13
    exact ⟨c9, c10, c11, c12, c13⟩

set_option maxRecDepth 100000 in
set_option maxHeartbeats 4000000 in
theorem NumShift_walk (a b : Nat) (ha : a < 18446744073709551616) (hb : b < 18446744073709551616) (w : World) (hL : Laid w) :
    Calls Tryd.prog 7 #[.int .u64 a, .int .u64 b] w fun e w' => e = .returned (.bool true) ∧ Below w.heap.size w w' := by
  have HL := Lib.hid hL
  have HA := Lib.hid (And.intro ha hb)
  clear hL ha hb
  go_enter Tryd.func7, Tryd.ntmps7
  go_wp2_with fail
  go_loopw [5] (fun b wr => ∃ W : Nat, b = .int .i64 (W : Int) ∧ (W = 32 ∨ W = 64 ∨ W = 96) ∧ Below w.heap.size w wr) (fun b _ => 100 - (intOf b).toNat)
  case atStart => exact ⟨32, rfl, by omega, Below.refl _ _⟩
  case round =>
    obtain ⟨W, rfl, hW, hb⟩ := hrel
    have B := Lib.hid hb
    clear hb
    rcases hW with rfl | rfl | rfl
    · obtain ⟨x, hx⟩ : ∃ x : Nat, x = a / 4294967296 := ⟨_, rfl⟩
      obtain ⟨c, hc⟩ : ∃ c : Nat, c = b % 4294967296 := ⟨_, rfl⟩
      obtain ⟨k, hk⟩ : ∃ k : Nat, k = c % 32 := ⟨_, rfl⟩
      have hxM : x < 4294967296 := by have := HA.out; omega
      have hcM : c < 4294967296 := by have := HA.out; omega
      obtain ⟨p, s1, s2, low, s3, neg, s4, s5, s6, c0, c1, c2, c3, c4, c5, c6, c7, c8, c9⟩ := shift_pack HL.out (W := 32) (M := 4294967296) (by unfold Wd; omega) x c k hxM hcM hk
      have C0 := Lib.hid c0
      have C1 := Lib.hid c1
      have C2 := Lib.hid c2
      have C3 := Lib.hid c3
      have C4 := Lib.hid c4
      have C5 := Lib.hid c5
      have C6 := Lib.hid c6
      have C7 := Lib.hid c7
      have C8 := Lib.hid c8
      have e1 : (a : Int) / 4294967296 = (x : Int) := by omega
      have e2 : (b : Int) % 4294967296 = (c : Int) := by omega
      have e3 : (c : Int) % 32 = (k : Int) := by omega
      clear c0 c1 c2 c3 c4 c5 c6 c7 c8 hx hc hk hxM hcM
      rcases c9 with ⟨d0, d1, d2, d3, d4⟩ | ⟨d0, d1⟩
      · have D0 := Lib.hid d0
        have D1 := Lib.hid d1
        have D2 := Lib.hid d2
        have D3 := Lib.hid d3
        have D4 := Lib.hid d4
        clear d0 d1 d2 d3 d4
        go_wp2_with fail
        refine (C0.out _ B.out).mono ?_
        rintro e w1 ⟨rfl, b⟩
        clear B
        have B := Lib.hid b
        clear b
        go_wp2_with fail
        refine (C1.out _ B.out).mono ?_
        rintro e w2 ⟨rfl, b⟩
        clear B
        have B := Lib.hid b
        clear b
        go_wp2_with fail
        refine (C2.out _ B.out).mono ?_
        rintro e w3 ⟨rfl, b⟩
        clear B
        have B := Lib.hid b
        clear b
        go_wp2_with fail
        refine (C3.out _ B.out).mono ?_
        rintro e w4 ⟨rfl, b⟩
        clear B
        have B := Lib.hid b
        clear b
        go_wp2_with fail
        refine (C4.out _ B.out).mono ?_
        rintro e w5 ⟨rfl, b⟩
        clear B
        have B := Lib.hid b
        clear b
        go_wp2_with fail
        refine (C5.out _ B.out).mono ?_
        rintro e w6 ⟨rfl, b⟩
        clear B
        have B := Lib.hid b
        clear b
        go_wp2_with fail
        refine (C3.out _ B.out).mono ?_
        rintro e w7 ⟨rfl, b⟩
        clear B
        have B := Lib.hid b
        clear b
        go_wp2_with fail
        refine (C6.out _ B.out).mono ?_
        rintro e w8 ⟨rfl, b⟩
        clear B
        have B := Lib.hid b
        clear b
        go_wp2_with fail
        refine (C7.out _ B.out).mono ?_
        rintro e w9 ⟨rfl, b⟩
        clear B
        have B := Lib.hid b
        clear b
        go_wp2_with fail
        refine (C8.out _ B.out).mono ?_
        rintro e w10 ⟨rfl, b⟩
        clear B
        have B := Lib.hid b
        clear b
        go_wp2_with fail
        refine (D0.out _ B.out).mono ?_
        rintro e w11 ⟨rfl, b⟩
        clear B
        have B := Lib.hid b
        clear b
        go_wp2_with fail
        refine (D1.out _ B.out).mono ?_
        rintro e w12 ⟨rfl, b⟩
        clear B
        have B := Lib.hid b
        clear b
        go_wp2_with fail
        refine (D2.out _ B.out).mono ?_
        rintro e w13 ⟨rfl, b⟩
        clear B
        have B := Lib.hid b
        clear b
        go_wp2_with fail
        refine (D3.out _ B.out).mono ?_
        rintro e w14 ⟨rfl, b⟩
        clear B
        have B := Lib.hid b
        clear b
        go_wp2_with fail
        refine (D4.out _ B.out).mono ?_
        rintro e w15 ⟨rfl, b⟩
        clear B
        have B := Lib.hid b
        clear b
        go_wp2_with fail
        refine (D0.out _ B.out).mono ?_
        rintro e w16 ⟨rfl, b⟩
        clear B
        have B := Lib.hid b
        clear b
        go_wp2
        go_roundw
        case rel => exact ⟨64, rfl, by omega, B.out⟩
        case measure => simp [intOf]
      · have D0 := Lib.hid d0
        have D1 := Lib.hid d1
        clear d0 d1
        go_wp2_with fail
        refine (C0.out _ B.out).mono ?_
        rintro e w1 ⟨rfl, b⟩
        clear B
        have B := Lib.hid b
        clear b
        go_wp2_with fail
        refine (C1.out _ B.out).mono ?_
        rintro e w2 ⟨rfl, b⟩
        clear B
        have B := Lib.hid b
        clear b
        go_wp2_with fail
        refine (C2.out _ B.out).mono ?_
        rintro e w3 ⟨rfl, b⟩
        clear B
        have B := Lib.hid b
        clear b
        go_wp2_with fail
        refine (C3.out _ B.out).mono ?_
        rintro e w4 ⟨rfl, b⟩
        clear B
        have B := Lib.hid b
        clear b
        go_wp2_with fail
        refine (C4.out _ B.out).mono ?_
        rintro e w5 ⟨rfl, b⟩
        clear B
        have B := Lib.hid b
        clear b
        go_wp2_with fail
        refine (C5.out _ B.out).mono ?_
        rintro e w6 ⟨rfl, b⟩
        clear B
        have B := Lib.hid b
        clear b
        go_wp2_with fail
        refine (C3.out _ B.out).mono ?_
        rintro e w7 ⟨rfl, b⟩
        clear B
        have B := Lib.hid b
        clear b
        go_wp2_with fail
        refine (C6.out _ B.out).mono ?_
        rintro e w8 ⟨rfl, b⟩
        clear B
        have B := Lib.hid b
        clear b
        go_wp2_with fail
        refine (C7.out _ B.out).mono ?_
        rintro e w9 ⟨rfl, b⟩
        clear B
        have B := Lib.hid b
        clear b
        go_wp2_with fail
        refine (C8.out _ B.out).mono ?_
        rintro e w10 ⟨rfl, b⟩
        clear B
        have B := Lib.hid b
        clear b
        go_wp2_with fail
        refine (D0.out _ B.out).mono ?_
        rintro e w11 ⟨rfl, b⟩
        clear B
        have B := Lib.hid b
        clear b
        go_wp2_with fail
        refine (D0.out _ B.out).mono ?_
        rintro e w12 ⟨rfl, b⟩
        clear B
        have B := Lib.hid b
        clear b
        go_wp2_with fail
        refine (D1.out _ B.out).mono ?_
        rintro e w13 ⟨rfl, b⟩
        clear B
        have B := Lib.hid b
        clear b
        go_wp2_with fail
        refine (C3.out _ B.out).mono ?_
        rintro e w14 ⟨rfl, b⟩
        clear B
        have B := Lib.hid b
        clear b
        go_wp2
        go_roundw
        case rel => exact ⟨64, rfl, by omega, B.out⟩
        case measure => simp [intOf]
    · obtain ⟨x, hx⟩ : ∃ x : Nat, x = a := ⟨_, rfl⟩
      obtain ⟨c, hc⟩ : ∃ c : Nat, c = b := ⟨_, rfl⟩
      obtain ⟨k, hk⟩ : ∃ k : Nat, k = c % 64 := ⟨_, rfl⟩
      have hxM : x < 18446744073709551616 := by have := HA.out; omega
      have hcM : c < 18446744073709551616 := by have := HA.out; omega
      obtain ⟨p, s1, s2, low, s3, neg, s4, s5, s6, c0, c1, c2, c3, c4, c5, c6, c7, c8, c9⟩ := shift_pack HL.out (W := 64) (M := 18446744073709551616) (by unfold Wd; omega) x c k hxM hcM hk
      have C0 := Lib.hid c0
      have C1 := Lib.hid c1
      have C2 := Lib.hid c2
      have C3 := Lib.hid c3
      have C4 := Lib.hid c4
      have C5 := Lib.hid c5
      have C6 := Lib.hid c6
      have C7 := Lib.hid c7
      have C8 := Lib.hid c8
      have e3 : (b : Int) % 64 = (k : Int) := by omega
      subst hx
      subst hc
      clear c0 c1 c2 c3 c4 c5 c6 c7 c8 hk hxM hcM
      rcases c9 with ⟨d0, d1, d2, d3, d4⟩ | ⟨d0, d1⟩
      · have D0 := Lib.hid d0
        have D1 := Lib.hid d1
        have D2 := Lib.hid d2
        have D3 := Lib.hid d3
        have D4 := Lib.hid d4
        clear d0 d1 d2 d3 d4
        go_wp2_with fail
        refine (C0.out _ B.out).mono ?_
        rintro e w1 ⟨rfl, b⟩
        clear B
        have B := Lib.hid b
        clear b
        go_wp2_with fail
        refine (C1.out _ B.out).mono ?_
        rintro e w2 ⟨rfl, b⟩
        clear B
        have B := Lib.hid b
        clear b
        go_wp2_with fail
        refine (C2.out _ B.out).mono ?_
        rintro e w3 ⟨rfl, b⟩
        clear B
        have B := Lib.hid b
        clear b
        go_wp2_with fail
        refine (C3.out _ B.out).mono ?_
        rintro e w4 ⟨rfl, b⟩
        clear B
        have B := Lib.hid b
        clear b
        go_wp2_with fail
        refine (C4.out _ B.out).mono ?_
        rintro e w5 ⟨rfl, b⟩
        clear B
        have B := Lib.hid b
        clear b
        go_wp2_with fail
        refine (C5.out _ B.out).mono ?_
        rintro e w6 ⟨rfl, b⟩
        clear B
        have B := Lib.hid b
        clear b
        go_wp2_with fail
        refine (C3.out _ B.out).mono ?_
        rintro e w7 ⟨rfl, b⟩
        clear B
        have B := Lib.hid b
        clear b
        go_wp2_with fail
        refine (C6.out _ B.out).mono ?_
        rintro e w8 ⟨rfl, b⟩
        clear B
        have B := Lib.hid b
        clear b
        go_wp2_with fail
        refine (C7.out _ B.out).mono ?_
        rintro e w9 ⟨rfl, b⟩
        clear B
        have B := Lib.hid b
        clear b
        go_wp2_with fail
        refine (C8.out _ B.out).mono ?_
        rintro e w10 ⟨rfl, b⟩
        clear B
        have B := Lib.hid b
        clear b
        go_wp2_with fail
        refine (D0.out _ B.out).mono ?_
        rintro e w11 ⟨rfl, b⟩
        clear B
        have B := Lib.hid b
        clear b
        go_wp2_with fail
        refine (D1.out _ B.out).mono ?_
        rintro e w12 ⟨rfl, b⟩
        clear B
        have B := Lib.hid b
        clear b
        go_wp2_with fail
        refine (D2.out _ B.out).mono ?_
        rintro e w13 ⟨rfl, b⟩
        clear B
        have B := Lib.hid b
        clear b
        go_wp2_with fail
        refine (D3.out _ B.out).mono ?_
        rintro e w14 ⟨rfl, b⟩
        clear B
        have B := Lib.hid b
        clear b
        go_wp2_with fail
        refine (D4.out _ B.out).mono ?_
        rintro e w15 ⟨rfl, b⟩
        clear B
        have B := Lib.hid b
        clear b
        go_wp2_with fail
        refine (D0.out _ B.out).mono ?_
        rintro e w16 ⟨rfl, b⟩
        clear B
        have B := Lib.hid b
        clear b
        go_wp2
        go_roundw
        case rel => exact ⟨96, rfl, by omega, B.out⟩
        case measure => simp [intOf]
      · have D0 := Lib.hid d0
        have D1 := Lib.hid d1
        clear d0 d1
        go_wp2_with fail
        refine (C0.out _ B.out).mono ?_
        rintro e w1 ⟨rfl, b⟩
        clear B
        have B := Lib.hid b
        clear b
        go_wp2_with fail
        refine (C1.out _ B.out).mono ?_
        rintro e w2 ⟨rfl, b⟩
        clear B
        have B := Lib.hid b
        clear b
        go_wp2_with fail
        refine (C2.out _ B.out).mono ?_
        rintro e w3 ⟨rfl, b⟩
        clear B
        have B := Lib.hid b
        clear b
        go_wp2_with fail
        refine (C3.out _ B.out).mono ?_
        rintro e w4 ⟨rfl, b⟩
        clear B
        have B := Lib.hid b
        clear b
        go_wp2_with fail
        refine (C4.out _ B.out).mono ?_
        rintro e w5 ⟨rfl, b⟩
        clear B
        have B := Lib.hid b
        clear b
        go_wp2_with fail
        refine (C5.out _ B.out).mono ?_
        rintro e w6 ⟨rfl, b⟩
        clear B
        have B := Lib.hid b
        clear b
        go_wp2_with fail
        refine (C3.out _ B.out).mono ?_
        rintro e w7 ⟨rfl, b⟩
        clear B
        have B := Lib.hid b
        clear b
        go_wp2_with fail
        refine (C6.out _ B.out).mono ?_
        rintro e w8 ⟨rfl, b⟩
        clear B
        have B := Lib.hid b
        clear b
        go_wp2_with fail
        refine (C7.out _ B.out).mono ?_
        rintro e w9 ⟨rfl, b⟩
        clear B
        have B := Lib.hid b
        clear b
        go_wp2_with fail
        refine (C8.out _ B.out).mono ?_
        rintro e w10 ⟨rfl, b⟩
        clear B
        have B := Lib.hid b
        clear b
        go_wp2_with fail
        refine (D0.out _ B.out).mono ?_
        rintro e w11 ⟨rfl, b⟩
        clear B
        have B := Lib.hid b
        clear b
        go_wp2_with fail
        refine (D0.out _ B.out).mono ?_
        rintro e w12 ⟨rfl, b⟩
        clear B
        have B := Lib.hid b
        clear b
        go_wp2_with fail
        refine (D1.out _ B.out).mono ?_
        rintro e w13 ⟨rfl, b⟩
        clear B
        have B := Lib.hid b
        clear b
        go_wp2_with fail
        refine (C3.out _ B.out).mono ?_
        rintro e w14 ⟨rfl, b⟩
        clear B
        have B := Lib.hid b
        clear b
        go_wp2
        go_roundw
        case rel => exact ⟨96, rfl, by omega, B.out⟩
        case measure => simp [intOf]
    · go_wp2_with fail
      refine (known_any _ (HL.out.kept B.out)).mono ?_
      rintro e w1 ⟨rfl, b⟩
      go_wp2
      go_ret
      exact ⟨rfl, B.out.trans (b.mono B.out.size)⟩
end Go.Proofs.YtdoejkdckokjdaaDoor
