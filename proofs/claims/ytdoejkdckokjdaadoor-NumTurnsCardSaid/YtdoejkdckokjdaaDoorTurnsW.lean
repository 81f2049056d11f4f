/- geodelaw03.NumTurns. -/
import Derived.Test.YtdoejkdckokjdaaDoorPl
import Derived.Laws.EntriesVeiled
namespace Go.Proofs.YtdoejkdckokjdaaDoor
open Go.RowKit

/-- a number in two parts, and turned round -/
theorem rl_parts {W M : Nat} (h : Wd W M) (x k : Nat) (hx : x < M) (hk : k < W) : ∃ hi lo : Nat, hi < 2 ^ k ∧ lo < 2 ^ (W - k) ∧ x = lo + 2 ^ (W - k) * hi ∧ rl W M x k = hi + 2 ^ k * lo ∧ M = 2 ^ k * 2 ^ (W - k) := by
  have hMp : M = 2 ^ k * 2 ^ (W - k) := by rw [← Nat.pow_add, show k + (W - k) = W by omega]; exact h.pow
  refine ⟨x / 2 ^ (W - k), x % 2 ^ (W - k), ?_, Nat.mod_lt _ (Nat.pow_pos (by omega)), ?_, ?_, hMp⟩
  · rw [Nat.div_lt_iff_lt_mul (Nat.pow_pos (by omega)), ← hMp]; exact hx
  · rw [Nat.add_comm, Nat.div_add_mod]
  · unfold rl
    rw [hMp, Nat.mul_comm x, Nat.mul_mod_mul_left, Nat.add_comm]

theorem rr_rl {W M : Nat} (h : Wd W M) (x k : Nat) (hx : x < M) (hk : k < W) : rr W M (rl W M x k) k = x := by
  obtain ⟨hi, lo, h1, h2, hxe, e, hMp⟩ := rl_parts h x k hx hk
  rw [e]
  unfold rr
  rw [Nat.add_mul_div_left _ _ (Nat.pow_pos (by omega)), Nat.div_eq_of_lt h1, Nat.zero_add, Nat.add_mul, hMp,
    show 2 ^ k * lo * 2 ^ (W - k) = 2 ^ k * 2 ^ (W - k) * lo by rw [Nat.mul_assoc, Nat.mul_comm lo, ← Nat.mul_assoc], Nat.add_mul_mod_self_left, Nat.mod_eq_of_lt (Nat.mul_lt_mul_of_lt_of_le h1 (Nat.le_refl _) (Nat.pow_pos (by omega))), hxe, Nat.mul_comm hi]

theorem ones_rl {W M : Nat} (h : Wd W M) (x k : Nat) (hx : x < M) (hk : k < W) : Lib.onesCount (rl W M x k) = Lib.onesCount x := by
  obtain ⟨hi, lo, h1, h2, hxe, e, hMp⟩ := rl_parts h x k hx hk
  have hW := h.lt
  rw [e, hxe]
  unfold Lib.onesCount
  have a1 := pop_split k (64 - k) hi lo h1
  rw [show k + (64 - k) = 64 by omega] at a1
  have a2 := pop_split (W - k) (64 - (W - k)) lo hi h2
  rw [show W - k + (64 - (W - k)) = 64 by omega] at a2
  rw [a1, a2]
  have f1 := pop_fuel (W - k) (64 - W) lo h2
  rw [show W - k + (64 - W) = 64 - k by omega] at f1
  have f2 := pop_fuel k (64 - W) hi h1
  rw [show k + (64 - W) = 64 - (W - k) by omega] at f2
  rw [f1, f2, Nat.add_comm]

theorem bitLenAux_top : ∀ (f x : Nat), x < 2 ^ f → x < 2 ^ Lib.bitLenAux f x
  | 0, x, h => h
  | f + 1, x, h => by
    unfold Lib.bitLenAux
    split
    · omega
    · have := bitLenAux_top f (x / 2) (by rw [Nat.pow_succ] at h; omega)
      rw [Nat.add_comm, Nat.pow_succ]
      omega
theorem popAux_le : ∀ (f x k : Nat), x < 2 ^ k → Lib.popAux f x ≤ k
  | 0, _, _, _ => Nat.zero_le _
  | f + 1, x, 0, h => by
    have : x = 0 := by simpa using h
    rw [this, pop_zero]
    omega
  | f + 1, x, k + 1, h => by
    have := popAux_le f (x / 2) k (by rw [Nat.pow_succ] at h; omega)
    unfold Lib.popAux
    omega

theorem count_le {W M : Nat} (h : Wd W M) (x : Nat) (hx : x < M) (h0 : x ≠ 0) : W - Lib.bitLen x + min (Lib.ctz 64 x) W + Lib.onesCount x ≤ W := by
  have hW := h.lt
  have hl := bitLen_le_wd h x hx
  have ht : x < 2 ^ Lib.bitLen x := bitLenAux_top 64 x (by omega)
  obtain ⟨m, hm, hc⟩ := Lib.ctzFrom_spec 64 x (by omega) (by omega)
  have ec : Lib.ctz 64 x = Lib.ctzFrom 64 x := by unfold Lib.ctz; rw [if_neg h0]
  rw [ec]
  generalize Lib.ctzFrom 64 x = c at *
  generalize Lib.bitLen x = L at *
  have hcL : c < L := by
    apply Nat.lt_of_not_le
    intro hle
    have h1 : 2 ^ L ≤ 2 ^ c := Nat.pow_le_pow_right (by omega) hle
    have h2 : 2 ^ c ≤ 2 ^ c * (2 * m + 1) := Nat.le_mul_of_pos_right _ (by omega)
    omega
  have hy : 2 * m + 1 < 2 ^ (L - c) := by
    apply Nat.lt_of_mul_lt_mul_left (a := 2 ^ c)
    rw [← Nat.pow_add, show c + (L - c) = L by omega, ← hm]
    exact ht
  have hp := pop_split c (64 - c) 0 (2 * m + 1) (Nat.pow_pos (by omega))
  rw [show c + (64 - c) = 64 by omega, Nat.zero_add, ← hm, pop_zero] at hp
  have := popAux_le (64 - c) (2 * m + 1) (L - c) hy
  unfold Lib.onesCount
  omega

theorem turn_parts {W M : Nat} (h : Wd W M) (x y : Nat) (hx : x < M) (hy : y < M) : (x * 2 ^ (y % W) % M) ||| (x / 2 ^ (((0 + (M - y)) % M) % W)) = rl W M x (y % W) := by
  have hW := h.lt
  have hk : y % W < W := Nat.mod_lt _ (by omega)
  obtain ⟨k, hke⟩ : ∃ k, k = y % W := ⟨_, rfl⟩
  by_cases h0 : k = 0
  · have e : (0 + (M - y)) % M % W = 0 := by rcases h with ⟨rfl, rfl⟩ | ⟨rfl, rfl⟩ <;> omega
    rw [e, ← hke, h0, Nat.pow_zero, Nat.mul_one, Nat.div_one, Nat.mod_eq_of_lt hx, Nat.or_self]
    unfold rl
    rw [Nat.pow_zero, Nat.mul_one, Nat.mod_eq_of_lt hx, Nat.sub_zero, ← h.pow, Nat.div_eq_of_lt hx]
    rfl
  · have e : (0 + (M - y)) % M % W = W - k := by rcases h with ⟨rfl, rfl⟩ | ⟨rfl, rfl⟩ <;> omega
    rw [e, ← hke]
    rw [← hke] at hk
    obtain ⟨hi, lo, h1, h2, hxe, e2, hMp⟩ := rl_parts h x k hx hk
    rw [e2, show x * 2 ^ k % M = 2 ^ k * lo by
      rw [hMp, Nat.mul_comm x, Nat.mul_mod_mul_left, hxe, Nat.add_mul_mod_self_left, Nat.mod_eq_of_lt h2],
      show x / 2 ^ (W - k) = hi by rw [hxe, Nat.add_mul_div_left _ _ (Nat.pow_pos (by omega)), Nat.div_eq_of_lt h2, Nat.zero_add],
      ← Nat.two_pow_add_eq_or_of_lt h1, Nat.add_comm]

theorem turn_pack {w : World} (hL : Laid w) {W M : Nat} (h : Wd W M) (x y : Nat) (hx : x < M) (hy : y < M) :
    ∃ t n s1 ny s2 : Nat, Tw w W 119 x y t ∧ Tw w W 120 t y x ∧ On w W 105 t n ∧ On w W 105 x n ∧ Tw w W 116 x y s1 ∧ Tw w W 107 0 y ny ∧ Tw w W 118 x ny s2 ∧ Tw w W 114 s1 s2 t := by
  have hW := h.lt
  have hk : y % W < W := Nat.mod_lt _ (by omega)
  have T := fun op hop a c ha hc => Tw_is hL h op hop a c ha hc
  have hr := rl_lt h x (y % W) hx hk
  have c0 := T 119 (by omega) x y hx hy
  rw [show (bin (tw 119) W M x y).1 = rl W M x (y % W) from rfl] at c0
  have c1 := T 120 (by omega) (rl W M x (y % W)) y hr hy
  rw [show (bin (tw 120) W M (rl W M x (y % W)) y).1 = rr W M (rl W M x (y % W)) (y % W) from rfl, rr_rl h x _ hx hk] at c1
  have c2 := On_is hL h 105 (by omega) (rl W M x (y % W)) hr
  rw [show (una (tw 105) W M (rl W M x (y % W))).1 = Lib.onesCount (rl W M x (y % W)) from rfl, ones_rl h x _ hx hk] at c2
  have c3 := On_is hL h 105 (by omega) x hx
  rw [show (una (tw 105) W M x).1 = Lib.onesCount x from rfl] at c3
  have c4 := T 116 (by omega) x y hx hy
  rw [show (bin (tw 116) W M x y).1 = x * 2 ^ (y % W) % M from rfl] at c4
  have c5 := T 107 (by omega) 0 y (by omega) hy
  rw [show (bin (tw 107) W M 0 y).1 = (0 + (M - y)) % M from rfl] at c5
  have l5 : (0 + (M - y)) % M < M := Nat.mod_lt _ (by omega)
  have c6 := T 118 (by omega) x ((0 + (M - y)) % M) hx l5
  rw [show (bin (tw 118) W M x ((0 + (M - y)) % M)).1 = x / 2 ^ ((0 + (M - y)) % M % W) from rfl] at c6
  have c7 := T 114 (by omega) (x * 2 ^ (y % W) % M) (x / 2 ^ ((0 + (M - y)) % M % W)) (Nat.mod_lt _ (by omega)) (Nat.lt_of_le_of_lt (Nat.div_le_self _ _) hx)
  rw [show (bin (tw 114) W M (x * 2 ^ (y % W) % M) (x / 2 ^ ((0 + (M - y)) % M % W))).1 = (x * 2 ^ (y % W) % M) ||| (x / 2 ^ ((0 + (M - y)) % M % W)) from rfl, turn_parts h x y hx hy] at c7
  generalize (0 + (M - y)) % M = ny at *
  exact ⟨_, _, _, ny, _, c0, c1, c2, c3, c4, c5, c6, c7⟩

theorem w2 (a b s : Nat) (h : a + b = s) (h2 : s < 100000) : IntKind.u64.wrap ((a : Int) + (b : Int)) = (s : Int) := by rw [IntKind.wrap_u64]; omega

theorem ask_pack {w : World} (hL : Laid w) {W M : Nat} (h : Wd W M) (x y : Nat) (hx : x < M) (hy : y < M) (o : Nat) (ho : o = 0 ∨ o = 1) :
    ∃ e l g le ge el : Nat, IntKind.u64.wrap ((e : Int) + (l : Int)) = (el : Int) ∧ IntKind.u64.wrap ((el : Int) + (g : Int)) = 1 ∧ IntKind.u64.wrap ((le : Int) + (g : Int)) = 1 ∧ IntKind.u64.wrap ((ge : Int) + (l : Int)) = 1 ∧
      Tw w W 70 x y e ∧ Tw w W (72 + o : Nat) x y l ∧ Tw w W (74 + o : Nat) x y g ∧ Tw w W (76 + o : Nat) x y le ∧ Tw w W (78 + o : Nat) x y ge := by
  have T := fun op hop a c ha hc => Tw_is hL h op hop a c ha hc
  have bs : ∀ p q : Prop, [Decidable p] → [Decidable q] → (p ↔ ¬ q) → bit (decide p) + bit (decide q) = 1 := by
    intro p q _ _ hpq
    by_cases hq : q
    · rw [decide_eq_true hq, decide_eq_false (fun hp => hpq.1 hp hq)]; rfl
    · rw [decide_eq_false hq, decide_eq_true (hpq.2 hq)]; rfl
  have c0 := T 70 (by omega) x y hx hy
  rw [show (bin (tw 70) W M x y).1 = bit (decide (x = y)) from rfl] at c0
  have inj : sg M x = sg M y → x = y := by unfold sg; split <;> split <;> omega
  rcases ho with rfl | rfl
  · have c1 := T 72 (by omega) x y hx hy
    have c2 := T 74 (by omega) x y hx hy
    have c3 := T 76 (by omega) x y hx hy
    have c4 := T 78 (by omega) x y hx hy
    rw [show (bin (tw 72) W M x y).1 = bit (decide (sg M x < sg M y)) from rfl] at c1
    rw [show (bin (tw 74) W M x y).1 = bit (decide (sg M y < sg M x)) from rfl] at c2
    rw [show (bin (tw 76) W M x y).1 = bit (decide (sg M x ≤ sg M y)) from rfl] at c3
    rw [show (bin (tw 78) W M x y).1 = bit (decide (sg M y ≤ sg M x)) from rfl] at c4
    have b1 := bit_le (decide (x = y))
    have b2 := bit_le (decide (sg M x < sg M y))
    have t1 : bit (decide (x = y)) + bit (decide (sg M x < sg M y)) + bit (decide (sg M y < sg M x)) = 1 := by
      by_cases he : x = y
      · subst he
        rw [decide_eq_true rfl, decide_eq_false (Int.lt_irrefl _)]; rfl
      · rw [decide_eq_false he]
        have := bs (sg M x < sg M y) (sg M y < sg M x) (by have : sg M x ≠ sg M y := fun h => he (inj h); omega)
        show 0 + _ + _ = 1
        omega
    have t2 := bs (sg M x ≤ sg M y) (sg M y < sg M x) (by omega)
    have t3 := bs (sg M y ≤ sg M x) (sg M x < sg M y) (by omega)
    refine ⟨_, _, _, _, _, _, w2 _ _ _ rfl (by omega), w2 _ _ 1 t1 (by omega), w2 _ _ 1 t2 (by omega), w2 _ _ 1 t3 (by omega), c0, c1, c2, c3, c4⟩
  · have c1 := T 73 (by omega) x y hx hy
    have c2 := T 75 (by omega) x y hx hy
    have c3 := T 77 (by omega) x y hx hy
    have c4 := T 79 (by omega) x y hx hy
    rw [show (bin (tw 73) W M x y).1 = bit (decide (x < y)) from rfl] at c1
    rw [show (bin (tw 75) W M x y).1 = bit (decide (y < x)) from rfl] at c2
    rw [show (bin (tw 77) W M x y).1 = bit (decide (x ≤ y)) from rfl] at c3
    rw [show (bin (tw 79) W M x y).1 = bit (decide (y ≤ x)) from rfl] at c4
    have b1 := bit_le (decide (x = y))
    have b2 := bit_le (decide (x < y))
    have t1 : bit (decide (x = y)) + bit (decide (x < y)) + bit (decide (y < x)) = 1 := by
      by_cases he : x = y
      · subst he
        rw [decide_eq_true rfl, decide_eq_false (Nat.lt_irrefl _)]; rfl
      · rw [decide_eq_false he]
        have := bs (x < y) (y < x) (by omega)
        show 0 + _ + _ = 1
        omega
    have t2 := bs (x ≤ y) (y < x) (by omega)
    have t3 := bs (y ≤ x) (x < y) (by omega)
    refine ⟨_, _, _, _, _, _, w2 _ _ _ rfl (by omega), w2 _ _ 1 t1 (by omega), w2 _ _ 1 t2 (by omega), w2 _ _ 1 t3 (by omega), c0, c1, c2, c3, c4⟩

theorem turn_pack2 {w : World} (hL : Laid w) {W M : Nat} (h : Wd W M) (x y : Nat) (hx : x < M) (hy : y < M) :
    ∃ z ne e c1 c2 n c12 tot : Nat, IntKind.u64.wrap ((ne : Int) + (e : Int)) = 1 ∧ IntKind.u64.wrap ((c1 : Int) + (c2 : Int)) = (c12 : Int) ∧ IntKind.u64.wrap ((c12 : Int) + (n : Int)) = (tot : Int) ∧
      (tot ≤ W ∨ (W < tot ∧ x = 0)) ∧ On w W 69 x z ∧ Tw w W 70 x 0 z ∧ Tw w W 71 x y ne ∧ Tw w W 70 x y e ∧ On w W 103 x c1 ∧ On w W 104 x c2 ∧ On w W 105 x n := by
  have hW := h.lt
  have T := fun op hop a c ha hc => Tw_is hL h op hop a c ha hc
  have c0 := On_is hL h 69 (by omega) x hx
  rw [show (una (tw 69) W M x).1 = bit (decide (x = 0)) from rfl] at c0
  have c1 := T 70 (by omega) x 0 hx (by omega)
  rw [show (bin (tw 70) W M x 0).1 = bit (decide (x = 0)) from rfl] at c1
  have c2 := T 71 (by omega) x y hx hy
  rw [show (bin (tw 71) W M x y).1 = bit (decide (x ≠ y)) from rfl] at c2
  have c3 := T 70 (by omega) x y hx hy
  rw [show (bin (tw 70) W M x y).1 = bit (decide (x = y)) from rfl] at c3
  have c4 := On_is hL h 103 (by omega) x hx
  rw [show (una (tw 103) W M x).1 = W - Lib.bitLen x from rfl] at c4
  have c5 := On_is hL h 104 (by omega) x hx
  rw [show (una (tw 104) W M x).1 = min (Lib.ctz 64 x) W from rfl] at c5
  have c6 := On_is hL h 105 (by omega) x hx
  rw [show (una (tw 105) W M x).1 = Lib.onesCount x from rfl] at c6
  have ho := ones_le x (by omega)
  refine ⟨_, _, _, _, _, _, W - Lib.bitLen x + min (Lib.ctz 64 x) W, W - Lib.bitLen x + min (Lib.ctz 64 x) W + Lib.onesCount x, w2 _ _ 1 ?_ (by omega), w2 _ _ _ rfl (by omega), w2 _ _ _ rfl (by omega), ?_, c0, c1, c2, c3, c4, c5, c6⟩
  · by_cases he : x = y
    · rw [decide_eq_true he, decide_eq_false (fun hn => hn he)]; rfl
    · rw [decide_eq_false he, decide_eq_true he]; rfl
  · by_cases h0 : x = 0
    · right
      refine ⟨?_, h0⟩
      rw [h0, show Lib.bitLen 0 = 0 from rfl, show Lib.ctz 64 0 = 64 from rfl]
      omega
    · left
      exact count_le h x hx h0

set_option maxRecDepth 100000 in
set_option maxHeartbeats 4000000 in
theorem NumTurns_walk (a b : Nat) (ha : a < 18446744073709551616) (hb : b < 18446744073709551616) (w : World) (hL : Laid w) :
    Calls Tryd.prog 5 #[.int .u64 a, .int .u64 b] w fun e w' => e = .returned (.bool true) ∧ Below w.heap.size w w' := by
  have HL := Lib.hid hL
  have HA := Lib.hid (And.intro ha hb)
  clear hL ha hb
  go_enter Tryd.func5, Tryd.ntmps5
  go_wp2_with fail
  go_loopw [5] (fun b wr => ∃ W : Nat, b = .int .i64 (W : Int) ∧ (W = 32 ∨ W = 64 ∨ W = 96) ∧ Below w.heap.size w wr) (fun b _ => 100 - (intOf b).toNat)
  case atStart => exact ⟨32, rfl, by omega, Below.refl _ _⟩
  case round =>
    obtain ⟨W, rfl, hW, hb⟩ := hrel
    have B := Lib.hid hb
    clear hb
    rcases hW with rfl | rfl | rfl
    · obtain ⟨x, hx⟩ : ∃ x : Nat, x = a / 4294967296 := ⟨_, rfl⟩
      obtain ⟨y, hy⟩ : ∃ y : Nat, y = b / 4294967296 := ⟨_, rfl⟩
      have hxM : x < 4294967296 := by have := HA.out; omega
      have hyM : y < 4294967296 := by have := HA.out; omega
      have hd : Wd 32 4294967296 := by unfold Wd; omega
      obtain ⟨t, n, s1, ny, s2, c0, c1, c2, c3, c4, c5, c6, c7⟩ := turn_pack HL.out hd x y hxM hyM
      have Q0 := Lib.hid (ask_pack HL.out hd x y hxM hyM 0 (by omega))
      have Q1 := Lib.hid (ask_pack HL.out hd x y hxM hyM 1 (by omega))
      have Q2 := Lib.hid (turn_pack2 HL.out hd x y hxM hyM)
      have e1 : (a : Int) / 4294967296 = (x : Int) := by omega
      have e2 : (b : Int) / 4294967296 = (y : Int) := by omega
      clear hx hy
      have C0 := Lib.hid c0
      have C1 := Lib.hid c1
      have C2 := Lib.hid c2
      have C3 := Lib.hid c3
      have C4 := Lib.hid c4
      have C5 := Lib.hid c5
      have C6 := Lib.hid c6
      have C7 := Lib.hid c7
      clear c0 c1 c2 c3 c4 c5 c6 c7
      clear hxM hyM hd
      go_wp2_with fail
      refine (C0.out _ B.out).mono ?_
      rintro e w1 ⟨rfl, b⟩
      clear B
      have B := Lib.hid b
      clear b
      go_wp2_with fail
      refine (C1.out _ B.out).mono ?_
      rintro e w2 ⟨rfl, b⟩
      clear B
      have B := Lib.hid b
      clear b
      go_wp2_with fail
      refine (C2.out _ B.out).mono ?_
      rintro e w3 ⟨rfl, b⟩
      clear B
      have B := Lib.hid b
      clear b
      go_wp2_with fail
      refine (C3.out _ B.out).mono ?_
      rintro e w4 ⟨rfl, b⟩
      clear B
      have B := Lib.hid b
      clear b
      go_wp2_with fail
      refine (C4.out _ B.out).mono ?_
      rintro e w5 ⟨rfl, b⟩
      clear B
      have B := Lib.hid b
      clear b
      go_wp2_with fail
      refine (C5.out _ B.out).mono ?_
      rintro e w6 ⟨rfl, b⟩
      clear B
      have B := Lib.hid b
      clear b
      go_wp2_with fail
      refine (C6.out _ B.out).mono ?_
      rintro e w7 ⟨rfl, b⟩
      clear B
      have B := Lib.hid b
      clear b
      go_wp2_with fail
      refine (C7.out _ B.out).mono ?_
      rintro e w8 ⟨rfl, b⟩
      clear B
      have B := Lib.hid b
      clear b
      go_wp2_with fail
      go_loopw [9] (fun b wr => ∃ i : Nat, b = .int .i64 (i : Int) ∧ (i = 0 ∨ i = 1 ∨ i = 2) ∧ Below w.heap.size w wr) (fun b _ => 100 - (intOf b).toNat)
      case atStart => exact ⟨0, rfl, by omega, B.out⟩
      case round =>
        clear B
        obtain ⟨i, rfl, hi, hb⟩ := hrel
        have B := Lib.hid hb
        clear hb
        rcases hi with rfl | rfl | rfl
        · obtain ⟨e, l, g, le, ge, el, g1, g2, g3, g4, d0, d1, d2, d3, d4⟩ := Q0.out
          have D0 := Lib.hid d0
          have D1 := Lib.hid d1
          have D2 := Lib.hid d2
          have D3 := Lib.hid d3
          have D4 := Lib.hid d4
          clear d0 d1 d2 d3 d4
          go_wp2_with fail
          refine (D0.out _ B.out).mono ?_
          rintro e w1 ⟨rfl, b⟩
          clear B
          have B := Lib.hid b
          clear b
          go_wp2_with fail
          refine (D1.out _ B.out).mono ?_
          rintro e w2 ⟨rfl, b⟩
          clear B
          have B := Lib.hid b
          clear b
          go_wp2_with fail
          refine (D2.out _ B.out).mono ?_
          rintro e w3 ⟨rfl, b⟩
          clear B
          have B := Lib.hid b
          clear b
          go_wp2_with fail
          refine (D3.out _ B.out).mono ?_
          rintro e w4 ⟨rfl, b⟩
          clear B
          have B := Lib.hid b
          clear b
          go_wp2_with fail
          refine (D2.out _ B.out).mono ?_
          rintro e w5 ⟨rfl, b⟩
          clear B
          have B := Lib.hid b
          clear b
          go_wp2_with fail
          refine (D4.out _ B.out).mono ?_
          rintro e w6 ⟨rfl, b⟩
          clear B
          have B := Lib.hid b
          clear b
          go_wp2_with fail
          refine (D1.out _ B.out).mono ?_
          rintro e w7 ⟨rfl, b⟩
          clear B
          have B := Lib.hid b
          clear b
          go_wp2
          go_roundw
          case rel => exact ⟨1, rfl, by omega, B.out⟩
          case measure => simp [intOf]
        · obtain ⟨e, l, g, le, ge, el, g1, g2, g3, g4, d0, d1, d2, d3, d4⟩ := Q1.out
          have D0 := Lib.hid d0
          have D1 := Lib.hid d1
          have D2 := Lib.hid d2
          have D3 := Lib.hid d3
          have D4 := Lib.hid d4
          clear d0 d1 d2 d3 d4
          go_wp2_with fail
          refine (D0.out _ B.out).mono ?_
          rintro e w1 ⟨rfl, b⟩
          clear B
          have B := Lib.hid b
          clear b
          go_wp2_with fail
          refine (D1.out _ B.out).mono ?_
          rintro e w2 ⟨rfl, b⟩
          clear B
          have B := Lib.hid b
          clear b
          go_wp2_with fail
          refine (D2.out _ B.out).mono ?_
          rintro e w3 ⟨rfl, b⟩
          clear B
          have B := Lib.hid b
          clear b
          go_wp2_with fail
          refine (D3.out _ B.out).mono ?_
          rintro e w4 ⟨rfl, b⟩
          clear B
          have B := Lib.hid b
          clear b
          go_wp2_with fail
          refine (D2.out _ B.out).mono ?_
          rintro e w5 ⟨rfl, b⟩
          clear B
          have B := Lib.hid b
          clear b
          go_wp2_with fail
          refine (D4.out _ B.out).mono ?_
          rintro e w6 ⟨rfl, b⟩
          clear B
          have B := Lib.hid b
          clear b
          go_wp2_with fail
          refine (D1.out _ B.out).mono ?_
          rintro e w7 ⟨rfl, b⟩
          clear B
          have B := Lib.hid b
          clear b
          go_wp2
          go_roundw
          case rel => exact ⟨2, rfl, by omega, B.out⟩
          case measure => simp [intOf]
        · obtain ⟨z, ne, e, k1, k2, k3, k12, tot, g1, g2, g3, hor, d0, d1, d2, d3, d4, d5, d6⟩ := Q2.out
          have D0 := Lib.hid d0
          have D1 := Lib.hid d1
          have D2 := Lib.hid d2
          have D3 := Lib.hid d3
          have D4 := Lib.hid d4
          have D5 := Lib.hid d5
          have D6 := Lib.hid d6
          clear d0 d1 d2 d3 d4 d5 d6
          rcases hor with hle | ⟨hgt, hx0⟩
          · have j1 : decide ((32 : Int) < (tot : Int)) = false := by simp; omega
            clear hle
            go_wp2_with fail
            refine (D0.out _ B.out).mono ?_
            rintro e w1 ⟨rfl, b⟩
            clear B
            have B := Lib.hid b
            clear b
            go_wp2_with fail
            refine (D1.out _ B.out).mono ?_
            rintro e w2 ⟨rfl, b⟩
            clear B
            have B := Lib.hid b
            clear b
            go_wp2_with fail
            refine (D2.out _ B.out).mono ?_
            rintro e w3 ⟨rfl, b⟩
            clear B
            have B := Lib.hid b
            clear b
            go_wp2_with fail
            refine (D3.out _ B.out).mono ?_
            rintro e w4 ⟨rfl, b⟩
            clear B
            have B := Lib.hid b
            clear b
            go_wp2_with fail
            refine (D4.out _ B.out).mono ?_
            rintro e w5 ⟨rfl, b⟩
            clear B
            have B := Lib.hid b
            clear b
            go_wp2_with fail
            refine (D5.out _ B.out).mono ?_
            rintro e w6 ⟨rfl, b⟩
            clear B
            have B := Lib.hid b
            clear b
            go_wp2_with fail
            refine (D6.out _ B.out).mono ?_
            rintro e w7 ⟨rfl, b⟩
            clear B
            have B := Lib.hid b
            clear b
            go_wp2
            go_roundw
            case rel => exact ⟨64, rfl, by omega, B.out⟩
            case measure => simp [intOf]
          · have j1 : decide ((32 : Int) < (tot : Int)) = true := by simp; omega
            have j2 : ((x : Int) != 0) = false := by rw [hx0]; rfl
            clear hgt hx0
            go_wp2_with fail
            refine (D0.out _ B.out).mono ?_
            rintro e w1 ⟨rfl, b⟩
            clear B
            have B := Lib.hid b
            clear b
            go_wp2_with fail
            refine (D1.out _ B.out).mono ?_
            rintro e w2 ⟨rfl, b⟩
            clear B
            have B := Lib.hid b
            clear b
            go_wp2_with fail
            refine (D2.out _ B.out).mono ?_
            rintro e w3 ⟨rfl, b⟩
            clear B
            have B := Lib.hid b
            clear b
            go_wp2_with fail
            refine (D3.out _ B.out).mono ?_
            rintro e w4 ⟨rfl, b⟩
            clear B
            have B := Lib.hid b
            clear b
            go_wp2_with fail
            refine (D4.out _ B.out).mono ?_
            rintro e w5 ⟨rfl, b⟩
            clear B
            have B := Lib.hid b
            clear b
            go_wp2_with fail
            refine (D5.out _ B.out).mono ?_
            rintro e w6 ⟨rfl, b⟩
            clear B
            have B := Lib.hid b
            clear b
            go_wp2_with fail
            refine (D6.out _ B.out).mono ?_
            rintro e w7 ⟨rfl, b⟩
            clear B
            have B := Lib.hid b
            clear b
            go_wp2
            go_roundw
            case rel => exact ⟨64, rfl, by omega, B.out⟩
            case measure => simp [intOf]
    · obtain ⟨x, hx⟩ : ∃ x : Nat, x = a := ⟨_, rfl⟩
      obtain ⟨y, hy⟩ : ∃ y : Nat, y = b := ⟨_, rfl⟩
      have hxM : x < 18446744073709551616 := by have := HA.out; omega
      have hyM : y < 18446744073709551616 := by have := HA.out; omega
      have hd : Wd 64 18446744073709551616 := by unfold Wd; omega
      obtain ⟨t, n, s1, ny, s2, c0, c1, c2, c3, c4, c5, c6, c7⟩ := turn_pack HL.out hd x y hxM hyM
      have Q0 := Lib.hid (ask_pack HL.out hd x y hxM hyM 0 (by omega))
      have Q1 := Lib.hid (ask_pack HL.out hd x y hxM hyM 1 (by omega))
      have Q2 := Lib.hid (turn_pack2 HL.out hd x y hxM hyM)
      subst hx
      subst hy
      have C0 := Lib.hid c0
      have C1 := Lib.hid c1
      have C2 := Lib.hid c2
      have C3 := Lib.hid c3
      have C4 := Lib.hid c4
      have C5 := Lib.hid c5
      have C6 := Lib.hid c6
      have C7 := Lib.hid c7
      clear c0 c1 c2 c3 c4 c5 c6 c7
      clear hxM hyM hd
      go_wp2_with fail
      refine (C0.out _ B.out).mono ?_
      rintro e w1 ⟨rfl, b⟩
      clear B
      have B := Lib.hid b
      clear b
      go_wp2_with fail
      refine (C1.out _ B.out).mono ?_
      rintro e w2 ⟨rfl, b⟩
      clear B
      have B := Lib.hid b
      clear b
      go_wp2_with fail
      refine (C2.out _ B.out).mono ?_
      rintro e w3 ⟨rfl, b⟩
      clear B
      have B := Lib.hid b
      clear b
      go_wp2_with fail
      refine (C3.out _ B.out).mono ?_
      rintro e w4 ⟨rfl, b⟩
      clear B
      have B := Lib.hid b
      clear b
      go_wp2_with fail
      refine (C4.out _ B.out).mono ?_
      rintro e w5 ⟨rfl, b⟩
      clear B
      have B := Lib.hid b
      clear b
      go_wp2_with fail
      refine (C5.out _ B.out).mono ?_
      rintro e w6 ⟨rfl, b⟩
      clear B
      have B := Lib.hid b
      clear b
      go_wp2_with fail
      refine (C6.out _ B.out).mono ?_
      rintro e w7 ⟨rfl, b⟩
      clear B
      have B := Lib.hid b
      clear b
      go_wp2_with fail
      refine (C7.out _ B.out).mono ?_
      rintro e w8 ⟨rfl, b⟩
      clear B
      have B := Lib.hid b
      clear b
      go_wp2_with fail
      go_loopw [9] (fun b wr => ∃ i : Nat, b = .int .i64 (i : Int) ∧ (i = 0 ∨ i = 1 ∨ i = 2) ∧ Below w.heap.size w wr) (fun b _ => 100 - (intOf b).toNat)
      case atStart => exact ⟨0, rfl, by omega, B.out⟩
      case round =>
        clear B
        obtain ⟨i, rfl, hi, hb⟩ := hrel
        have B := Lib.hid hb
        clear hb
        rcases hi with rfl | rfl | rfl
        · obtain ⟨e, l, g, le, ge, el, g1, g2, g3, g4, d0, d1, d2, d3, d4⟩ := Q0.out
          have D0 := Lib.hid d0
          have D1 := Lib.hid d1
          have D2 := Lib.hid d2
          have D3 := Lib.hid d3
          have D4 := Lib.hid d4
          clear d0 d1 d2 d3 d4
          go_wp2_with fail
          refine (D0.out _ B.out).mono ?_
          rintro e w1 ⟨rfl, b⟩
          clear B
          have B := Lib.hid b
          clear b
          go_wp2_with fail
          refine (D1.out _ B.out).mono ?_
          rintro e w2 ⟨rfl, b⟩
          clear B
          have B := Lib.hid b
          clear b
          go_wp2_with fail
          refine (D2.out _ B.out).mono ?_
          rintro e w3 ⟨rfl, b⟩
          clear B
          have B := Lib.hid b
          clear b
          go_wp2_with fail
          refine (D3.out _ B.out).mono ?_
          rintro e w4 ⟨rfl, b⟩
          clear B
          have B := Lib.hid b
          clear b
          go_wp2_with fail
          refine (D2.out _ B.out).mono ?_
          rintro e w5 ⟨rfl, b⟩
          clear B
          have B := Lib.hid b
          clear b
          go_wp2_with fail
          refine (D4.out _ B.out).mono ?_
          rintro e w6 ⟨rfl, b⟩
          clear B
          have B := Lib.hid b
          clear b
          go_wp2_with fail
          refine (D1.out _ B.out).mono ?_
          rintro e w7 ⟨rfl, b⟩
          clear B
          have B := Lib.hid b
          clear b
          go_wp2
          go_roundw
          case rel => exact ⟨1, rfl, by omega, B.out⟩
          case measure => simp [intOf]
        · obtain ⟨e, l, g, le, ge, el, g1, g2, g3, g4, d0, d1, d2, d3, d4⟩ := Q1.out
          have D0 := Lib.hid d0
          have D1 := Lib.hid d1
          have D2 := Lib.hid d2
          have D3 := Lib.hid d3
          have D4 := Lib.hid d4
          clear d0 d1 d2 d3 d4
          go_wp2_with fail
          refine (D0.out _ B.out).mono ?_
          rintro e w1 ⟨rfl, b⟩
          clear B
          have B := Lib.hid b
          clear b
          go_wp2_with fail
          refine (D1.out _ B.out).mono ?_
          rintro e w2 ⟨rfl, b⟩
          clear B
          have B := Lib.hid b
          clear b
          go_wp2_with fail
          refine (D2.out _ B.out).mono ?_
          rintro e w3 ⟨rfl, b⟩
          clear B
          have B := Lib.hid b
          clear b
          go_wp2_with fail
          refine (D3.out _ B.out).mono ?_
          rintro e w4 ⟨rfl, b⟩
          clear B
          have B := Lib.hid b
          clear b
          go_wp2_with fail
          refine (D2.out _ B.out).mono ?_
          rintro e w5 ⟨rfl, b⟩
          clear B
          have B := Lib.hid b
          clear b
          go_wp2_with fail
          refine (D4.out _ B.out).mono ?_
          rintro e w6 ⟨rfl, b⟩
          clear B
          have B := Lib.hid b
          clear b
          go_wp2_with fail
          refine (D1.out _ B.out).mono ?_
          rintro e w7 ⟨rfl, b⟩
          clear B
          have B := Lib.hid b
          clear b
          go_wp2
          go_roundw
          case rel => exact ⟨2, rfl, by omega, B.out⟩
          case measure => simp [intOf]
        · obtain ⟨z, ne, e, k1, k2, k3, k12, tot, g1, g2, g3, hor, d0, d1, d2, d3, d4, d5, d6⟩ := Q2.out
          have D0 := Lib.hid d0
          have D1 := Lib.hid d1
          have D2 := Lib.hid d2
          have D3 := Lib.hid d3
          have D4 := Lib.hid d4
          have D5 := Lib.hid d5
          have D6 := Lib.hid d6
          clear d0 d1 d2 d3 d4 d5 d6
          rcases hor with hle | ⟨hgt, hx0⟩
          · have j1 : decide ((64 : Int) < (tot : Int)) = false := by simp; omega
            clear hle
            go_wp2_with fail
            refine (D0.out _ B.out).mono ?_
            rintro e w1 ⟨rfl, b⟩
            clear B
            have B := Lib.hid b
            clear b
            go_wp2_with fail
            refine (D1.out _ B.out).mono ?_
            rintro e w2 ⟨rfl, b⟩
            clear B
            have B := Lib.hid b
            clear b
            go_wp2_with fail
            refine (D2.out _ B.out).mono ?_
            rintro e w3 ⟨rfl, b⟩
            clear B
            have B := Lib.hid b
            clear b
            go_wp2_with fail
            refine (D3.out _ B.out).mono ?_
            rintro e w4 ⟨rfl, b⟩
            clear B
            have B := Lib.hid b
            clear b
            go_wp2_with fail
            refine (D4.out _ B.out).mono ?_
            rintro e w5 ⟨rfl, b⟩
            clear B
            have B := Lib.hid b
            clear b
            go_wp2_with fail
            refine (D5.out _ B.out).mono ?_
            rintro e w6 ⟨rfl, b⟩
            clear B
            have B := Lib.hid b
            clear b
            go_wp2_with fail
            refine (D6.out _ B.out).mono ?_
            rintro e w7 ⟨rfl, b⟩
            clear B
            have B := Lib.hid b
            clear b
            go_wp2
            go_roundw
            case rel => exact ⟨96, rfl, by omega, B.out⟩
            case measure => simp [intOf]
          · have j1 : decide ((64 : Int) < (tot : Int)) = true := by simp; omega
            have j2 : ((x : Int) != 0) = false := by rw [hx0]; rfl
            clear hgt hx0
            go_wp2_with fail
            refine (D0.out _ B.out).mono ?_
            rintro e w1 ⟨rfl, b⟩
            clear B
            have B := Lib.hid b
            clear b
            go_wp2_with fail
            refine (D1.out _ B.out).mono ?_
            rintro e w2 ⟨rfl, b⟩
            clear B
            have B := Lib.hid b
            clear b
            go_wp2_with fail
            refine (D2.out _ B.out).mono ?_
            rintro e w3 ⟨rfl, b⟩
            clear B
            have B := Lib.hid b
            clear b
            go_wp2_with fail
            refine (D3.out _ B.out).mono ?_
            rintro e w4 ⟨rfl, b⟩
            clear B
            have B := Lib.hid b
            clear b
            go_wp2_with fail
            refine (D4.out _ B.out).mono ?_
            rintro e w5 ⟨rfl, b⟩
            clear B
            have B := Lib.hid b
            clear b
            go_wp2_with fail
            refine (D5.out _ B.out).mono ?_
            rintro e w6 ⟨rfl, b⟩
            clear B
            have B := Lib.hid b
            clear b
            go_wp2_with fail
            refine (D6.out _ B.out).mono ?_
            rintro e w7 ⟨rfl, b⟩
            clear B
            have B := Lib.hid b
            clear b
            go_wp2
            go_roundw
            case rel => exact ⟨96, rfl, by omega, B.out⟩
            case measure => simp [intOf]
    · go_wp2_with fail
      refine (known_any _ (HL.out.kept B.out)).mono ?_
      rintro e w1 ⟨rfl, b⟩
      go_wp2
      go_ret
      exact ⟨rfl, B.out.trans (b.mono B.out.size)⟩
end Go.Proofs.YtdoejkdckokjdaaDoor
