/- geodelaw03.NumRing. -/
import Derived.Test.YtdoejkdckokjdaaDoorPl
import Derived.Laws.EntriesVeiled
namespace Go.Proofs.YtdoejkdckokjdaaDoor
open Go.RowKit

theorem un_cast {M : Nat} (hM : 0 < M) (z : Int) : ((un M z : Nat) : Int) = z % (M : Int) := by
  unfold un
  exact Int.toNat_of_nonneg (Int.emod_nonneg z (by omega))
theorem sg_mod {M : Nat} (b : Nat) : ∃ e : Int, sg M b = (b : Int) + (M : Int) * e := by
  unfold sg
  split
  · exact ⟨0, by omega⟩
  · exact ⟨-1, by omega⟩

theorem divs_back {M : Nat} (hM : 0 < M) (a b : Nat) (ha : a < M) : (un M ((sg M a).tdiv (sg M b)) * b % M + un M ((sg M a).tmod (sg M b))) % M = a := by
  have hq := Int.mul_tdiv_add_tmod (sg M a) (sg M b)
  generalize (sg M a).tdiv (sg M b) = q at *
  generalize (sg M a).tmod (sg M b) = r at *
  obtain ⟨e, he⟩ := sg_mod (M := M) a
  obtain ⟨f, hf⟩ := sg_mod (M := M) b
  rw [he, hf] at hq
  have : (((un M q * b % M + un M r) % M : Nat) : Int) = (a : Int) := by
    rw [Int.natCast_emod, Int.natCast_add, Int.natCast_emod, Int.natCast_mul, un_cast hM, un_cast hM, Int.emod_add_emod, Int.add_emod_emod]
    have e1 : (q % (M : Int) * (b : Int) + r) % (M : Int) = (q * (b : Int) + r) % (M : Int) := by
      rw [Int.add_emod, Int.mul_emod, Int.emod_emod_of_dvd _ (Int.dvd_refl _), ← Int.mul_emod, ← Int.add_emod]
    rw [e1, show q * (b : Int) + r = (a : Int) + (M : Int) * (e - f * q) by
      rw [Int.add_mul] at hq
      rw [Int.mul_sub, Int.mul_comm q (b : Int), ← Int.mul_assoc]; omega, Int.add_mul_emod_self_left]
    exact Int.emod_eq_of_lt (by omega) (by omega)
  omega

theorem bin14 (W M x y : Nat) : (bin (tw 106) W M x y).1 = (x + y) % M := rfl
theorem bin15 (W M x y : Nat) : (bin (tw 107) W M x y).1 = (x + (M - y)) % M := rfl
theorem bin16 (W M x y : Nat) : (bin (tw 108) W M x y).1 = x * y % M := rfl
theorem bin17 (W M x y : Nat) (h : y ≠ 0) (h2 : ¬ (2 * x = M ∧ sg M y = -1)) : (bin (tw 109) W M x y).1 = un M ((sg M x).tdiv (sg M y)) := by
  show (if y = 0 then ((0 : Nat), (30 : Nat)) else if 2 * x = M ∧ sg M y = -1 then (0, 31) else (un M ((sg M x).tdiv (sg M y)), 0)).1 = _
  rw [if_neg h, if_neg h2]
theorem bin18 (W M x y : Nat) (h : y ≠ 0) : (bin (tw 110) W M x y).1 = x / y := by
  show (if y = 0 then ((0 : Nat), (30 : Nat)) else (x / y, 0)).1 = _
  rw [if_neg h]
theorem bin19 (W M x y : Nat) (h : y ≠ 0) : (bin (tw 111) W M x y).1 = un M ((sg M x).tmod (sg M y)) := by
  show (if y = 0 then ((0 : Nat), (30 : Nat)) else (un M ((sg M x).tmod (sg M y)), 0)).1 = _
  rw [if_neg h]
theorem bin20 (W M x y : Nat) (h : y ≠ 0) : (bin (tw 112) W M x y).1 = x % y := by
  show (if y = 0 then ((0 : Nat), (30 : Nat)) else (x % y, 0)).1 = _
  rw [if_neg h]

theorem ring_pack {w : World} (hL : Laid w) {W M : Nat} (h : Wd W M) (a b c : Nat) (ha : a < M) (hb : b < M) (hc : c < M) :
    ∃ s1 m1 s2 m2 m3 m4 m5 : Nat, Tw w W 106 a b s1 ∧ Tw w W 107 s1 b a ∧ Tw w W 106 b a s1 ∧ Tw w W 108 a b m1 ∧ Tw w W 108 b a m1 ∧ Tw w W 106 b c s2 ∧ Tw w W 108 a s2 m2 ∧ Tw w W 108 a c m3 ∧ Tw w W 106 m1 m3 m2 ∧ Tw w W 108 m1 c m4 ∧ Tw w W 108 b c m5 ∧ Tw w W 108 a m5 m4 := by
  have hM := h.lt
  have L := fun c => Nat.mod_lt c (show 0 < M by omega)
  have T := fun op hop a c ha hc => Tw_is hL h op hop a c ha hc
  have c0 := T 106 (by omega) a b ha hb
  rw [bin14] at c0
  have c1 := T 107 (by omega) ((a + b) % M) b (L _) hb
  rw [bin15, show ((a + b) % M + (M - b)) % M = a by rcases h with ⟨_, rfl⟩ | ⟨_, rfl⟩ <;> omega] at c1
  have c2 := T 106 (by omega) b a hb ha
  rw [bin14, Nat.add_comm] at c2
  have c3 := T 108 (by omega) a b ha hb
  rw [bin16] at c3
  have c4 := T 108 (by omega) b a hb ha
  rw [bin16, Nat.mul_comm] at c4
  have c5 := T 106 (by omega) b c hb hc
  rw [bin14] at c5
  have c6 := T 108 (by omega) a ((b + c) % M) ha (L _)
  rw [bin16, Nat.mul_mod_mod] at c6
  have c7 := T 108 (by omega) a c ha hc
  rw [bin16] at c7
  have c8 := T 106 (by omega) (a * b % M) (a * c % M) (L _) (L _)
  rw [bin14, Nat.mod_add_mod, Nat.add_mod_mod, ← Nat.mul_add] at c8
  have c9 := T 108 (by omega) (a * b % M) c (L _) hc
  rw [bin16, Nat.mod_mul_mod] at c9
  have c10 := T 108 (by omega) b c hb hc
  rw [bin16] at c10
  have c11 := T 108 (by omega) a (b * c % M) ha (L _)
  rw [bin16, Nat.mul_mod_mod, ← Nat.mul_assoc] at c11
  exact ⟨_, _, _, _, _, _, _, c0, c1, c2, c3, c4, c5, c6, c7, c8, c9, c10, c11⟩

theorem ring_pack2 {w : World} (hL : Laid w) {W M : Nat} (h : Wd W M) (a b : Nat) (ha : a < M) (hb : b < M) (h0 : b ≠ 0) :
    ∃ q r u : Nat, Tw w W 110 a b q ∧ Tw w W 112 a b r ∧ Tw w W 108 q b u ∧ Tw w W 106 u r a := by
  have hM := h.lt
  have L := fun c => Nat.mod_lt c (show 0 < M by omega)
  have T := fun op hop a c ha hc => Tw_is hL h op hop a c ha hc
  have d := Nat.div_add_mod a b
  have hq : a / b < M := Nat.lt_of_le_of_lt (Nat.div_le_self _ _) ha
  have hr : a % b < M := Nat.lt_of_le_of_lt (Nat.mod_le _ _) ha
  have hu : a / b * b ≤ a := Nat.div_mul_le_self _ _
  have c0 := T 110 (by omega) a b ha hb
  rw [bin18 _ _ _ _ h0] at c0
  have c1 := T 112 (by omega) a b ha hb
  rw [bin20 _ _ _ _ h0] at c1
  have c2 := T 108 (by omega) (a / b) b hq hb
  rw [bin16, Nat.mod_eq_of_lt (by omega)] at c2
  have c3 := T 106 (by omega) (a / b * b) (a % b) (by omega) hr
  rw [bin14, Nat.mul_comm, d, Nat.mod_eq_of_lt ha] at c3
  rw [Nat.mul_comm] at c2
  exact ⟨_, _, _, c0, c1, c2, c3⟩

theorem ring_pack3 {w : World} (hL : Laid w) {W M : Nat} (h : Wd W M) (a b : Nat) (ha : a < M) (hb : b < M) (h0 : b ≠ 0) :
    (Tw w W 107 0 b 1) ∨ ∃ n q r u : Nat, ((n : Int) == 1) = false ∧ Tw w W 107 0 b n ∧ Tw w W 109 a b q ∧ Tw w W 111 a b r ∧ Tw w W 108 q b u ∧ Tw w W 106 u r a := by
  have hM := h.lt
  have L := fun c => Nat.mod_lt c (show 0 < M by omega)
  have T := fun op hop a c ha hc => Tw_is hL h op hop a c ha hc
  have c0 := T 107 (by omega) 0 b (by omega) hb
  rw [bin15, Nat.zero_add, Nat.mod_eq_of_lt (by omega)] at c0
  by_cases e : M - b = 1
  · left
    rw [e] at c0
    exact c0
  · right
    have hn : sg M b ≠ -1 := by
      unfold sg
      split <;> omega
    have c1 := T 109 (by omega) a b ha hb
    rw [bin17 _ _ _ _ h0 (fun x => hn x.2)] at c1
    have c2 := T 111 (by omega) a b ha hb
    rw [bin19 _ _ _ _ h0] at c2
    have c3 := T 108 (by omega) (un M ((sg M a).tdiv (sg M b))) b (un_lt h _) hb
    rw [bin16] at c3
    have c4 := T 106 (by omega) (un M ((sg M a).tdiv (sg M b)) * b % M) (un M ((sg M a).tmod (sg M b))) (L _) (un_lt h _)
    rw [bin14, divs_back (by omega) a b ha] at c4
    exact ⟨_, _, _, _, by simp; omega, c0, c1, c2, c3, c4⟩

theorem or_nat (x y : Int) (h1 : 0 ≤ x) (h2 : x < 18446744073709551616) (h3 : 0 ≤ y) (h4 : y < 18446744073709551616) : ∃ n : Nat, n < 18446744073709551616 ∧ bits .or .u64 x y = (n : Int) := by
  obtain ⟨p, rfl⟩ : ∃ p : Nat, x = p := ⟨x.toNat, by omega⟩
  obtain ⟨q, rfl⟩ : ∃ q : Nat, y = q := ⟨y.toNat, by omega⟩
  exact ⟨p ||| q, Nat.or_lt_two_pow (n := 64) (by omega) (by omega), u64_or_nat p q (by omega) (by omega)⟩
theorem up_or (a b : Nat) (hb : b < 18446744073709551616) : ∃ n : Nat, n < 18446744073709551616 ∧ bits .or .u64 (IntKind.u64.wrap ((a : Int) * 4294967296)) (b : Int) = (n : Int) := by
  refine or_nat _ _ ?_ ?_ (by omega) (by omega) <;> (rw [IntKind.wrap_u64]; omega)

set_option maxRecDepth 100000 in
set_option maxHeartbeats 4000000 in
theorem NumRing_walk (a b c : Nat) (ha : a < 18446744073709551616) (hb : b < 18446744073709551616) (hc : c < 18446744073709551616) (w : World) (hL : Laid w) :
    Calls Tryd.prog 4 #[.int .u64 a, .int .u64 b, .int .u64 c] w fun e w' => e = .returned (.bool true) ∧ Below w.heap.size w w' := by
  have HL := Lib.hid hL
  have HA := Lib.hid (And.intro ha (And.intro hb hc))
  clear hL ha hb hc
  go_enter Tryd.func4, Tryd.ntmps4
  go_wp2_with fail
  go_loopw [0, 1, 2, 7] (fun va vb vc b wr => ∃ W a b1 c : Nat, va = .int .u64 (a : Int) ∧ vb = .int .u64 (b1 : Int) ∧ vc = .int .u64 (c : Int) ∧ b = .int .i64 (W : Int) ∧ (W = 32 ∨ W = 64 ∨ W = 96) ∧ (a < 18446744073709551616 ∧ b1 < 18446744073709551616 ∧ c < 18446744073709551616) ∧ Below w.heap.size w wr) (fun _ _ _ b _ => 100 - (intOf b).toNat)
  case atStart => exact ⟨32, a, b, c, rfl, rfl, rfl, rfl, by omega, HA.out, Below.refl _ _⟩
  case round =>
    clear HA
    obtain ⟨W, a', b', c', rfl, rfl, rfl, rfl, hW, hl, hb⟩ := hrel
    have HA := Lib.hid hl
    have B := Lib.hid hb
    clear hb hl
    rcases hW with rfl | rfl | rfl
    · obtain ⟨x, hx⟩ : ∃ x : Nat, x = a' / 4294967296 := ⟨_, rfl⟩
      obtain ⟨y, hy⟩ : ∃ y : Nat, y = b' / 4294967296 := ⟨_, rfl⟩
      obtain ⟨z, hz⟩ : ∃ z : Nat, z = c' / 4294967296 := ⟨_, rfl⟩
      have hxM : x < 4294967296 := by have := HA.out; omega
      have hyM : y < 4294967296 := by have := HA.out; omega
      have hzM : z < 4294967296 := by have := HA.out; omega
      have hd : Wd 32 4294967296 := by unfold Wd; omega
      obtain ⟨s1, m1, s2, m2, m3, m4, m5, c0, c1, c2, c3, c4, c5, c6, c7, c8, c9, c10, c11⟩ := ring_pack HL.out hd x y z hxM hyM hzM
      have R2 := Lib.hid (fun h0 => ring_pack2 HL.out hd x y hxM hyM h0)
      have R3 := Lib.hid (fun h0 => ring_pack3 HL.out hd x y hxM hyM h0)
      obtain ⟨na, la, oa⟩ := up_or x x (by omega)
      obtain ⟨nb, lb, ob⟩ := up_or y z (by omega)
      obtain ⟨nc, lc, oc⟩ := up_or z y (by omega)
      have HN := Lib.hid (And.intro la (And.intro lb lc))
      have C0 := Lib.hid c0
      have C1 := Lib.hid c1
      have C2 := Lib.hid c2
      have C3 := Lib.hid c3
      have C4 := Lib.hid c4
      have C5 := Lib.hid c5
      have C6 := Lib.hid c6
      have C7 := Lib.hid c7
      have C8 := Lib.hid c8
      have C9 := Lib.hid c9
      have C10 := Lib.hid c10
      have C11 := Lib.hid c11
      have ea : (a' : Int) / 4294967296 = (x : Int) := by omega
      have eb : (b' : Int) / 4294967296 = (y : Int) := by omega
      have ec : (c' : Int) / 4294967296 = (z : Int) := by omega
      clear hx hy hz
      clear c0 c1 c2 c3 c4 c5 c6 c7 c8 c9 c10 c11 la lb lc hxM hyM hzM hd
      go_wp2_with fail
      refine (C0.out _ B.out).mono ?_
      rintro e w1 ⟨rfl, b⟩
      clear B
      have B := Lib.hid b
      clear b
      go_wp2_with fail
      refine (C1.out _ B.out).mono ?_
      rintro e w2 ⟨rfl, b⟩
      clear B
      have B := Lib.hid b
      clear b
      go_wp2_with fail
      refine (C0.out _ B.out).mono ?_
      rintro e w3 ⟨rfl, b⟩
      clear B
      have B := Lib.hid b
      clear b
      go_wp2_with fail
      refine (C2.out _ B.out).mono ?_
      rintro e w4 ⟨rfl, b⟩
      clear B
      have B := Lib.hid b
      clear b
      go_wp2_with fail
      refine (C3.out _ B.out).mono ?_
      rintro e w5 ⟨rfl, b⟩
      clear B
      have B := Lib.hid b
      clear b
      go_wp2_with fail
      refine (C4.out _ B.out).mono ?_
      rintro e w6 ⟨rfl, b⟩
      clear B
      have B := Lib.hid b
      clear b
      go_wp2_with fail
      refine (C5.out _ B.out).mono ?_
      rintro e w7 ⟨rfl, b⟩
      clear B
      have B := Lib.hid b
      clear b
      go_wp2_with fail
      refine (C6.out _ B.out).mono ?_
      rintro e w8 ⟨rfl, b⟩
      clear B
      have B := Lib.hid b
      clear b
      go_wp2_with fail
      refine (C3.out _ B.out).mono ?_
      rintro e w9 ⟨rfl, b⟩
      clear B
      have B := Lib.hid b
      clear b
      go_wp2_with fail
      refine (C7.out _ B.out).mono ?_
      rintro e w10 ⟨rfl, b⟩
      clear B
      have B := Lib.hid b
      clear b
      go_wp2_with fail
      refine (C8.out _ B.out).mono ?_
      rintro e w11 ⟨rfl, b⟩
      clear B
      have B := Lib.hid b
      clear b
      go_wp2_with fail
      refine (C3.out _ B.out).mono ?_
      rintro e w12 ⟨rfl, b⟩
      clear B
      have B := Lib.hid b
      clear b
      go_wp2_with fail
      refine (C9.out _ B.out).mono ?_
      rintro e w13 ⟨rfl, b⟩
      clear B
      have B := Lib.hid b
      clear b
      go_wp2_with fail
      refine (C10.out _ B.out).mono ?_
      rintro e w14 ⟨rfl, b⟩
      clear B
      have B := Lib.hid b
      clear b
      go_wp2_with fail
      refine (C11.out _ B.out).mono ?_
      rintro e w15 ⟨rfl, b⟩
      clear B
      have B := Lib.hid b
      clear b
      go_wp2_with fail
      go_loopw [8] (fun b wr => ∃ i : Nat, b = .int .i64 (i : Int) ∧ (i = 0 ∨ i = 1 ∨ i = 2) ∧ Below w.heap.size w wr) (fun b _ => 100 - (intOf b).toNat)
      case atStart => exact ⟨0, rfl, by omega, B.out⟩
      case round =>
        clear B
        obtain ⟨i, rfl, hi, hb⟩ := hrel
        have B := Lib.hid hb
        clear hb
        by_cases h0 : y = 0
        · have z0 : ((y : Int) != 0) = false := by rw [h0]; rfl
          clear h0
          rcases hi with rfl | rfl | rfl
          · go_wp2
            go_roundw
            case rel => exact ⟨64, na, nb, nc, rfl, rfl, rfl, rfl, by omega, HN.out, B.out⟩
            case measure => simp [intOf]
          · go_wp2
            go_roundw
            case rel => exact ⟨64, na, nb, nc, rfl, rfl, rfl, rfl, by omega, HN.out, B.out⟩
            case measure => simp [intOf]
          · go_wp2
            go_roundw
            case rel => exact ⟨64, na, nb, nc, rfl, rfl, rfl, rfl, by omega, HN.out, B.out⟩
            case measure => simp [intOf]
        · have z0 : ((y : Int) != 0) = true := by simp; omega
          rcases hi with rfl | rfl | rfl
          · rcases R3.out h0 with d0 | ⟨n, q, r, u, hn, d0, d1, d2, d3, d4⟩
            · have D0 := Lib.hid d0
              clear d0 h0
              go_wp2_with fail
              refine (D0.out _ B.out).mono ?_
              rintro e w1 ⟨rfl, b⟩
              clear B
              have B := Lib.hid b
              clear b
              go_wp2
              go_roundw
              case rel => exact ⟨1, rfl, by omega, B.out⟩
              case measure => simp [intOf]
            · have D0 := Lib.hid d0
              have D1 := Lib.hid d1
              have D2 := Lib.hid d2
              have D3 := Lib.hid d3
              have D4 := Lib.hid d4
              clear d0 d1 d2 d3 d4 h0
              go_wp2_with fail
              refine (D0.out _ B.out).mono ?_
              rintro e w1 ⟨rfl, b⟩
              clear B
              have B := Lib.hid b
              clear b
              go_wp2_with fail
              refine (D1.out _ B.out).mono ?_
              rintro e w2 ⟨rfl, b⟩
              clear B
              have B := Lib.hid b
              clear b
              go_wp2_with fail
              refine (D2.out _ B.out).mono ?_
              rintro e w3 ⟨rfl, b⟩
              clear B
              have B := Lib.hid b
              clear b
              go_wp2_with fail
              refine (D3.out _ B.out).mono ?_
              rintro e w4 ⟨rfl, b⟩
              clear B
              have B := Lib.hid b
              clear b
              go_wp2_with fail
              refine (D4.out _ B.out).mono ?_
              rintro e w5 ⟨rfl, b⟩
              clear B
              have B := Lib.hid b
              clear b
              go_wp2
              go_roundw
              case rel => exact ⟨1, rfl, by omega, B.out⟩
              case measure => simp [intOf]
          · obtain ⟨q, r, u, d0, d1, d2, d3⟩ := R2.out h0
            have D0 := Lib.hid d0
            have D1 := Lib.hid d1
            have D2 := Lib.hid d2
            have D3 := Lib.hid d3
            clear d0 d1 d2 d3 h0
            go_wp2_with fail
            refine (D0.out _ B.out).mono ?_
            rintro e w1 ⟨rfl, b⟩
            clear B
            have B := Lib.hid b
            clear b
            go_wp2_with fail
            refine (D1.out _ B.out).mono ?_
            rintro e w2 ⟨rfl, b⟩
            clear B
            have B := Lib.hid b
            clear b
            go_wp2_with fail
            refine (D2.out _ B.out).mono ?_
            rintro e w3 ⟨rfl, b⟩
            clear B
            have B := Lib.hid b
            clear b
            go_wp2_with fail
            refine (D3.out _ B.out).mono ?_
            rintro e w4 ⟨rfl, b⟩
            clear B
            have B := Lib.hid b
            clear b
            go_wp2
            go_roundw
            case rel => exact ⟨2, rfl, by omega, B.out⟩
            case measure => simp [intOf]
          · clear h0
            go_wp2
            go_roundw
            case rel => exact ⟨64, na, nb, nc, rfl, rfl, rfl, rfl, by omega, HN.out, B.out⟩
            case measure => simp [intOf]
    · obtain ⟨x, hx⟩ : ∃ x : Nat, x = a' := ⟨_, rfl⟩
      obtain ⟨y, hy⟩ : ∃ y : Nat, y = b' := ⟨_, rfl⟩
      obtain ⟨z, hz⟩ : ∃ z : Nat, z = c' := ⟨_, rfl⟩
      have hxM : x < 18446744073709551616 := by have := HA.out; omega
      have hyM : y < 18446744073709551616 := by have := HA.out; omega
      have hzM : z < 18446744073709551616 := by have := HA.out; omega
      have hd : Wd 64 18446744073709551616 := by unfold Wd; omega
      obtain ⟨s1, m1, s2, m2, m3, m4, m5, c0, c1, c2, c3, c4, c5, c6, c7, c8, c9, c10, c11⟩ := ring_pack HL.out hd x y z hxM hyM hzM
      have R2 := Lib.hid (fun h0 => ring_pack2 HL.out hd x y hxM hyM h0)
      have R3 := Lib.hid (fun h0 => ring_pack3 HL.out hd x y hxM hyM h0)
      obtain ⟨na, la, oa⟩ := up_or x x (by omega)
      obtain ⟨nb, lb, ob⟩ := up_or y z (by omega)
      obtain ⟨nc, lc, oc⟩ := up_or z y (by omega)
      have HN := Lib.hid (And.intro la (And.intro lb lc))
      have C0 := Lib.hid c0
      have C1 := Lib.hid c1
      have C2 := Lib.hid c2
      have C3 := Lib.hid c3
      have C4 := Lib.hid c4
      have C5 := Lib.hid c5
      have C6 := Lib.hid c6
      have C7 := Lib.hid c7
      have C8 := Lib.hid c8
      have C9 := Lib.hid c9
      have C10 := Lib.hid c10
      have C11 := Lib.hid c11
      subst hx
      subst hy
      subst hz
      clear c0 c1 c2 c3 c4 c5 c6 c7 c8 c9 c10 c11 la lb lc hxM hyM hzM hd
      go_wp2_with fail
      refine (C0.out _ B.out).mono ?_
      rintro e w1 ⟨rfl, b⟩
      clear B
      have B := Lib.hid b
      clear b
      go_wp2_with fail
      refine (C1.out _ B.out).mono ?_
      rintro e w2 ⟨rfl, b⟩
      clear B
      have B := Lib.hid b
      clear b
      go_wp2_with fail
      refine (C0.out _ B.out).mono ?_
      rintro e w3 ⟨rfl, b⟩
      clear B
      have B := Lib.hid b
      clear b
      go_wp2_with fail
      refine (C2.out _ B.out).mono ?_
      rintro e w4 ⟨rfl, b⟩
      clear B
      have B := Lib.hid b
      clear b
      go_wp2_with fail
      refine (C3.out _ B.out).mono ?_
      rintro e w5 ⟨rfl, b⟩
      clear B
      have B := Lib.hid b
      clear b
      go_wp2_with fail
      refine (C4.out _ B.out).mono ?_
      rintro e w6 ⟨rfl, b⟩
      clear B
      have B := Lib.hid b
      clear b
      go_wp2_with fail
      refine (C5.out _ B.out).mono ?_
      rintro e w7 ⟨rfl, b⟩
      clear B
      have B := Lib.hid b
      clear b
      go_wp2_with fail
      refine (C6.out _ B.out).mono ?_
      rintro e w8 ⟨rfl, b⟩
      clear B
      have B := Lib.hid b
      clear b
      go_wp2_with fail
      refine (C3.out _ B.out).mono ?_
      rintro e w9 ⟨rfl, b⟩
      clear B
      have B := Lib.hid b
      clear b
      go_wp2_with fail
      refine (C7.out _ B.out).mono ?_
      rintro e w10 ⟨rfl, b⟩
      clear B
      have B := Lib.hid b
      clear b
      go_wp2_with fail
      refine (C8.out _ B.out).mono ?_
      rintro e w11 ⟨rfl, b⟩
      clear B
      have B := Lib.hid b
      clear b
      go_wp2_with fail
      refine (C3.out _ B.out).mono ?_
      rintro e w12 ⟨rfl, b⟩
      clear B
      have B := Lib.hid b
      clear b
      go_wp2_with fail
      refine (C9.out _ B.out).mono ?_
      rintro e w13 ⟨rfl, b⟩
      clear B
      have B := Lib.hid b
      clear b
      go_wp2_with fail
      refine (C10.out _ B.out).mono ?_
      rintro e w14 ⟨rfl, b⟩
      clear B
      have B := Lib.hid b
      clear b
      go_wp2_with fail
      refine (C11.out _ B.out).mono ?_
      rintro e w15 ⟨rfl, b⟩
      clear B
      have B := Lib.hid b
      clear b
      go_wp2_with fail
      go_loopw [8] (fun b wr => ∃ i : Nat, b = .int .i64 (i : Int) ∧ (i = 0 ∨ i = 1 ∨ i = 2) ∧ Below w.heap.size w wr) (fun b _ => 100 - (intOf b).toNat)
      case atStart => exact ⟨0, rfl, by omega, B.out⟩
      case round =>
        clear B
        obtain ⟨i, rfl, hi, hb⟩ := hrel
        have B := Lib.hid hb
        clear hb
        by_cases h0 : y = 0
        · have z0 : ((y : Int) != 0) = false := by rw [h0]; rfl
          clear h0
          rcases hi with rfl | rfl | rfl
          · go_wp2
            go_roundw
            case rel => exact ⟨96, na, nb, nc, rfl, rfl, rfl, rfl, by omega, HN.out, B.out⟩
            case measure => simp [intOf]
          · go_wp2
            go_roundw
            case rel => exact ⟨96, na, nb, nc, rfl, rfl, rfl, rfl, by omega, HN.out, B.out⟩
            case measure => simp [intOf]
          · go_wp2
            go_roundw
            case rel => exact ⟨96, na, nb, nc, rfl, rfl, rfl, rfl, by omega, HN.out, B.out⟩
            case measure => simp [intOf]
        · have z0 : ((y : Int) != 0) = true := by simp; omega
          rcases hi with rfl | rfl | rfl
          · rcases R3.out h0 with d0 | ⟨n, q, r, u, hn, d0, d1, d2, d3, d4⟩
            · have D0 := Lib.hid d0
              clear d0 h0
              go_wp2_with fail
              refine (D0.out _ B.out).mono ?_
              rintro e w1 ⟨rfl, b⟩
              clear B
              have B := Lib.hid b
              clear b
              go_wp2
              go_roundw
              case rel => exact ⟨1, rfl, by omega, B.out⟩
              case measure => simp [intOf]
            · have D0 := Lib.hid d0
              have D1 := Lib.hid d1
              have D2 := Lib.hid d2
              have D3 := Lib.hid d3
              have D4 := Lib.hid d4
              clear d0 d1 d2 d3 d4 h0
              go_wp2_with fail
              refine (D0.out _ B.out).mono ?_
              rintro e w1 ⟨rfl, b⟩
              clear B
              have B := Lib.hid b
              clear b
              go_wp2_with fail
              refine (D1.out _ B.out).mono ?_
              rintro e w2 ⟨rfl, b⟩
              clear B
              have B := Lib.hid b
              clear b
              go_wp2_with fail
              refine (D2.out _ B.out).mono ?_
              rintro e w3 ⟨rfl, b⟩
              clear B
              have B := Lib.hid b
              clear b
              go_wp2_with fail
              refine (D3.out _ B.out).mono ?_
              rintro e w4 ⟨rfl, b⟩
              clear B
              have B := Lib.hid b
              clear b
              go_wp2_with fail
              refine (D4.out _ B.out).mono ?_
              rintro e w5 ⟨rfl, b⟩
              clear B
              have B := Lib.hid b
              clear b
              go_wp2
              go_roundw
              case rel => exact ⟨1, rfl, by omega, B.out⟩
              case measure => simp [intOf]
          · obtain ⟨q, r, u, d0, d1, d2, d3⟩ := R2.out h0
            have D0 := Lib.hid d0
            have D1 := Lib.hid d1
            have D2 := Lib.hid d2
            have D3 := Lib.hid d3
            clear d0 d1 d2 d3 h0
            go_wp2_with fail
            refine (D0.out _ B.out).mono ?_
            rintro e w1 ⟨rfl, b⟩
            clear B
            have B := Lib.hid b
            clear b
            go_wp2_with fail
            refine (D1.out _ B.out).mono ?_
            rintro e w2 ⟨rfl, b⟩
            clear B
            have B := Lib.hid b
            clear b
            go_wp2_with fail
            refine (D2.out _ B.out).mono ?_
            rintro e w3 ⟨rfl, b⟩
            clear B
            have B := Lib.hid b
            clear b
            go_wp2_with fail
            refine (D3.out _ B.out).mono ?_
            rintro e w4 ⟨rfl, b⟩
            clear B
            have B := Lib.hid b
            clear b
            go_wp2
            go_roundw
            case rel => exact ⟨2, rfl, by omega, B.out⟩
            case measure => simp [intOf]
          · clear h0
            go_wp2
            go_roundw
            case rel => exact ⟨96, na, nb, nc, rfl, rfl, rfl, rfl, by omega, HN.out, B.out⟩
            case measure => simp [intOf]
    · go_wp2_with fail
      refine (known_any _ (HL.out.kept B.out)).mono ?_
      rintro e w1 ⟨rfl, b⟩
      go_wp2
      go_ret
      exact ⟨rfl, B.out.trans (b.mono B.out.size)⟩
end Go.Proofs.YtdoejkdckokjdaaDoor
