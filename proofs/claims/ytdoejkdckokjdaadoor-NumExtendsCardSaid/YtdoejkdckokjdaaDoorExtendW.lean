/- geodelaw03.NumExtends. -/
import Derived.Test.YtdoejkdckokjdaaDoorPl
import Derived.Laws.EntriesVeiled
namespace Go.Proofs.YtdoejkdckokjdaaDoor
open Go.RowKit

theorem One_at {w : World} (hL : Laid w) (op p W M : Nat) (ho : op < 300) (hh : hit (op : Int) = some (p, W)) (hM : po W = M) (hm : M ≤ 18446744073709551616) (x : Nat) (hx : x < M) : One w op x (una p W M x).1 (una p W M x).2 := by
  have := One_is hL (op : Int) x (by omega) (by omega) (by omega)
  rwa [show oneV (op : Int) x = una p W M x by unfold oneV; rw [hh]; dsimp only; rw [hM, if_pos hx]] at this

/-- extended again it is the same, and its lowest bits stay -/
theorem ext_mod {V N W M : Nat} (hf : Fd V N) (h : Wd W M) (n : Nat) : un M (sg N (n % N)) % N = n % N ∧ un M (sg N (n % N)) % 256 = n % 256 ∧ un M (sg N (n % N)) < M := by
  refine ⟨?_, ?_, un_lt h _⟩ <;>
  · unfold un sg
    rcases hf with ⟨_, rfl⟩ | ⟨_, rfl⟩ | ⟨_, rfl⟩ <;> rcases h with ⟨_, rfl⟩ | ⟨_, rfl⟩ <;> split <;> omega
theorem and255 (n : Nat) (h : n < 18446744073709551616) : bits .and .u64 (n : Int) 255 = ((n % 256 : Nat) : Int) := by
  have := u64_and_nat n 255 h (by omega)
  rw [show (255 : Nat) = 2 ^ 8 - 1 from rfl, Nat.and_two_pow_sub_one_eq_mod] at this
  exact this

theorem sg_up (z : Nat) (hz : z < 4294967296) : sg 18446744073709551616 (un 18446744073709551616 (sg 4294967296 z)) = sg 4294967296 z := by
  have h1 : sg 4294967296 z = if 2 * z < 4294967296 then (z : Int) else (z : Int) - (4294967296 : Nat) := rfl
  rw [h1]
  unfold un sg
  split <;> split <;> omega
theorem un_down (z : Nat) (hz : z < 4294967296) : un 18446744073709551616 (sg 4294967296 z) % 4294967296 = z := by
  unfold un sg
  split <;> omega
theorem una33 (z : Nat) (hz : z < 4294967296) : (una 33 32 4294967296 z) = (un 18446744073709551616 (sg 4294967296 z), 0) := by
  have : una 33 32 4294967296 z = (un 18446744073709551616 (sg 4294967296 (z % 4294967296)), 0) := rfl
  rw [this, Nat.mod_eq_of_lt hz]
theorem una32 (W M z : Nat) : una 32 W M z = (z % 4294967296, 0) := rfl
theorem bin3 (W M x y : Nat) : (bin (tw 72) W M x y).1 = bit (decide (sg M x < sg M y)) := rfl

theorem bin4 (W M x y : Nat) : (bin (tw 73) W M x y).1 = bit (decide (x < y)) := rfl
theorem una34 (W M z : Nat) : una 34 W M z = (z, 0) := rfl

theorem ext_pack {w : World} (hL : Laid w) (x y : Nat) (hx : x < 4294967296) (hy : y < 4294967296) :
    ∃ p q r : Nat, One w 172 x p 0 ∧ One w 172 y q 0 ∧ One w 167 p x 0 ∧ Tw w 64 72 p q r ∧ Tw w 32 72 x y r := by
  have h64 : Wd 64 18446744073709551616 := by unfold Wd; omega
  have h32 : Wd 32 4294967296 := by unfold Wd; omega
  have key : ∀ z, z < 4294967296 → ∃ p : Nat, una 33 32 4294967296 z = (p, 0) ∧ p < 18446744073709551616 ∧ p % 4294967296 = z ∧ sg 18446744073709551616 p = sg 4294967296 z := fun z hz =>
    ⟨_, una33 z hz, un_lt h64 _, un_down z hz, sg_up z hz⟩
  obtain ⟨p, u0, l0, d0, s0⟩ := key x hx
  obtain ⟨q, u1, l1, d1, s1⟩ := key y hy
  have c0 := One_at hL 172 33 32 4294967296 (by omega) rfl rfl (by omega) x hx
  have c1 := One_at hL 172 33 32 4294967296 (by omega) rfl rfl (by omega) y hy
  rw [u0] at c0
  rw [u1] at c1
  have c2 := One_at hL 167 32 64 18446744073709551616 (by omega) rfl rfl (by omega) _ l0
  rw [una32, d0] at c2
  have c3 := Tw_is hL h64 72 (by omega) _ _ l0 l1
  have c4 := Tw_is hL h32 72 (by omega) x y hx hy
  rw [bin3, s0, s1] at c3
  rw [bin3] at c4
  exact ⟨p, q, _, c0, c1, c2, c3, c4⟩

theorem ext_pack2 {w : World} (hL : Laid w) (x y : Nat) (hx : x < 4294967296) (hy : y < 4294967296) :
    ∃ r : Nat, One w 173 x x 0 ∧ One w 173 y y 0 ∧ One w 167 x x 0 ∧ Tw w 64 73 x y r ∧ Tw w 32 73 x y r := by
  have h64 : Wd 64 18446744073709551616 := by unfold Wd; omega
  have h32 : Wd 32 4294967296 := by unfold Wd; omega
  have c0 := One_at hL 173 34 32 4294967296 (by omega) rfl rfl (by omega) x hx
  have c1 := One_at hL 173 34 32 4294967296 (by omega) rfl rfl (by omega) y hy
  rw [una34] at c0 c1
  have c2 := One_at hL 167 32 64 18446744073709551616 (by omega) rfl rfl (by omega) x (by omega)
  rw [una32, Nat.mod_eq_of_lt hx] at c2
  have c3 := Tw_is hL h64 73 (by omega) x y (by omega) (by omega)
  have c4 := Tw_is hL h32 73 (by omega) x y hx hy
  rw [bin4] at c3 c4
  exact ⟨_, c0, c1, c2, c3, c4⟩

theorem ext_pack3 {w : World} (hL : Laid w) (op p W M V N : Nat) (ho : op < 300) (hf : Fd V N) (h : Wd W M) (hh : hit (op : Int) = some (p, W)) (hM : po W = M) (hu : ∀ n, una p W M n = (un M (sg N (n % N)), 0)) (n : Nat) (hn : n < M) :
    ∃ r m : Nat, One w op n r 0 ∧ One w op r r 0 ∧ bits .and .u64 (r : Int) 255 = (m : Int) ∧ bits .and .u64 (n : Int) 255 = (m : Int) := by
  have hm := h.lt
  have c0 := One_at hL op p W M ho hh hM (by omega) n hn
  rw [hu n] at c0
  obtain ⟨e1, e2, e3⟩ := ext_mod hf h n
  have c1 := One_at hL op p W M ho hh hM (by omega) _ e3
  rw [hu, e1] at c1
  refine ⟨_, n % 256, c0, c1, ?_, and255 n (by omega)⟩
  rw [and255 _ (by omega), e2]

set_option maxRecDepth 100000 in
set_option maxHeartbeats 4000000 in
theorem NumExtends_walk (a b : Nat) (ha : a < 18446744073709551616) (hb : b < 18446744073709551616) (w : World) (hL : Laid w) :
    Calls Tryd.prog 6 #[.int .u64 a, .int .u64 b] w fun e w' => e = .returned (.bool true) ∧ Below w.heap.size w w' := by
  have HL := Lib.hid hL
  obtain ⟨x, hx⟩ : ∃ x : Nat, x = a / 4294967296 := ⟨_, rfl⟩
  obtain ⟨y, hy⟩ : ∃ y : Nat, y = b / 4294967296 := ⟨_, rfl⟩
  have hxM : x < 4294967296 := by omega
  have hyM : y < 4294967296 := by omega
  have e1 : (a : Int) / 4294967296 = (x : Int) := by omega
  have e2 : (b : Int) / 4294967296 = (y : Int) := by omega
  have PA := Lib.hid (ext_pack hL x y hxM hyM)
  have PB := Lib.hid (ext_pack2 hL x y hxM hyM)
  have h64 : Wd 64 18446744073709551616 := by unfold Wd; omega
  have h32 : Wd 32 4294967296 := by unfold Wd; omega
  have P0 := Lib.hid (ext_pack3 hL 192 29 32 4294967296 8 256 (by omega) (by unfold Fd; omega) h32 rfl rfl (fun _ => rfl) x hxM)
  have P1 := Lib.hid (ext_pack3 hL 193 30 32 4294967296 16 65536 (by omega) (by unfold Fd; omega) h32 rfl rfl (fun _ => rfl) x hxM)
  have P2 := Lib.hid (ext_pack3 hL 194 29 64 18446744073709551616 8 256 (by omega) (by unfold Fd; omega) h64 rfl rfl (fun _ => rfl) a ha)
  have P3 := Lib.hid (ext_pack3 hL 195 30 64 18446744073709551616 16 65536 (by omega) (by unfold Fd; omega) h64 rfl rfl (fun _ => rfl) a ha)
  have P4 := Lib.hid (ext_pack3 hL 196 31 64 18446744073709551616 32 4294967296 (by omega) (by unfold Fd; omega) h64 rfl rfl (fun _ => rfl) a ha)
  clear hL ha hb hx hy hxM hyM h64 h32
  go_enter Tryd.func6, Tryd.ntmps6
  go_wp2_with fail
  go_loopw [7] (fun b wr => ∃ i : Nat, b = .int .i64 (i : Int) ∧ (i = 0 ∨ i = 1 ∨ i = 2) ∧ Below w.heap.size w wr) (fun b _ => 100 - (intOf b).toNat)
  case atStart => exact ⟨0, rfl, by omega, Below.refl _ _⟩
  case round =>
    obtain ⟨i, rfl, hi, hb⟩ := hrel
    have B := Lib.hid hb
    clear hb
    rcases hi with rfl | rfl | rfl
    · obtain ⟨p, q, r, c0, c1, c2, c3, c4⟩ := PA.out
      have C0 := Lib.hid c0
      have C1 := Lib.hid c1
      have C2 := Lib.hid c2
      have C3 := Lib.hid c3
      have C4 := Lib.hid c4
      clear c0 c1 c2 c3 c4
      go_wp2_with fail
      refine (C0.out _ B.out).mono ?_
      rintro e w1 ⟨rfl, b⟩
      clear B
      have B := Lib.hid b
      clear b
      go_wp2_with fail
      refine (C1.out _ B.out).mono ?_
      rintro e w2 ⟨rfl, b⟩
      clear B
      have B := Lib.hid b
      clear b
      go_wp2_with fail
      refine (C2.out _ B.out).mono ?_
      rintro e w3 ⟨rfl, b⟩
      clear B
      have B := Lib.hid b
      clear b
      go_wp2_with fail
      refine (C3.out _ B.out).mono ?_
      rintro e w4 ⟨rfl, b⟩
      clear B
      have B := Lib.hid b
      clear b
      go_wp2_with fail
      refine (C4.out _ B.out).mono ?_
      rintro e w5 ⟨rfl, b⟩
      clear B
      have B := Lib.hid b
      clear b
      go_wp2
      go_roundw
      case rel => exact ⟨1, rfl, by omega, B.out⟩
      case measure => simp [intOf]
    · obtain ⟨r, c0, c1, c2, c3, c4⟩ := PB.out
      have C0 := Lib.hid c0
      have C1 := Lib.hid c1
      have C2 := Lib.hid c2
      have C3 := Lib.hid c3
      have C4 := Lib.hid c4
      clear c0 c1 c2 c3 c4
      go_wp2_with fail
      refine (C0.out _ B.out).mono ?_
      rintro e w1 ⟨rfl, b⟩
      clear B
      have B := Lib.hid b
      clear b
      go_wp2_with fail
      refine (C1.out _ B.out).mono ?_
      rintro e w2 ⟨rfl, b⟩
      clear B
      have B := Lib.hid b
      clear b
      go_wp2_with fail
      refine (C2.out _ B.out).mono ?_
      rintro e w3 ⟨rfl, b⟩
      clear B
      have B := Lib.hid b
      clear b
      go_wp2_with fail
      refine (C3.out _ B.out).mono ?_
      rintro e w4 ⟨rfl, b⟩
      clear B
      have B := Lib.hid b
      clear b
      go_wp2_with fail
      refine (C4.out _ B.out).mono ?_
      rintro e w5 ⟨rfl, b⟩
      clear B
      have B := Lib.hid b
      clear b
      go_wp2
      go_roundw
      case rel => exact ⟨2, rfl, by omega, B.out⟩
      case measure => simp [intOf]
    · go_wp2_with fail
      go_loopw [14] (fun b wr => ∃ i : Nat, b = .int .i64 (i : Int) ∧ (i = 192 ∨ i = 193 ∨ i = 194 ∨ i = 195 ∨ i = 196 ∨ i = 197) ∧ Below w.heap.size w wr) (fun b _ => 1000 - (intOf b).toNat)
      case atStart => exact ⟨192, rfl, by omega, B.out⟩
      case round =>
        clear B
        obtain ⟨i, rfl, hi, hb⟩ := hrel
        have B := Lib.hid hb
        clear hb
        rcases hi with rfl | rfl | rfl | rfl | rfl | rfl
        · obtain ⟨r, m, c0, c1, f1, f2⟩ := P0.out
          have C0 := Lib.hid c0
          have C1 := Lib.hid c1
          clear c0 c1
          go_wp2_with fail
          refine (C0.out _ B.out).mono ?_
          rintro e w1 ⟨rfl, b⟩
          clear B
          have B := Lib.hid b
          clear b
          go_wp2_with fail
          refine (C1.out _ B.out).mono ?_
          rintro e w2 ⟨rfl, b⟩
          clear B
          have B := Lib.hid b
          clear b
          go_wp2
          go_roundw
          case rel => ((repeat apply Exists.intro); exact ⟨⟨193, rfl, by omega, B.out⟩, rfl⟩)
          case measure => simp [intOf]
        · obtain ⟨r, m, c0, c1, f1, f2⟩ := P1.out
          have C0 := Lib.hid c0
          have C1 := Lib.hid c1
          clear c0 c1
          go_wp2_with fail
          refine (C0.out _ B.out).mono ?_
          rintro e w1 ⟨rfl, b⟩
          clear B
          have B := Lib.hid b
          clear b
          go_wp2_with fail
          refine (C1.out _ B.out).mono ?_
          rintro e w2 ⟨rfl, b⟩
          clear B
          have B := Lib.hid b
          clear b
          go_wp2
          go_roundw
          case rel => ((repeat apply Exists.intro); exact ⟨⟨194, rfl, by omega, B.out⟩, rfl⟩)
          case measure => simp [intOf]
        · obtain ⟨r, m, c0, c1, f1, f2⟩ := P2.out
          have C0 := Lib.hid c0
          have C1 := Lib.hid c1
          clear c0 c1
          go_wp2_with fail
          refine (C0.out _ B.out).mono ?_
          rintro e w1 ⟨rfl, b⟩
          clear B
          have B := Lib.hid b
          clear b
          go_wp2_with fail
          refine (C1.out _ B.out).mono ?_
          rintro e w2 ⟨rfl, b⟩
          clear B
          have B := Lib.hid b
          clear b
          go_wp2
          go_roundw
          case rel => ((repeat apply Exists.intro); exact ⟨⟨195, rfl, by omega, B.out⟩, rfl⟩)
          case measure => simp [intOf]
        · obtain ⟨r, m, c0, c1, f1, f2⟩ := P3.out
          have C0 := Lib.hid c0
          have C1 := Lib.hid c1
          clear c0 c1
          go_wp2_with fail
          refine (C0.out _ B.out).mono ?_
          rintro e w1 ⟨rfl, b⟩
          clear B
          have B := Lib.hid b
          clear b
          go_wp2_with fail
          refine (C1.out _ B.out).mono ?_
          rintro e w2 ⟨rfl, b⟩
          clear B
          have B := Lib.hid b
          clear b
          go_wp2
          go_roundw
          case rel => ((repeat apply Exists.intro); exact ⟨⟨196, rfl, by omega, B.out⟩, rfl⟩)
          case measure => simp [intOf]
        · obtain ⟨r, m, c0, c1, f1, f2⟩ := P4.out
          have C0 := Lib.hid c0
          have C1 := Lib.hid c1
          clear c0 c1
          go_wp2_with fail
          refine (C0.out _ B.out).mono ?_
          rintro e w1 ⟨rfl, b⟩
          clear B
          have B := Lib.hid b
          clear b
          go_wp2_with fail
          refine (C1.out _ B.out).mono ?_
          rintro e w2 ⟨rfl, b⟩
          clear B
          have B := Lib.hid b
          clear b
          go_wp2
          go_roundw
          case rel => ((repeat apply Exists.intro); exact ⟨⟨197, rfl, by omega, B.out⟩, rfl⟩)
          case measure => simp [intOf]
        · go_wp2_with fail
          refine (known_any _ (HL.out.kept B.out)).mono ?_
          rintro e w1 ⟨rfl, b⟩
          go_wp2
          go_ret
          exact ⟨rfl, B.out.trans (b.mono B.out.size)⟩
end Go.Proofs.YtdoejkdckokjdaaDoor
