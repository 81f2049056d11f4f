/- geodelaw03.NumLogic: the plain laws, and the contracts beside two cells that are kept. -/
import Derived.Test.YtdoejkdckokjdaaDoorPl
namespace Go.Proofs.YtdoejkdckokjdaaDoor
open Go.RowKit

theorem pop_and_or : ∀ (f x y : Nat), Lib.popAux f x + Lib.popAux f y = Lib.popAux f (x &&& y) + Lib.popAux f (x ||| y)
  | 0, _, _ => rfl
  | f + 1, x, y => by
    have ih := pop_and_or f (x / 2) (y / 2)
    unfold Lib.popAux
    rw [Nat.and_div_two, Nat.or_div_two]
    have a := Nat.and_mod_two_eq_one (a := x) (b := y)
    have b := Nat.or_mod_two_eq_one (a := x) (b := y)
    have l1 : (x &&& y) % 2 < 2 := Nat.mod_lt _ (by omega)
    have l2 : (x ||| y) % 2 < 2 := Nat.mod_lt _ (by omega)
    generalize (x &&& y) % 2 = p at *
    generalize (x ||| y) % 2 = q at *
    omega

theorem xor_and : ∀ (f x y : Nat), x < 2 ^ f → y < 2 ^ f → (x ^^^ y) + (x &&& y) = (x ||| y)
  | 0, x, y, hx, hy => by
    have h1 : x = 0 := by simpa using hx
    have h2 : y = 0 := by simpa using hy
    rw [h1, h2]; rfl
  | f + 1, x, y, hx, hy => by
    have ih := xor_and f (x / 2) (y / 2) (by rw [Nat.pow_succ] at hx; omega) (by rw [Nat.pow_succ] at hy; omega)
    rw [← Nat.and_div_two, ← Nat.or_div_two, ← Nat.xor_div_two] at ih
    have a := Nat.and_mod_two_eq_one (a := x) (b := y)
    have b := Nat.or_mod_two_eq_one (a := x) (b := y)
    have c := Nat.xor_mod_two_eq_one (a := x) (b := y)
    omega

theorem not_and {W M : Nat} (h : Wd W M) (x y : Nat) (hx : x < M) (hy : y < M) : M - 1 - (x &&& y) = (M - 1 - x) ||| (M - 1 - y) := by
  rw [h.pow] at *
  have hxy : x &&& y < 2 ^ W := Nat.and_lt_two_pow _ hy
  apply Nat.eq_of_testBit_eq
  intro i
  rw [Nat.testBit_or, show 2 ^ W - 1 - x = 2 ^ W - (x + 1) by omega, show 2 ^ W - 1 - y = 2 ^ W - (y + 1) by omega, show 2 ^ W - 1 - (x &&& y) = 2 ^ W - ((x &&& y) + 1) by omega,
    Nat.testBit_two_pow_sub_succ hx, Nat.testBit_two_pow_sub_succ hy, Nat.testBit_two_pow_sub_succ hxy, Nat.testBit_and]
  cases x.testBit i <;> cases y.testBit i <;> simp

theorem xor_high_lt (n x : Nat) (hx : x < 2 ^ n) : x ^^^ 2 ^ n = 2 ^ n + x := by
  apply Nat.eq_of_testBit_eq
  intro i
  have := Nat.testBit_two_pow_mul_add 1 hx i
  rw [Nat.mul_one] at this
  rw [this, Nat.testBit_xor, Nat.testBit_two_pow]
  split
  · rename_i hi
    rw [decide_eq_false (by omega)]; simp
  · rename_i hi
    rw [Nat.testBit_lt_two_pow (Nat.lt_of_lt_of_le hx (Nat.pow_le_pow_right (by omega) (by omega)))]
    by_cases e : n = i
    · subst e; simp
    · rw [decide_eq_false e, Nat.testBit_lt_two_pow (Nat.one_lt_two_pow (show i - n ≠ 0 by omega))]
      rfl
theorem xor_high_ge (n x : Nat) (hx : x < 2 ^ (n + 1)) (h : 2 ^ n ≤ x) : x ^^^ 2 ^ n = x - 2 ^ n := by
  have h1 := xor_high_lt n (x - 2 ^ n) (by rw [Nat.pow_succ] at hx; omega)
  rw [show 2 ^ n + (x - 2 ^ n) = x by omega] at h1
  rw [← h1, Nat.xor_assoc, Nat.xor_self, Nat.xor_zero, h1]

/-- what lies between the start and now, and the closure's two cells -/
def Kp (w : World) (bw bn : Nat) (W g : Int) (w' : World) : Prop := w'.cell? ⟨bw, 0, none⟩ = some (.int .i64 W) ∧ w'.cell? ⟨bn, 0, none⟩ = some (.int .u64 g) ∧ Below w.heap.size w w'
theorem Kp.on {w : World} {bw bn : Nat} {W g : Int} {w1 w2 : World} (h : Kp w bw bn W g w1) (b : Below w1.heap.size w1 w2) : Kp w bw bn W g w2 :=
  ⟨(b.cell (p := ⟨bw, 0, none⟩) (block_lt_of_cell h.1)).trans h.1, (b.cell (p := ⟨bn, 0, none⟩) (block_lt_of_cell h.2.1)).trans h.2.1, h.2.2.trans (b.mono h.2.2.size)⟩
def TwK (w : World) (bw bn : Nat) (W g op x y r : Int) : Prop := ∀ w1, Kp w bw bn W g w1 → Calls Tryd.prog 13 #[.int .i64 W, .int .i64 op, .int .u64 x, .int .u64 y] w1 fun e w' => e = .returned (.int .u64 r) ∧ Kp w bw bn W g w'
def OnK (w : World) (bw bn : Nat) (W g op x r : Int) : Prop := ∀ w1, Kp w bw bn W g w1 → Calls Tryd.prog 14 #[.int .i64 W, .int .i64 op, .int .u64 x] w1 fun e w' => e = .returned (.int .u64 r) ∧ Kp w bw bn W g w'
def NoK (w : World) (bw bn : Nat) (W g x r : Int) : Prop := ∀ w1, Kp w bw bn W g w1 → Calls Tryd.prog 16 #[.int .u64 x, .pointer (some ⟨bw, 0, none⟩), .pointer (some ⟨bn, 0, none⟩)] w1 fun e w' => e = .returned (.int .u64 r) ∧ Kp w bw bn W g w'

theorem TwK_is {w : World} (hL : Laid w) (bw bn : Nat) (g : Int) {W M : Nat} (h : Wd W M) (op : Nat) (hop : (70 ≤ op ∧ op ≤ 79) ∨ (106 ≤ op ∧ op ≤ 120)) (x y : Nat) (hx : x < M) (hy : y < M) : TwK w bw bn W g op x y (bin (tw op) W M x y).1 :=
  fun w1 k => (Tw_is (hL.kept k.2.2) h op hop x y hx hy w1 (Below.refl _ _)).mono fun _ _ ⟨he, b⟩ => ⟨he, k.on b⟩
theorem OnK_is {w : World} (hL : Laid w) (bw bn : Nat) (g : Int) {W M : Nat} (h : Wd W M) (op : Nat) (hop : op = 69 ∨ op = 103 ∨ op = 104 ∨ op = 105) (x : Nat) (hx : x < M) : OnK w bw bn W g op x (una (tw op) W M x).1 :=
  fun w1 k => (On_is (hL.kept k.2.2) h op hop x hx w1 (Below.refl _ _)).mono fun _ _ ⟨he, b⟩ => ⟨he, k.on b⟩
theorem NoK_of {w : World} {bw bn : Nat} {W g x r : Int} (h : TwK w bw bn W g 115 x g r) : NoK w bw bn W g x r := by
  intro w1 k
  obtain ⟨k1, k2, k3⟩ := k
  have HK := Lib.hid (show Kp w bw bn W g w1 from ⟨k1, k2, k3⟩)
  have H := Lib.hid h
  clear h k3
  go_enter Tryd.func16, Tryd.ntmps16
  go_wp2_with fail
  refine (H.out _ HK.out).mono ?_
  rintro e w2 ⟨rfl, k⟩
  go_wp2
  go_ret
  exact ⟨rfl, k⟩

theorem sg_high (M H x y : Nat) (hM : M = 2 * H) (hx : x < M) (hy : y < M) : ((if x < H then H + x else x - H) < (if y < H then H + y else y - H)) ↔ sg M x < sg M y := by
  unfold sg
  subst hM
  by_cases h1 : x < H
  · by_cases h2 : y < H
    · rw [if_pos h1, if_pos h2, if_pos (by omega), if_pos (by omega)]; omega
    · rw [if_pos h1, if_neg h2, if_pos (by omega), if_neg (by omega)]; omega
  · by_cases h2 : y < H
    · rw [if_neg h1, if_pos h2, if_neg (by omega), if_pos (by omega)]; omega
    · rw [if_neg h1, if_neg h2, if_neg (by omega), if_neg (by omega)]; omega

theorem logic_neg {w : World} (hL : Laid w) {W M : Nat} (h : Wd W M) : Tw w W 107 0 1 (M - 1 : Nat) := by
  have hM := h.lt
  have c := Tw_is hL h 107 (by omega) 0 1 (by omega) (by omega)
  rwa [show (bin (tw 107) W M 0 1).1 = M - 1 by show (0 + (M - 1)) % M = _; rw [Nat.zero_add, Nat.mod_eq_of_lt (by omega)]] at c

theorem logic_pack {w : World} (hL : Laid w) {W M : Nat} (h : Wd W M) (bw bn x y : Nat) (hx : x < M) (hy : y < M) :
    ∃ an o na nx ny xr n1 n2 n3 n4 s hi l xh yh : Nat, IntKind.u64.wrap ((n1 : Int) + (n2 : Int)) = (s : Int) ∧ IntKind.u64.wrap ((n3 : Int) + (n4 : Int)) = (s : Int) ∧
      TwK w bw bn W (M - 1 : Nat) 113 x y an ∧ TwK w bw bn W (M - 1 : Nat) 114 x y o ∧ NoK w bw bn W (M - 1 : Nat) an na ∧ NoK w bw bn W (M - 1 : Nat) x nx ∧ NoK w bw bn W (M - 1 : Nat) y ny ∧ TwK w bw bn W (M - 1 : Nat) 114 nx ny na ∧
      TwK w bw bn W (M - 1 : Nat) 115 x y xr ∧ TwK w bw bn W (M - 1 : Nat) 107 o an xr ∧
      OnK w bw bn W (M - 1 : Nat) 105 x n1 ∧ OnK w bw bn W (M - 1 : Nat) 105 y n2 ∧ OnK w bw bn W (M - 1 : Nat) 105 an n3 ∧ OnK w bw bn W (M - 1 : Nat) 105 o n4 ∧
      TwK w bw bn W (M - 1 : Nat) 116 1 (W - 1 : Nat) hi ∧ TwK w bw bn W (M - 1 : Nat) 72 x y l ∧ TwK w bw bn W (M - 1 : Nat) 115 x hi xh ∧ TwK w bw bn W (M - 1 : Nat) 115 y hi yh ∧ TwK w bw bn W (M - 1 : Nat) 73 xh yh l := by
  have hM := h.lt
  have T := fun op hop a c ha hc => TwK_is hL bw bn (M - 1 : Nat) h op hop a c ha hc
  have O := fun a ha => OnK_is hL bw bn (M - 1 : Nat) h 105 (by omega) a ha
  have land : x &&& y < M := Nat.lt_of_le_of_lt Nat.and_le_left hx
  have lor := or_lt h x y hx hy
  have hN : ∀ a, a < M → NoK w bw bn W (M - 1 : Nat) a (M - 1 - a : Nat) := by
    intro a ha
    have c := T 115 (by omega) a (M - 1) ha (by omega)
    rw [show (bin (tw 115) W M a (M - 1)).1 = M - 1 - a from xor_ones h a ha] at c
    exact NoK_of c
  have c0 := T 113 (by omega) x y hx hy
  rw [show (bin (tw 113) W M x y).1 = x &&& y from rfl] at c0
  have c1 := T 114 (by omega) x y hx hy
  rw [show (bin (tw 114) W M x y).1 = x ||| y from rfl] at c1
  have c2 := T 114 (by omega) (M - 1 - x) (M - 1 - y) (by omega) (by omega)
  rw [show (bin (tw 114) W M (M - 1 - x) (M - 1 - y)).1 = (M - 1 - x) ||| (M - 1 - y) from rfl, ← not_and h x y hx hy] at c2
  have c3 := T 115 (by omega) x y hx hy
  rw [show (bin (tw 115) W M x y).1 = x ^^^ y from rfl] at c3
  have c4 := T 107 (by omega) (x ||| y) (x &&& y) lor land
  have hxa := xor_and W x y (by rw [← h.pow]; exact hx) (by rw [← h.pow]; exact hy)
  rw [show (bin (tw 107) W M (x ||| y) (x &&& y)).1 = x ^^^ y by
    show ((x ||| y) + (M - (x &&& y))) % M = _
    rw [show (x ||| y) + (M - (x &&& y)) = (x ^^^ y) + M by omega, Nat.add_mod_right, Nat.mod_eq_of_lt (xor_lt h x y hx hy)]] at c4
  have c5 := O x hx
  rw [show (una (tw 105) W M x).1 = Lib.onesCount x from rfl] at c5
  have c6 := O y hy
  rw [show (una (tw 105) W M y).1 = Lib.onesCount y from rfl] at c6
  have c7 := O (x &&& y) land
  rw [show (una (tw 105) W M (x &&& y)).1 = Lib.onesCount (x &&& y) from rfl] at c7
  have c8 := O (x ||| y) lor
  rw [show (una (tw 105) W M (x ||| y)).1 = Lib.onesCount (x ||| y) from rfl] at c8
  have hpo : Lib.onesCount x + Lib.onesCount y = Lib.onesCount (x &&& y) + Lib.onesCount (x ||| y) := pop_and_or 64 x y
  have o1 := ones_le x (by omega)
  have o2 := ones_le y (by omega)
  have wr : ∀ a b s : Nat, a + b = s → s < 100000 → IntKind.u64.wrap ((a : Int) + (b : Int)) = (s : Int) := fun a b s e hs => by rw [IntKind.wrap_u64]; omega
  obtain ⟨H, hH⟩ : ∃ H, H = 2 ^ (W - 1) := ⟨_, rfl⟩
  have hMH : M = 2 ^ (W - 1 + 1) := by rw [show W - 1 + 1 = W by omega]; exact h.pow
  have hMH2 : M = 2 * H := by rw [hMH, Nat.pow_succ, hH, Nat.mul_comm]
  have c9 := T 116 (by omega) 1 (W - 1) (by omega) (by omega)
  rw [show (bin (tw 116) W M 1 (W - 1)).1 = H by show 1 * 2 ^ ((W - 1) % W) % M = H; rw [Nat.mod_eq_of_lt (show W - 1 < W by omega), Nat.one_mul, ← hH, Nat.mod_eq_of_lt (by omega)]] at c9
  have c10 := T 72 (by omega) x y hx hy
  rw [show (bin (tw 72) W M x y).1 = bit (decide (sg M x < sg M y)) from rfl] at c10
  have xh : ∀ a, a < M → a ^^^ H = if a < H then H + a else a - H := by
    intro a ha
    split
    · rename_i hl
      rw [hH] at hl ⊢
      exact xor_high_lt (W - 1) a hl
    · rename_i hl
      rw [hH] at hl ⊢
      exact xor_high_ge (W - 1) a (by rw [← hMH]; exact ha) (by omega)
  have c11 := T 115 (by omega) x H hx (by omega)
  rw [show (bin (tw 115) W M x H).1 = x ^^^ H from rfl] at c11
  have c12 := T 115 (by omega) y H hy (by omega)
  rw [show (bin (tw 115) W M y H).1 = y ^^^ H from rfl] at c12
  have c13 := T 73 (by omega) (x ^^^ H) (y ^^^ H) (xor_lt h x H hx (by omega)) (xor_lt h y H hy (by omega))
  have hd : decide ((x ^^^ H) < (y ^^^ H)) = decide (sg M x < sg M y) := decide_eq_decide.2 (by rw [xh x hx, xh y hy]; exact sg_high M H x y hMH2 hx hy)
  rw [show (bin (tw 73) W M (x ^^^ H) (y ^^^ H)).1 = bit (decide ((x ^^^ H) < (y ^^^ H))) from rfl, hd] at c13
  have w1 := wr _ _ _ (rfl : Lib.onesCount x + Lib.onesCount y = Lib.onesCount x + Lib.onesCount y) (by omega)
  have w2 := wr _ _ _ hpo.symm (by omega)
  generalize Lib.onesCount x = n1 at *
  generalize Lib.onesCount y = n2 at *
  generalize Lib.onesCount (x &&& y) = n3 at *
  generalize Lib.onesCount (x ||| y) = n4 at *
  generalize bit (decide (sg M x < sg M y)) = l at *
  exact ⟨x &&& y, x ||| y, M - 1 - (x &&& y), M - 1 - x, M - 1 - y, x ^^^ y, n1, n2, n3, n4, n1 + n2, H, l, x ^^^ H, y ^^^ H, w1, w2,
    c0, c1, hN _ land, hN x hx, hN y hy, c2, c3, c4, c5, c6, c7, c8, c9, c10, c11, c12, c13⟩

/-- the same, as tables -/
theorem logic_pack2 {w : World} (hL : Laid w) {W M : Nat} (h : Wd W M) (bw bn x y : Nat) (hx : x < M) (hy : y < M) :
    ∃ an o na nx ny xr n1 n2 n3 n4 s hi l xh yh : Nat, IntKind.u64.wrap ((n1 : Int) + (n2 : Int)) = (s : Int) ∧ IntKind.u64.wrap ((n3 : Int) + (n4 : Int)) = (s : Int) ∧
      (∀ op p q r : Int, (op, p, q, r) ∈ [((113 : Int), (x : Int), (y : Int), (an : Int)), (114, x, y, o), (114, nx, ny, na), (115, x, y, xr), (107, o, an, xr), (116, 1, ((W - 1 : Nat) : Int), hi), (72, x, y, l), (115, x, hi, xh), (115, y, hi, yh), (73, xh, yh, l)] → TwK w bw bn W (M - 1 : Nat) op p q r) ∧
      (∀ p r : Int, (p, r) ∈ [((x : Int), (n1 : Int)), (y, n2), (an, n3), (o, n4)] → OnK w bw bn W (M - 1 : Nat) 105 p r) ∧
      (∀ p r : Int, (p, r) ∈ [((an : Int), (na : Int)), (x, nx), (y, ny)] → NoK w bw bn W (M - 1 : Nat) p r) := by
  obtain ⟨an, o, na, nx, ny, xr, n1, n2, n3, n4, s, hi, l, xh, yh, s1, s2, c0, c1, c2, c3, c4, c5, c6, c7, c8, c9, c10, c11, c12, c13, c14, c15, c16⟩ := logic_pack hL h bw bn x y hx hy
  refine ⟨an, o, na, nx, ny, xr, n1, n2, n3, n4, s, hi, l, xh, yh, s1, s2, ?_, ?_, ?_⟩
  · intro op p q r hm
    simp only [List.mem_cons, Prod.mk.injEq, List.not_mem_nil, or_false] at hm
    rcases hm with ⟨rfl, rfl, rfl, rfl⟩ | ⟨rfl, rfl, rfl, rfl⟩ | ⟨rfl, rfl, rfl, rfl⟩ | ⟨rfl, rfl, rfl, rfl⟩ | ⟨rfl, rfl, rfl, rfl⟩ | ⟨rfl, rfl, rfl, rfl⟩ | ⟨rfl, rfl, rfl, rfl⟩ | ⟨rfl, rfl, rfl, rfl⟩ | ⟨rfl, rfl, rfl, rfl⟩ | ⟨rfl, rfl, rfl, rfl⟩
    · exact c0
    · exact c1
    · exact c5
    · exact c6
    · exact c7
    · exact c12
    · exact c13
    · exact c14
    · exact c15
    · exact c16
  · intro p r hm
    simp only [List.mem_cons, Prod.mk.injEq, List.not_mem_nil, or_false] at hm
    rcases hm with ⟨rfl, rfl⟩ | ⟨rfl, rfl⟩ | ⟨rfl, rfl⟩ | ⟨rfl, rfl⟩
    · exact c8
    · exact c9
    · exact c10
    · exact c11
  · intro p r hm
    simp only [List.mem_cons, Prod.mk.injEq, List.not_mem_nil, or_false] at hm
    rcases hm with ⟨rfl, rfl⟩ | ⟨rfl, rfl⟩ | ⟨rfl, rfl⟩
    · exact c2
    · exact c3
    · exact c4
end Go.Proofs.YtdoejkdckokjdaaDoor
