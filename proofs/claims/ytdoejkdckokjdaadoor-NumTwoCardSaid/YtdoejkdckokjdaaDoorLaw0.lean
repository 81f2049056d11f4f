/- geodelaw03: known, two, one. -/
import Derived.Test.YtdoejkdckokjdaaDoorTwoW
namespace Go.Proofs.YtdoejkdckokjdaaDoor
open Go.RowKit

/-- what is found at an opcode whose run is known -/
theorem hit_at (i : Nat) (f n W at_ : Nat) (h : runL[i]? = some (f, n, W, at_)) (hno : ∀ j, j < i → ∀ q, runL[j]? = some q → q.1 + q.2.1 ≤ f ∨ f + n ≤ q.1) (j : Nat) (hj : j < n) : hit ((f + j : Nat) : Int) = some (at_ + j, W) := by
  rw [hit_some _ i _ h (by simp only [hitAt, decide_eq_true_eq]; omega) (fun k hk q hq => by
    have := hno k hk q hq
    simp only [hitAt, decide_eq_false_iff_not]; omega)]
  dsimp only
  rw [show (((f + j : Nat) : Int) - (f : Int)).toNat = j by omega]

/-- num.Two at a world that comes later -/
def Two (w : World) (op x y r : Int) (q : Int) : Prop := ∀ w1, Below w.heap.size w w1 → Calls Tryd.prog 10 #[.int .i64 op, .int .u64 x, .int .u64 y] w1 fun e w' => e = .returned (.tuple #[.int .u64 r, .int .i64 q]) ∧ Below w.heap.size w w'
/-- num.One at a world that comes later -/
def One (w : World) (op x r : Int) (q : Int) : Prop := ∀ w1, Below w.heap.size w w1 → Calls Tryd.prog 15 #[.int .i64 op, .int .u64 x] w1 fun e w' => e = .returned (.tuple #[.int .u64 r, .int .i64 q]) ∧ Below w.heap.size w w'

theorem later {P : Program} {f : Nat} {args : Array Value} {w w1 : World} {v : Value} (hb : Below w.heap.size w w1) (h : Calls P f args w1 fun e w' => e = .returned v ∧ Below w1.heap.size w1 w') : Calls P f args w1 fun e w' => e = .returned v ∧ Below w.heap.size w w' :=
  h.mono fun _ _ ⟨he, b⟩ => ⟨he, hb.trans (b.mono hb.size)⟩

theorem Two_is {w : World} (hL : Laid w) (op : Int) (a b : Nat) (h1 : -9223372036854775808 ≤ op) (h2 : op < 9223372036854775808) (ha : a < 18446744073709551616) (hb : b < 18446744073709551616) : Two w op a b (twoV op a b).1 (twoV op a b).2 :=
  fun w1 hw => later hw (Two_any op h1 h2 a b ha hb w1 (hL.kept hw))
theorem One_is {w : World} (hL : Laid w) (op : Int) (a : Nat) (h1 : -9223372036854775808 ≤ op) (h2 : op < 9223372036854775808) (ha : a < 18446744073709551616) : One w op a (oneV op a).1 (oneV op a).2 :=
  fun w1 hw => later hw (One_any op h1 h2 a ha w1 (hL.kept hw))

theorem known_any (w : World) (hL : Laid w) : Calls Tryd.prog 12 #[] w fun e w' => e = .returned (.bool true) ∧ Below w.heap.size w w' := by
  have C1 : Two w 124 18446744073709551615 2 1 0 := Two_is hL 124 18446744073709551615 2 (by decide) (by decide) (by decide) (by decide)
  have C2 : Two w 109 2147483648 4294967295 0 31 := Two_is hL 109 2147483648 4294967295 (by decide) (by decide) (by decide) (by decide)
  have C3 : Two w 117 2147483648 33 3221225472 0 := Two_is hL 117 2147483648 33 (by decide) (by decide) (by decide) (by decide)
  have C4 : One w 172 2147483648 18446744071562067968 0 := One_is hL 172 2147483648 (by decide) (by decide) (by decide)
  have C5 : One w 103 4294967296 0 2 := One_is hL 103 4294967296 (by decide) (by decide) (by decide)
  have C1 := Lib.hid C1
  have C2 := Lib.hid C2
  have C3 := Lib.hid C3
  have C4 := Lib.hid C4
  have C5 := Lib.hid C5
  have HL := Lib.hid hL
  clear hL
  go_enter Tryd.func12, Tryd.ntmps12
  go_wp2_with fail
  refine (C1.out _ (Below.refl _ _)).mono ?_
  rintro e w1 ⟨rfl, b⟩
  have B := Lib.hid b
  clear b
  go_wp2_with fail
  refine (C2.out _ B.out).mono ?_
  rintro e w2 ⟨rfl, b⟩
  clear B
  have B := Lib.hid b
  clear b
  go_wp2_with fail
  refine (C3.out _ B.out).mono ?_
  rintro e w3 ⟨rfl, b⟩
  clear B
  have B := Lib.hid b
  clear b
  go_wp2_with fail
  refine (C4.out _ B.out).mono ?_
  rintro e w4 ⟨rfl, b⟩
  clear B
  have B := Lib.hid b
  clear b
  go_wp2_with fail
  refine (C5.out _ B.out).mono ?_
  rintro e w5 ⟨rfl, b⟩
  clear B
  have B := Lib.hid b
  clear b
  go_wp2
  go_ret
  exact ⟨rfl, B.out⟩

/-- the place in the table of an opcode of 32 bits -/
def tw (op : Nat) : Nat := if op ≤ 79 then op - 69 else op - 92

theorem two_eff {W M : Nat} (h : Wd W M) (op : Nat) (hop : (70 ≤ op ∧ op ≤ 79) ∨ (106 ≤ op ∧ op ≤ 120)) (x y : Nat) (hx : x < M) (hy : y < M) :
    twoV (((if W = 64 then (if op ≤ 79 then op + 11 else op + 18) else op : Nat)) : Int) x y = bin (tw op) W M x y := by
  have hM : po W = M := by rcases h with ⟨rfl, rfl⟩ | ⟨rfl, rfl⟩ <;> rfl
  have hh : hit (((if W = 64 then (if op ≤ 79 then op + 11 else op + 18) else op : Nat)) : Int) = some (tw op, W) := by
    unfold tw
    rcases h with ⟨rfl, rfl⟩ | ⟨rfl, rfl⟩
    · rw [if_neg (by decide)]
      by_cases h79 : op ≤ 79
      · rw [if_pos h79]
        have := hit_at 0 69 11 32 0 rfl (by omega) (op - 69) (by omega)
        rwa [show 69 + (op - 69) = op by omega, Nat.zero_add] at this
      · rw [if_neg h79]
        have := hit_at 2 103 18 32 11 rfl (by intro j hj q hq; match j, hj with | 0, _ => cases hq; decide | 1, _ => cases hq; decide) (op - 103) (by omega)
        rwa [show 103 + (op - 103) = op by omega, show 11 + (op - 103) = op - 92 by omega] at this
    · rw [if_pos rfl]
      by_cases h79 : op ≤ 79
      · rw [if_pos h79, if_pos h79]
        have := hit_at 1 80 11 64 0 rfl (by intro j hj q hq; match j, hj with | 0, _ => cases hq; decide) (op - 69) (by omega)
        rwa [show 80 + (op - 69) = op + 11 by omega, Nat.zero_add] at this
      · rw [if_neg h79, if_neg h79]
        have := hit_at 3 121 18 64 11 rfl (by intro j hj q hq; match j, hj with | 0, _ => cases hq; decide | 1, _ => cases hq; decide | 2, _ => cases hq; decide) (op - 103) (by omega)
        rwa [show 121 + (op - 103) = op + 18 by omega, show 11 + (op - 103) = op - 92 by omega] at this
  unfold twoV
  rw [hh]
  dsimp only
  rw [hM, if_pos ⟨hx, hy⟩]

/-- geodelaw03.two at a world that comes later -/
def Tw (w : World) (W op x y r : Int) : Prop := ∀ w1, Below w.heap.size w w1 → Calls Tryd.prog 13 #[.int .i64 W, .int .i64 op, .int .u64 x, .int .u64 y] w1 fun e w' => e = .returned (.int .u64 r) ∧ Below w.heap.size w w'

theorem Tw_is {w : World} (hL : Laid w) {W M : Nat} (h : Wd W M) (op : Nat) (hop : (70 ≤ op ∧ op ≤ 79) ∨ (106 ≤ op ∧ op ≤ 120)) (x y : Nat) (hx : x < M) (hy : y < M) : Tw w W op x y (bin (tw op) W M x y).1 := by
  intro w1 hb
  have hM := h.lt
  obtain ⟨r, hr⟩ : ∃ r, bin (tw op) W M x y = r := ⟨_, rfl⟩
  have e := two_eff h op hop x y hx hy
  have C := Two_is hL (((if W = 64 then (if op ≤ 79 then op + 11 else op + 18) else op : Nat)) : Int) x y (by omega) (by split <;> (try split) <;> omega) (show x < 18446744073709551616 by omega) (show y < 18446744073709551616 by omega)
  rw [e] at C
  rw [hr] at C ⊢
  obtain ⟨o, ho⟩ : ∃ o, o = (if W = 64 then (if op ≤ 79 then op + 11 else op + 18) else op : Nat) := ⟨_, rfl⟩
  rw [← ho] at C
  have C := Lib.hid C
  have HB := Lib.hid hb
  clear e hb hr
  rcases h with ⟨rfl, rfl⟩ | ⟨rfl, rfl⟩
  · obtain rfl : o = op := by rw [ho]; rfl
    clear hop ho
    go_enter Tryd.func13, Tryd.ntmps13
    go_wp2_with fail
    refine (C.out _ HB.out).mono ?_
    rintro e w2 ⟨rfl, b⟩
    go_wp2
    go_ret
    exact ⟨rfl, b⟩
  · by_cases h79 : op ≤ 79
    · obtain rfl : o = op + 11 := by rw [ho, if_pos rfl, if_pos h79]
      have e1 : decide ((op : Int) ≤ 79) = true := by simp; omega
      have e2 : wrap64 ((op : Int) + 11) = ((op + 11 : Nat) : Int) := by unfold wrap64; omega
      clear hop h79 ho
      go_enter Tryd.func13, Tryd.ntmps13
      go_wp2_with fail
      refine (C.out _ HB.out).mono ?_
      rintro e w2 ⟨rfl, b⟩
      go_wp2
      go_ret
      exact ⟨rfl, b⟩
    · obtain rfl : o = op + 18 := by rw [ho, if_pos rfl, if_neg h79]
      have e1 : decide ((op : Int) ≤ 79) = false := by simp; omega
      have e2 : wrap64 ((op : Int) + 18) = ((op + 18 : Nat) : Int) := by unfold wrap64; omega
      clear hop h79 ho
      go_enter Tryd.func13, Tryd.ntmps13
      go_wp2_with fail
      refine (C.out _ HB.out).mono ?_
      rintro e w2 ⟨rfl, b⟩
      go_wp2
      go_ret
      exact ⟨rfl, b⟩

/-- geodelaw03.one at a world that comes later -/
def On (w : World) (W op x r : Int) : Prop := ∀ w1, Below w.heap.size w w1 → Calls Tryd.prog 14 #[.int .i64 W, .int .i64 op, .int .u64 x] w1 fun e w' => e = .returned (.int .u64 r) ∧ Below w.heap.size w w'

theorem On_69_32 {w : World} (hL : Laid w) (x : Nat) (hx : x < 4294967296) : On w 32 69 x (una 0 32 4294967296 x).1 := by
  intro w1 hb
  have C := One_is hL 69 x (by decide) (by decide) (by omega)
  rw [show oneV 69 x = una 0 32 4294967296 x by unfold oneV; rw [show hit 69 = some (0, 32) from rfl]; dsimp only; rw [if_pos (show x < po 32 from hx)]; rfl] at C
  generalize una 0 32 4294967296 x = r at C ⊢
  have C := Lib.hid C
  have HB := Lib.hid hb
  clear hb hx hL
  go_enter Tryd.func14, Tryd.ntmps14
  go_wp2_with fail
  refine (C.out _ HB.out).mono ?_
  rintro e w2 ⟨rfl, b⟩
  go_wp2
  go_ret
  exact ⟨rfl, b⟩

theorem On_69_64 {w : World} (hL : Laid w) (x : Nat) (hx : x < 18446744073709551616) : On w 64 69 x (una 0 64 18446744073709551616 x).1 := by
  intro w1 hb
  have C := One_is hL 80 x (by decide) (by decide) (by omega)
  rw [show oneV 80 x = una 0 64 18446744073709551616 x by unfold oneV; rw [show hit 80 = some (0, 64) from rfl]; dsimp only; rw [if_pos (show x < po 64 from hx)]; rfl] at C
  generalize una 0 64 18446744073709551616 x = r at C ⊢
  have C := Lib.hid C
  have HB := Lib.hid hb
  clear hb hx hL
  go_enter Tryd.func14, Tryd.ntmps14
  go_wp2_with fail
  refine (C.out _ HB.out).mono ?_
  rintro e w2 ⟨rfl, b⟩
  go_wp2
  go_ret
  exact ⟨rfl, b⟩

theorem On_103_32 {w : World} (hL : Laid w) (x : Nat) (hx : x < 4294967296) : On w 32 103 x (una 11 32 4294967296 x).1 := by
  intro w1 hb
  have C := One_is hL 103 x (by decide) (by decide) (by omega)
  rw [show oneV 103 x = una 11 32 4294967296 x by unfold oneV; rw [show hit 103 = some (11, 32) from rfl]; dsimp only; rw [if_pos (show x < po 32 from hx)]; rfl] at C
  generalize una 11 32 4294967296 x = r at C ⊢
  have C := Lib.hid C
  have HB := Lib.hid hb
  clear hb hx hL
  go_enter Tryd.func14, Tryd.ntmps14
  go_wp2_with fail
  refine (C.out _ HB.out).mono ?_
  rintro e w2 ⟨rfl, b⟩
  go_wp2
  go_ret
  exact ⟨rfl, b⟩

theorem On_103_64 {w : World} (hL : Laid w) (x : Nat) (hx : x < 18446744073709551616) : On w 64 103 x (una 11 64 18446744073709551616 x).1 := by
  intro w1 hb
  have C := One_is hL 121 x (by decide) (by decide) (by omega)
  rw [show oneV 121 x = una 11 64 18446744073709551616 x by unfold oneV; rw [show hit 121 = some (11, 64) from rfl]; dsimp only; rw [if_pos (show x < po 64 from hx)]; rfl] at C
  generalize una 11 64 18446744073709551616 x = r at C ⊢
  have C := Lib.hid C
  have HB := Lib.hid hb
  clear hb hx hL
  go_enter Tryd.func14, Tryd.ntmps14
  go_wp2_with fail
  refine (C.out _ HB.out).mono ?_
  rintro e w2 ⟨rfl, b⟩
  go_wp2
  go_ret
  exact ⟨rfl, b⟩

theorem On_104_32 {w : World} (hL : Laid w) (x : Nat) (hx : x < 4294967296) : On w 32 104 x (una 12 32 4294967296 x).1 := by
  intro w1 hb
  have C := One_is hL 104 x (by decide) (by decide) (by omega)
  rw [show oneV 104 x = una 12 32 4294967296 x by unfold oneV; rw [show hit 104 = some (12, 32) from rfl]; dsimp only; rw [if_pos (show x < po 32 from hx)]; rfl] at C
  generalize una 12 32 4294967296 x = r at C ⊢
  have C := Lib.hid C
  have HB := Lib.hid hb
  clear hb hx hL
  go_enter Tryd.func14, Tryd.ntmps14
  go_wp2_with fail
  refine (C.out _ HB.out).mono ?_
  rintro e w2 ⟨rfl, b⟩
  go_wp2
  go_ret
  exact ⟨rfl, b⟩

theorem On_104_64 {w : World} (hL : Laid w) (x : Nat) (hx : x < 18446744073709551616) : On w 64 104 x (una 12 64 18446744073709551616 x).1 := by
  intro w1 hb
  have C := One_is hL 122 x (by decide) (by decide) (by omega)
  rw [show oneV 122 x = una 12 64 18446744073709551616 x by unfold oneV; rw [show hit 122 = some (12, 64) from rfl]; dsimp only; rw [if_pos (show x < po 64 from hx)]; rfl] at C
  generalize una 12 64 18446744073709551616 x = r at C ⊢
  have C := Lib.hid C
  have HB := Lib.hid hb
  clear hb hx hL
  go_enter Tryd.func14, Tryd.ntmps14
  go_wp2_with fail
  refine (C.out _ HB.out).mono ?_
  rintro e w2 ⟨rfl, b⟩
  go_wp2
  go_ret
  exact ⟨rfl, b⟩

theorem On_105_32 {w : World} (hL : Laid w) (x : Nat) (hx : x < 4294967296) : On w 32 105 x (una 13 32 4294967296 x).1 := by
  intro w1 hb
  have C := One_is hL 105 x (by decide) (by decide) (by omega)
  rw [show oneV 105 x = una 13 32 4294967296 x by unfold oneV; rw [show hit 105 = some (13, 32) from rfl]; dsimp only; rw [if_pos (show x < po 32 from hx)]; rfl] at C
  generalize una 13 32 4294967296 x = r at C ⊢
  have C := Lib.hid C
  have HB := Lib.hid hb
  clear hb hx hL
  go_enter Tryd.func14, Tryd.ntmps14
  go_wp2_with fail
  refine (C.out _ HB.out).mono ?_
  rintro e w2 ⟨rfl, b⟩
  go_wp2
  go_ret
  exact ⟨rfl, b⟩

theorem On_105_64 {w : World} (hL : Laid w) (x : Nat) (hx : x < 18446744073709551616) : On w 64 105 x (una 13 64 18446744073709551616 x).1 := by
  intro w1 hb
  have C := One_is hL 123 x (by decide) (by decide) (by omega)
  rw [show oneV 123 x = una 13 64 18446744073709551616 x by unfold oneV; rw [show hit 123 = some (13, 64) from rfl]; dsimp only; rw [if_pos (show x < po 64 from hx)]; rfl] at C
  generalize una 13 64 18446744073709551616 x = r at C ⊢
  have C := Lib.hid C
  have HB := Lib.hid hb
  clear hb hx hL
  go_enter Tryd.func14, Tryd.ntmps14
  go_wp2_with fail
  refine (C.out _ HB.out).mono ?_
  rintro e w2 ⟨rfl, b⟩
  go_wp2
  go_ret
  exact ⟨rfl, b⟩

theorem On_is {w : World} (hL : Laid w) {W M : Nat} (h : Wd W M) (op : Nat) (hop : op = 69 ∨ op = 103 ∨ op = 104 ∨ op = 105) (x : Nat) (hx : x < M) : On w W op x (una (tw op) W M x).1 := by
  rcases h with ⟨rfl, rfl⟩ | ⟨rfl, rfl⟩ <;> rcases hop with rfl | rfl | rfl | rfl
  · exact On_69_32 hL x hx
  · exact On_103_32 hL x hx
  · exact On_104_32 hL x hx
  · exact On_105_32 hL x hx
  · exact On_69_64 hL x hx
  · exact On_103_64 hL x hx
  · exact On_104_64 hL x hx
  · exact On_105_64 hL x hx
end Go.Proofs.YtdoejkdckokjdaaDoor
