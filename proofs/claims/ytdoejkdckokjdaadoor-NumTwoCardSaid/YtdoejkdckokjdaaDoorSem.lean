/- num: what each operation of the table comes to. -/
import Derived.Test.YtdoejkdckokjdaaDoorFindW
import Derived.Test.YtdoejkdckokjdaaDoorCnt
namespace Go.Proofs.YtdoejkdckokjdaaDoor
open Go.RowKit

def bit (b : Bool) : Nat := if b then 1 else 0
theorem yes_bit (b : Bool) : yes b = ((bit b : Nat) : Int) := by cases b <;> rfl

/-- what the operation at a place of the table comes to for two numbers, and the error's number -/
def bin (p W M a b : Nat) : Nat × Nat :=
  match p with
  | 1 => (bit (decide (a = b)), 0)
  | 2 => (bit (decide (a ≠ b)), 0)
  | 3 => (bit (decide (sg M a < sg M b)), 0)
  | 4 => (bit (decide (a < b)), 0)
  | 5 => (bit (decide (sg M b < sg M a)), 0)
  | 6 => (bit (decide (b < a)), 0)
  | 7 => (bit (decide (sg M a ≤ sg M b)), 0)
  | 8 => (bit (decide (a ≤ b)), 0)
  | 9 => (bit (decide (sg M b ≤ sg M a)), 0)
  | 10 => (bit (decide (b ≤ a)), 0)
  | 14 => ((a + b) % M, 0)
  | 15 => ((a + (M - b)) % M, 0)
  | 16 => (a * b % M, 0)
  | 17 => if b = 0 then (0, 30) else if 2 * a = M ∧ sg M b = -1 then (0, 31) else (un M ((sg M a).tdiv (sg M b)), 0)
  | 18 => if b = 0 then (0, 30) else (a / b, 0)
  | 19 => if b = 0 then (0, 30) else (un M ((sg M a).tmod (sg M b)), 0)
  | 20 => if b = 0 then (0, 30) else (a % b, 0)
  | 21 => (a &&& b, 0)
  | 22 => (a ||| b, 0)
  | 23 => (a ^^^ b, 0)
  | 24 => (a * 2 ^ (b % W) % M, 0)
  | 25 => (un M (sg M a / 2 ^ (b % W)), 0)
  | 26 => (a / 2 ^ (b % W), 0)
  | 27 => (rl W M a (b % W), 0)
  | 28 => (rr W M a (b % W), 0)
  | _ => (0, 2)

/-- and for one number -/
def una (p W M a : Nat) : Nat × Nat :=
  match p with
  | 0 => (bit (decide (a = 0)), 0)
  | 11 => (W - Lib.bitLen a, 0)
  | 12 => (min (Lib.ctz 64 a) W, 0)
  | 13 => (Lib.onesCount a, 0)
  | 29 => (un M (sg 256 (a % 256)), 0)
  | 30 => (un M (sg 65536 (a % 65536)), 0)
  | 31 => (un M (sg 4294967296 (a % 4294967296)), 0)
  | 32 => (a % 4294967296, 0)
  | 33 => (un 18446744073709551616 (sg 4294967296 (a % 4294967296)), 0)
  | 34 => (a, 0)
  | _ => (0, 2)

theorem still {P : Program} {f : Nat} {args : Array Value} {w : World} {v : Value} (h : Calls P f args w fun e w' => e = .returned v ∧ w = w') : Calls P f args w fun e w' => e = .returned v ∧ Below w.heap.size w w' :=
  h.mono fun _ _ ⟨he, hw⟩ => ⟨he, hw ▸ Below.refl _ _⟩
theorem as_bit {P : Program} {f : Nat} {args : Array Value} {w : World} {b : Bool} (h : Calls P f args w fun e w' => e = .returned (.int .u64 (yes b)) ∧ w = w') : Calls P f args w fun e w' => e = .returned (.int .u64 ((bit b : Nat) : Int)) ∧ Below w.heap.size w w' := by
  rw [yes_bit] at h; exact still h

theorem two_fn (p : Nat) (hp : p < 35) (hk : (opc p).2.2.1 ≠ 0) {W M : Nat} (h : Wd W M) (a b : Nat) (ha : a < M) (hb : b < M) (w : World) :
    (Calls Tryd.prog (opc p).2.2.1 #[.int .u64 a, .int .u64 b, .int .i64 W] w fun e w' => e = .returned (.int .u64 (((bin p W M a b).1 : Nat) : Int)) ∧ Below w.heap.size w w') ∧ (bin p W M a b).2 = 0 := by
  have hl := h.lt
  have ha' : a < 18446744073709551616 := by omega
  have hb' : b < 18446744073709551616 := by omega
  match p, hp, hk with
  | 1, _, _ => exact ⟨as_bit (op35 a b W w), rfl⟩
  | 2, _, _ => exact ⟨as_bit (op37 a b W w), rfl⟩
  | 3, _, _ => exact ⟨as_bit (op38 h a b ha hb w), rfl⟩
  | 4, _, _ => exact ⟨as_bit (op40 a b W w), rfl⟩
  | 5, _, _ => exact ⟨as_bit (op41 h a b ha hb w), rfl⟩
  | 6, _, _ => exact ⟨as_bit (op42 a b W w), rfl⟩
  | 7, _, _ => exact ⟨as_bit (op43 h a b ha hb w), rfl⟩
  | 8, _, _ => exact ⟨as_bit (op44 a b W w), rfl⟩
  | 9, _, _ => exact ⟨as_bit (op45 h a b ha hb w), rfl⟩
  | 10, _, _ => exact ⟨as_bit (op46 a b W w), rfl⟩
  | 14, _, _ => exact ⟨still (op50 h a b ha hb w), rfl⟩
  | 15, _, _ => exact ⟨still (op52 h a b ha hb w), rfl⟩
  | 16, _, _ => exact ⟨still (op53 h a b ha hb w), rfl⟩
  | 21, _, _ => exact ⟨still (op58 a b W ha' hb' w), rfl⟩
  | 22, _, _ => exact ⟨still (op59 a b W ha' hb' w), rfl⟩
  | 23, _, _ => exact ⟨still (op60 a b W ha' hb' w), rfl⟩
  | 24, _, _ => exact ⟨still (op61 h a b w), rfl⟩
  | 25, _, _ => exact ⟨op62 h a b ha w, rfl⟩
  | 26, _, _ => exact ⟨still (op63 h a b w), rfl⟩
  | 27, _, _ => exact ⟨still (op64 h a b ha w), rfl⟩
  | 28, _, _ => exact ⟨still (op65 h a b ha w), rfl⟩
  | 0, _, hk | 11, _, hk | 12, _, hk | 13, _, hk | 17, _, hk | 18, _, hk | 19, _, hk | 20, _, hk | 29, _, hk | 30, _, hk | 31, _, hk | 32, _, hk | 33, _, hk | 34, _, hk => exact absurd rfl hk
  | n + 35, hp, _ => omega

theorem may_fn (p : Nat) (hp : p < 35) (hk : (opc p).2.2.2 ≠ 0) {W M : Nat} (h : Wd W M) (a b : Nat) (ha : a < M) (hb : b < M) (w : World) :
    Calls Tryd.prog (opc p).2.2.2 #[.int .u64 a, .int .u64 b, .int .i64 W] w fun e w' => e = .returned (.tuple #[.int .u64 (((bin p W M a b).1 : Nat) : Int), .int .i64 (((bin p W M a b).2 : Nat) : Int)]) ∧ Below w.heap.size w w' := by
  have hl := h.lt
  have ha' : a < 18446744073709551616 := by omega
  match p, hp, hk with
  | 17, _, _ =>
    by_cases h0 : b = 0
    · subst h0; exact still (op54_zero a W w)
    · simp only [bin, if_neg h0]
      by_cases ho : 2 * a = M ∧ sg M b = -1
      · rw [if_pos ho]; exact still (op54_over h a b ho.1 hb h0 ho.2 w)
      · rw [if_neg ho]; exact still (op54 h a b ha hb h0 ho w)
  | 18, _, _ =>
    by_cases h0 : b = 0
    · subst h0; exact still (op55_zero a W w)
    · simp only [bin, if_neg h0]; exact still (op55 a b W ha' (by omega) w)
  | 19, _, _ =>
    by_cases h0 : b = 0
    · subst h0; exact still (op56_zero a W w)
    · simp only [bin, if_neg h0]
      by_cases hm : sg M b = -1
      · have := still (op56_minus h a b hb h0 hm w)
        rw [hm, show (sg M a).tmod (-1) = 0 by rw [Int.tmod_neg, Int.tmod_one], show un M 0 = 0 by simp [un]]
        exact this
      · exact still (op56 h a b ha hb h0 hm w)
  | 20, _, _ =>
    by_cases h0 : b = 0
    · subst h0; exact still (op57_zero a W w)
    · simp only [bin, if_neg h0]; exact still (op57 a b W (by omega) w)
  | 0, _, hk | 1, _, hk | 2, _, hk | 3, _, hk | 4, _, hk | 5, _, hk | 6, _, hk | 7, _, hk | 8, _, hk | 9, _, hk | 10, _, hk | 11, _, hk | 12, _, hk | 13, _, hk | 14, _, hk | 15, _, hk | 16, _, hk | 21, _, hk | 22, _, hk | 23, _, hk | 24, _, hk | 25, _, hk | 26, _, hk | 27, _, hk | 28, _, hk | 29, _, hk | 30, _, hk | 31, _, hk | 32, _, hk | 33, _, hk | 34, _, hk => exact absurd rfl hk
  | n + 35, hp, _ => omega

theorem one_fn (p : Nat) (hp : p < 35) (hk : (opc p).2.1 ≠ 0) {W M : Nat} (h : Wd W M) (h33 : p = 33 → W = 32) (a : Nat) (ha : a < M) (w : World) (hL : Laid w) :
    (Calls Tryd.prog (opc p).2.1 #[.int .u64 a, .int .i64 W] w fun e w' => e = .returned (.int .u64 (((una p W M a).1 : Nat) : Int)) ∧ Below w.heap.size w w') ∧ (una p W M a).2 = 0 := by
  have hl := h.lt
  have ha' : a < 18446744073709551616 := by omega
  match p, hp, hk, h33 with
  | 0, _, _, _ => exact ⟨as_bit (op34 a W w), rfl⟩
  | 11, _, _, _ => exact ⟨still (op47 h a ha w), rfl⟩
  | 12, _, _, _ => exact ⟨still (op48 h a ha w hL), rfl⟩
  | 13, _, _, _ => exact ⟨still (op49 a W ha' w), rfl⟩
  | 29, _, _, _ => exact ⟨still (op66 h a w), rfl⟩
  | 30, _, _, _ => exact ⟨still (op68 h a w), rfl⟩
  | 31, _, _, _ => exact ⟨still (op69 h a w), rfl⟩
  | 32, _, _, _ => exact ⟨still (op70 a W ha' w), rfl⟩
  | 33, _, _, h33 =>
    obtain rfl := h33 rfl
    exact ⟨still (op71 a w), rfl⟩
  | 34, _, _, _ => exact ⟨still (op72 a W w), rfl⟩
  | 1, _, hk, _ | 2, _, hk, _ | 3, _, hk, _ | 4, _, hk, _ | 5, _, hk, _ | 6, _, hk, _ | 7, _, hk, _ | 8, _, hk, _ | 9, _, hk, _ | 10, _, hk, _ | 14, _, hk, _ | 15, _, hk, _ | 16, _, hk, _ | 17, _, hk, _ | 18, _, hk, _ | 19, _, hk, _ | 20, _, hk, _ | 21, _, hk, _ | 22, _, hk, _ | 23, _, hk, _ | 24, _, hk, _ | 25, _, hk, _ | 26, _, hk, _ | 27, _, hk, _ | 28, _, hk, _ => exact absurd rfl hk
  | n + 35, hp, _, _ => omega

/-- the operations that ask for another number of numbers -/
theorem bin_none (p : Nat) (hp : p < 35) (h : (opc p).2.1 ≠ 0) (W M a b : Nat) : bin p W M a b = (0, 2) := by
  match p, hp, h with
  | 0, _, _ | 11, _, _ | 12, _, _ | 13, _, _ | 29, _, _ | 30, _, _ | 31, _, _ | 32, _, _ | 33, _, _ | 34, _, _ => rfl
  | 1, _, hk | 2, _, hk | 3, _, hk | 4, _, hk | 5, _, hk | 6, _, hk | 7, _, hk | 8, _, hk | 9, _, hk | 10, _, hk | 14, _, hk | 15, _, hk | 16, _, hk | 17, _, hk | 18, _, hk | 19, _, hk | 20, _, hk | 21, _, hk | 22, _, hk | 23, _, hk | 24, _, hk | 25, _, hk | 26, _, hk | 27, _, hk | 28, _, hk => exact absurd rfl hk
  | n + 35, hp, _ => omega
theorem una_none (p : Nat) (hp : p < 35) (h : (opc p).2.1 = 0) (W M a : Nat) : una p W M a = (0, 2) := by
  match p, hp, h with
  | 0, _, h | 11, _, h | 12, _, h | 13, _, h | 29, _, h | 30, _, h | 31, _, h | 32, _, h | 33, _, h | 34, _, h => exact absurd h (by decide)
  | 1, _, hk | 2, _, hk | 3, _, hk | 4, _, hk | 5, _, hk | 6, _, hk | 7, _, hk | 8, _, hk | 9, _, hk | 10, _, hk | 14, _, hk | 15, _, hk | 16, _, hk | 17, _, hk | 18, _, hk | 19, _, hk | 20, _, hk | 21, _, hk | 22, _, hk | 23, _, hk | 24, _, hk | 25, _, hk | 26, _, hk | 27, _, hk | 28, _, hk => rfl
  | n + 35, hp, _ => omega

/-- 2 to the power of a width -/
def po (W : Nat) : Nat := if W = 32 then 4294967296 else 18446744073709551616

theorem hit_wd (op : Int) (p W : Nat) (h : hit op = some (p, W)) : p < 35 ∧ Wd W (po W) ∧ (p = 33 → W = 32) := by
  unfold hit at h
  obtain ⟨r, hr, e⟩ := Option.map_eq_some_iff.1 h
  have hq := List.find?_some hr
  have hm := List.mem_of_find?_eq_some hr
  simp only [decide_eq_true_eq] at hq
  simp only [Prod.mk.injEq] at e
  obtain ⟨e1, e2⟩ := e
  simp only [runL, List.mem_cons, List.not_mem_nil, or_false] at hm
  rcases hm with rfl | rfl | rfl | rfl | rfl | rfl | rfl | rfl <;> (dsimp only at e1 e2 hq; subst e2; refine ⟨by omega, ?_, fun h => by omega⟩; unfold Wd po; simp)

/-- num.Two -/
def twoV (op : Int) (a b : Nat) : Nat × Nat := match hit op with
  | some (p, W) => if a < po W ∧ b < po W then bin p W (po W) a b else (0, 2)
  | none => (0, 2)
/-- num.One -/
def oneV (op : Int) (a : Nat) : Nat × Nat := match hit op with
  | some (p, W) => if a < po W then una p W (po W) a else (0, 2)
  | none => (0, 2)
end Go.Proofs.YtdoejkdckokjdaaDoor
