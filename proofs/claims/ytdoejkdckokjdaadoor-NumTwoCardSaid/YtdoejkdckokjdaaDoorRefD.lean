/- geoderef03: asks, divide, Extend. -/
import Derived.Test.YtdoejkdckokjdaaDoorRefC
namespace Go.Proofs.YtdoejkdckokjdaaDoor
open Go.RowKit

/-- what asks says at a place of the table -/
def askB (p M a b : Nat) : Bool := match p with
  | 1 => decide (a = b)
  | 2 => decide (a ≠ b)
  | 3 => decide (sg M a < sg M b)
  | 4 => decide (a < b)
  | 5 => decide (sg M b < sg M a)
  | 6 => decide (b < a)
  | 7 => decide (sg M a ≤ sg M b)
  | 8 => decide (a ≤ b)
  | 9 => decide (sg M b ≤ sg M a)
  | _ => decide (b ≤ a)

theorem ask1 (M a b : Nat) (W : Int) (w : World) : Calls Tryd.prog 24 #[.int .i64 10, .int .i64 W, .int .u64 a, .int .u64 b] w fun e w' => e = .returned (.bool (askB 1 M a b)) ∧ w = w' := by
  go_enter Tryd.func24, Tryd.ntmps24
  go_wp2
  go_ret
  exact ⟨ret_b (by unfold askB; rw [Bool.eq_iff_iff]; simp; try omega), rfl⟩
theorem ask2 (M a b : Nat) (W : Int) (w : World) : Calls Tryd.prog 24 #[.int .i64 11, .int .i64 W, .int .u64 a, .int .u64 b] w fun e w' => e = .returned (.bool (askB 2 M a b)) ∧ w = w' := by
  go_enter Tryd.func24, Tryd.ntmps24
  go_wp2
  go_ret
  exact ⟨ret_b (by unfold askB; rw [Bool.eq_iff_iff]; simp; try omega), rfl⟩
theorem ask4 (M a b : Nat) (W : Int) (w : World) : Calls Tryd.prog 24 #[.int .i64 13, .int .i64 W, .int .u64 a, .int .u64 b] w fun e w' => e = .returned (.bool (askB 4 M a b)) ∧ w = w' := by
  go_enter Tryd.func24, Tryd.ntmps24
  go_wp2
  go_ret
  exact ⟨ret_b (by unfold askB; rw [Bool.eq_iff_iff]; simp; try omega), rfl⟩
theorem ask6 (M a b : Nat) (W : Int) (w : World) : Calls Tryd.prog 24 #[.int .i64 15, .int .i64 W, .int .u64 a, .int .u64 b] w fun e w' => e = .returned (.bool (askB 6 M a b)) ∧ w = w' := by
  go_enter Tryd.func24, Tryd.ntmps24
  go_wp2
  go_ret
  exact ⟨ret_b (by unfold askB; rw [Bool.eq_iff_iff]; simp; try omega), rfl⟩
theorem ask8 (M a b : Nat) (W : Int) (w : World) : Calls Tryd.prog 24 #[.int .i64 17, .int .i64 W, .int .u64 a, .int .u64 b] w fun e w' => e = .returned (.bool (askB 8 M a b)) ∧ w = w' := by
  go_enter Tryd.func24, Tryd.ntmps24
  go_wp2
  go_ret
  exact ⟨ret_b (by unfold askB; rw [Bool.eq_iff_iff]; simp; try omega), rfl⟩
theorem ask10 (M a b : Nat) (W : Int) (w : World) : Calls Tryd.prog 24 #[.int .i64 19, .int .i64 W, .int .u64 a, .int .u64 b] w fun e w' => e = .returned (.bool (askB 10 M a b)) ∧ w = w' := by
  go_enter Tryd.func24, Tryd.ntmps24
  go_wp2
  go_ret
  exact ⟨ret_b (by unfold askB; rw [Bool.eq_iff_iff]; simp; try omega), rfl⟩
theorem ask3 {W M : Nat} (h : Wd W M) (a b : Nat) (ha : a < M) (hb : b < M) (w : World) : Calls Tryd.prog 24 #[.int .i64 12, .int .i64 W, .int .u64 a, .int .u64 b] w fun e w' => e = .returned (.bool (askB 3 M a b)) ∧ w = w' := by
  have C := less_ref h a b ha hb w
  have hs : askB 3 M a b = decide (sg M a < sg M b) := by
    unfold askB
    rw [Bool.eq_iff_iff]; simp
  rw [hs]
  generalize decide (sg M a < sg M b) = r at *
  have C := Lib.hid C
  clear h ha hb hs
  go_enter Tryd.func24, Tryd.ntmps24
  go_wp2_with fail
  refine C.out.mono ?_
  rintro e w1 ⟨rfl, rfl⟩
  go_wp2
  go_ret
  exact ⟨rfl, rfl⟩
theorem ask5 {W M : Nat} (h : Wd W M) (a b : Nat) (ha : a < M) (hb : b < M) (w : World) : Calls Tryd.prog 24 #[.int .i64 14, .int .i64 W, .int .u64 a, .int .u64 b] w fun e w' => e = .returned (.bool (askB 5 M a b)) ∧ w = w' := by
  have C := less_ref h b a hb ha w
  have hs : askB 5 M a b = decide (sg M b < sg M a) := by
    unfold askB
    rw [Bool.eq_iff_iff]; simp
  rw [hs]
  generalize decide (sg M b < sg M a) = r at *
  have C := Lib.hid C
  clear h ha hb hs
  go_enter Tryd.func24, Tryd.ntmps24
  go_wp2_with fail
  refine C.out.mono ?_
  rintro e w1 ⟨rfl, rfl⟩
  go_wp2
  go_ret
  exact ⟨rfl, rfl⟩
theorem ask7 {W M : Nat} (h : Wd W M) (a b : Nat) (ha : a < M) (hb : b < M) (w : World) : Calls Tryd.prog 24 #[.int .i64 16, .int .i64 W, .int .u64 a, .int .u64 b] w fun e w' => e = .returned (.bool (askB 7 M a b)) ∧ w = w' := by
  have C := less_ref h b a hb ha w
  have hs : askB 7 M a b = !decide (sg M b < sg M a) := by
    unfold askB
    rw [Bool.eq_iff_iff]; simp
  rw [hs]
  generalize decide (sg M b < sg M a) = r at *
  have C := Lib.hid C
  clear h ha hb hs
  go_enter Tryd.func24, Tryd.ntmps24
  go_wp2_with fail
  refine C.out.mono ?_
  rintro e w1 ⟨rfl, rfl⟩
  go_wp2
  go_ret
  exact ⟨rfl, rfl⟩
theorem ask9 {W M : Nat} (h : Wd W M) (a b : Nat) (ha : a < M) (hb : b < M) (w : World) : Calls Tryd.prog 24 #[.int .i64 18, .int .i64 W, .int .u64 a, .int .u64 b] w fun e w' => e = .returned (.bool (askB 9 M a b)) ∧ w = w' := by
  have C := less_ref h a b ha hb w
  have hs : askB 9 M a b = !decide (sg M a < sg M b) := by
    unfold askB
    rw [Bool.eq_iff_iff]; simp
  rw [hs]
  generalize decide (sg M a < sg M b) = r at *
  have C := Lib.hid C
  clear h ha hb hs
  go_enter Tryd.func24, Tryd.ntmps24
  go_wp2_with fail
  refine C.out.mono ?_
  rintro e w1 ⟨rfl, rfl⟩
  go_wp2
  go_ret
  exact ⟨rfl, rfl⟩

theorem ask_any {W M : Nat} (h : Wd W M) (p a b : Nat) (h1 : 1 ≤ p) (h2 : p ≤ 10) (ha : a < M) (hb : b < M) (w : World) :
    (Calls Tryd.prog 24 #[.int .i64 ((p + 9 : Nat) : Int), .int .i64 W, .int .u64 a, .int .u64 b] w fun e w' => e = .returned (.bool (askB p M a b)) ∧ w = w') ∧ bin p W M a b = (bit (askB p M a b), 0) := by
  match p, h1, h2 with
  | 0, h1, _ => omega
  | 1, _, _ => exact ⟨ask1 M a b W w, rfl⟩
  | 2, _, _ => exact ⟨ask2 M a b W w, rfl⟩
  | 3, _, _ => exact ⟨ask3 h a b ha hb w, rfl⟩
  | 4, _, _ => exact ⟨ask4 M a b W w, rfl⟩
  | 5, _, _ => exact ⟨ask5 h a b ha hb w, rfl⟩
  | 6, _, _ => exact ⟨ask6 M a b W w, rfl⟩
  | 7, _, _ => exact ⟨ask7 h a b ha hb w, rfl⟩
  | 8, _, _ => exact ⟨ask8 M a b W w, rfl⟩
  | 9, _, _ => exact ⟨ask9 h a b ha hb w, rfl⟩
  | 10, _, _ => exact ⟨ask10 M a b W w, rfl⟩
  | n + 11, _, h2 => omega

/-! ### divide -/
theorem un_pos {M : Nat} (q : Nat) (h : q < M) : un M (q : Int) = q := by
  unfold un
  rw [Int.emod_eq_of_lt (by omega) (by omega)]; omega
theorem un_neg {M : Nat} (q : Nat) (h : q ≤ M) : un M (-(q : Int)) = (M - q) % M := by
  unfold un
  have : (-(q : Int)) = ((M - q : Nat) : Int) + (-1) * (M : Int) := by omega
  rw [this, Int.add_mul_emod_self_right, ← Int.natCast_emod]
  rfl

set_option maxHeartbeats 4000000 in
theorem divide00 {W M : Nat} (h : Wd W M) (a b : Nat) (ha : a < M) (hb : b < M) (h0 : b ≠ 0) (h1 : 2 * a < M) (h2 : 2 * b < M) (w : World) :
    Calls Tryd.prog 27 #[.int .i64 W, .int .u64 a, .int .u64 b] w fun e w' => e = .returned (.tuple #[.int .u64 ((a / b : Nat) : Int), .int .u64 ((a % b : Nat) : Int), .bool (decide (M ≤ 2 * (a / b)))]) ∧ Below w.heap.size w w' := by
  have hM := h.lt
  have e1 : wrap64 ((W : Int) - 1) = ((W - 1 : Nat) : Int) := by unfold wrap64; omega
  have C1 := fun w => Bit_any a (W - 1) (by omega) (by omega) w
  have C2 := fun w => Bit_any b (W - 1) (by omega) (by omega) w
  rw [bit_top h a ha, if_pos h1] at C1
  rw [bit_top h b hb, if_pos h2] at C2
  obtain ⟨x, hx⟩ : ∃ x, x = a := ⟨_, rfl⟩
  obtain ⟨y, hy⟩ : ∃ y, y = b := ⟨_, rfl⟩
  rw [← hx, ← hy]
  have hxM : x < M := by omega
  have hyM : y < M := by omega
  have hy0 : ¬ y = 0 := by omega
  obtain ⟨q, hq⟩ : ∃ q, q = x / y := ⟨_, rfl⟩
  obtain ⟨r, hr⟩ : ∃ r, r = x % y := ⟨_, rfl⟩
  have hqM : q < M := by rw [hq]; exact Nat.lt_of_le_of_lt (Nat.div_le_self _ _) hxM
  have hrM : r < M := by rw [hr]; exact Nat.lt_of_le_of_lt (Nat.mod_le _ _) hxM
  rw [← hq, ← hr]
  have d2 : IntKind.u64.wrap ((x : Int) / (y : Int)) = (q : Int) := by
    rw [← Int.natCast_ediv, ← hq]; exact wrap_nat q (by omega)
  have d3 : (x : Int).tmod (y : Int) = (r : Int) := by rw [Int.tmod_eq_emod_of_nonneg (by omega), ← Int.natCast_emod, ← hr]
  have C3 := fun w => Bit_any q (W - 1) (by omega) (by omega) w
  rw [bit_top h q hqM] at C3
  obtain ⟨t, ht⟩ : ∃ t : Nat, t = if 2 * q < M then 0 else 1 := ⟨_, rfl⟩
  rw [← ht] at C3
  have C3 := Lib.hid C3
  have hov : decide (M ≤ 2 * q) = ((t : Int) == 1) := by
    rw [ht]; split
    · rw [decide_eq_false (by omega)]; rfl
    · rw [decide_eq_true (by omega)]; rfl
  rw [hov]
  have C1 := Lib.hid C1
  have C2 := Lib.hid C2
  subst hx
  subst hy
  try clear hov
  try clear ht
  try clear hq
  try clear hr
  try clear hqM
  try clear hrM
  try clear hxM
  try clear hyM
  try clear hx
  try clear hy
  try clear hM
  try clear h1
  try clear h2
  try clear h0
  try clear ha
  try clear hb
  try clear h
  have B := Lib.hid (Below.refl w.heap.size w)
  go_enter Tryd.func27, Tryd.ntmps27
  go_wp2_with fail
  refine (C1.out _).mono ?_
  rintro e w0 ⟨rfl, rfl⟩
  go_wp2_with fail
  refine (C2.out _).mono ?_
  rintro e w1 ⟨rfl, rfl⟩
  go_wp2_with fail
  refine (C1.out _).mono ?_
  rintro e w2 ⟨rfl, rfl⟩
  go_wp2_with fail
  refine (C2.out _).mono ?_
  rintro e w3 ⟨rfl, rfl⟩
  go_wp2_with fail
  refine (C3.out _).mono ?_
  rintro e w4 ⟨rfl, rfl⟩
  go_wp2_with fail
  refine (C1.out _).mono ?_
  rintro e w5 ⟨rfl, rfl⟩
  go_wp2
  refine bodyPost_ret (v := .tuple #[.int .u64 _, .int .u64 _, .bool _]) (by simp [results, Tryd.results27, go_sem]; try rfl) rfl ⟨rfl, B.out⟩
set_option maxHeartbeats 4000000 in
theorem divide01 {W M : Nat} (h : Wd W M) (a b : Nat) (ha : a < M) (hb : b < M) (_h0 : b ≠ 0) (h1 : 2 * a < M) (h2 : ¬ 2 * b < M) (w : World) :
    Calls Tryd.prog 27 #[.int .i64 W, .int .u64 a, .int .u64 b] w fun e w' => e = .returned (.tuple #[.int .u64 (((M - a / (M - b)) % M : Nat) : Int), .int .u64 ((a % (M - b) : Nat) : Int), .bool (false)]) ∧ Below w.heap.size w w' := by
  have hM := h.lt
  have e1 : wrap64 ((W : Int) - 1) = ((W - 1 : Nat) : Int) := by unfold wrap64; omega
  have C1 := fun w => Bit_any a (W - 1) (by omega) (by omega) w
  have C2 := fun w => Bit_any b (W - 1) (by omega) (by omega) w
  rw [bit_top h a ha, if_pos h1] at C1
  rw [bit_top h b hb, if_neg h2] at C2
  obtain ⟨x, hx⟩ : ∃ x, x = a := ⟨_, rfl⟩
  obtain ⟨y, hy⟩ : ∃ y, y = (M - b) := ⟨_, rfl⟩
  rw [← hx, ← hy]
  have hxM : x < M := by omega
  have hyM : y < M := by omega
  have hy0 : ¬ y = 0 := by omega
  obtain ⟨q, hq⟩ : ∃ q, q = x / y := ⟨_, rfl⟩
  obtain ⟨r, hr⟩ : ∃ r, r = x % y := ⟨_, rfl⟩
  have hqM : q < M := by rw [hq]; exact Nat.lt_of_le_of_lt (Nat.div_le_self _ _) hxM
  have hrM : r < M := by rw [hr]; exact Nat.lt_of_le_of_lt (Nat.mod_le _ _) hxM
  rw [← hq, ← hr]
  have d2 : IntKind.u64.wrap ((x : Int) / (y : Int)) = (q : Int) := by
    rw [← Int.natCast_ediv, ← hq]; exact wrap_nat q (by omega)
  have d3 : (x : Int).tmod (y : Int) = (r : Int) := by rw [Int.tmod_eq_emod_of_nonneg (by omega), ← Int.natCast_emod, ← hr]
  have M2 := fun w => minus_ref h b hb w
  rw [show (M - b) % M = y by rw [hy]; exact Nat.mod_eq_of_lt (by omega)] at M2
  have M2 := Lib.hid M2
  have M3 := Lib.hid (fun w => minus_ref h q hqM w)
  have C1 := Lib.hid C1
  have C2 := Lib.hid C2
  subst hx
  try clear hov
  try clear ht
  try clear hq
  try clear hr
  try clear hqM
  try clear hrM
  try clear hxM
  try clear hyM
  try clear hx
  try clear hy
  try clear hM
  try clear h1
  try clear h2
  try clear h0
  try clear ha
  try clear hb
  try clear h
  have B := Lib.hid (Below.refl w.heap.size w)
  go_enter Tryd.func27, Tryd.ntmps27
  go_wp2_with fail
  refine (C1.out _).mono ?_
  rintro e w0 ⟨rfl, rfl⟩
  go_wp2_with fail
  refine (C2.out _).mono ?_
  rintro e w1 ⟨rfl, rfl⟩
  go_wp2_with fail
  refine (M2.out _).mono ?_
  rintro e w2 ⟨rfl, b⟩
  replace B := Lib.hid (B.out.trans (b.mono B.out.size))
  clear b
  go_wp2_with fail
  refine (C1.out _).mono ?_
  rintro e w3 ⟨rfl, rfl⟩
  go_wp2_with fail
  refine (C2.out _).mono ?_
  rintro e w4 ⟨rfl, rfl⟩
  go_wp2_with fail
  refine (M3.out _).mono ?_
  rintro e w5 ⟨rfl, b⟩
  replace B := Lib.hid (B.out.trans (b.mono B.out.size))
  clear b
  go_wp2_with fail
  refine (C1.out _).mono ?_
  rintro e w6 ⟨rfl, rfl⟩
  go_wp2
  refine bodyPost_ret (v := .tuple #[.int .u64 _, .int .u64 _, .bool _]) (by simp [results, Tryd.results27, go_sem]; try rfl) rfl ⟨rfl, B.out⟩
set_option maxHeartbeats 4000000 in
theorem divide10 {W M : Nat} (h : Wd W M) (a b : Nat) (ha : a < M) (hb : b < M) (h0 : b ≠ 0) (h1 : ¬ 2 * a < M) (h2 : 2 * b < M) (w : World) :
    Calls Tryd.prog 27 #[.int .i64 W, .int .u64 a, .int .u64 b] w fun e w' => e = .returned (.tuple #[.int .u64 (((M - (M - a) / b) % M : Nat) : Int), .int .u64 (((M - (M - a) % b) % M : Nat) : Int), .bool (false)]) ∧ Below w.heap.size w w' := by
  have hM := h.lt
  have e1 : wrap64 ((W : Int) - 1) = ((W - 1 : Nat) : Int) := by unfold wrap64; omega
  have C1 := fun w => Bit_any a (W - 1) (by omega) (by omega) w
  have C2 := fun w => Bit_any b (W - 1) (by omega) (by omega) w
  rw [bit_top h a ha, if_neg h1] at C1
  rw [bit_top h b hb, if_pos h2] at C2
  obtain ⟨x, hx⟩ : ∃ x, x = (M - a) := ⟨_, rfl⟩
  obtain ⟨y, hy⟩ : ∃ y, y = b := ⟨_, rfl⟩
  rw [← hx, ← hy]
  have hxM : x < M := by omega
  have hyM : y < M := by omega
  have hy0 : ¬ y = 0 := by omega
  obtain ⟨q, hq⟩ : ∃ q, q = x / y := ⟨_, rfl⟩
  obtain ⟨r, hr⟩ : ∃ r, r = x % y := ⟨_, rfl⟩
  have hqM : q < M := by rw [hq]; exact Nat.lt_of_le_of_lt (Nat.div_le_self _ _) hxM
  have hrM : r < M := by rw [hr]; exact Nat.lt_of_le_of_lt (Nat.mod_le _ _) hxM
  rw [← hq, ← hr]
  have d2 : IntKind.u64.wrap ((x : Int) / (y : Int)) = (q : Int) := by
    rw [← Int.natCast_ediv, ← hq]; exact wrap_nat q (by omega)
  have d3 : (x : Int).tmod (y : Int) = (r : Int) := by rw [Int.tmod_eq_emod_of_nonneg (by omega), ← Int.natCast_emod, ← hr]
  have M1 := fun w => minus_ref h a ha w
  rw [show (M - a) % M = x by rw [hx]; exact Nat.mod_eq_of_lt (by omega)] at M1
  have M1 := Lib.hid M1
  have M3 := Lib.hid (fun w => minus_ref h q hqM w)
  have M4 := Lib.hid (fun w => minus_ref h r hrM w)
  have C1 := Lib.hid C1
  have C2 := Lib.hid C2
  subst hy
  try clear hov
  try clear ht
  try clear hq
  try clear hr
  try clear hqM
  try clear hrM
  try clear hxM
  try clear hyM
  try clear hx
  try clear hy
  try clear hM
  try clear h1
  try clear h2
  try clear h0
  try clear ha
  try clear hb
  try clear h
  have B := Lib.hid (Below.refl w.heap.size w)
  go_enter Tryd.func27, Tryd.ntmps27
  go_wp2_with fail
  refine (C1.out _).mono ?_
  rintro e w0 ⟨rfl, rfl⟩
  go_wp2_with fail
  refine (M1.out _).mono ?_
  rintro e w1 ⟨rfl, b⟩
  replace B := Lib.hid (B.out.trans (b.mono B.out.size))
  clear b
  go_wp2_with fail
  refine (C2.out _).mono ?_
  rintro e w2 ⟨rfl, rfl⟩
  go_wp2_with fail
  refine (C1.out _).mono ?_
  rintro e w3 ⟨rfl, rfl⟩
  go_wp2_with fail
  refine (C2.out _).mono ?_
  rintro e w4 ⟨rfl, rfl⟩
  go_wp2_with fail
  refine (M3.out _).mono ?_
  rintro e w5 ⟨rfl, b⟩
  replace B := Lib.hid (B.out.trans (b.mono B.out.size))
  clear b
  go_wp2_with fail
  refine (C1.out _).mono ?_
  rintro e w6 ⟨rfl, rfl⟩
  go_wp2_with fail
  refine (M4.out _).mono ?_
  rintro e w7 ⟨rfl, b⟩
  replace B := Lib.hid (B.out.trans (b.mono B.out.size))
  clear b
  go_wp2
  refine bodyPost_ret (v := .tuple #[.int .u64 _, .int .u64 _, .bool _]) (by simp [results, Tryd.results27, go_sem]; try rfl) rfl ⟨rfl, B.out⟩
set_option maxHeartbeats 4000000 in
theorem divide11 {W M : Nat} (h : Wd W M) (a b : Nat) (ha : a < M) (hb : b < M) (_h0 : b ≠ 0) (h1 : ¬ 2 * a < M) (h2 : ¬ 2 * b < M) (w : World) :
    Calls Tryd.prog 27 #[.int .i64 W, .int .u64 a, .int .u64 b] w fun e w' => e = .returned (.tuple #[.int .u64 (((M - a) / (M - b) : Nat) : Int), .int .u64 (((M - (M - a) % (M - b)) % M : Nat) : Int), .bool (decide (M ≤ 2 * ((M - a) / (M - b))))]) ∧ Below w.heap.size w w' := by
  have hM := h.lt
  have e1 : wrap64 ((W : Int) - 1) = ((W - 1 : Nat) : Int) := by unfold wrap64; omega
  have C1 := fun w => Bit_any a (W - 1) (by omega) (by omega) w
  have C2 := fun w => Bit_any b (W - 1) (by omega) (by omega) w
  rw [bit_top h a ha, if_neg h1] at C1
  rw [bit_top h b hb, if_neg h2] at C2
  obtain ⟨x, hx⟩ : ∃ x, x = (M - a) := ⟨_, rfl⟩
  obtain ⟨y, hy⟩ : ∃ y, y = (M - b) := ⟨_, rfl⟩
  rw [← hx, ← hy]
  have hxM : x < M := by omega
  have hyM : y < M := by omega
  have hy0 : ¬ y = 0 := by omega
  obtain ⟨q, hq⟩ : ∃ q, q = x / y := ⟨_, rfl⟩
  obtain ⟨r, hr⟩ : ∃ r, r = x % y := ⟨_, rfl⟩
  have hqM : q < M := by rw [hq]; exact Nat.lt_of_le_of_lt (Nat.div_le_self _ _) hxM
  have hrM : r < M := by rw [hr]; exact Nat.lt_of_le_of_lt (Nat.mod_le _ _) hxM
  rw [← hq, ← hr]
  have d2 : IntKind.u64.wrap ((x : Int) / (y : Int)) = (q : Int) := by
    rw [← Int.natCast_ediv, ← hq]; exact wrap_nat q (by omega)
  have d3 : (x : Int).tmod (y : Int) = (r : Int) := by rw [Int.tmod_eq_emod_of_nonneg (by omega), ← Int.natCast_emod, ← hr]
  have M1 := fun w => minus_ref h a ha w
  rw [show (M - a) % M = x by rw [hx]; exact Nat.mod_eq_of_lt (by omega)] at M1
  have M1 := Lib.hid M1
  have M2 := fun w => minus_ref h b hb w
  rw [show (M - b) % M = y by rw [hy]; exact Nat.mod_eq_of_lt (by omega)] at M2
  have M2 := Lib.hid M2
  have M4 := Lib.hid (fun w => minus_ref h r hrM w)
  have C3 := fun w => Bit_any q (W - 1) (by omega) (by omega) w
  rw [bit_top h q hqM] at C3
  obtain ⟨t, ht⟩ : ∃ t : Nat, t = if 2 * q < M then 0 else 1 := ⟨_, rfl⟩
  rw [← ht] at C3
  have C3 := Lib.hid C3
  have hov : decide (M ≤ 2 * q) = ((t : Int) == 1) := by
    rw [ht]; split
    · rw [decide_eq_false (by omega)]; rfl
    · rw [decide_eq_true (by omega)]; rfl
  rw [hov]
  have C1 := Lib.hid C1
  have C2 := Lib.hid C2
  try clear hov
  try clear ht
  try clear hq
  try clear hr
  try clear hqM
  try clear hrM
  try clear hxM
  try clear hyM
  try clear hx
  try clear hy
  try clear hM
  try clear h1
  try clear h2
  try clear h0
  try clear ha
  try clear hb
  try clear h
  have B := Lib.hid (Below.refl w.heap.size w)
  go_enter Tryd.func27, Tryd.ntmps27
  go_wp2_with fail
  refine (C1.out _).mono ?_
  rintro e w0 ⟨rfl, rfl⟩
  go_wp2_with fail
  refine (M1.out _).mono ?_
  rintro e w1 ⟨rfl, b⟩
  replace B := Lib.hid (B.out.trans (b.mono B.out.size))
  clear b
  go_wp2_with fail
  refine (C2.out _).mono ?_
  rintro e w2 ⟨rfl, rfl⟩
  go_wp2_with fail
  refine (M2.out _).mono ?_
  rintro e w3 ⟨rfl, b⟩
  replace B := Lib.hid (B.out.trans (b.mono B.out.size))
  clear b
  go_wp2_with fail
  refine (C1.out _).mono ?_
  rintro e w4 ⟨rfl, rfl⟩
  go_wp2_with fail
  refine (C2.out _).mono ?_
  rintro e w5 ⟨rfl, rfl⟩
  go_wp2_with fail
  refine (C3.out _).mono ?_
  rintro e w6 ⟨rfl, rfl⟩
  go_wp2_with fail
  refine (C1.out _).mono ?_
  rintro e w7 ⟨rfl, rfl⟩
  go_wp2_with fail
  refine (M4.out _).mono ?_
  rintro e w8 ⟨rfl, b⟩
  replace B := Lib.hid (B.out.trans (b.mono B.out.size))
  clear b
  go_wp2
  refine bodyPost_ret (v := .tuple #[.int .u64 _, .int .u64 _, .bool _]) (by simp [results, Tryd.results27, go_sem]; try rfl) rfl ⟨rfl, B.out⟩

theorem tdiv_nat (x y : Nat) : (x : Int).tdiv (y : Int) = ((x / y : Nat) : Int) := by rw [Int.tdiv_eq_ediv_of_nonneg (by omega)]; exact (Int.natCast_ediv x y).symm
theorem tmod_nat (x y : Nat) : (x : Int).tmod (y : Int) = ((x % y : Nat) : Int) := by rw [Int.tmod_eq_emod_of_nonneg (by omega)]; exact (Int.natCast_emod x y).symm
theorem sg_p {M a : Nat} (h : 2 * a < M) : sg M a = (a : Int) := by unfold sg; rw [if_pos h]
theorem sg_n {M a : Nat} (ha : a < M) (h : ¬ 2 * a < M) : sg M a = -((M - a : Nat) : Int) := by unfold sg; rw [if_neg h]; omega

/-- signed division, whole -/
theorem divide_ref {W M : Nat} (h : Wd W M) (a b : Nat) (ha : a < M) (hb : b < M) (h0 : b ≠ 0) (w : World) :
    ∃ (q : Nat) (ov : Bool), (Calls Tryd.prog 27 #[.int .i64 W, .int .u64 a, .int .u64 b] w fun e w' => e = .returned (.tuple #[.int .u64 (q : Int), .int .u64 ((un M ((sg M a).tmod (sg M b)) : Nat) : Int), .bool ov]) ∧ Below w.heap.size w w') ∧
      ((ov = true ∧ 2 * a = M ∧ sg M b = -1) ∨ (ov = false ∧ ¬ (2 * a = M ∧ sg M b = -1) ∧ q = un M ((sg M a).tdiv (sg M b)))) := by
  have hM := h.lt
  by_cases h1 : 2 * a < M
  · by_cases h2 : 2 * b < M
    · have C := divide00 h a b ha hb h0 h1 h2 w
      have l1 : a / b ≤ a := Nat.div_le_self _ _
      have l2 : a % b ≤ a := Nat.mod_le _ _
      rw [sg_p h1, sg_p h2, tmod_nat, tdiv_nat, un_pos _ (show a % b < M by omega), un_pos _ (show a / b < M by omega)]
      exact ⟨_, _, C, Or.inr ⟨decide_eq_false (by omega), by omega, rfl⟩⟩
    · have C := divide01 h a b ha hb h0 h1 h2 w
      have l1 : a / (M - b) ≤ a := Nat.div_le_self _ _
      have l2 : a % (M - b) ≤ a := Nat.mod_le _ _
      rw [sg_p h1, sg_n hb h2, Int.tmod_neg, Int.tdiv_neg, tmod_nat, tdiv_nat, un_pos _ (show a % (M - b) < M by omega), un_neg _ (show a / (M - b) ≤ M by omega)]
      exact ⟨_, _, C, Or.inr ⟨rfl, by omega, rfl⟩⟩
  · by_cases h2 : 2 * b < M
    · have C := divide10 h a b ha hb h0 h1 h2 w
      have l1 : (M - a) / b ≤ M - a := Nat.div_le_self _ _
      have l2 : (M - a) % b ≤ M - a := Nat.mod_le _ _
      rw [sg_n ha h1, sg_p h2, Int.neg_tmod, Int.neg_tdiv, tmod_nat, tdiv_nat, un_neg _ (show (M - a) % b ≤ M by omega), un_neg _ (show (M - a) / b ≤ M by omega)]
      exact ⟨_, _, C, Or.inr ⟨rfl, by omega, rfl⟩⟩
    · have C := divide11 h a b ha hb h0 h1 h2 w
      have l1 : (M - a) / (M - b) ≤ M - a := Nat.div_le_self _ _
      have l2 : (M - a) % (M - b) ≤ M - a := Nat.mod_le _ _
      rw [sg_n ha h1, sg_n hb h2, Int.tmod_neg, Int.neg_tmod, Int.tdiv_neg, Int.neg_tdiv, Int.neg_neg, tmod_nat, tdiv_nat, un_neg _ (show (M - a) % (M - b) ≤ M by omega), un_pos _ (show (M - a) / (M - b) < M by omega)]
      refine ⟨_, _, C, ?_⟩
      by_cases hy : M - b = 1
      · rw [hy, Nat.div_one]
        by_cases hx : 2 * a = M
        · exact Or.inl ⟨decide_eq_true (by omega), hx, by omega⟩
        · exact Or.inr ⟨decide_eq_false (by omega), fun k => hx k.1, rfl⟩
      · have l3 : (M - a) / (M - b) ≤ (M - a) / 2 := Nat.div_le_div_left (by omega) (by omega)
        exact Or.inr ⟨decide_eq_false (by omega), by omega, rfl⟩

/-! ### Extend -/
theorem numL_rep0 : ∀ n, numL (List.replicate n 0) = 0
  | 0 => rfl
  | n + 1 => by rw [List.replicate_succ, numL, numL_rep0 n]
theorem numL_rep1 : ∀ n, numL (List.replicate n 1) = 2 ^ n - 1
  | 0 => rfl
  | n + 1 => by
    have := Nat.pow_pos (n := n) (show 0 < 2 by omega)
    rw [List.replicate_succ, numL, numL_rep1 n, Nat.pow_succ]; omega
theorem ext_num {V N W M : Nat} (hf : Fd V N) (h : Wd W M) (hVW : V ≤ W) (a : Nat) : numL (bitsL a V ++ List.replicate (W - V) (a / 2 ^ (V - 1) % 2)) = un M (sg N (a % N)) := by
  rw [numL_append, numL_bits, bitsL_len]
  have hN : N = 2 ^ V := by rcases hf with ⟨rfl, rfl⟩ | ⟨rfl, rfl⟩ | ⟨rfl, rfl⟩ <;> rfl
  have hb : a / 2 ^ (V - 1) % 2 = if 2 * (a % N) < N then 0 else 1 := by
    rcases hf with ⟨rfl, rfl⟩ | ⟨rfl, rfl⟩ | ⟨rfl, rfl⟩ <;> split <;> omega
  have hMN : M = 2 ^ V * 2 ^ (W - V) := by rw [← Nat.pow_add, show V + (W - V) = W by omega]; exact h.pow
  have hp := Nat.pow_pos (n := W - V) (show 0 < 2 by omega)
  have hl := h.lt
  have hr : a % N < N := Nat.mod_lt _ (by rw [hN]; exact Nat.pow_pos (by omega))
  rw [← hN]
  rw [← hN] at hMN
  rw [hb]
  generalize a % N = r at *
  split
  · rename_i hs
    rw [numL_rep0, sg_p hs, un_pos]
    · omega
    · have : N ≤ N * 2 ^ (W - V) := Nat.le_mul_of_pos_right _ hp
      omega
  · rename_i hs
    rw [numL_rep1, sg_n hr hs, Nat.mul_sub, Nat.mul_one, ← hMN]
    have : N ≤ M := by rw [hMN]; exact Nat.le_mul_of_pos_right _ hp
    rw [un_neg _ (by omega), Nat.mod_eq_of_lt (by omega)]
    omega

def lenOf : Value → Nat
  | .slice _ n _ => n
  | _ => 0
set_option maxHeartbeats 1000000 in
theorem Extend_ref {V N W M : Nat} (hf : Fd V N) (h : Wd W M) (hVW : V ≤ W) (a : Nat) (ha : a < 18446744073709551616) (w : World) :
    Calls Tryd.prog 29 #[.int .u64 a, .int .i64 V, .int .i64 W] w fun e w' => e = .returned (.int .u64 ((un M (sg N (a % N)) : Nat) : Int)) ∧ Below w.heap.size w w' := by
  obtain ⟨i0, hi, hz0, hz1, hz2⟩ := info_parts info3
  have hW := h.lt
  have hV : 8 ≤ V ∧ V ≤ 32 := by rcases hf with ⟨rfl, rfl⟩ | ⟨rfl, rfl⟩ | ⟨rfl, rfl⟩ <;> omega
  have C := Lib.hid (Bits_ref a V ha (by omega) w)
  have EN := ext_num hf h hVW a
  obtain ⟨t, ht⟩ : ∃ t, t = a / 2 ^ (V - 1) % 2 := ⟨_, rfl⟩
  have htop := bitsL_get V a (V - 1) (by omega)
  rw [← ht] at EN htop
  have ht1 : t ≤ 1 := by omega
  rw [← EN]
  have HV := Lib.hid hV
  have HW := Lib.hid (And.intro hVW (And.intro hW.2.2.1 ht1))
  have HT := Lib.hid htop
  have hs : wrap64 ((V : Int) - 1) = ((V - 1 : Nat) : Int) := by unfold wrap64; omega
  clear hf h hVW ha EN ht htop hW hV ht1
  go_enter Tryd.func29, Tryd.ntmps29
  go_wp2_with fail
  refine C.out.mono ?_
  rintro e w1 ⟨v, rfl, o, b⟩
  have O := Lib.hid o
  have B := Lib.hid b
  clear o b C
  go_wp2_with fail
  go_loopw [7] (fun s wr => ∃ k : Nat, V + k ≤ W ∧ Own wr w.heap.size s (bitsL a V ++ List.replicate k t) ∧ Below w.heap.size w wr) (fun s _ => W - lenOf s)
  case atStart => exact ⟨0, by have := HW.out; omega, by simpa using O.out, B.out⟩
  case round =>
    clear O B
    obtain ⟨k, hk, hown', hb⟩ := hrel
    have hll : (bitsL a V ++ List.replicate k t).length = V + k := by simp [bitsL_len]
    obtain ⟨g, cap, rfl⟩ := hown'.form (by rw [hll]; have := HV.out; omega)
    have hcell := hown'.row rfl (V - 1) t (by rw [List.getElem?_append_left (by rw [bitsL_len]; have := HV.out; omega)]; exact HT.out)
    rw [hll] at hown' ⊢
    have HO := Lib.hid hown'
    have HB := Lib.hid hb
    have HLL := Lib.hid hll
    have hlt1 : (V : Int) - 1 < (V : Int) + (k : Int) := by have := HV.out; omega
    have hlt2 : (1 : Int) ≤ (V : Int) := by have := HV.out; omega
    have htn : ((V : Int) - 1).toNat = V - 1 := by omega
    clear hown' hll
    by_cases h : V + k < W
    · have hk64 : V + k < 64 := by have := HW.out; omega
      go_wp2_with (at_builtin; refine wpList_append_own _ rfl _ _ 54 rfl w.heap.size 3 i0 (.int .i64 0) 1 8 Tryd.underlying54 hi hz0 hz1 hz2 rfl (by decide) _ _ _ rfl (World.ownsRow.alloc HO.out _) ⟨wr.heap.size, 0, none⟩ 1 1 [.int .i64 (t : Int)] rfl rfl ?c1a ?c2a ?c3a ?c4a ?c5a ?_)
      case c1a =>
        intro j u hj
        match j, hj with
        | 0, hj => simp at hj; subst hj; simp [Addr.add]
      case c2a => intro u hu; simp at hu; subst hu; rfl
      case c3a => have := HLL.out; unfold maxLen; omega
      case c4a => have := HLL.out; omega
      case c5a => have := hb.size; simp; omega
      · intro v' w1 hown' hgrow _
        have r1 := Own.snoc _ t (t : Int) (by simp) rfl hown'
        rw [List.append_assoc, show List.replicate k t ++ [t] = List.replicate (k + 1) t from (List.replicate_succ' ..).symm] at r1
        have hl2 : (bitsL a V ++ List.replicate (k + 1) t).length = V + k + 1 := by simp [bitsL_len]; omega
        obtain ⟨g2, cap2, rfl⟩ := r1.form (by omega)
        rw [hl2] at r1 hown' ⊢
        have R1 := Lib.hid r1
        have R2 := Lib.hid (hb.grownOwn hb.size HO.out _ hgrow)
        clear hown' hgrow hb r1 hl2 hcell
        go_wp2
        go_roundw
        case rel => exact ⟨k + 1, by omega, R1.out, R2.out⟩
        case measure => simp [lenOf]; omega
    · have hkW : k = W - V := by omega
      have HO2 : Own wr w.heap.size (Value.slice (some { block := g, off := 0 }) (V + k) cap) (bitsL a V ++ List.replicate (W - V) t) := by rw [← hkW]; exact HO.out
      have D := Num_own HO2 (by rw [← hkW, HLL.out]; have := HV.out; omega) (by rw [← hkW, HLL.out]; have := HW.out; omega) (by
        intro b hb
        rcases List.mem_append.1 hb with hb | hb
        · exact bitsL_le V a b hb
        · rw [List.eq_of_mem_replicate hb]; exact HW.out.2.2)
      have D := Lib.hid D
      clear hcell hb HO2 hkW
      go_wp2_with fail
      refine D.out.mono ?_
      rintro e w2 ⟨rfl, rfl⟩
      go_wp2
      go_ret
      exact ⟨rfl, HB.out⟩
end Go.Proofs.YtdoejkdckokjdaaDoor
