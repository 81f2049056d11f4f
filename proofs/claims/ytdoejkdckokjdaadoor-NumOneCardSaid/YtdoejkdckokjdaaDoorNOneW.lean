/- geodelaw03.NumOne. -/
import Derived.Test.YtdoejkdckokjdaaDoorRefE
namespace Go.Proofs.YtdoejkdckokjdaaDoor
open Go.RowKit

theorem hit_31 (op : Int) (p W : Nat) (h : hit op = some (p, W)) (h31 : p = 31) : W = 64 := by
  unfold hit at h
  obtain ⟨r, hr, e⟩ := Option.map_eq_some_iff.1 h
  have hq := List.find?_some hr
  have hm := List.mem_of_find?_eq_some hr
  simp only [decide_eq_true_eq] at hq
  simp only [Prod.mk.injEq] at e
  obtain ⟨e1, e2⟩ := e
  simp only [runL, List.mem_cons, List.not_mem_nil, or_false] at hm
  rcases hm with rfl | rfl | rfl | rfl | rfl | rfl | rfl | rfl <;> (dsimp only at e1 e2 hq; omega)
theorem uno_of (p : Nat) (hp : p < 35) (h : (opc p).2.1 ≠ 0) : Uno p := by
  unfold Uno
  match p, hp, h with
  | 0, _, _ | 11, _, _ | 12, _, _ | 13, _, _ | 29, _, _ | 30, _, _ | 31, _, _ | 32, _, _ | 33, _, _ | 34, _, _ => omega
  | 1, _, hk | 2, _, hk | 3, _, hk | 4, _, hk | 5, _, hk | 6, _, hk | 7, _, hk | 8, _, hk | 9, _, hk | 10, _, hk | 14, _, hk | 15, _, hk | 16, _, hk | 17, _, hk | 18, _, hk | 19, _, hk | 20, _, hk | 21, _, hk | 22, _, hk | 23, _, hk | 24, _, hk | 25, _, hk | 26, _, hk | 27, _, hk | 28, _, hk => exact absurd rfl hk
  | n + 35, hp, _ => omega
theorem una_zero (p W M a : Nat) (hp : p < 35) (h : (opc p).2.1 ≠ 0) : (una p W M a).2 = 0 := by
  match p, hp, h with
  | 0, _, _ | 11, _, _ | 12, _, _ | 13, _, _ | 29, _, _ | 30, _, _ | 31, _, _ | 32, _, _ | 33, _, _ | 34, _, _ => rfl
  | 1, _, hk | 2, _, hk | 3, _, hk | 4, _, hk | 5, _, hk | 6, _, hk | 7, _, hk | 8, _, hk | 9, _, hk | 10, _, hk | 14, _, hk | 15, _, hk | 16, _, hk | 17, _, hk | 18, _, hk | 19, _, hk | 20, _, hk | 21, _, hk | 22, _, hk | 23, _, hk | 24, _, hk | 25, _, hk | 26, _, hk | 27, _, hk | 28, _, hk => exact absurd rfl hk
  | n + 35, hp, _ => omega
theorem opc_same (p : Nat) (h1 : 29 ≤ p) (h2 : p ≤ 31) : (opc p).1 = 0 := by
  have : p = 29 ∨ p = 30 ∨ p = 31 := by omega
  rcases this with rfl | rfl | rfl <;> rfl

theorem OneR_any (op : Int) (a : Nat) (ha : a < 18446744073709551616) (w : World) :
    Calls Tryd.prog 17 #[.int .i64 op, .int .u64 a] w fun e w' => e = .returned (.tuple #[.int .u64 (((oneV op a).1 : Nat) : Int), .int .i64 (((oneV op a).2 : Nat) : Int)]) ∧ Below w.heap.size w w' := by
  have hOf := Of_any op w
  unfold oneV
  cases hh : hit op with
  | none =>
    rw [kindV_none hh] at hOf
    exact OneR_many op a 0 0 0 0 (by omega) w hOf
  | some q =>
    obtain ⟨p, W⟩ := q
    rw [kindV_some hh] at hOf
    obtain ⟨hp, hW, h33⟩ := hit_wd op p W hh
    dsimp only
    by_cases k1 : (opc p).2.1 = 0
    · rw [una_none p hp k1, show (if a < po W then ((0 : Nat), (2 : Nat)) else (0, 2)) = (0, 2) by split <;> rfl]
      unfold kd at hOf
      rw [if_pos k1] at hOf
      exact OneR_many op a _ _ _ 2 (by omega) w hOf
    · unfold kd at hOf
      rw [if_neg k1] at hOf
      by_cases hla : a < po W
      · rw [if_pos hla, una_zero p W (po W) a hp k1]
        refine OneR_ok hW op a p _ (uno_of p hp k1) h33 (hit_31 op p W hh) ?_ hla w hOf
        intro h1 h2
        rw [if_pos (opc_same p h1 h2)]
      · rw [if_neg hla]
        exact OneR_bad hW op a _ _ ha hla w hOf

theorem kind_bits (op : Int) : (kindV op).2 = bitsV op := by
  unfold kindV bitsV
  cases hit op with
  | none => rfl
  | some q => rfl

set_option maxHeartbeats 4000000 in
theorem NumOne_walk (op : Int) (a : Nat) (h1 : -9223372036854775808 ≤ op) (h2 : op < 9223372036854775808) (ha : a < 18446744073709551616) (w : World) (hL : Laid w) :
    Calls Tryd.prog 9 #[.int .i64 op, .int .u64 a] w fun e w' => e = .returned (.bool true) ∧ Below w.heap.size w w' := by
  have C1 := Lib.hid (fun w hL => One_any op h1 h2 a ha w hL)
  have C2 := Lib.hid (fun w => OneR_any op a ha w)
  have C3 := Lib.hid (fun w hL => Bits_any op h1 h2 w hL)
  have c4 := fun w => Of_any op w
  have hk := kind_bits op
  generalize oneV op a = x at C1 C2
  obtain ⟨x1, x2⟩ := x
  rw [← hk] at C3
  clear hk
  generalize kindV op = kv at c4 C3
  obtain ⟨pl, fr, tt, mm⟩ := kv
  dsimp only at C1 C2 C3
  have C4 := Lib.hid c4
  have HL := Lib.hid hL
  clear hL h1 h2 ha c4
  go_enter Tryd.func9, Tryd.ntmps9
  go_wp2_with fail
  refine (C1.out _ HL.out).mono ?_
  rintro e w1 ⟨rfl, b⟩
  have B := Lib.hid b
  clear b
  go_wp2_with fail
  refine (C2.out _).mono ?_
  rintro e w2 ⟨rfl, b⟩
  have B2 := Lib.hid (B.out.trans (b.mono B.out.size))
  clear b B
  go_wp2_with fail
  refine (C3.out _ (HL.out.kept B2.out)).mono ?_
  rintro e w3 ⟨rfl, b⟩
  have B3 := Lib.hid (B2.out.trans (b.mono B2.out.size))
  clear b B2
  go_wp2_with fail
  refine (C4.out _).mono ?_
  rintro e w4 ⟨rfl, b⟩
  have B4 := Lib.hid (B3.out.trans (b.mono B3.out.size))
  clear b B3
  go_wp2_with fail
  have B5 := Lib.hid (B4.out.alloc B4.out.size (.cells #[.int .i64 (pl : Nat), .int .i64 (fr : Nat), .int .i64 (tt : Nat), .int .i64 (mm : Nat)] 39))
  refine (known_any _ (HL.out.kept B5.out)).mono ?_
  rintro e w5 ⟨rfl, b⟩
  go_wp2
  go_ret
  exact ⟨rfl, B5.out.trans (b.mono B5.out.size)⟩
end Go.Proofs.YtdoejkdckokjdaaDoor
