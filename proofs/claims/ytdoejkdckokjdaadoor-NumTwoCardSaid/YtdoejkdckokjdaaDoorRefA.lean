/- geoderef03: Bit, Bits, Number, Fits, cut, minus, yes. -/
import Derived.Test.YtdoejkdckokjdaaDoorRefM
import Derived.Lib.SmallJoins
import Derived.Laws.EntriesVeiled
namespace Go.Proofs.YtdoejkdckokjdaaDoor
open Go.RowKit

theorem info3 : (Tryd.prog.info? 3).map (fun i => (i.zero, i.size, i.bytes)) = some (some (.int .i64 0), 1, 8) := by kernel_rfl

/-- numbers as cells -/
def cellsL (l : List Nat) : List Value := l.map fun (c : Nat) => Value.int .i64 (c : Int)
/-- the slice v, made since block B, holds the numbers l -/
def Own (w : World) (B : Nat) (v : Value) (l : List Nat) : Prop := w.ownsRow B 3 1 v l.length (cellsL l)
theorem Own.snoc {w : World} {B : Nat} {v : Value} {l : List Nat} (n c : Nat) (x : Int) (hn : l.length = n) (hx : x = c) (h : w.ownsRow B 3 1 v (n + 1) (cellsL l ++ [.int .i64 x])) : Own w B v (l ++ [c]) := by
  subst hx; subst hn; simpa [Own, cellsL] using h
theorem _root_.Go.RowKit.Below.grownOwn {B : Nat} {a w w' : World} {v : Value} {l : List Nat} (h : Below B a w) (hB : B ≤ w.heap.size) (hown : Own w B v l) (o : Obj) (hg : (w.alloc o).grownBy w' v.ownBlock) : Below B a w' :=
  (h.alloc hB o).grown hg (by simp; omega) (fun k hk => (hown.lt k hk).1)
theorem Own.later {w w' : World} {B : Nat} {v : Value} {l : List Nat} (h : Own w B v l) (b : Below w.heap.size w w') : Own w' B v l := by
  unfold Own World.ownsRow at h ⊢
  refine ⟨h.1, h.2.imp id ?_⟩
  rintro ⟨g, cap, cur, e, h1, h2, h3⟩
  exact ⟨g, cap, cur, e, h1, (b.block g (by have := (Array.getElem?_eq_some_iff.1 h2).1; exact this)).trans h2, h3⟩
theorem Own.mono {w : World} {B B' : Nat} {v : Value} {l : List Nat} (h : Own w B v l) (hb : B' ≤ B) : Own w B' v l := Joins.ownsRow_le h hb
theorem Own.form {w : World} {B : Nat} {v : Value} {l : List Nat} (h : Own w B v l) (hl : 0 < l.length) : ∃ g cap, v = .slice (some ⟨g, 0, none⟩) (l.length : Nat) cap := Joins.ownsRow_form h hl

theorem Bit_any (a p : Nat) (ha : a < 18446744073709551616) (hp : p < 64) (w : World) : Calls Tryd.prog 32 #[.int .u64 a, .int .i64 p] w fun e w' => e = .returned (.int .i64 ((a / 2 ^ p % 2 : Nat) : Int)) ∧ w = w' := by
  have HA := Lib.hid ha
  have HP := Lib.hid hp
  clear ha hp
  go_enter Tryd.func32, Tryd.ntmps32
  go_wp2_with fail
  go_loopw [0, 5] (fun x b wr => ∃ (m i : Nat), x = .int .u64 (m : Int) ∧ b = .int .i64 (i : Int) ∧ m = a / 2 ^ i ∧ i ≤ p ∧ w = wr) (fun _ b _ => p - (intOf b).toNat)
  case atStart => exact ⟨a, 0, rfl, rfl, by simp, by omega, rfl⟩
  case round =>
    obtain ⟨m, i, rfl, rfl, hm, hi, rfl⟩ := hrel
    have hml : m < 18446744073709551616 := by have := HA.out; rw [hm]; exact Nat.lt_of_le_of_lt (Nat.div_le_self _ _) this
    have HM := Lib.hid hm
    clear hm
    by_cases h : i < p
    · have hi64 : i < 64 := by have := HP.out; omega
      go_wp2
      go_roundw
      case rel => exact ⟨m / 2, i + 1, by go_num, by go_num, by rw [HM.out, Nat.div_div_eq_div_mul, Nat.pow_succ], by omega, by simp⟩
      case measure => simp [intOf]; omega
    · obtain rfl : i = p := by omega
      go_wp2
      go_ret
      exact ⟨ret_i (by rw [← HM.out]; omega), rfl⟩

set_option maxHeartbeats 400000 in
theorem Bits_ref (a n : Nat) (ha : a < 18446744073709551616) (hn : n ≤ 64) (w : World) :
    Calls Tryd.prog 25 #[.int .u64 a, .int .i64 n] w fun e w' => ∃ v, e = .returned v ∧ Own w' w.heap.size v (bitsL a n) ∧ Below w.heap.size w w' := by
  obtain ⟨i0, hi, hz0, hz1, hz2⟩ := info_parts info3
  have HA := Lib.hid ha
  have HN := Lib.hid hn
  clear ha hn
  go_enter Tryd.func25, Tryd.ntmps25
  go_wp2_with fail
  go_loopw [0, 5, 6] (fun x s b wr => ∃ (m i : Nat), x = .int .u64 (m : Int) ∧ b = .int .i64 (i : Int) ∧ m = a / 2 ^ i ∧ i ≤ n ∧ Own wr w.heap.size s (bitsL a i) ∧ Below w.heap.size w wr) (fun _ _ b _ => n - (intOf b).toNat)
  case atStart => exact ⟨a, 0, rfl, rfl, by simp, by omega, World.ownsRow_nil _ _ _ _, Below.refl _ _⟩
  case round =>
    obtain ⟨m, i, rfl, rfl, hm, hin, hown', hbel⟩ := hrel
    have hml : m < 18446744073709551616 := by have := HA.out; rw [hm]; exact Nat.lt_of_le_of_lt (Nat.div_le_self _ _) this
    have HM := Lib.hid hm
    have hown := Lib.hid hown'
    clear hm hown'
    by_cases h : i < n
    · have hi64 : i < 64 := by have := HN.out; omega
      have hll := bitsL_len i a
      go_wp2_with (at_builtin; refine wpList_append_own _ rfl _ _ 54 rfl w.heap.size 3 i0 (.int .i64 0) 1 8 Tryd.underlying54 hi hz0 hz1 hz2 rfl (by decide) _ _ _ rfl (World.ownsRow.alloc hown.out _) ⟨wr.heap.size, 0, none⟩ 1 1 [.int .i64 ((m : Int) % 2)] rfl rfl ?c1a ?c2a ?c3a ?c4a ?c5a ?_)
      case c1a =>
        intro j u hj
        match j, hj with
        | 0, hj => simp at hj; subst hj; simp [Addr.add]
      case c2a => intro u hu; simp at hu; subst hu; rfl
      case c3a => unfold maxLen; omega
      case c4a => omega
      case c5a => have := hbel.size; simp; omega
      · intro v' w1 hown' hgrow _
        have R1 := Lib.hid (Own.snoc i (m % 2) ((m : Int) % 2) hll (by omega) hown')
        have R2 := Lib.hid (hbel.grownOwn hbel.size hown.out _ hgrow)
        clear hown' hgrow hown hbel hll
        go_wp2
        go_roundw
        case rel => exact ⟨m / 2, i + 1, by go_num, by go_num, by rw [HM.out, Nat.div_div_eq_div_mul, Nat.pow_succ], by omega, by rw [bitsL_snoc, ← HM.out]; exact R1.out, R2.out⟩
        case measure => simp [intOf]; omega
    · obtain rfl : i = n := by omega
      have HB := Lib.hid hbel
      clear hbel
      go_wp2
      go_ret
      exact ⟨_, rfl, hown.out, HB.out⟩

/-- the cells from block g on hold the numbers l -/
def Row (w : World) (g : Nat) (l : List Nat) : Prop := ∀ (j : Nat) (u : Nat), l[j]? = some u → w.cell? ⟨g, j, none⟩ = some (.int .i64 (u : Int))
theorem Row.later {w w' : World} {g : Nat} {l : List Nat} (h : Row w g l) (b : Below w.heap.size w w') : Row w' g l := fun j u hu => (b.cell (p := ⟨g, j, none⟩) (block_lt_of_cell (h j u hu))).trans (h j u hu)
theorem Own.row {w : World} {B g cap n : Nat} {l : List Nat} (hn : n = l.length) (h : Own w B (.slice (some ⟨g, 0, none⟩) n cap) l) : Row w g l := by
  intro j u hu
  subst hn
  have hj := (List.getElem?_eq_some_iff.1 hu).1
  have := World.ownsRow.cellAt h j (by omega)
  rw [this, cellsL, List.getElem?_map, hu]
  rfl

theorem Num_ref (g len cap : Nat) (l : List Nat) (hl : l.length = len) (hle : ∀ b ∈ l, b ≤ 1) (h64 : len ≤ 64) (w : World) (hc : Row w g l) :
    Calls Tryd.prog 28 #[.slice (some ⟨g, 0, none⟩) len cap] w fun e w' => e = .returned (.int .u64 ((numL l : Nat) : Int)) ∧ w = w' := by
  have HL := Lib.hid hl
  have HE := Lib.hid hle
  have H64 := Lib.hid h64
  have HC := Lib.hid hc
  have hw : wrap64 ((len : Int) - 1) = (len : Int) - 1 := by unfold wrap64; omega
  clear hl hle h64 hc
  go_enter Tryd.func28, Tryd.ntmps28
  go_wp2_with fail
  go_loopw [3, 4] (fun x b wr => ∃ (m k : Nat), x = .int .u64 (m : Int) ∧ b = .int .i64 ((k : Int) - 1) ∧ m = numL (l.drop k) ∧ k ≤ len ∧ w = wr) (fun _ b _ => (intOf b + 1).toNat)
  case atStart => exact ⟨0, len, rfl, by rw [hw], by rw [List.drop_eq_nil_of_le (by have := HL.out; omega)]; rfl, by omega, rfl⟩
  case round =>
    obtain ⟨m, k, rfl, rfl, hm, hk, rfl⟩ := hrel
    have HM := Lib.hid hm
    clear hm
    cases k with
    | zero =>
      go_wp2
      go_ret
      exact ⟨ret_i (by rw [HM.out]; rfl), rfl⟩
    | succ j =>
      obtain ⟨b, hb⟩ : ∃ b, l[j]? = some b := ⟨_, List.getElem?_eq_getElem (by have := HL.out; omega)⟩
      have hcell := HC.out j b hb
      have hd := numL_drop l j b hb
      have hb1 := HE.out b (List.mem_of_getElem? hb)
      have hlt := numL_lt (l.drop j) (fun c hc => HE.out c (List.mem_of_mem_drop hc))
      have hp : 2 ^ (l.drop j).length ≤ 2 ^ 64 := Nat.pow_le_pow_right (by omega) (by rw [List.length_drop]; have := HL.out; have := H64.out; omega)
      rw [hd, ← HM.out] at hlt
      have hj64 : j < 64 := by have := H64.out; omega
      have e0 : ((j + 1 : Nat) : Int) - 1 = (j : Int) := by omega
      have e5 : IntKind.u64.wrap (IntKind.u64.wrap ((m : Int) * 2) + IntKind.u64.wrap (b : Int)) = ((b + 2 * m : Nat) : Int) := by rw [IntKind.wrap_u64, IntKind.wrap_u64, IntKind.wrap_u64]; omega
      have HD := Lib.hid hd
      have hjl : (j : Int) < (len : Int) := by omega
      clear hd hlt hp hb1 hb
      rw [e0]
      go_wp2
      go_roundw
      case rel => exact ⟨b + 2 * m, j, by simp, rfl, by rw [HD.out, HM.out], by omega, by simp⟩
      case measure => simp [intOf]

/-- the number of a slice of one's own -/
theorem Num_own {w : World} {B : Nat} {v : Value} {l : List Nat} (h : Own w B v l) (h0 : 0 < l.length) (h64 : l.length ≤ 64) (hle : ∀ b ∈ l, b ≤ 1) : Calls Tryd.prog 28 #[v] w fun e w' => e = .returned (.int .u64 ((numL l : Nat) : Int)) ∧ w = w' := by
  obtain ⟨g, cap, rfl⟩ := h.form h0
  exact Num_ref g l.length cap l rfl hle h64 w (h.row rfl)

theorem Fits_ref (a n : Nat) (ha : a < 18446744073709551616) (h0 : 0 < n) (hn : n ≤ 64) (w : World) : Calls Tryd.prog 22 #[.int .u64 a, .int .i64 n] w fun e w' => e = .returned (.bool (decide (a % 2 ^ n = a))) ∧ Below w.heap.size w w' := by
  have C := Lib.hid (Bits_ref a n ha hn w)
  obtain ⟨r, hr⟩ : ∃ r, a % 2 ^ n = r := ⟨_, rfl⟩
  rw [hr]
  have HP := Lib.hid (And.intro h0 hn)
  clear ha h0 hn
  go_enter Tryd.func22, Tryd.ntmps22
  go_wp2_with fail
  refine C.out.mono ?_
  rintro e w1 ⟨v, rfl, o, b⟩
  have D := Num_own o (by rw [bitsL_len]; exact HP.out.1) (by rw [bitsL_len]; exact HP.out.2) (bitsL_le n a)
  rw [numL_bits, hr] at D
  have D := Lib.hid D
  clear hr
  have B := Lib.hid b
  clear o b
  go_wp2_with fail
  refine D.out.mono ?_
  rintro e w2 ⟨rfl, rfl⟩
  go_wp2
  go_ret
  exact ⟨ret_b (by rw [Bool.eq_iff_iff]; simp; omega), B.out⟩

theorem cut_ref (a n : Nat) (ha : a < 18446744073709551616) (h0 : 0 < n) (hn : n ≤ 64) (w : World) : Calls Tryd.prog 26 #[.int .u64 a, .int .i64 n] w fun e w' => e = .returned (.int .u64 ((a % 2 ^ n : Nat) : Int)) ∧ Below w.heap.size w w' := by
  have C := Lib.hid (Bits_ref a n ha hn w)
  have HP := Lib.hid (And.intro h0 hn)
  clear ha h0 hn
  go_enter Tryd.func26, Tryd.ntmps26
  go_wp2_with fail
  refine C.out.mono ?_
  rintro e w1 ⟨v, rfl, o, b⟩
  have D := Num_own o (by rw [bitsL_len]; exact HP.out.1) (by rw [bitsL_len]; exact HP.out.2) (bitsL_le n a)
  rw [numL_bits] at D
  have D := Lib.hid D
  have B := Lib.hid b
  clear o b
  go_wp2_with fail
  refine D.out.mono ?_
  rintro e w2 ⟨rfl, rfl⟩
  go_wp2
  go_ret
  exact ⟨rfl, B.out⟩

/-- 2^w less a number -/
theorem minus_ref {W M : Nat} (h : Wd W M) (a : Nat) (ha : a < M) (w : World) : Calls Tryd.prog 33 #[.int .u64 a, .int .i64 W] w fun e w' => e = .returned (.int .u64 (((M - a) % M : Nat) : Int)) ∧ Below w.heap.size w w' := by
  have hM := h.lt
  obtain ⟨r, hr⟩ : ∃ r, r = (18446744073709551616 - a) % 18446744073709551616 := ⟨_, rfl⟩
  have e1 : IntKind.u64.wrap (0 - (a : Int)) = (r : Int) := by rw [IntKind.wrap_u64]; omega
  have e2 : IntKind.u64.wrap (-(a : Int)) = (r : Int) := by rw [IntKind.wrap_u64]; omega
  have C := cut_ref r W (by rw [hr]; exact Nat.mod_lt _ (by omega)) (by omega) (by omega) w
  rw [← h.pow, show r % M = (M - a) % M by rw [hr]; rcases h with ⟨_, rfl⟩ | ⟨_, rfl⟩ <;> omega] at C
  have C := Lib.hid C
  clear h ha hM hr
  go_enter Tryd.func33, Tryd.ntmps33
  go_wp2_with fail
  refine C.out.mono ?_
  rintro e w1 ⟨rfl, b⟩
  have B := Lib.hid b
  clear b
  go_wp2
  go_ret
  exact ⟨rfl, B.out⟩

theorem yes_ref (b : Bool) (w : World) : Calls Tryd.prog 23 #[.bool b] w fun e w' => e = .returned (.int .u64 ((bit b : Nat) : Int)) ∧ w = w' := by
  cases b
  · go_enter Tryd.func23, Tryd.ntmps23
    go_wp2
    go_ret
    exact ⟨rfl, rfl⟩
  · go_enter Tryd.func23, Tryd.ntmps23
    go_wp2
    go_ret
    exact ⟨rfl, rfl⟩

theorem less_ref {W M : Nat} (h : Wd W M) (a b : Nat) (ha : a < M) (hb : b < M) (w : World) : Calls Tryd.prog 31 #[.int .u64 a, .int .u64 b, .int .i64 W] w fun e w' => e = .returned (.bool (decide (sg M a < sg M b))) ∧ w = w' := by
  have hM := h.lt
  have e1 : wrap64 ((W : Int) - 1) = ((W - 1 : Nat) : Int) := by unfold wrap64; omega
  have C1 := fun w => Bit_any a (W - 1) (by omega) (by omega) w
  have C2 := fun w => Bit_any b (W - 1) (by omega) (by omega) w
  rw [bit_top h a ha] at C1
  rw [bit_top h b hb] at C2
  have C1 := Lib.hid C1
  have C2 := Lib.hid C2
  by_cases h1 : 2 * a < M
  · by_cases h2 : 2 * b < M
    · rw [if_pos h1] at C1
      rw [if_pos h2] at C2
      have hs : decide (sg M a < sg M b) = decide ((a : Int) < (b : Int)) := by unfold sg; rw [if_pos h1, if_pos h2]
      rw [hs]
      clear h ha hb hM h1 h2 hs
      go_enter Tryd.func31, Tryd.ntmps31
      go_wp2_with fail
      refine (C1.out _).mono ?_
      rintro e w1 ⟨rfl, rfl⟩
      go_wp2_with fail
      refine (C2.out _).mono ?_
      rintro e w1 ⟨rfl, rfl⟩
      go_wp2
      go_ret
      exact ⟨ret_b (by simp), rfl⟩
    · rw [if_pos h1] at C1
      rw [if_neg h2] at C2
      have hs : decide (sg M a < sg M b) = false := by unfold sg; rw [if_pos h1, if_neg h2]; simp; omega
      rw [hs]
      clear h ha hb hM h1 h2 hs
      go_enter Tryd.func31, Tryd.ntmps31
      go_wp2_with fail
      refine (C1.out _).mono ?_
      rintro e w1 ⟨rfl, rfl⟩
      go_wp2_with fail
      refine (C2.out _).mono ?_
      rintro e w1 ⟨rfl, rfl⟩
      go_wp2
      go_ret
      exact ⟨rfl, rfl⟩
  · by_cases h2 : 2 * b < M
    · rw [if_neg h1] at C1
      rw [if_pos h2] at C2
      have hs : decide (sg M a < sg M b) = true := by unfold sg; rw [if_neg h1, if_pos h2]; simp; omega
      rw [hs]
      clear h ha hb hM h1 h2 hs
      go_enter Tryd.func31, Tryd.ntmps31
      go_wp2_with fail
      refine (C1.out _).mono ?_
      rintro e w1 ⟨rfl, rfl⟩
      go_wp2_with fail
      refine (C2.out _).mono ?_
      rintro e w1 ⟨rfl, rfl⟩
      go_wp2
      go_ret
      exact ⟨rfl, rfl⟩
    · rw [if_neg h1] at C1
      rw [if_neg h2] at C2
      have hs : decide (sg M a < sg M b) = decide ((a : Int) < (b : Int)) := by unfold sg; rw [if_neg h1, if_neg h2]; simp
      rw [hs]
      clear h ha hb hM h1 h2 hs
      go_enter Tryd.func31, Tryd.ntmps31
      go_wp2_with fail
      refine (C1.out _).mono ?_
      rintro e w1 ⟨rfl, rfl⟩
      go_wp2_with fail
      refine (C2.out _).mono ?_
      rintro e w1 ⟨rfl, rfl⟩
      go_wp2
      go_ret
      exact ⟨ret_b (by simp), rfl⟩
end Go.Proofs.YtdoejkdckokjdaaDoor
