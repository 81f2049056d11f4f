/- math/bits: OnesCount64, Len64, LeadingZeros64, TrailingZeros64; num: clz, ctz, popcnt. -/
import Derived.Test.YtdoejkdckokjdaaDoorTurn
import Derived.Test.YtdoejkdckokjdaaDoorPop
import Derived.Test.YtdoejkdckokjdaaDoorFind
import Derived.Lib.TrailingZeros
import Derived.Laws.Bits128
namespace Go.Proofs.YtdoejkdckokjdaaDoor
open Go.RowKit

theorem wrap_nat (n : Nat) (h : n < 18446744073709551616) : IntKind.u64.wrap (n : Int) = (n : Int) := by rw [IntKind.wrap_u64]; omega

theorem andm0 (a : Nat) (h : a < 18446744073709551616) : bits .and .u64 (a : Int) 6148914691236517205 = ((a &&& m0 : Nat) : Int) := u64_and_nat a 6148914691236517205 h (by omega)
theorem andm1 (a : Nat) (h : a < 18446744073709551616) : bits .and .u64 (a : Int) 3689348814741910323 = ((a &&& m1 : Nat) : Int) := u64_and_nat a 3689348814741910323 h (by omega)
theorem andm2 (a : Nat) (h : a < 18446744073709551616) : bits .and .u64 (a : Int) 1085102592571150095 = ((a &&& m2 : Nat) : Int) := u64_and_nat a 1085102592571150095 h (by omega)

set_option maxHeartbeats 4000000 in
theorem f75 (x : Nat) (h : x < 18446744073709551616) (w : World) : Calls Tryd.prog 75 #[.int .u64 x] w fun e w' => e = .returned (.int .i64 ((Lib.onesCount x : Nat) : Int)) ∧ w = w' := by
  obtain ⟨c0, c1, c2, c3, c4, c5, c6, c7, hc, hs, x1, x2, e1, e2, b1, b2, e3⟩ := swar x h
  obtain ⟨x3, d3⟩ : ∃ x3, x3 = (x2 / 16 + x2) &&& m2 := ⟨_, rfl⟩
  obtain ⟨x4, d4⟩ : ∃ x4, x4 = x3 + x3 / 256 := ⟨_, rfl⟩
  obtain ⟨x5, d5⟩ : ∃ x5, x5 = x4 + x4 / 65536 := ⟨_, rfl⟩
  obtain ⟨x6, d6⟩ : ∃ x6, x6 = x5 + x5 / 4294967296 := ⟨_, rfl⟩
  obtain ⟨q3, q4, q5, q6, hfin⟩ := sum8 c0 c1 c2 c3 c4 c5 c6 c7 x3 x4 x5 x6 hc (d3.trans e3) d4 d5 d6
  rw [hs, ← hfin]
  have h1 : IntKind.u64.wrap (bits .and .u64 ((x : Int) / 2) 6148914691236517205 + bits .and .u64 (x : Int) 6148914691236517205) = (x1 : Int) := by
    rw [show ((x : Int) / 2) = ((x / 2 : Nat) : Int) by omega, andm0 (x / 2) (by omega), andm0 x h, ← Int.natCast_add, ← e1, wrap_nat _ b1]
  have h2 : IntKind.u64.wrap (bits .and .u64 ((x1 : Int) / 4) 3689348814741910323 + bits .and .u64 (x1 : Int) 3689348814741910323) = (x2 : Int) := by
    rw [show ((x1 : Int) / 4) = ((x1 / 4 : Nat) : Int) by omega, andm1 (x1 / 4) (by omega), andm1 x1 b1, ← Int.natCast_add, ← e2, wrap_nat _ (by omega)]
  have h3 : bits .and .u64 (IntKind.u64.wrap ((x2 : Int) / 16 + (x2 : Int))) 1085102592571150095 = (x3 : Int) := by
    rw [show ((x2 : Int) / 16 + (x2 : Int)) = ((x2 / 16 + x2 : Nat) : Int) by omega, wrap_nat _ (by omega), andm2 (x2 / 16 + x2) (by omega), d3]
  have h4 : IntKind.u64.wrap ((x3 : Int) + (x3 : Int) / 256) = (x4 : Int) := by
    rw [show ((x3 : Int) + (x3 : Int) / 256) = ((x3 + x3 / 256 : Nat) : Int) by omega, wrap_nat _ (by omega), d4]
  have h5 : IntKind.u64.wrap ((x4 : Int) + (x4 : Int) / 65536) = (x5 : Int) := by
    rw [show ((x4 : Int) + (x4 : Int) / 65536) = ((x4 + x4 / 65536 : Nat) : Int) by omega, wrap_nat _ (by omega), d5]
  have h6 : IntKind.u64.wrap ((x5 : Int) + (x5 : Int) / 4294967296) = (x6 : Int) := by
    rw [show ((x5 : Int) + (x5 : Int) / 4294967296) = ((x5 + x5 / 4294967296 : Nat) : Int) by omega, wrap_nat _ (by omega), d6]
  clear h hc hs e1 e2 b1 b2 e3 d3 d4 d5 d6 q3 q4 q5 hfin
  go_enter Tryd.func75, Tryd.ntmps75
  go_wp2
  go_ret
  exact ⟨ret_i (by rw [i64_and127]; omega), rfl⟩

theorem len8_val (y : Int) (h0 : 0 ≤ y) (h1 : y ≤ 255) (h : y.toNat < Lib.len8tab.size) : ((Lib.len8tab[y.toNat]'h).toNat : Int) = ((Lib.bitLen y.toNat : Nat) : Int) := by
  rw [← Lib.len8_of y h0 h1, Lib.len8, ByteArray.getElem?_lt' _ _ h, Option.getD_some]
theorem wrap_len (k a b : Nat) (hk : k ≤ 56) (ha : a ≤ 8) (hb : b = k + a) : wrap64 ((k : Int) + wrap64 (a : Int)) = (b : Int) := by
  unfold wrap64; omega
theorem wrap_len0 (a b : Nat) (ha : a ≤ 8) (hb : b = a) : wrap64 (wrap64 (a : Int)) = (b : Int) := by
  unfold wrap64; omega

set_option maxHeartbeats 8000000 in
set_option maxRecDepth 100000 in
theorem f76i (x : Int) (h0 : 0 ≤ x) (h1 : x ≤ 18446744073709551615) (w : World) : Calls Tryd.prog 76 #[.int .u64 x] w fun e w' => e = .returned (.int .i64 ((Lib.bitLen x.toNat : Nat) : Int)) ∧ w = w' := by
  go_enter Tryd.func76, Tryd.ntmps76
  go_wp2
  all_goals first
    | (go_ret; refine ⟨ret_i ?_, rfl⟩)
    | (exfalso
       have hs := Lib.len8tab_size
       omega)
  all_goals (rename_i hin; have hs := Lib.len8tab_size; rw [hs] at hin)
  · rw [len8_val (x / 4294967296 / 65536 / 256) (by omega) (by omega)]
    have e : (x / 4294967296 / 65536 / 256).toNat = x.toNat / 72057594037927936 := by omega
    have l := Lib.bitLen_le8' (x / 4294967296 / 65536 / 256) (by omega) (by omega)
    have s := Lib.bitLen_shift56 x.toNat (by omega) (by omega)
    rw [e] at l ⊢
    exact wrap_len 56 _ _ (by decide) l s
  · rw [len8_val (x / 4294967296 / 65536) (by omega) (by omega)]
    have e : (x / 4294967296 / 65536).toNat = x.toNat / 281474976710656 := by omega
    have l := Lib.bitLen_le8' (x / 4294967296 / 65536) (by omega) (by omega)
    have s := Lib.bitLen_shift48 x.toNat (by omega) (by omega)
    rw [e] at l ⊢
    exact wrap_len 48 _ _ (by decide) l s
  · rw [len8_val (x / 4294967296 / 256) (by omega) (by omega)]
    have e : (x / 4294967296 / 256).toNat = x.toNat / 1099511627776 := by omega
    have l := Lib.bitLen_le8' (x / 4294967296 / 256) (by omega) (by omega)
    have s := Lib.bitLen_shift40 x.toNat (by omega) (by omega)
    rw [e] at l ⊢
    exact wrap_len 40 _ _ (by decide) l s
  · rw [len8_val (x / 4294967296) (by omega) (by omega)]
    have e : (x / 4294967296).toNat = x.toNat / 4294967296 := by omega
    have l := Lib.bitLen_le8' (x / 4294967296) (by omega) (by omega)
    have s := Lib.bitLen_shift32 x.toNat (by omega) (by omega)
    rw [e] at l ⊢
    exact wrap_len 32 _ _ (by decide) l s
  · rw [len8_val (x / 65536 / 256) (by omega) (by omega)]
    have e : (x / 65536 / 256).toNat = x.toNat / 16777216 := by omega
    have l := Lib.bitLen_le8' (x / 65536 / 256) (by omega) (by omega)
    have s := Lib.bitLen_shift24 x.toNat (by omega) (by omega)
    rw [e] at l ⊢
    exact wrap_len 24 _ _ (by decide) l s
  · rw [len8_val (x / 65536) (by omega) (by omega)]
    have e : (x / 65536).toNat = x.toNat / 65536 := by omega
    have l := Lib.bitLen_le8' (x / 65536) (by omega) (by omega)
    have s := Lib.bitLen_shift16 x.toNat (by omega) (by omega)
    rw [e] at l ⊢
    exact wrap_len 16 _ _ (by decide) l s
  · rw [len8_val (x / 256) (by omega) (by omega)]
    have e : (x / 256).toNat = x.toNat / 256 := by omega
    have l := Lib.bitLen_le8' (x / 256) (by omega) (by omega)
    have s := Lib.bitLen_shift8 x.toNat (by omega) (by omega)
    rw [e] at l ⊢
    exact wrap_len 8 _ _ (by decide) l s
  · rw [len8_val x (by omega) (by omega)]
    exact wrap_len0 _ _ (Lib.bitLen_le8' x (by omega) (by omega)) rfl
theorem f76 (x : Nat) (h : x < 18446744073709551616) (w : World) : Calls Tryd.prog 76 #[.int .u64 x] w fun e w' => e = .returned (.int .i64 ((Lib.bitLen x : Nat) : Int)) ∧ w = w' :=
  f76i x (by omega) (by omega) w

theorem tz_key (x a : Nat) (hx : x < 18446744073709551616) (hx0 : x ≠ 0) (hlow : x &&& (18446744073709551616 - x) = a) :
    IntKind.u64.wrap (bits .and .u64 (x : Int) (IntKind.u64.wrap (-(x : Int))) * 285870213051353865) / 288230376151711744 = ((a * 285870213051353865 % 18446744073709551616 / 288230376151711744 : Nat) : Int) := by
  have e1 : IntKind.u64.wrap (-(x : Int)) = ((18446744073709551616 - x : Nat) : Int) := by rw [IntKind.wrap_u64]; omega
  rw [e1, u64_and_nat x _ hx (by omega), hlow, IntKind.wrap_u64]
  omega

theorem f74_core (x k i : Nat) (w : World) (hz : ((x : Int) == 0) = false)
    (key : IntKind.u64.wrap (bits .and .u64 (x : Int) (IntKind.u64.wrap (-(x : Int))) * 285870213051353865) / 288230376151711744 = (i : Int)) (hi : i < 64) (hk : k < 64) (hcell : w.cell? ⟨1, i, none⟩ = some (.int .u8 k)) :
    Calls Tryd.prog 74 #[.int .u64 x] w fun e w' => e = .returned (.int .i64 (k : Int)) ∧ w = w' := by
  go_enter Tryd.func74, Tryd.ntmps74
  go_wp2_with (simp only [key])
  go_ret
  exact ⟨rfl, rfl⟩

/-- the lowest one's place -/
theorem f74 (x : Nat) (hx : x < 18446744073709551616) (w : World) (hL : Laid w) : Calls Tryd.prog 74 #[.int .u64 x] w fun e w' => e = .returned (.int .i64 ((Lib.ctz 64 x : Nat) : Int)) ∧ w = w' := by
  by_cases hx0 : x = 0
  · subst hx0
    go_enter Tryd.func74, Tryd.ntmps74
    go_wp2
    go_ret
    exact ⟨rfl, rfl⟩
  · obtain ⟨hlow, hk⟩ := Lib.lowest_bit 64 x hx0 hx
    obtain ⟨hi, htab⟩ := Lib.deBruijn64_at _ hk
    have hz : ((x : Int) == 0) = false := by simp; omega
    obtain ⟨i, hie⟩ : ∃ i, i = 2 ^ Lib.ctz 64 x * 285870213051353865 % 18446744073709551616 / 288230376151711744 := ⟨_, rfl⟩
    have hkey := tz_key x _ hx hx0 hlow
    rw [← hie] at hi htab hkey
    obtain ⟨v, hv⟩ : ∃ v, debL[i]? = some v := ⟨_, List.getElem?_eq_getElem (show i < debL.length from hi)⟩
    have hvv : debL.getD i 0 = v := by rw [List.getD_eq_getElem?_getD, hv]; rfl
    have hve : v = Lib.ctz 64 x := hvv.symm.trans htab
    rw [hve] at hv
    exact f74_core x _ i w hz hkey hi hk (hL.deb _ _ hv)

theorem bitLen_le (x : Nat) (h : x < 18446744073709551616) : Lib.bitLen x ≤ 64 := Lib.bitLenAux_le 64 x 64 h
theorem bitLen_le_wd {W M : Nat} (h : Wd W M) (x : Nat) (hx : x < M) : Lib.bitLen x ≤ W := Lib.bitLenAux_le 64 x W (by rw [← h.pow]; exact hx)

theorem f73 (x : Nat) (h : x < 18446744073709551616) (w : World) : Calls Tryd.prog 73 #[.int .u64 x] w fun e w' => e = .returned (.int .i64 ((64 - Lib.bitLen x : Nat) : Int)) ∧ w = w' := by
  have HC := Lib.hid (fun w => f76 x h w)
  have hl := bitLen_le x h
  generalize Lib.bitLen x = n at HC hl ⊢
  have hw : wrap64 (64 - (n : Int)) = ((64 - n : Nat) : Int) := by unfold wrap64; omega
  clear h
  go_enter Tryd.func73, Tryd.ntmps73
  go_wp2_with fail
  refine (HC.out _).mono ?_
  rintro e w1 ⟨rfl, rfl⟩
  go_wp2
  go_ret
  exact ⟨ret_i (by omega), rfl⟩

theorem op47 {W M : Nat} (h : Wd W M) (a : Nat) (ha : a < M) (w : World) : Calls Tryd.prog 47 #[.int .u64 a, .int .i64 W] w fun e w' => e = .returned (.int .u64 ((W - Lib.bitLen a : Nat) : Int)) ∧ w = w' := by
  have hW := h.lt
  have HC := Lib.hid (fun w => f73 a (by omega) w)
  have hl := bitLen_le_wd h a ha
  generalize Lib.bitLen a = n at HC hl ⊢
  have hw1 : wrap64 (64 - (W : Int)) = ((64 - W : Nat) : Int) := by unfold wrap64; omega
  have hw2 : wrap64 (((64 - n : Nat) : Int) - ((64 - W : Nat) : Int)) = ((W - n : Nat) : Int) := by unfold wrap64; omega
  have hw3 : IntKind.u64.wrap ((W - n : Nat) : Int) = ((W - n : Nat) : Int) := wrap_nat _ (by omega)
  clear h ha
  go_enter Tryd.func47, Tryd.ntmps47
  go_wp2_with fail
  refine (HC.out _).mono ?_
  rintro e w1 ⟨rfl, rfl⟩
  go_wp2
  go_ret
  exact ⟨ret_i (by omega), rfl⟩

theorem ctz_le (x : Nat) (hx : x < 18446744073709551616) : Lib.ctz 64 x ≤ 64 := by
  by_cases h0 : x = 0
  · subst h0; decide
  · have := (Lib.lowest_bit 64 x h0 hx).2; omega

theorem op48 {W M : Nat} (h : Wd W M) (a : Nat) (ha : a < M) (w : World) (hL : Laid w) : Calls Tryd.prog 48 #[.int .u64 a, .int .i64 W] w fun e w' => e = .returned (.int .u64 ((min (Lib.ctz 64 a) W : Nat) : Int)) ∧ w = w' := by
  have hW := h.lt
  have HC := Lib.hid (f74 a (by omega) w hL)
  have hl := ctz_le a (by omega)
  generalize Lib.ctz 64 a = n at HC hl ⊢
  have hw3 : IntKind.u64.wrap ((min n W : Nat) : Int) = ((min n W : Nat) : Int) := wrap_nat _ (by omega)
  clear h ha
  go_enter Tryd.func48, Tryd.ntmps48
  go_wp2_with fail
  refine HC.out.mono ?_
  rintro e w1 ⟨rfl, rfl⟩
  go_wp2
  all_goals go_ret
  all_goals exact ⟨ret_i (by omega), rfl⟩

theorem ones_le (x : Nat) (h : x < 18446744073709551616) : Lib.onesCount x ≤ 64 := by
  obtain ⟨c0, c1, c2, c3, c4, c5, c6, c7, hc, hs, _⟩ := swar x h
  omega

theorem op49 (a : Nat) (W : Int) (ha : a < 18446744073709551616) (w : World) : Calls Tryd.prog 49 #[.int .u64 a, .int .i64 W] w fun e w' => e = .returned (.int .u64 ((Lib.onesCount a : Nat) : Int)) ∧ w = w' := by
  have HC := Lib.hid (fun w => f75 a ha w)
  have hl := ones_le a ha
  generalize Lib.onesCount a = n at HC hl ⊢
  have hw3 : IntKind.u64.wrap (n : Int) = (n : Int) := wrap_nat _ (by omega)
  clear ha
  go_enter Tryd.func49, Tryd.ntmps49
  go_wp2_with fail
  refine (HC.out _).mono ?_
  rintro e w1 ⟨rfl, rfl⟩
  go_wp2
  go_ret
  exact ⟨rfl, rfl⟩
end Go.Proofs.YtdoejkdckokjdaaDoor
