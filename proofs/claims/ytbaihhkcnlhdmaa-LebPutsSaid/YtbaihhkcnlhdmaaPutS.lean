/- The contract of leb.put at int64; leb.PutU, leb.PutS. -/
import Derived.Test.YtbaihhkcnlhdmaaPutU
namespace Go.Proofs.Ytbaihhkcnlhdmaa
open Go.RowKit

theorem and127_i64 (m : Int) (_h1 : -9223372036854775808 ≤ m) (_h2 : m < 9223372036854775808) : bits .and .i64 m 127 = m % 128 := by
  show IntKind.i64.wrap ((BitVec.ofInt 64 m &&& BitVec.ofInt 64 ((127 : Nat) : Int)).toNat : Int) = _
  rw [BitVec.toNat_and, ofInt_u64 127 (by omega), nat_mask7, BitVec.toNat_ofInt, IntKind.wrap_i64]
  have : ((2 ^ 64 : Nat) : Int) = 18446744073709551616 := rfl
  omega
theorem or128' (m : Int) : bits .or .u8 (m % 128) 128 = m % 128 + 128 := by
  obtain ⟨c, hc⟩ := Int.eq_ofNat_of_zero_le (show 0 ≤ m % 128 by omega)
  rw [hc]
  exact or128 c (by omega)
theorem and64' (m : Int) : bits .and .u8 (m % 128) 64 = m / 64 % 2 * 64 := by
  obtain ⟨c, hc⟩ := Int.eq_ofNat_of_zero_le (show 0 ≤ m % 128 by omega)
  rw [hc, and64 c (by omega)]
  omega

set_option maxHeartbeats 400000 in
theorem puts_p (n : Int) (h1 : 0 ≤ n) (h2 : n < 9223372036854775808) (w : World) :
    Calls Try.prog 38 #[.int .i64 n] w fun e w' => ∃ v, e = .returned v ∧ Own w' w.heap.size v (LebM.putS n) ∧ Below w.heap.size w w' := by
  obtain ⟨i0, hi, hz0, hz1, hz2⟩ := info_parts info5
  have HL := Lib.hid (LebM.putS_len_le 10 n (by omega) (by simp; omega) (by simp; omega))
  have hsg2 : IntKind.i64.signed = true := rfl
  have hx : bits .xor .i64 (-1) 0 = -1 := by decide +kernel
  go_enter Try.func38, Try.ntmps38
  go_wp2
  go_loopw [0, 6] (fun x b wr => ∃ (m : Int) (l : List Nat), x = .int .i64 m ∧ 0 ≤ m ∧ m < 9223372036854775808 ∧ Own wr w.heap.size b l ∧ l ++ LebM.putS m = LebM.putS n ∧ Below w.heap.size w wr)
    (fun x _ _ => (intOf x).natAbs)
  case atStart => exact ⟨n, [], rfl, h1, h2, World.ownsRow_nil _ _ _ _, rfl, Below.refl _ _⟩
  case round =>
    obtain ⟨m, l, rfl, hm1, hm2, hown', hl, hbel⟩ := hrel
    have hl10 : l.length ≤ 9 := by
      have h1 := HL.out
      have h2 := LebM.putS_pos m
      rw [← hl, List.length_append] at h1
      omega
    have HLL := Lib.hid hl
    clear hl
    have hown := Lib.hid hown'
    clear hown'
    have e1 := and127_i64 m (by omega) (by omega)
    have e2 : bits .or .u8 (m % 128) 128 = m % 128 + 128 := or128' m
    by_cases h : -64 ≤ m ∧ m < 64
    · have hr : (m / 128 == 0) = true := by simp; omega
      have hs : (bits .and .u8 (m % 128) 64 == 0) = true := by rw [and64' m]; simp; omega
      go_wp2_with (at_builtin; refine wpList_append_own _ rfl _ _ 22 rfl w.heap.size 5 i0 (.int .u8 0) 1 1 Try.underlying22 hi hz0 hz1 hz2 rfl (by decide) _ _ _ rfl (World.ownsRow.alloc hown.out _) ⟨wr.heap.size, 0, none⟩ 1 1 [.int .u8 (m % 128)] rfl rfl ?c1pa ?c2pa ?c3pa ?c4pa ?c5pa ?_)
      case c1pa =>
        intro j u hj
        match j, hj with
        | 0, hj => simp at hj; subst hj; simp [Addr.add]
      case c2pa => intro u hu; simp at hu; subst hu; rfl
      case c3pa => unfold maxLen; omega
      case c4pa => omega
      case c5pa => have := hbel.size; simp; omega
      · intro v' w1 hown' hgrow _
        have R1 := Lib.hid (Own.snoc (m % 128).toNat _ (by omega) hown')
        have R2 := Lib.hid (hbel.grownOwn hbel.size hown.out _ hgrow)
        clear hown' hgrow hown hbel
        go_wp2
        go_ret
        refine ⟨v', rfl, ?_, R2.out⟩
        have := HLL.out
        rw [LebM.putS, if_pos h] at this
        rw [← this]
        exact R1.out
    by_cases h' : m / 128 = 0
    · have hr : (m / 128 == 0) = true := by simp; omega
      have hs : (bits .and .u8 (m % 128) 64 == 0) = false := by rw [and64' m]; simp; omega
      have h'' := Lib.hid h'
      clear h'
      go_wp2_with (at_builtin; refine wpList_append_own _ rfl _ _ 22 rfl w.heap.size 5 i0 (.int .u8 0) 1 1 Try.underlying22 hi hz0 hz1 hz2 rfl (by decide) _ _ _ rfl (World.ownsRow.alloc hown.out _) ⟨wr.heap.size, 0, none⟩ 1 1 [.int .u8 (m % 128 + 128)] rfl rfl ?c1pb ?c2pb ?c3pb ?c4pb ?c5pb ?_)
      case c1pb =>
        intro j u hj
        match j, hj with
        | 0, hj => simp at hj; subst hj; simp [Addr.add]
      case c2pb => intro u hu; simp at hu; subst hu; rfl
      case c3pb => unfold maxLen; omega
      case c4pb => omega
      case c5pb => have := hbel.size; simp; omega
      · intro v' w1 hown' hgrow _
        have R1 := Lib.hid (Own.snoc ((m % 128).toNat + 128) _ (by omega) hown')
        have R2 := Lib.hid (hbel.grownOwn hbel.size hown.out _ hgrow)
        clear hown' hgrow hown hbel
        go_wp2
        go_roundw
        case rel =>
          refine ⟨m / 128, l ++ [(m % 128).toNat + 128], by go_num, by omega, by omega, R1.out, ?_, R2.out⟩
          have := HLL.out
          rw [LebM.putS, if_neg (by omega)] at this
          rw [← this]; simp
        case measure => simp [intOf]; have := h''.out; omega
    · have hr : (m / 128 == 0) = false := by simp; omega
      have h'' := Lib.hid h'
      clear h'
      go_wp2_with (at_builtin; refine wpList_append_own _ rfl _ _ 22 rfl w.heap.size 5 i0 (.int .u8 0) 1 1 Try.underlying22 hi hz0 hz1 hz2 rfl (by decide) _ _ _ rfl (World.ownsRow.alloc hown.out _) ⟨wr.heap.size, 0, none⟩ 1 1 [.int .u8 (m % 128 + 128)] rfl rfl ?c1pc ?c2pc ?c3pc ?c4pc ?c5pc ?_)
      case c1pc =>
        intro j u hj
        match j, hj with
        | 0, hj => simp at hj; subst hj; simp [Addr.add]
      case c2pc => intro u hu; simp at hu; subst hu; rfl
      case c3pc => unfold maxLen; omega
      case c4pc => omega
      case c5pc => have := hbel.size; simp; omega
      · intro v' w1 hown' hgrow _
        have R1 := Lib.hid (Own.snoc ((m % 128).toNat + 128) _ (by omega) hown')
        have R2 := Lib.hid (hbel.grownOwn hbel.size hown.out _ hgrow)
        clear hown' hgrow hown hbel
        go_wp2
        go_roundw
        case rel =>
          refine ⟨m / 128, l ++ [(m % 128).toNat + 128], by go_num, by omega, by omega, R1.out, ?_, R2.out⟩
          have := HLL.out
          rw [LebM.putS, if_neg (by omega)] at this
          rw [← this]; simp
        case measure => simp [intOf]; omega

set_option maxHeartbeats 400000 in
theorem puts_n (n : Int) (h1 : -9223372036854775808 ≤ n) (h2 : n < 0) (w : World) :
    Calls Try.prog 38 #[.int .i64 n] w fun e w' => ∃ v, e = .returned v ∧ Own w' w.heap.size v (LebM.putS n) ∧ Below w.heap.size w w' := by
  obtain ⟨i0, hi, hz0, hz1, hz2⟩ := info_parts info5
  have HL := Lib.hid (LebM.putS_len_le 10 n (by omega) (by simp; omega) (by simp; omega))
  have hsg2 : IntKind.i64.signed = true := rfl
  have hx : bits .xor .i64 (-1) 0 = -1 := by decide +kernel
  go_enter Try.func38, Try.ntmps38
  go_wp2
  go_loopw [0, 6] (fun x b wr => ∃ (m : Int) (l : List Nat), x = .int .i64 m ∧ -9223372036854775808 ≤ m ∧ m < 0 ∧ Own wr w.heap.size b l ∧ l ++ LebM.putS m = LebM.putS n ∧ Below w.heap.size w wr)
    (fun x _ _ => (intOf x).natAbs)
  case atStart => exact ⟨n, [], rfl, h1, h2, World.ownsRow_nil _ _ _ _, rfl, Below.refl _ _⟩
  case round =>
    obtain ⟨m, l, rfl, hm1, hm2, hown', hl, hbel⟩ := hrel
    have hl10 : l.length ≤ 9 := by
      have h1 := HL.out
      have h2 := LebM.putS_pos m
      rw [← hl, List.length_append] at h1
      omega
    have HLL := Lib.hid hl
    clear hl
    have hown := Lib.hid hown'
    clear hown'
    have e1 := and127_i64 m (by omega) (by omega)
    have e2 : bits .or .u8 (m % 128) 128 = m % 128 + 128 := or128' m
    by_cases h : -64 ≤ m ∧ m < 64
    · have hr : (m / 128 == -1) = true := by simp; omega
      have hs : (bits .and .u8 (m % 128) 64 == 64) = true := by rw [and64' m]; simp; omega
      go_wp2_with (at_builtin; refine wpList_append_own _ rfl _ _ 22 rfl w.heap.size 5 i0 (.int .u8 0) 1 1 Try.underlying22 hi hz0 hz1 hz2 rfl (by decide) _ _ _ rfl (World.ownsRow.alloc hown.out _) ⟨wr.heap.size, 0, none⟩ 1 1 [.int .u8 (m % 128)] rfl rfl ?c1na ?c2na ?c3na ?c4na ?c5na ?_)
      case c1na =>
        intro j u hj
        match j, hj with
        | 0, hj => simp at hj; subst hj; simp [Addr.add]
      case c2na => intro u hu; simp at hu; subst hu; rfl
      case c3na => unfold maxLen; omega
      case c4na => omega
      case c5na => have := hbel.size; simp; omega
      · intro v' w1 hown' hgrow _
        have R1 := Lib.hid (Own.snoc (m % 128).toNat _ (by omega) hown')
        have R2 := Lib.hid (hbel.grownOwn hbel.size hown.out _ hgrow)
        clear hown' hgrow hown hbel
        go_wp2
        go_ret
        refine ⟨v', rfl, ?_, R2.out⟩
        have := HLL.out
        rw [LebM.putS, if_pos h] at this
        rw [← this]
        exact R1.out
    by_cases h' : m / 128 = -1
    · have hr : (m / 128 == -1) = true := by simp; omega
      have hs : (bits .and .u8 (m % 128) 64 == 64) = false := by rw [and64' m]; simp; omega
      have h'' := Lib.hid h'
      clear h'
      go_wp2_with (at_builtin; refine wpList_append_own _ rfl _ _ 22 rfl w.heap.size 5 i0 (.int .u8 0) 1 1 Try.underlying22 hi hz0 hz1 hz2 rfl (by decide) _ _ _ rfl (World.ownsRow.alloc hown.out _) ⟨wr.heap.size, 0, none⟩ 1 1 [.int .u8 (m % 128 + 128)] rfl rfl ?c1nb ?c2nb ?c3nb ?c4nb ?c5nb ?_)
      case c1nb =>
        intro j u hj
        match j, hj with
        | 0, hj => simp at hj; subst hj; simp [Addr.add]
      case c2nb => intro u hu; simp at hu; subst hu; rfl
      case c3nb => unfold maxLen; omega
      case c4nb => omega
      case c5nb => have := hbel.size; simp; omega
      · intro v' w1 hown' hgrow _
        have R1 := Lib.hid (Own.snoc ((m % 128).toNat + 128) _ (by omega) hown')
        have R2 := Lib.hid (hbel.grownOwn hbel.size hown.out _ hgrow)
        clear hown' hgrow hown hbel
        go_wp2
        go_roundw
        case rel =>
          refine ⟨m / 128, l ++ [(m % 128).toNat + 128], by go_num, by omega, by omega, R1.out, ?_, R2.out⟩
          have := HLL.out
          rw [LebM.putS, if_neg (by omega)] at this
          rw [← this]; simp
        case measure => simp [intOf]; have := h''.out; omega
    · have hr : (m / 128 == -1) = false := by simp; omega
      have h'' := Lib.hid h'
      clear h'
      go_wp2_with (at_builtin; refine wpList_append_own _ rfl _ _ 22 rfl w.heap.size 5 i0 (.int .u8 0) 1 1 Try.underlying22 hi hz0 hz1 hz2 rfl (by decide) _ _ _ rfl (World.ownsRow.alloc hown.out _) ⟨wr.heap.size, 0, none⟩ 1 1 [.int .u8 (m % 128 + 128)] rfl rfl ?c1nc ?c2nc ?c3nc ?c4nc ?c5nc ?_)
      case c1nc =>
        intro j u hj
        match j, hj with
        | 0, hj => simp at hj; subst hj; simp [Addr.add]
      case c2nc => intro u hu; simp at hu; subst hu; rfl
      case c3nc => unfold maxLen; omega
      case c4nc => omega
      case c5nc => have := hbel.size; simp; omega
      · intro v' w1 hown' hgrow _
        have R1 := Lib.hid (Own.snoc ((m % 128).toNat + 128) _ (by omega) hown')
        have R2 := Lib.hid (hbel.grownOwn hbel.size hown.out _ hgrow)
        clear hown' hgrow hown hbel
        go_wp2
        go_roundw
        case rel =>
          refine ⟨m / 128, l ++ [(m % 128).toNat + 128], by go_num, by omega, by omega, R1.out, ?_, R2.out⟩
          have := HLL.out
          rw [LebM.putS, if_neg (by omega)] at this
          rw [← this]; simp
        case measure => simp [intOf]; omega

theorem puts_any (n : Int) (h1 : -9223372036854775808 ≤ n) (h2 : n < 9223372036854775808) (w : World) :
    Calls Try.prog 38 #[.int .i64 n] w fun e w' => ∃ v, e = .returned v ∧ Own w' w.heap.size v (LebM.putS n) ∧ Below w.heap.size w w' := by
  by_cases h : 0 ≤ n
  · exact puts_p n h h2 w
  · exact puts_n n h1 (by omega) w

theorem PutU_any (n : Nat) (hn : n < 18446744073709551616) (w : World) :
    Calls Try.prog 26 #[.int .u64 n] w fun e w' => ∃ v, e = .returned v ∧ Own w' w.heap.size v (LebM.putU n) ∧ Below w.heap.size w w' := by
  have H := Lib.hid (putu_any n hn w)
  clear hn
  go_enter Try.func26, Try.ntmps26
  go_wp2_with fail
  refine H.out.mono ?_
  rintro e w1 ⟨v, rfl, h1, h2⟩
  have H1 := Lib.hid h1
  have H2 := Lib.hid h2
  clear h1 h2
  go_wp2
  go_ret
  exact ⟨v, rfl, H1.out, H2.out⟩

theorem PutS_any (n : Int) (h1 : -9223372036854775808 ≤ n) (h2 : n < 9223372036854775808) (w : World) :
    Calls Try.prog 28 #[.int .i64 n] w fun e w' => ∃ v, e = .returned v ∧ Own w' w.heap.size v (LebM.putS n) ∧ Below w.heap.size w w' := by
  have H := Lib.hid (puts_any n h1 h2 w)
  clear h1 h2
  go_enter Try.func28, Try.ntmps28
  go_wp2_with fail
  refine H.out.mono ?_
  rintro e w1 ⟨v, rfl, h1, h2⟩
  have H1 := Lib.hid h1
  have H2 := Lib.hid h2
  clear h1 h2
  go_wp2
  go_ret
  exact ⟨v, rfl, H1.out, H2.out⟩
end Go.Proofs.Ytbaihhkcnlhdmaa
