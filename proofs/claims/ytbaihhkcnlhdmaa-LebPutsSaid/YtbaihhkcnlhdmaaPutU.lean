/- The contract of leb.put at uint64. -/
import Derived.Test.YtbaihhkcnlhdmaaUS
namespace Go.Proofs.Ytbaihhkcnlhdmaa
open Go.RowKit

theorem info5 : (Try.prog.info? 5).map (fun i => (i.zero, i.size, i.bytes)) = some (some (.int .u8 0), 1, 1) := by kernel_rfl

/-- bytes as cells -/
def cellsOf (l : List Nat) : List Value := l.map fun (c : Nat) => Value.int .u8 (c : Int)
/-- the slice v, made since block B, holds the bytes l -/
def Own (w : World) (B : Nat) (v : Value) (l : List Nat) : Prop := w.ownsRow B 5 1 v l.length (cellsOf l)

theorem and127_64 (m : Nat) (h : m < 18446744073709551616) : bits .and .u64 (m : Int) 127 = ((m % 128 : Nat) : Int) := by
  have := u64_and_nat m 127 h (by omega)
  rw [nat_mask7] at this
  exact this
theorem or128 (c : Nat) (hc : c < 128) : bits .or .u8 (c : Int) 128 = ((c + 128 : Nat) : Int) := by
  have := u8_or_nat c 128 (by omega) (by omega)
  rw [Nat.or_comm, nat_join 7 128 c (by decide) (by omega)] at this
  refine this.trans ?_
  congr 1; omega

theorem Own.snoc {w : World} {B : Nat} {v : Value} {l : List Nat} (c : Nat) (x : Int) (hx : x = c) (h : w.ownsRow B 5 1 v (l.length + 1) (cellsOf l ++ [.int .u8 x])) : Own w B v (l ++ [c]) := by
  subst hx; simpa [Own, cellsOf] using h
theorem _root_.Go.RowKit.Below.grownOwn {B : Nat} {a w w' : World} {v : Value} {l : List Nat} (h : Below B a w) (hB : B ≤ w.heap.size) (hown : Own w B v l) (o : Obj) (hg : (w.alloc o).grownBy w' v.ownBlock) : Below B a w' :=
  (h.alloc hB o).grown hg (by simp; omega) (fun k hk => (hown.lt k hk).1)

set_option maxHeartbeats 400000 in
theorem putu_any (n : Nat) (hn : n < 18446744073709551616) (w : World) :
    Calls Try.prog 37 #[.int .u64 n] w fun e w' => ∃ v, e = .returned v ∧ Own w' w.heap.size v (LebM.putU n) ∧ Below w.heap.size w w' := by
  obtain ⟨i0, hi, hz0, hz1, hz2⟩ := info_parts info5
  have hlen := LebM.putU_len_le (n := n) (k := 10) (by omega) (by omega)
  have HL := Lib.hid hlen
  have hsg : IntKind.u64.signed = false := rfl
  have hx : decide (bits .xor .u64 IntKind.u64.max 0 < 0) = false := by decide +kernel
  have hsg2 : IntKind.i64.signed = true := rfl
  clear hlen
  go_enter Try.func37, Try.ntmps37
  go_wp2
  go_loopw [0, 6] (fun x b wr => ∃ (m : Nat) (l : List Nat), x = .int .u64 (m : Int) ∧ m < 18446744073709551616 ∧ Own wr w.heap.size b l ∧ l ++ LebM.putU m = LebM.putU n ∧ Below w.heap.size w wr)
    (fun x _ _ => (intOf x).toNat)
  case atStart => exact ⟨n, [], rfl, hn, World.ownsRow_nil _ _ _ _, rfl, Below.refl _ _⟩
  case round =>
    obtain ⟨m, l, rfl, hm, hown', hl, hbel⟩ := hrel
    have hl10 : l.length ≤ 9 := by
      have h1 := HL.out
      have h2 := LebM.putU_pos m
      rw [← hl, List.length_append] at h1
      omega
    have HLL := Lib.hid hl
    clear hl
    have hown := Lib.hid hown'
    clear hown'
    have e1 := and127_64 m hm
    by_cases h : m < 128
    · have hr : ((m : Int) / 128 == 0) = true := by simp; omega
      go_wp2_with (at_builtin; refine wpList_append_own _ rfl _ _ 22 rfl w.heap.size 5 i0 (.int .u8 0) 1 1 Try.underlying22 hi hz0 hz1 hz2 rfl (by decide) _ _ _ rfl (World.ownsRow.alloc hown.out _) ⟨wr.heap.size, 0, none⟩ 1 1 [.int .u8 ((m : Int) % 128)] rfl rfl ?c1a ?c2a ?c3a ?c4a ?c5a ?_)
      case c1a =>
        intro j u hj
        match j, hj with
        | 0, hj => simp at hj; subst hj; simp [Addr.add]
      case c2a => intro u hu; simp at hu; subst hu; rfl
      case c3a => unfold maxLen; omega
      case c4a => omega
      case c5a => have := hbel.size; simp; omega
      · intro v' w1 hown' hgrow _
        have R1 := Lib.hid (Own.snoc m _ (by omega) hown')
        have R2 := Lib.hid (hbel.grownOwn hbel.size hown.out _ hgrow)
        clear hown' hgrow hown hbel
        go_wp2
        go_ret
        refine ⟨v', rfl, ?_, R2.out⟩
        have := HLL.out
        rw [LebM.putU, if_pos h] at this
        rw [← this]
        exact R1.out
    · have hr : ((m : Int) / 128 == 0) = false := by simp; omega
      have e2 : bits .or .u8 ((m : Int) % 128) 128 = (m : Int) % 128 + 128 := by have := or128 (m % 128) (by omega); simpa using this
      go_wp2_with (at_builtin; refine wpList_append_own _ rfl _ _ 22 rfl w.heap.size 5 i0 (.int .u8 0) 1 1 Try.underlying22 hi hz0 hz1 hz2 rfl (by decide) _ _ _ rfl (World.ownsRow.alloc hown.out _) ⟨wr.heap.size, 0, none⟩ 1 1 [.int .u8 ((m : Int) % 128 + 128)] rfl rfl ?c1b ?c2b ?c3b ?c4b ?c5b ?_)
      case c1b =>
        intro j u hj
        match j, hj with
        | 0, hj => simp at hj; subst hj; simp [Addr.add]
      case c2b => intro u hu; simp at hu; subst hu; rfl
      case c3b => unfold maxLen; omega
      case c4b => omega
      case c5b => have := hbel.size; simp; omega
      · intro v' w1 hown' hgrow _
        have R1 := Lib.hid (Own.snoc (m % 128 + 128) _ (by omega) hown')
        have R2 := Lib.hid (hbel.grownOwn hbel.size hown.out _ hgrow)
        clear hown' hgrow hown hbel
        go_wp2
        go_roundw
        case rel =>
          refine ⟨m / 128, l ++ [m % 128 + 128], by go_num, by omega, R1.out, ?_, R2.out⟩
          have := HLL.out
          rw [LebM.putU, if_neg h] at this
          rw [← this]; simp
        case measure => simp [intOf]; omega
end Go.Proofs.Ytbaihhkcnlhdmaa
