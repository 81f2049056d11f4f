/- geoderef03.Of at any opcode. -/
import Derived.Test.YtdoejkdckokjdaaDoorRefB
namespace Go.Proofs.YtdoejkdckokjdaaDoor
open Go.RowKit

/-- the reference's number of a place of the table -/
def plc (p : Nat) : Nat := if p = 0 then 0 else if p ≤ 10 then p + 9 else if p ≤ 13 then p - 10 else if p ≤ 28 then p + 6 else p - 25
def kd (p W : Nat) : Nat × Nat × Nat × Nat := (plc p, W, if (opc p).1 = 0 then W else (opc p).1, if (opc p).2.1 = 0 then 2 else 1)
/-- what Of says of an opcode -/
def kindV (op : Int) : Nat × Nat × Nat × Nat := match hit op with
  | some (p, W) => kd p W
  | none => (0, 0, 0, 0)
theorem kindV_some {op : Int} {p W : Nat} (h : hit op = some (p, W)) : kindV op = kd p W := by unfold kindV; rw [h]
theorem kindV_none {op : Int} (h : hit op = none) : kindV op = (0, 0, 0, 0) := by unfold kindV; rw [h]

theorem kd1 (p W : Nat) (h1 : 1 ≤ p) (h2 : p ≤ 10) : kd p W = (p + 9, W, 32, 2) := by
  match p, h1, h2 with
  | 0, h, _ => omega
  | 1, _, _ => rfl
  | 2, _, _ => rfl
  | 3, _, _ => rfl
  | 4, _, _ => rfl
  | 5, _, _ => rfl
  | 6, _, _ => rfl
  | 7, _, _ => rfl
  | 8, _, _ => rfl
  | 9, _, _ => rfl
  | 10, _, _ => rfl
  | n + 11, _, h => omega
theorem kd11 (p W : Nat) (h1 : 11 ≤ p) (h2 : p ≤ 13) : kd p W = (p - 10, W, W, 1) := by
  match p, h1, h2 with
  | 0, h, _ => omega
  | 1, h, _ => omega
  | 2, h, _ => omega
  | 3, h, _ => omega
  | 4, h, _ => omega
  | 5, h, _ => omega
  | 6, h, _ => omega
  | 7, h, _ => omega
  | 8, h, _ => omega
  | 9, h, _ => omega
  | 10, h, _ => omega
  | 11, _, _ => rfl
  | 12, _, _ => rfl
  | 13, _, _ => rfl
  | n + 14, _, h => omega
theorem kd14 (p W : Nat) (h1 : 14 ≤ p) (h2 : p ≤ 28) : kd p W = (p + 6, W, W, 2) := by
  match p, h1, h2 with
  | 0, h, _ => omega
  | 1, h, _ => omega
  | 2, h, _ => omega
  | 3, h, _ => omega
  | 4, h, _ => omega
  | 5, h, _ => omega
  | 6, h, _ => omega
  | 7, h, _ => omega
  | 8, h, _ => omega
  | 9, h, _ => omega
  | 10, h, _ => omega
  | 11, h, _ => omega
  | 12, h, _ => omega
  | 13, h, _ => omega
  | 14, _, _ => rfl
  | 15, _, _ => rfl
  | 16, _, _ => rfl
  | 17, _, _ => rfl
  | 18, _, _ => rfl
  | 19, _, _ => rfl
  | 20, _, _ => rfl
  | 21, _, _ => rfl
  | 22, _, _ => rfl
  | 23, _, _ => rfl
  | 24, _, _ => rfl
  | 25, _, _ => rfl
  | 26, _, _ => rfl
  | 27, _, _ => rfl
  | 28, _, _ => rfl
  | n + 29, _, h => omega
theorem kd29 (p W : Nat) (h1 : 29 ≤ p) (h2 : p ≤ 31) : kd p W = (p - 25, W, W, 1) := by
  match p, h1, h2 with
  | 0, h, _ => omega
  | 1, h, _ => omega
  | 2, h, _ => omega
  | 3, h, _ => omega
  | 4, h, _ => omega
  | 5, h, _ => omega
  | 6, h, _ => omega
  | 7, h, _ => omega
  | 8, h, _ => omega
  | 9, h, _ => omega
  | 10, h, _ => omega
  | 11, h, _ => omega
  | 12, h, _ => omega
  | 13, h, _ => omega
  | 14, h, _ => omega
  | 15, h, _ => omega
  | 16, h, _ => omega
  | 17, h, _ => omega
  | 18, h, _ => omega
  | 19, h, _ => omega
  | 20, h, _ => omega
  | 21, h, _ => omega
  | 22, h, _ => omega
  | 23, h, _ => omega
  | 24, h, _ => omega
  | 25, h, _ => omega
  | 26, h, _ => omega
  | 27, h, _ => omega
  | 28, h, _ => omega
  | 29, _, _ => rfl
  | 30, _, _ => rfl
  | 31, _, _ => rfl
  | n + 32, _, h => omega

theorem hit_out (op : Int) (h : op < 69 ∨ (91 ≤ op ∧ op < 103) ∨ (139 ≤ op ∧ op < 167) ∨ (168 ≤ op ∧ op < 172) ∨ (174 ≤ op ∧ op < 192) ∨ 197 ≤ op) : hit op = none := by
  apply hit_none
  intro j hj q hq
  match j, hj with
  | 0, _ => cases hq; simp only [hitAt, decide_eq_false_iff_not]; omega
  | 1, _ => cases hq; simp only [hitAt, decide_eq_false_iff_not]; omega
  | 2, _ => cases hq; simp only [hitAt, decide_eq_false_iff_not]; omega
  | 3, _ => cases hq; simp only [hitAt, decide_eq_false_iff_not]; omega
  | 4, _ => cases hq; simp only [hitAt, decide_eq_false_iff_not]; omega
  | 5, _ => cases hq; simp only [hitAt, decide_eq_false_iff_not]; omega
  | 6, _ => cases hq; simp only [hitAt, decide_eq_false_iff_not]; omega
  | 7, _ => cases hq; simp only [hitAt, decide_eq_false_iff_not]; omega

def Ofs (op : Int) (k : Nat × Nat × Nat × Nat) (w : World) : Prop := Calls Tryd.prog 19 #[.int .i64 op] w fun e w' => e = .returned (.agg #[.int .i64 (k.1 : Nat), .int .i64 (k.2.1 : Nat), .int .i64 (k.2.2.1 : Nat), .int .i64 (k.2.2.2 : Nat)]) ∧ Below w.heap.size w w'

theorem Of_any (op : Int) (w : World) : Ofs op (kindV op) w := by
  by_cases c68 : op ≤ 68
  · rw [kindV_none (hit_out op (by omega))]
    exact Of_lo_68 op (by omega) w
  by_cases c69 : op ≤ 69
  · have hh := hit_at 0 69 11 32 0 rfl (by omega) (op.toNat - 69) (by omega)
    have e : ((69 + (op.toNat - 69) : Nat) : Int) = op := by omega
    rw [e] at hh
    obtain rfl : op = 69 := by omega
    rw [kindV_some hh]
    exact Of_69_69 w
  by_cases c79 : op ≤ 79
  · have hh := hit_at 0 69 11 32 0 rfl (by omega) (op.toNat - 69) (by omega)
    have e : ((69 + (op.toNat - 69) : Nat) : Int) = op := by omega
    rw [e] at hh
    obtain ⟨p, hp⟩ : ∃ p, p = (0 + (op.toNat - 69)) := ⟨_, rfl⟩
    rw [← hp] at hh
    have hk := kd1 p 32 (by omega) (by omega)
    rw [kindV_some hh, hk]
    have C := Of_70_79 op (by omega) (by omega) w
    unfold Ofs
    dsimp only
    rw [show ((p + 9 : Nat) : Int) = op - 60 by omega]
    exact C
  by_cases c80 : op ≤ 80
  · have hh := hit_at 1 80 11 64 0 rfl (by intro j hj q hq; match j, hj with | 0, _ => cases hq; decide) (op.toNat - 80) (by omega)
    have e : ((80 + (op.toNat - 80) : Nat) : Int) = op := by omega
    rw [e] at hh
    obtain rfl : op = 80 := by omega
    rw [kindV_some hh]
    exact Of_80_80 w
  by_cases c90 : op ≤ 90
  · have hh := hit_at 1 80 11 64 0 rfl (by intro j hj q hq; match j, hj with | 0, _ => cases hq; decide) (op.toNat - 80) (by omega)
    have e : ((80 + (op.toNat - 80) : Nat) : Int) = op := by omega
    rw [e] at hh
    obtain ⟨p, hp⟩ : ∃ p, p = (0 + (op.toNat - 80)) := ⟨_, rfl⟩
    rw [← hp] at hh
    have hk := kd1 p 64 (by omega) (by omega)
    rw [kindV_some hh, hk]
    have C := Of_81_90 op (by omega) (by omega) w
    unfold Ofs
    dsimp only
    rw [show ((p + 9 : Nat) : Int) = op - 71 by omega]
    exact C
  by_cases c102 : op ≤ 102
  · rw [kindV_none (hit_out op (by omega))]
    exact Of_91_102 op (by omega) (by omega) w
  by_cases c105 : op ≤ 105
  · have hh := hit_at 2 103 18 32 11 rfl (by intro j hj q hq; match j, hj with | 0, _ => cases hq; decide | 1, _ => cases hq; decide) (op.toNat - 103) (by omega)
    have e : ((103 + (op.toNat - 103) : Nat) : Int) = op := by omega
    rw [e] at hh
    obtain ⟨p, hp⟩ : ∃ p, p = (11 + (op.toNat - 103)) := ⟨_, rfl⟩
    rw [← hp] at hh
    have hk := kd11 p 32 (by omega) (by omega)
    rw [kindV_some hh, hk]
    have C := Of_103_105 op (by omega) (by omega) w
    unfold Ofs
    dsimp only
    rw [show ((p - 10 : Nat) : Int) = op - 102 by omega]
    exact C
  by_cases c120 : op ≤ 120
  · have hh := hit_at 2 103 18 32 11 rfl (by intro j hj q hq; match j, hj with | 0, _ => cases hq; decide | 1, _ => cases hq; decide) (op.toNat - 103) (by omega)
    have e : ((103 + (op.toNat - 103) : Nat) : Int) = op := by omega
    rw [e] at hh
    obtain ⟨p, hp⟩ : ∃ p, p = (11 + (op.toNat - 103)) := ⟨_, rfl⟩
    rw [← hp] at hh
    have hk := kd14 p 32 (by omega) (by omega)
    rw [kindV_some hh, hk]
    have C := Of_106_120 op (by omega) (by omega) w
    unfold Ofs
    dsimp only
    rw [show ((p + 6 : Nat) : Int) = op - 86 by omega]
    exact C
  by_cases c123 : op ≤ 123
  · have hh := hit_at 3 121 18 64 11 rfl (by intro j hj q hq; match j, hj with | 0, _ => cases hq; decide | 1, _ => cases hq; decide | 2, _ => cases hq; decide) (op.toNat - 121) (by omega)
    have e : ((121 + (op.toNat - 121) : Nat) : Int) = op := by omega
    rw [e] at hh
    obtain ⟨p, hp⟩ : ∃ p, p = (11 + (op.toNat - 121)) := ⟨_, rfl⟩
    rw [← hp] at hh
    have hk := kd11 p 64 (by omega) (by omega)
    rw [kindV_some hh, hk]
    have C := Of_121_123 op (by omega) (by omega) w
    unfold Ofs
    dsimp only
    rw [show ((p - 10 : Nat) : Int) = op - 120 by omega]
    exact C
  by_cases c138 : op ≤ 138
  · have hh := hit_at 3 121 18 64 11 rfl (by intro j hj q hq; match j, hj with | 0, _ => cases hq; decide | 1, _ => cases hq; decide | 2, _ => cases hq; decide) (op.toNat - 121) (by omega)
    have e : ((121 + (op.toNat - 121) : Nat) : Int) = op := by omega
    rw [e] at hh
    obtain ⟨p, hp⟩ : ∃ p, p = (11 + (op.toNat - 121)) := ⟨_, rfl⟩
    rw [← hp] at hh
    have hk := kd14 p 64 (by omega) (by omega)
    rw [kindV_some hh, hk]
    have C := Of_124_138 op (by omega) (by omega) w
    unfold Ofs
    dsimp only
    rw [show ((p + 6 : Nat) : Int) = op - 104 by omega]
    exact C
  by_cases c166 : op ≤ 166
  · rw [kindV_none (hit_out op (by omega))]
    exact Of_139_166 op (by omega) (by omega) w
  by_cases c167 : op ≤ 167
  · have hh := hit_at 6 167 1 64 32 rfl (by intro j hj q hq; match j, hj with | 0, _ => cases hq; decide | 1, _ => cases hq; decide | 2, _ => cases hq; decide | 3, _ => cases hq; decide | 4, _ => cases hq; decide | 5, _ => cases hq; decide) (op.toNat - 167) (by omega)
    have e : ((167 + (op.toNat - 167) : Nat) : Int) = op := by omega
    rw [e] at hh
    obtain rfl : op = 167 := by omega
    rw [kindV_some hh]
    exact Of_167_167 w
  by_cases c171 : op ≤ 171
  · rw [kindV_none (hit_out op (by omega))]
    exact Of_168_171 op (by omega) (by omega) w
  by_cases c172 : op ≤ 172
  · have hh := hit_at 7 172 2 32 33 rfl (by intro j hj q hq; match j, hj with | 0, _ => cases hq; decide | 1, _ => cases hq; decide | 2, _ => cases hq; decide | 3, _ => cases hq; decide | 4, _ => cases hq; decide | 5, _ => cases hq; decide | 6, _ => cases hq; decide) (op.toNat - 172) (by omega)
    have e : ((172 + (op.toNat - 172) : Nat) : Int) = op := by omega
    rw [e] at hh
    obtain rfl : op = 172 := by omega
    rw [kindV_some hh]
    exact Of_172_172 w
  by_cases c173 : op ≤ 173
  · have hh := hit_at 7 172 2 32 33 rfl (by intro j hj q hq; match j, hj with | 0, _ => cases hq; decide | 1, _ => cases hq; decide | 2, _ => cases hq; decide | 3, _ => cases hq; decide | 4, _ => cases hq; decide | 5, _ => cases hq; decide | 6, _ => cases hq; decide) (op.toNat - 172) (by omega)
    have e : ((172 + (op.toNat - 172) : Nat) : Int) = op := by omega
    rw [e] at hh
    obtain rfl : op = 173 := by omega
    rw [kindV_some hh]
    exact Of_173_173 w
  by_cases c191 : op ≤ 191
  · rw [kindV_none (hit_out op (by omega))]
    exact Of_174_191 op (by omega) (by omega) w
  by_cases c192 : op ≤ 192
  · have hh := hit_at 4 192 2 32 29 rfl (by intro j hj q hq; match j, hj with | 0, _ => cases hq; decide | 1, _ => cases hq; decide | 2, _ => cases hq; decide | 3, _ => cases hq; decide) (op.toNat - 192) (by omega)
    have e : ((192 + (op.toNat - 192) : Nat) : Int) = op := by omega
    rw [e] at hh
    obtain rfl : op = 192 := by omega
    rw [kindV_some hh]
    exact Of_192_192 w
  by_cases c193 : op ≤ 193
  · have hh := hit_at 4 192 2 32 29 rfl (by intro j hj q hq; match j, hj with | 0, _ => cases hq; decide | 1, _ => cases hq; decide | 2, _ => cases hq; decide | 3, _ => cases hq; decide) (op.toNat - 192) (by omega)
    have e : ((192 + (op.toNat - 192) : Nat) : Int) = op := by omega
    rw [e] at hh
    obtain rfl : op = 193 := by omega
    rw [kindV_some hh]
    exact Of_193_193 w
  by_cases c196 : op ≤ 196
  · have hh := hit_at 5 194 3 64 29 rfl (by intro j hj q hq; match j, hj with | 0, _ => cases hq; decide | 1, _ => cases hq; decide | 2, _ => cases hq; decide | 3, _ => cases hq; decide | 4, _ => cases hq; decide) (op.toNat - 194) (by omega)
    have e : ((194 + (op.toNat - 194) : Nat) : Int) = op := by omega
    rw [e] at hh
    obtain ⟨p, hp⟩ : ∃ p, p = (29 + (op.toNat - 194)) := ⟨_, rfl⟩
    rw [← hp] at hh
    have hk := kd29 p 64 (by omega) (by omega)
    rw [kindV_some hh, hk]
    have C := Of_194_196 op (by omega) (by omega) w
    unfold Ofs
    dsimp only
    rw [show ((p - 25 : Nat) : Int) = op - 190 by omega]
    exact C
  rw [kindV_none (hit_out op (by omega))]
  exact Of_197_hi op (by omega) w
end Go.Proofs.YtdoejkdckokjdaaDoor
