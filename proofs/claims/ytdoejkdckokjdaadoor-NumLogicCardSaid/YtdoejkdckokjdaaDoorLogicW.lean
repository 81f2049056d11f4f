/- geodelaw03.NumLogic. -/
import Derived.Test.YtdoejkdckokjdaaDoorLogicP
import Derived.Laws.EntriesVeiled
import Derived.Deep.RegionHeld3
namespace Go.Proofs.YtdoejkdckokjdaaDoor
open Go.RowKit

set_option maxRecDepth 100000 in
set_option maxHeartbeats 8000000 in
theorem NumLogic_walk (a b : Nat) (ha : a < 18446744073709551616) (hb : b < 18446744073709551616) (w : World) (hL : Laid w) :
    Calls Tryd.prog 8 #[.int .u64 a, .int .u64 b] w fun e w' => e = .returned (.bool true) ∧ Below w.heap.size w w' := by
  have HL := Lib.hid hL
  have HA := Lib.hid (And.intro ha hb)
  clear hL ha hb
  go_enter Tryd.func8, Tryd.ntmps8
  go_wp2_with fail
  go_loopw [5] (fun b wr => ∃ (W bw : Nat), b = .pointer (some ⟨bw, 0, none⟩) ∧ (W = 32 ∨ W = 64 ∨ W = 96) ∧ wr.cell? ⟨bw, 0, none⟩ = some (.int .i64 (W : Int)) ∧ wr.frozen? ⟨bw, 0, none⟩ = false ∧ w.heap.size ≤ bw ∧ Below w.heap.size w wr) (fun b wr => 100 - (match b with | .pointer (some p) => (match wr.cell? p with | some v => (intOf v).toNat | none => 0) | _ => 0))
  case atStart => exact ⟨32, w.heap.size, rfl, by omega, by simp, by simp, by omega, (Below.refl _ _).alloc (Nat.le_refl _) _⟩
  case round =>
    obtain ⟨W, bw, rfl, hW, hc, hz, hbw, hb⟩ := hrel
    have B := Lib.hid hb
    clear hb
    have Hbw := Lib.hid hbw
    clear hbw
    rcases hW with rfl | rfl | rfl
    · obtain ⟨x, hx⟩ : ∃ x : Nat, x = a / 4294967296 := ⟨_, rfl⟩
      obtain ⟨y, hy⟩ : ∃ y : Nat, y = b / 4294967296 := ⟨_, rfl⟩
      have hxM : x < 4294967296 := by have := HA.out; omega
      have hyM : y < 4294967296 := by have := HA.out; omega
      have hd : Wd 32 4294967296 := by unfold Wd; omega
      have cn := logic_neg (HL.out.kept B.out) hd
      obtain ⟨g, hg⟩ : ∃ g : Nat, g = 4294967296 - 1 := ⟨_, rfl⟩
      have pk := fun bn => logic_pack2 HL.out hd bw bn x y hxM hyM
      rw [← hg] at cn
      simp only [← hg] at pk
      have PK := Lib.hid pk
      have CN := Lib.hid cn
      have e1 : (a : Int) / 4294967296 = (x : Int) := by omega
      have e2 : (b : Int) / 4294967296 = (y : Int) := by omega
      clear hx hy
      clear hxM hyM hd cn hg pk
      go_wp2_with fail
      refine (CN.out _ (Below.refl _ _)).mono ?_
      rintro e w1 ⟨rfl, b1⟩
      have c1 := (b1.cell (p := ⟨bw, 0, none⟩) (block_lt_of_cell hc)).trans hc
      have hbn := block_lt_of_cell c1
      have hlt := block_lt_of_cell hc
      obtain ⟨W2, hW2⟩ : ∃ W2, W2 = w1.alloc (.cells #[.int .u64 (g : Int)] 23) := ⟨_, rfl⟩
      have k1 : W2.cell? ⟨bw, 0, none⟩ = some (.int .i64 32) := by rw [hW2]; exact (World.cell?_alloc_lt _ _ _ hbn).trans c1
      have k2 : W2.cell? ⟨w1.heap.size, 0, none⟩ = some (.int .u64 (g : Int)) := by rw [hW2]; simp
      have k3 : Below w.heap.size w W2 := by rw [hW2]; exact (B.out.trans (b1.mono B.out.size)).alloc (by have := B.out.size; have := b1.size; omega) _
      have K := Lib.hid (show Kp w bw w1.heap.size 32 g W2 from ⟨k1, k2, k3⟩)
      have HW2 := Lib.hid hW2
      clear k3 hW2 c1 b1 hbn hlt
      go_wp2_with (rw [← HW2.out])
      clear HW2
      generalize w1.heap.size = bn at *
      obtain ⟨an, o, na, nx, ny, xr, n1, n2, n3, n4, s, hi, l, xh, yh, s1, s2, hT, hO, hN⟩ := PK.out bn
      have CT := Lib.hid hT
      have CO := Lib.hid hO
      have CN2 := Lib.hid hN
      clear hT hO hN PK CN
      go_region_held3 (fun w' => w'.cell? ⟨bw, 0, none⟩ = some (.int .i64 32) ∧ w'.cell? ⟨bn, 0, none⟩ = some (.int .u64 (g : Int)) ∧ Below w.heap.size w w') (first | exact k | exact ⟨K.out.1, K.out.2.1, K.out.2.2.drew⟩) (first | (go_at_call 13; refine (CT.out _ _ _ _ (by first | exact List.Mem.head _ | exact List.Mem.tail _ (List.Mem.head _) | exact List.Mem.tail _ (List.Mem.tail _ (List.Mem.head _)) | exact List.Mem.tail _ (List.Mem.tail _ (List.Mem.tail _ (List.Mem.head _))) | exact List.Mem.tail _ (List.Mem.tail _ (List.Mem.tail _ (List.Mem.tail _ (List.Mem.head _)))) | exact List.Mem.tail _ (List.Mem.tail _ (List.Mem.tail _ (List.Mem.tail _ (List.Mem.tail _ (List.Mem.head _))))) | exact List.Mem.tail _ (List.Mem.tail _ (List.Mem.tail _ (List.Mem.tail _ (List.Mem.tail _ (List.Mem.tail _ (List.Mem.head _)))))) | exact List.Mem.tail _ (List.Mem.tail _ (List.Mem.tail _ (List.Mem.tail _ (List.Mem.tail _ (List.Mem.tail _ (List.Mem.tail _ (List.Mem.head _))))))) | exact List.Mem.tail _ (List.Mem.tail _ (List.Mem.tail _ (List.Mem.tail _ (List.Mem.tail _ (List.Mem.tail _ (List.Mem.tail _ (List.Mem.tail _ (List.Mem.head _)))))))) | exact List.Mem.tail _ (List.Mem.tail _ (List.Mem.tail _ (List.Mem.tail _ (List.Mem.tail _ (List.Mem.tail _ (List.Mem.tail _ (List.Mem.tail _ (List.Mem.tail _ (List.Mem.head _)))))))))) _ ?_).mono ?_; (first | exact k | exact ⟨K.out.1, K.out.2.1, K.out.2.2.drew⟩); rintro e w9 ⟨rfl, k⟩))
      clear K k1 k2
      have K := Lib.hid k
      have k1 := k.1
      have k2 := k.2.1
      clear k
      go_wp2_with fail
      go_region_held3 (fun w' => w'.cell? ⟨bw, 0, none⟩ = some (.int .i64 32) ∧ w'.cell? ⟨bn, 0, none⟩ = some (.int .u64 (g : Int)) ∧ Below w.heap.size w w') (first | exact k | exact ⟨K.out.1, K.out.2.1, K.out.2.2.drew⟩) (first | (go_at_call 13; refine (CT.out _ _ _ _ (by first | exact List.Mem.head _ | exact List.Mem.tail _ (List.Mem.head _) | exact List.Mem.tail _ (List.Mem.tail _ (List.Mem.head _)) | exact List.Mem.tail _ (List.Mem.tail _ (List.Mem.tail _ (List.Mem.head _))) | exact List.Mem.tail _ (List.Mem.tail _ (List.Mem.tail _ (List.Mem.tail _ (List.Mem.head _)))) | exact List.Mem.tail _ (List.Mem.tail _ (List.Mem.tail _ (List.Mem.tail _ (List.Mem.tail _ (List.Mem.head _))))) | exact List.Mem.tail _ (List.Mem.tail _ (List.Mem.tail _ (List.Mem.tail _ (List.Mem.tail _ (List.Mem.tail _ (List.Mem.head _)))))) | exact List.Mem.tail _ (List.Mem.tail _ (List.Mem.tail _ (List.Mem.tail _ (List.Mem.tail _ (List.Mem.tail _ (List.Mem.tail _ (List.Mem.head _))))))) | exact List.Mem.tail _ (List.Mem.tail _ (List.Mem.tail _ (List.Mem.tail _ (List.Mem.tail _ (List.Mem.tail _ (List.Mem.tail _ (List.Mem.tail _ (List.Mem.head _)))))))) | exact List.Mem.tail _ (List.Mem.tail _ (List.Mem.tail _ (List.Mem.tail _ (List.Mem.tail _ (List.Mem.tail _ (List.Mem.tail _ (List.Mem.tail _ (List.Mem.tail _ (List.Mem.head _)))))))))) _ ?_).mono ?_; (first | exact k | exact ⟨K.out.1, K.out.2.1, K.out.2.2.drew⟩); rintro e w9 ⟨rfl, k⟩) | (go_at_call 14; refine (CO.out _ _ (by first | exact List.Mem.head _ | exact List.Mem.tail _ (List.Mem.head _) | exact List.Mem.tail _ (List.Mem.tail _ (List.Mem.head _)) | exact List.Mem.tail _ (List.Mem.tail _ (List.Mem.tail _ (List.Mem.head _)))) _ ?_).mono ?_; (first | exact k | exact ⟨K.out.1, K.out.2.1, K.out.2.2.drew⟩); rintro e w9 ⟨rfl, k⟩) | (go_at_call 16; refine (CN2.out _ _ (by first | exact List.Mem.head _ | exact List.Mem.tail _ (List.Mem.head _) | exact List.Mem.tail _ (List.Mem.tail _ (List.Mem.head _))) _ ?_).mono ?_; (first | exact k | exact ⟨K.out.1, K.out.2.1, K.out.2.2.drew⟩); rintro e w9 ⟨rfl, k⟩))
      clear K k1 k2
      have K := Lib.hid k
      have k1 := k.1
      have k2 := k.2.1
      clear k
      go_wp2_with fail
      refine (CT.out _ _ _ _ (show ((116 : Int), (1 : Int), ((31 : Nat) : Int), (hi : Int)) ∈ _ from List.Mem.tail _ (List.Mem.tail _ (List.Mem.tail _ (List.Mem.tail _ (List.Mem.tail _ (List.Mem.head _)))))) _ K.out).mono ?_
      rintro e w9 ⟨rfl, k⟩
      clear K k1 k2
      have K := Lib.hid k
      have k1 := k.1
      have k2 := k.2.1
      clear k
      go_wp2_with fail
      go_region_held3 (fun w' => w'.cell? ⟨bw, 0, none⟩ = some (.int .i64 32) ∧ w'.cell? ⟨bn, 0, none⟩ = some (.int .u64 (g : Int)) ∧ Below w.heap.size w w') (first | exact k | exact ⟨K.out.1, K.out.2.1, K.out.2.2.drew⟩) (first | (go_at_call 13; refine (CT.out _ _ _ _ (by first | exact List.Mem.head _ | exact List.Mem.tail _ (List.Mem.head _) | exact List.Mem.tail _ (List.Mem.tail _ (List.Mem.head _)) | exact List.Mem.tail _ (List.Mem.tail _ (List.Mem.tail _ (List.Mem.head _))) | exact List.Mem.tail _ (List.Mem.tail _ (List.Mem.tail _ (List.Mem.tail _ (List.Mem.head _)))) | exact List.Mem.tail _ (List.Mem.tail _ (List.Mem.tail _ (List.Mem.tail _ (List.Mem.tail _ (List.Mem.head _))))) | exact List.Mem.tail _ (List.Mem.tail _ (List.Mem.tail _ (List.Mem.tail _ (List.Mem.tail _ (List.Mem.tail _ (List.Mem.head _)))))) | exact List.Mem.tail _ (List.Mem.tail _ (List.Mem.tail _ (List.Mem.tail _ (List.Mem.tail _ (List.Mem.tail _ (List.Mem.tail _ (List.Mem.head _))))))) | exact List.Mem.tail _ (List.Mem.tail _ (List.Mem.tail _ (List.Mem.tail _ (List.Mem.tail _ (List.Mem.tail _ (List.Mem.tail _ (List.Mem.tail _ (List.Mem.head _)))))))) | exact List.Mem.tail _ (List.Mem.tail _ (List.Mem.tail _ (List.Mem.tail _ (List.Mem.tail _ (List.Mem.tail _ (List.Mem.tail _ (List.Mem.tail _ (List.Mem.tail _ (List.Mem.head _)))))))))) _ ?_).mono ?_; (first | exact k | exact ⟨K.out.1, K.out.2.1, K.out.2.2.drew⟩); rintro e w9 ⟨rfl, k⟩))
      clear K k1 k2
      have K := Lib.hid k
      have k1 := k.1
      have k2 := k.2.1
      clear k
      go_wp2
      go_roundw
      case rel => exact ⟨64, w9.heap.size, rfl, by omega, by simp, by simp, by have := K.out.2.2.size; omega, K.out.2.2.alloc K.out.2.2.size _⟩
      case measure => simp [intOf, hc]
    · obtain ⟨x, hx⟩ : ∃ x : Nat, x = a := ⟨_, rfl⟩
      obtain ⟨y, hy⟩ : ∃ y : Nat, y = b := ⟨_, rfl⟩
      have hxM : x < 18446744073709551616 := by have := HA.out; omega
      have hyM : y < 18446744073709551616 := by have := HA.out; omega
      have hd : Wd 64 18446744073709551616 := by unfold Wd; omega
      have cn := logic_neg (HL.out.kept B.out) hd
      obtain ⟨g, hg⟩ : ∃ g : Nat, g = 18446744073709551616 - 1 := ⟨_, rfl⟩
      have pk := fun bn => logic_pack2 HL.out hd bw bn x y hxM hyM
      rw [← hg] at cn
      simp only [← hg] at pk
      have PK := Lib.hid pk
      have CN := Lib.hid cn
      subst hx
      subst hy
      clear hxM hyM hd cn hg pk
      go_wp2_with fail
      refine (CN.out _ (Below.refl _ _)).mono ?_
      rintro e w1 ⟨rfl, b1⟩
      have c1 := (b1.cell (p := ⟨bw, 0, none⟩) (block_lt_of_cell hc)).trans hc
      have hbn := block_lt_of_cell c1
      have hlt := block_lt_of_cell hc
      obtain ⟨W2, hW2⟩ : ∃ W2, W2 = w1.alloc (.cells #[.int .u64 (g : Int)] 23) := ⟨_, rfl⟩
      have k1 : W2.cell? ⟨bw, 0, none⟩ = some (.int .i64 64) := by rw [hW2]; exact (World.cell?_alloc_lt _ _ _ hbn).trans c1
      have k2 : W2.cell? ⟨w1.heap.size, 0, none⟩ = some (.int .u64 (g : Int)) := by rw [hW2]; simp
      have k3 : Below w.heap.size w W2 := by rw [hW2]; exact (B.out.trans (b1.mono B.out.size)).alloc (by have := B.out.size; have := b1.size; omega) _
      have K := Lib.hid (show Kp w bw w1.heap.size 64 g W2 from ⟨k1, k2, k3⟩)
      have HW2 := Lib.hid hW2
      clear k3 hW2 c1 b1 hbn hlt
      go_wp2_with (rw [← HW2.out])
      clear HW2
      generalize w1.heap.size = bn at *
      obtain ⟨an, o, na, nx, ny, xr, n1, n2, n3, n4, s, hi, l, xh, yh, s1, s2, hT, hO, hN⟩ := PK.out bn
      have CT := Lib.hid hT
      have CO := Lib.hid hO
      have CN2 := Lib.hid hN
      clear hT hO hN PK CN
      go_region_held3 (fun w' => w'.cell? ⟨bw, 0, none⟩ = some (.int .i64 64) ∧ w'.cell? ⟨bn, 0, none⟩ = some (.int .u64 (g : Int)) ∧ Below w.heap.size w w') (first | exact k | exact ⟨K.out.1, K.out.2.1, K.out.2.2.drew⟩) (first | (go_at_call 13; refine (CT.out _ _ _ _ (by first | exact List.Mem.head _ | exact List.Mem.tail _ (List.Mem.head _) | exact List.Mem.tail _ (List.Mem.tail _ (List.Mem.head _)) | exact List.Mem.tail _ (List.Mem.tail _ (List.Mem.tail _ (List.Mem.head _))) | exact List.Mem.tail _ (List.Mem.tail _ (List.Mem.tail _ (List.Mem.tail _ (List.Mem.head _)))) | exact List.Mem.tail _ (List.Mem.tail _ (List.Mem.tail _ (List.Mem.tail _ (List.Mem.tail _ (List.Mem.head _))))) | exact List.Mem.tail _ (List.Mem.tail _ (List.Mem.tail _ (List.Mem.tail _ (List.Mem.tail _ (List.Mem.tail _ (List.Mem.head _)))))) | exact List.Mem.tail _ (List.Mem.tail _ (List.Mem.tail _ (List.Mem.tail _ (List.Mem.tail _ (List.Mem.tail _ (List.Mem.tail _ (List.Mem.head _))))))) | exact List.Mem.tail _ (List.Mem.tail _ (List.Mem.tail _ (List.Mem.tail _ (List.Mem.tail _ (List.Mem.tail _ (List.Mem.tail _ (List.Mem.tail _ (List.Mem.head _)))))))) | exact List.Mem.tail _ (List.Mem.tail _ (List.Mem.tail _ (List.Mem.tail _ (List.Mem.tail _ (List.Mem.tail _ (List.Mem.tail _ (List.Mem.tail _ (List.Mem.tail _ (List.Mem.head _)))))))))) _ ?_).mono ?_; (first | exact k | exact ⟨K.out.1, K.out.2.1, K.out.2.2.drew⟩); rintro e w9 ⟨rfl, k⟩))
      clear K k1 k2
      have K := Lib.hid k
      have k1 := k.1
      have k2 := k.2.1
      clear k
      go_wp2_with fail
      go_region_held3 (fun w' => w'.cell? ⟨bw, 0, none⟩ = some (.int .i64 64) ∧ w'.cell? ⟨bn, 0, none⟩ = some (.int .u64 (g : Int)) ∧ Below w.heap.size w w') (first | exact k | exact ⟨K.out.1, K.out.2.1, K.out.2.2.drew⟩) (first | (go_at_call 13; refine (CT.out _ _ _ _ (by first | exact List.Mem.head _ | exact List.Mem.tail _ (List.Mem.head _) | exact List.Mem.tail _ (List.Mem.tail _ (List.Mem.head _)) | exact List.Mem.tail _ (List.Mem.tail _ (List.Mem.tail _ (List.Mem.head _))) | exact List.Mem.tail _ (List.Mem.tail _ (List.Mem.tail _ (List.Mem.tail _ (List.Mem.head _)))) | exact List.Mem.tail _ (List.Mem.tail _ (List.Mem.tail _ (List.Mem.tail _ (List.Mem.tail _ (List.Mem.head _))))) | exact List.Mem.tail _ (List.Mem.tail _ (List.Mem.tail _ (List.Mem.tail _ (List.Mem.tail _ (List.Mem.tail _ (List.Mem.head _)))))) | exact List.Mem.tail _ (List.Mem.tail _ (List.Mem.tail _ (List.Mem.tail _ (List.Mem.tail _ (List.Mem.tail _ (List.Mem.tail _ (List.Mem.head _))))))) | exact List.Mem.tail _ (List.Mem.tail _ (List.Mem.tail _ (List.Mem.tail _ (List.Mem.tail _ (List.Mem.tail _ (List.Mem.tail _ (List.Mem.tail _ (List.Mem.head _)))))))) | exact List.Mem.tail _ (List.Mem.tail _ (List.Mem.tail _ (List.Mem.tail _ (List.Mem.tail _ (List.Mem.tail _ (List.Mem.tail _ (List.Mem.tail _ (List.Mem.tail _ (List.Mem.head _)))))))))) _ ?_).mono ?_; (first | exact k | exact ⟨K.out.1, K.out.2.1, K.out.2.2.drew⟩); rintro e w9 ⟨rfl, k⟩) | (go_at_call 14; refine (CO.out _ _ (by first | exact List.Mem.head _ | exact List.Mem.tail _ (List.Mem.head _) | exact List.Mem.tail _ (List.Mem.tail _ (List.Mem.head _)) | exact List.Mem.tail _ (List.Mem.tail _ (List.Mem.tail _ (List.Mem.head _)))) _ ?_).mono ?_; (first | exact k | exact ⟨K.out.1, K.out.2.1, K.out.2.2.drew⟩); rintro e w9 ⟨rfl, k⟩) | (go_at_call 16; refine (CN2.out _ _ (by first | exact List.Mem.head _ | exact List.Mem.tail _ (List.Mem.head _) | exact List.Mem.tail _ (List.Mem.tail _ (List.Mem.head _))) _ ?_).mono ?_; (first | exact k | exact ⟨K.out.1, K.out.2.1, K.out.2.2.drew⟩); rintro e w9 ⟨rfl, k⟩))
      clear K k1 k2
      have K := Lib.hid k
      have k1 := k.1
      have k2 := k.2.1
      clear k
      go_wp2_with fail
      refine (CT.out _ _ _ _ (show ((116 : Int), (1 : Int), ((63 : Nat) : Int), (hi : Int)) ∈ _ from List.Mem.tail _ (List.Mem.tail _ (List.Mem.tail _ (List.Mem.tail _ (List.Mem.tail _ (List.Mem.head _)))))) _ K.out).mono ?_
      rintro e w9 ⟨rfl, k⟩
      clear K k1 k2
      have K := Lib.hid k
      have k1 := k.1
      have k2 := k.2.1
      clear k
      go_wp2_with fail
      go_region_held3 (fun w' => w'.cell? ⟨bw, 0, none⟩ = some (.int .i64 64) ∧ w'.cell? ⟨bn, 0, none⟩ = some (.int .u64 (g : Int)) ∧ Below w.heap.size w w') (first | exact k | exact ⟨K.out.1, K.out.2.1, K.out.2.2.drew⟩) (first | (go_at_call 13; refine (CT.out _ _ _ _ (by first | exact List.Mem.head _ | exact List.Mem.tail _ (List.Mem.head _) | exact List.Mem.tail _ (List.Mem.tail _ (List.Mem.head _)) | exact List.Mem.tail _ (List.Mem.tail _ (List.Mem.tail _ (List.Mem.head _))) | exact List.Mem.tail _ (List.Mem.tail _ (List.Mem.tail _ (List.Mem.tail _ (List.Mem.head _)))) | exact List.Mem.tail _ (List.Mem.tail _ (List.Mem.tail _ (List.Mem.tail _ (List.Mem.tail _ (List.Mem.head _))))) | exact List.Mem.tail _ (List.Mem.tail _ (List.Mem.tail _ (List.Mem.tail _ (List.Mem.tail _ (List.Mem.tail _ (List.Mem.head _)))))) | exact List.Mem.tail _ (List.Mem.tail _ (List.Mem.tail _ (List.Mem.tail _ (List.Mem.tail _ (List.Mem.tail _ (List.Mem.tail _ (List.Mem.head _))))))) | exact List.Mem.tail _ (List.Mem.tail _ (List.Mem.tail _ (List.Mem.tail _ (List.Mem.tail _ (List.Mem.tail _ (List.Mem.tail _ (List.Mem.tail _ (List.Mem.head _)))))))) | exact List.Mem.tail _ (List.Mem.tail _ (List.Mem.tail _ (List.Mem.tail _ (List.Mem.tail _ (List.Mem.tail _ (List.Mem.tail _ (List.Mem.tail _ (List.Mem.tail _ (List.Mem.head _)))))))))) _ ?_).mono ?_; (first | exact k | exact ⟨K.out.1, K.out.2.1, K.out.2.2.drew⟩); rintro e w9 ⟨rfl, k⟩))
      clear K k1 k2
      have K := Lib.hid k
      have k1 := k.1
      have k2 := k.2.1
      clear k
      go_wp2
      go_roundw
      case rel => exact ⟨96, w9.heap.size, rfl, by omega, by simp, by simp, by have := K.out.2.2.size; omega, K.out.2.2.alloc K.out.2.2.size _⟩
      case measure => simp [intOf, hc]
    · go_wp2_with fail
      have D : One w 69 4294967296 0 2 := One_is HL.out 69 4294967296 (by decide) (by decide) (by decide)
      refine (D _ B.out).mono ?_
      rintro e w0 ⟨rfl, b⟩
      have B0 := Lib.hid b
      clear b D
      go_wp2_with fail
      refine (known_any _ (HL.out.kept B0.out)).mono ?_
      rintro e w1 ⟨rfl, b⟩
      go_wp2
      go_ret
      exact ⟨rfl, B0.out.trans (b.mono B0.out.size)⟩
end Go.Proofs.YtdoejkdckokjdaaDoor
