/- bits.Mul of 1, slices.Repeat of one word, table.New. -/
import Derived.Test.YtalgpmnjkfconaaTabA
import Derived.Deep.Cut
import Derived.Deep.RegionWith
namespace Go.Proofs.Ytalgpmnjkfconaa
open Go.RowKit Go.Deep

theorem low32 (n : Nat) (h : n ≤ 10000) : bits .and .u64 (n : Int) 4294967295 = (n : Int) := by
  have := u64_and_nat n 4294967295 (by omega) (by omega)
  rw [show (4294967295 : Nat) = 2 ^ 32 - 1 from rfl, Nat.and_two_pow_sub_one_eq_mod] at this
  rw [show n % 2 ^ 32 = n by omega] at this
  exact this

set_option maxRecDepth 100000 in
theorem Mul64_one (n : Nat) (h : n ≤ 10000) (w : World) : Calls Try.prog 44 #[.int .u64 1, .int .u64 n] w fun e w' => e = .returned (.tuple #[.int .u64 0, .int .u64 n]) ∧ w = w' := by
  have h1 := low32 n h
  have h2 : bits .and .u64 1 4294967295 = 1 := low32 1 (by omega)
  have h3 : bits .and .u64 0 4294967295 = 0 := low32 0 (by omega)
  have h4 : (n : Int) / 4294967296 = 0 := by omega
  go_enter Try.func44, Try.ntmps44
  go_wp2
  go_ret2
  exact ⟨rfl, rfl⟩

set_option maxRecDepth 100000 in
theorem Mul_one (n : Nat) (h : n ≤ 10000) (w : World) : Calls Try.prog 42 #[.int .u64 1, .int .u64 n] w fun e w' => e = .returned (.tuple #[.int .u64 0, .int .u64 n]) ∧ w = w' := by
  go_enter Try.func42, Try.ntmps42
  go_wp2_with fail
  refine (Mul64_one n h _).mono ?_
  rintro e w1 ⟨rfl, rfl⟩
  go_wp2
  go_ret2
  exact ⟨rfl, rfl⟩
theorem Below_drew (B : Nat) (w : World) : Below B w w.drew := ⟨rfl, rfl, rfl, Nat.le_refl _, fun _ _ => rfl⟩

theorem sz22 : (Try.prog.info? 22).map (·.size) = some 1 := by kernel_rfl

set_option maxRecDepth 100000 in
set_option maxHeartbeats 1000000 in
theorem Repeat_any (q x n : Nat) (hn : n ≤ 10000) (w : World) (hc : w.cell? ⟨q, 0, none⟩ = some (.int .u64 (x : Int))) :
    Calls Try.prog 36 #[.slice (some ⟨q, 0, none⟩) 1 1, .int .i64 n] w fun e w' => e = .returned (.slice (some ⟨w.heap.size, 0, none⟩) n n) ∧ w'.rowIs w.heap.size 22 n (fun _ => .int .u64 (x : Int)) ∧ Below w.heap.size w w' := by
  have hmk := run_make_row' (P := Try.prog) 47 22 (.int .u64 0) 8 Try.underlying47 U.info22 rfl .i64 .i64 n (by omega) (by omega)
  have ROW := Lib.hid (World.rowIs_made w (.int .u64 0) n 22)
  have hsrc : (w.alloc (.cells (madeCells #[.int .u64 0] n) 22)).cell? ((⟨q, 0, none⟩ : Addr).add 0) = some (.int .u64 (x : Int)) := by
    rw [Addr.add_lit, World.cell?_alloc_past _ _ _ (block_lt_of_cell hc)]; exact hc
  have HSRC := Lib.hid hsrc
  have HM := Lib.hid (Mul_one n hn)
  have w0 : IntKind.u64.wrap (n : Int) = (n : Int) := by rw [IntKind.wrap_u64]; omega
  have w1 : IntKind.i64.wrap (n : Int) = (n : Int) := by rw [IntKind.wrap_i64]; omega
  clear hsrc hc
  by_cases h0 : n = 0
  · subst h0
    have hmk0 : ∀ w : World, (Instr.makeSlice 47 (.int .i64 0) (.int .i64 0)).run Try.prog w = .ok (.slice (some ⟨w.heap.size, 0, none⟩) 0 0) (w.alloc (.cells (madeCells #[.int .u64 0] 0) 22)) := hmk
    have hC0 := Lib.hid (show ([] : List Value).length = Nat.min 1 0 from rfl)
    clear hn hmk
    go_enter Try.func36, Try.ntmps36
    go_wp2_with fail
    refine (HM.out _).mono ?_
    rintro e w1 ⟨rfl, rfl⟩
    go_wp2_with (refine wpList_copyR rfl (.tmp 31) (.tmp 32) 47 22 rfl Try.underlying47 sz22 w.heap.size 0 _ _ ROW.out _ _ _ _ _ _ rfl rfl [] hC0.out ?_ ?_ ?_ ?_; (intro h; simp at h);  (simp); (intro v hv; simp at hv); intro w4 r4 t4; have R4 := Lib.hid r4; have T4 := Lib.hid t4; clear r4 t4)
    go_wp2
    refine wp_loop_rounds 1 ?_
    rw [rounds_succ]
    go_wp2
    go_ret
    exact ⟨rfl, R4.out.congr (fun i hi => by omega), ((Below.refl _ _).alloc (Nat.le_refl _) _).trans (T4.out.below (Nat.le_refl _) (by simp))⟩
  · have h1 : 1 ≤ n := by omega
    have HN := Lib.hid hn
    have C1 : ([.int .u64 (x : Int)] : List Value).length = Nat.min 1 n := (Nat.min_eq_left h1).symm
    have hC1 := Lib.hid C1
    clear C1 h0
    go_enter Try.func36, Try.ntmps36
    go_wp2_with fail
    refine (HM.out _).mono ?_
    rintro e w1 ⟨rfl, rfl⟩
    go_wp2_with (refine wpList_copyR rfl (.tmp 31) (.tmp 32) 47 22 rfl Try.underlying47 sz22 w.heap.size 0 _ _ ROW.out _ _ _ _ _ _ rfl rfl [.int .u64 (x : Int)] hC1.out ?_ ?_ ?_ ?_; (intro _; refine ⟨rfl, _, rfl, ?_⟩; intro j v hj; (match j, hj with | 0, hj => (simp at hj; subst hj; exact HSRC.out)));  (simp; omega); (intro v hv; simp at hv; subst hv; rfl); intro w4 r4 t4; have R4 := Lib.hid r4; have T4 := Lib.hid t4; clear r4 t4)
    go_wp2
    go_loopw [8] (fun b wr => ∃ k : Nat, b = .int .i64 (k : Int) ∧ 1 ≤ k ∧ k ≤ n ∧ (∃ F, wr.rowIs w.heap.size 22 n F ∧ ∀ i, i < k → F i = .int .u64 (x : Int)) ∧ Below w.heap.size w wr) (fun b _ => n - (intOf b).toNat)
    case atStart =>
      refine ⟨1, rfl, by omega, h1, ⟨_, R4.out, ?_⟩, ?_⟩
      · intro i hi
        obtain rfl : i = 0 := by omega
        simp [over]
      · exact ((Below.refl _ _).alloc (Nat.le_refl _) _).trans (T4.out.below (Nat.le_refl _) (by simp))
    case round =>
      obtain ⟨k, rfl, hk1, hk2, ⟨F, rF, hF⟩, hB⟩ := hrel
      have RF := Lib.hid rF
      have HF := Lib.hid hF
      have HB := Lib.hid hB
      clear rF hF hB R4 T4
      by_cases hlt : k < n
      · obtain ⟨m, hm⟩ : ∃ m, m = Nat.min k (n - k) := ⟨_, rfl⟩
        have HM' := Lib.hid hm
        have hmle : m ≤ n - k := by rw [hm]; exact Nat.min_le_right _ _
        have hmle2 : m ≤ k := by rw [hm]; exact Nat.min_le_left _ _
        have hm1 : 1 ≤ m := by rw [hm]; exact Nat.le_min.2 ⟨by omega, by omega⟩
        clear hm
        have HCM := Lib.hid (show (List.replicate m (Value.int .u64 (x : Int))).length = Nat.min k (n - k) by rw [List.length_replicate]; exact HM'.out)
        have hne : ¬ n = k := by omega
        have hov : ∀ i, i < k + m → over F k (List.replicate m (Value.int .u64 (x : Int))) i = .int .u64 (x : Int) := fun i hi => by
          unfold over
          rw [List.length_replicate]
          by_cases hik : k ≤ i
          · rw [if_pos (by omega), List.getD_eq_getElem?_getD, List.getElem?_replicate, if_pos (by omega)]; rfl
          · rw [if_neg (by omega)]; exact HF.out i (by omega)
        have hsr : ∀ (j : Nat) (v : Value), (List.replicate m (Value.int .u64 (x : Int)))[j]? = some v → wr.cell? ((⟨w.heap.size, 0, none⟩ : Addr).add j) = some v := fun j v hj => by
          rw [List.getElem?_replicate] at hj
          by_cases hjm : j < m
          · rw [if_pos hjm] at hj
            rw [Addr.add_lit, Nat.zero_add, RF.out.cell (by omega), HF.out j (by omega)]; exact hj
          · rw [if_neg hjm] at hj; simp at hj
        have HOV := Lib.hid hov
        have w2 : IntKind.i64.wrap ((k : Int) + (m : Int)) = (k : Int) + (m : Int) := by rw [IntKind.wrap_i64]; omega
        have HSR := Lib.hid hsr
        clear hov hsr
        go_wp2
        go_region_law (refine step_copyR rfl (.tmp 41) (.tmp 44) 47 22 rfl Try.underlying47 sz22 w.heap.size k n _ RF.out (some ⟨w.heap.size, k, none⟩) (some ⟨w.heap.size, 0, none⟩) (n - k) (n - k) k n (by kernel_rfl) (by kernel_rfl) (List.replicate m (Value.int .u64 (x : Int))) HCM.out ?_ ?_ ?_ ?_; (intro _; exact ⟨rfl, _, rfl, HSR.out⟩); (rw [List.length_replicate]; omega); (intro v hv; obtain ⟨_, rfl⟩ := List.mem_replicate.1 hv; rfl); intro w4 r4 t4; have R4 := Lib.hid r4; have T4 := Lib.hid t4; clear r4 t4)
        all_goals (
          try simp only [List.length_replicate]
          go_wp2
          go_roundw
          case rel =>
            refine ⟨.int .i64 ((k : Int) + (m : Int)), .int .i64 k, .slice (some ⟨w.heap.size, 0, none⟩) n n, .int .i64 n, .bool true, .int .i64 k, .slice (some ⟨w.heap.size, 0, none⟩) n n, .int .i64 k, .slice (some ⟨w.heap.size, k, none⟩) (n - k) (n - k),
              .slice (some ⟨w.heap.size, 0, none⟩) n n, .int .i64 k, .slice (some ⟨w.heap.size, 0, none⟩) k n, .int .i64 m, .int .i64 ((k : Int) + (m : Int)), ⟨k + m, by go_num, by omega, by omega, ⟨_, R4.out, HOV.out⟩, (HB.out.trans (Below_drew _ wr)).trans (T4.out.below (Nat.le_refl _) HB.out.size)⟩, ?_⟩
            kernel_rfl
          case measure =>
            refine (show ∀ u v : Value, u = .int .i64 ((k : Int) + (m : Int)) → v = .int .i64 (k : Int) → n - (intOf u).toNat < n - (intOf v).toNat from fun u v hu hv => by subst hu; subst hv; simp [intOf]; omega) _ _ ?_ ?_
            · kernel_rfl
            · kernel_rfl)
      · have hkn : k = n := by omega
        subst hkn
        go_wp2
        go_ret
        exact ⟨rfl, RF.out.congr HF.out, HB.out⟩
end Go.Proofs.Ytalgpmnjkfconaa
