/- The reference's readers at any numbers and any bytes; the walk of LebReads. -/
import Derived.Test.YtbaihhkcnlhdmaaRefD
namespace Go.Proofs.Ytbaihhkcnlhdmaa
open Go.RowKit

theorem rd_count (bits : Nat) (s : Bool) : ∀ (l : List Nat) (n k : Nat) (v : Int) (j : Nat), 7 * k < bits →
    LebM.rd bits s l (7 * k) n k = (v, j, 0) → 7 * (j - 1) < bits := by
  intro l
  induction l with
  | nil => intro n k v j _ h; simp [LebM.rd] at h
  | cons c cs ih =>
    intro n k v j hd h
    simp only [LebM.rd] at h
    split at h
    · simp at h
    · split at h
      · simp only [Prod.mk.injEq] at h
        omega
      · split at h
        · simp at h
        · rw [show 7 * k + 7 = 7 * (k + 1) by omega] at h
          exact ih _ _ _ _ (by omega) h

theorem bt_facts (B : Nat) (s : Bool) (l : List Nat) (h1 : 1 ≤ B) (h2 : B ≤ 64) (hl : ∀ c ∈ l, c < 256) :
    (LebM.bt B s l [] 0).2 = (LebM.rd B s l 0 0 0).2 ∧
    ((LebM.bt B s l [] 0).2.2 = 0 → 1 ≤ (LebM.bt B s l [] 0).1.length ∧ (LebM.bt B s l [] 0).1.length ≤ 100 ∧ (LebM.bt B s l [] 0).2.1 ≤ 100 ∧
      (LebM.rd B s l 0 0 0).1 = (if s = true ∧ LebM.top (LebM.bt B s l [] 0).1 = 1 then -(2 : Int) ^ (LebM.bt B s l [] 0).1.length else 0) + LebM.valOf (LebM.bt B s l [] 0).1) := by
  obtain ⟨e1, e2⟩ := LebM.bt_rd B s l [] 0 hl rfl (by omega)
  have e0 : LebM.rd B s l (7 * 0) (LebM.valOf []) 0 = LebM.rd B s l 0 0 0 := rfl
  rw [e0] at e1 e2
  refine ⟨e1, fun h => ?_⟩
  obtain ⟨f1, f2, f3⟩ := e2 h
  have hc := rd_count B s l 0 0 (LebM.rd B s l 0 0 0).1 (LebM.rd B s l 0 0 0).2.1 (by omega) (by
    have : (LebM.rd B s l 0 0 0).2.2 = 0 := by rw [← e1]; exact h
    exact Prod.ext rfl (Prod.ext rfl this))
  rw [← e1] at hc
  exact ⟨by omega, by omega, by omega, f3⟩

theorem rU_end (a : Option Addr) (n cap : Nat) (B : Nat) (w : World) (h1 : 1 ≤ B) (h2 : B ≤ 64) (hn : n ≤ 4611686018427387904) (_hcap : n ≤ cap) :
    Calls Try.prog 23 #[.slice a n cap, .int .i64 n, .int .i64 B] w fun e w' => e = .returned (.tuple #[.int .u64 0, .int .i64 0, .int .i64 10]) ∧ w = w' := by
  cases a
  all_goals
    go_enter Try.func23, Try.ntmps23
    go_wp2_with (go_at_call 36; refine (Bits_nil _ _ _ _ _).mono ?_; rintro e w1 ⟨rfl, rfl⟩)
    all_goals (go_ret3; exact ⟨rfl, rfl⟩)
theorem rS_end (a : Option Addr) (n cap : Nat) (B : Nat) (w : World) (h1 : 1 ≤ B) (h2 : B ≤ 64) (hn : n ≤ 4611686018427387904) (_hcap : n ≤ cap) :
    Calls Try.prog 25 #[.slice a n cap, .int .i64 n, .int .i64 B] w fun e w' => e = .returned (.tuple #[.int .i64 0, .int .i64 0, .int .i64 10]) ∧ w = w' := by
  cases a
  all_goals
    go_enter Try.func25, Try.ntmps25
    go_wp2_with (go_at_call 36; refine (Bits_nil _ _ _ _ _).mono ?_; rintro e w1 ⟨rfl, rfl⟩)
    all_goals (go_ret3; exact ⟨rfl, rfl⟩)
theorem wrap64_in' {v : Int} (h0 : -9223372036854775808 ≤ v) (h : v < 9223372036854775808) : wrap64 v = v := by unfold wrap64; omega

theorem rU_any (a : Option Addr) (cap : Nat) (bs : List Nat) (x y : Int) (w : World) (hB : Bts w a bs) (hn : bs.length ≤ 4611686018427387904) (hcap : bs.length ≤ cap) :
    Calls Try.prog 23 #[.slice a bs.length cap, .int .i64 x, .int .i64 y] w fun e w' =>
      e = .returned (.tuple #[.int .u64 (LebM.read bs x y false).1, .int .i64 (LebM.read bs x y false).2.1, .int .i64 (LebM.read bs x y false).2.2]) ∧ Below w.heap.size w w' := by
  by_cases h : 1 ≤ y ∧ y ≤ 64 ∧ 0 ≤ x ∧ x ≤ bs.length
  · obtain ⟨B, rfl⟩ := Int.eq_ofNat_of_zero_le (show 0 ≤ y by omega)
    obtain ⟨p, rfl⟩ := Int.eq_ofNat_of_zero_le h.2.2.1
    by_cases hp : p < bs.length
    · obtain ⟨b, off, rfl, hc⟩ : ∃ b off, a = some ⟨b, off, none⟩ ∧ ∀ i, i < bs.length → w.cell? ⟨b, off + i, none⟩ = some (.int .u8 ((bs.getD i 0 : Nat) : Int)) := by
        rcases hB.2 with rfl | h0
        · simp at hp
        · exact h0
      obtain ⟨e1, e2⟩ := bt_facts B false (bs.drop p) (by omega) (by omega) (fun c hc => hB.1 c (List.mem_of_mem_drop hc))
      have hv := (read_val bs p B).1
      have hr : LebM.read bs p B false = (if (LebM.rd B false (bs.drop p) 0 0 0).2.2 = 0 then ((LebM.rd B false (bs.drop p) 0 0 0).1, (p : Int) + (LebM.rd B false (bs.drop p) 0 0 0).2.1, 0) else (0, 0, (LebM.rd B false (bs.drop p) 0 0 0).2.2)) := by
        unfold LebM.read
        rw [if_pos h, Int.toNat_natCast, Int.toNat_natCast]
      refine (rU_in b off cap bs p B w (LebM.bt B false (bs.drop p) [] 0) _ (Lib.hid rfl) (by omega) (by omega) hp hn hcap (fun i => hB.lt i) hc (Lib.hid rfl) (Lib.hid (fun h => ⟨(e2 h).1, (e2 h).2.1, (e2 h).2.2.1⟩))).mono ?_
      rintro e w' ⟨rfl, hb⟩
      refine ⟨?_, hb⟩
      rw [hr] at hv ⊢
      rw [← e1] at hv ⊢
      unfold refOut
      by_cases h0 : (LebM.bt B false (bs.drop p) [] 0).2.2 = 0
      · rw [if_pos h0] at hv ⊢
        rw [if_pos h0]
        have e3 := (e2 h0).2.2.2
        simp only at hv
        rw [e3] at hv ⊢
        simp only [Bool.false_eq_true, false_and, if_false, Int.zero_add] at hv ⊢
        rw [u64_small hv.1 hv.2]
        rfl
      · rw [if_neg h0, if_neg h0]
    · have hpe : p = bs.length := by have := h.2.2.2; omega
      subst hpe
      refine (rU_end a bs.length cap B w (by omega) (by omega) hn hcap).mono ?_
      rintro e w' ⟨rfl, rfl⟩
      refine ⟨?_, Below.refl _ _⟩
      have hr : LebM.read bs bs.length B false = (0, 0, 10) := by
        unfold LebM.read
        rw [if_pos h, Int.toNat_natCast, Int.toNat_natCast, List.drop_length]
        rfl
      rw [hr]
      rfl
  · refine (rU_bad a bs.length cap x y w hn (by omega)).mono ?_
    rintro e' w' ⟨rfl, rfl⟩
    refine ⟨?_, Below.refl _ _⟩
    unfold LebM.read
    rw [if_neg h]
    rfl

theorem rS_any (a : Option Addr) (cap : Nat) (bs : List Nat) (x y : Int) (w : World) (hB : Bts w a bs) (hn : bs.length ≤ 4611686018427387904) (hcap : bs.length ≤ cap) :
    Calls Try.prog 25 #[.slice a bs.length cap, .int .i64 x, .int .i64 y] w fun e w' =>
      e = .returned (.tuple #[.int .i64 (LebM.read bs x y true).1, .int .i64 (LebM.read bs x y true).2.1, .int .i64 (LebM.read bs x y true).2.2]) ∧ Below w.heap.size w w' := by
  by_cases h : 1 ≤ y ∧ y ≤ 64 ∧ 0 ≤ x ∧ x ≤ bs.length
  · obtain ⟨B, rfl⟩ := Int.eq_ofNat_of_zero_le (show 0 ≤ y by omega)
    obtain ⟨p, rfl⟩ := Int.eq_ofNat_of_zero_le h.2.2.1
    by_cases hp : p < bs.length
    · obtain ⟨b, off, rfl, hc⟩ : ∃ b off, a = some ⟨b, off, none⟩ ∧ ∀ i, i < bs.length → w.cell? ⟨b, off + i, none⟩ = some (.int .u8 ((bs.getD i 0 : Nat) : Int)) := by
        rcases hB.2 with rfl | h0
        · simp at hp
        · exact h0
      obtain ⟨e1, e2⟩ := bt_facts B true (bs.drop p) (by omega) (by omega) (fun c hc => hB.1 c (List.mem_of_mem_drop hc))
      have hv := (read_val bs p B).2
      have hr : LebM.read bs p B true = (if (LebM.rd B true (bs.drop p) 0 0 0).2.2 = 0 then ((LebM.rd B true (bs.drop p) 0 0 0).1, (p : Int) + (LebM.rd B true (bs.drop p) 0 0 0).2.1, 0) else (0, 0, (LebM.rd B true (bs.drop p) 0 0 0).2.2)) := by
        unfold LebM.read
        rw [if_pos h, Int.toNat_natCast, Int.toNat_natCast]
      refine (rS_in b off cap bs p B w (LebM.bt B true (bs.drop p) [] 0) _ (Lib.hid rfl) (by omega) (by omega) hp hn hcap (fun i => hB.lt i) hc (Lib.hid rfl) (Lib.hid (fun h => ⟨(e2 h).1, (e2 h).2.1, (e2 h).2.2.1⟩))).mono ?_
      rintro e w' ⟨rfl, hb⟩
      refine ⟨?_, hb⟩
      rw [hr] at hv ⊢
      rw [← e1] at hv ⊢
      unfold refOut
      by_cases h0 : (LebM.bt B true (bs.drop p) [] 0).2.2 = 0
      · rw [if_pos h0] at hv ⊢
        rw [if_pos h0]
        have e3 := (e2 h0).2.2.2
        simp only at hv
        rw [e3] at hv ⊢
        simp only [true_and] at hv ⊢
        rw [wrap64_in' hv.1 hv.2]
        rfl
      · rw [if_neg h0, if_neg h0]
    · have hpe : p = bs.length := by have := h.2.2.2; omega
      subst hpe
      refine (rS_end a bs.length cap B w (by omega) (by omega) hn hcap).mono ?_
      rintro e w' ⟨rfl, rfl⟩
      refine ⟨?_, Below.refl _ _⟩
      have hr : LebM.read bs bs.length B true = (0, 0, 10) := by
        unfold LebM.read
        rw [if_pos h, Int.toNat_natCast, Int.toNat_natCast, List.drop_length]
        rfl
      rw [hr]
      rfl
  · refine (rS_bad a bs.length cap x y w hn (by omega)).mono ?_
    rintro e' w' ⟨rfl, rfl⟩
    refine ⟨?_, Below.refl _ _⟩
    unfold LebM.read
    rw [if_neg h]
    rfl

set_option maxRecDepth 100000 in
set_option maxHeartbeats 1000000 in
theorem reads_in (a : Option Addr) (cap : Nat) (bs : List Nat) (x y : Int) (w : World) (hb : Bts w a bs) (hn : bs.length ≤ 500) (hcap : bs.length ≤ cap) (hnil : a = none → cap = 0) :
    Calls Try.prog 6 #[.slice a bs.length cap, .int .i64 x, .int .i64 y] w fun e w' => e = .returned (.bool true) ∧ Below w.heap.size w w' := by
  have H1 := Lib.hid hb
  have N1 := Lib.hid hnil
  have HLT := Lib.hid hb.1
  have U1 := Lib.hid (fun a' cap' w hw => U_any a' cap' bs x y w hw (by omega))
  have U2 := Lib.hid (fun w hw => rU_any a cap bs x y w hw (by omega) hcap)
  have S1 := Lib.hid (fun a' cap' w hw => S_any a' cap' bs x y w hw (by omega))
  have S2 := Lib.hid (fun w hw => rS_any a cap bs x y w hw (by omega) hcap)
  generalize LebM.read bs x y false = r1 at U1 U2
  generalize LebM.read bs x y true = r2 at S1 S2
  obtain ⟨p1, q1, e1⟩ := r1
  obtain ⟨p2, q2, e2⟩ := r2
  clear hb hnil
  go_enter Try.func6, Try.ntmps6
  go_wp2_with fail
  refine (known_any _).mono ?_
  rintro e w1 ⟨rfl, hb1⟩
  have B1 := Lib.hid hb1
  have H1 := Lib.hid (H1.out.kept hb1)
  clear hb1
  go_wp2_with (at_builtin; refine wpList_app rfl (.tmp 25) (.tmp 26) rfl w1.heap.size _ [] rfl (Own_new w1) a bs.length cap bs rfl rfl (H1.out.alloc _) N1.out (by simp; omega) (by simp) ?_; intro v2 w2 o2 b2; rw [List.nil_append] at o2; obtain ⟨a2, cap2, rfl, h2, -, -⟩ := o2.bts HLT.out; have H2 := Lib.hid h2; have B2 := Lib.hid ((Below.refl w1.heap.size w1).alloc (Nat.le_refl _) _ |>.trans b2); clear o2 b2 h2)
  refine (U1.out a2 cap2 w2 H2.out).mono ?_
  rintro e w3 ⟨rfl, rfl⟩
  go_wp2_with fail
  refine (U2.out w2 (H1.out.kept B2.out)).mono ?_
  rintro e w3 ⟨rfl, b3⟩
  have H2 := Lib.hid (H2.out.kept b3)
  have B3 := Lib.hid (B2.out.trans (b3.mono B2.out.size))
  clear b3
  go_wp2_with fail
  refine (S1.out a2 cap2 w3 H2.out).mono ?_
  rintro e w4 ⟨rfl, rfl⟩
  go_wp2_with fail
  refine (S2.out w3 (H1.out.kept B3.out)).mono ?_
  rintro e w4 ⟨rfl, b4⟩
  have R1 := run_str (H2.out.kept b4) cap2
  have R2 := run_str (H1.out.kept (B3.out.trans (b4.mono B3.out.size))) cap
  have B4 := Lib.hid (B3.out.trans (b4.mono B3.out.size))
  clear b4
  generalize strN bs = str at R1 R2
  go_wp2
  go_ret
  exact ⟨rfl, B1.out.trans (B4.out.mono B1.out.size)⟩

theorem reads_out (a : Option Addr) (l cap : Nat) (x y : Int) (w : World) (hl : l ≤ maxLen) (h : 500 < l) :
    Calls Try.prog 6 #[.slice a l cap, .int .i64 x, .int .i64 y] w fun e w' => e = .returned (.bool true) ∧ Below w.heap.size w w' := by
  unfold maxLen at hl
  go_enter Try.func6, Try.ntmps6
  go_wp2_with fail
  refine (known_any _).mono ?_
  rintro e w1 ⟨rfl, hb1⟩
  have B1 := Lib.hid hb1
  clear hb1
  go_wp2
  go_ret
  exact ⟨rfl, B1.out⟩

theorem LebReads_walk (a0 : Option Addr) (len0 cap0 : Nat) (z0 : List Int) (a1 : Int) (a2 : Int) (w : World) (w0 : IsRow .u8 w a0 len0 cap0 z0) (_w1 : (Lit.int .i64 a1).wf = true) (_w2 : (Lit.int .i64 a2).wf = true) :
    Calls Try.prog 6 #[.slice a0 len0 cap0, .int .i64 a1, .int .i64 a2] w fun e w' => e = .returned (.bool true) ∧ Below w.heap.size w w' := by
  obtain ⟨bs, rfl, hb, hn, hc, hm⟩ := w0.bts
  by_cases h : bs.length ≤ 500
  · exact reads_in a0 cap0 bs a1 a2 w hb h hc hn
  · exact reads_out a0 bs.length cap0 a1 a2 w (Nat.le_trans hc hm) (by omega)
end Go.Proofs.Ytbaihhkcnlhdmaa

