/- The walk of NamePuts. -/
import Derived.Test.YtbaihhkcnlhdmaaNPutW
import Derived.Test.YtbaihhkcnlhdmaaKnownB
import Derived.Deep.OwnRows
namespace Go.Proofs.Ytbaihhkcnlhdmaa
open Go.RowKit NameM Go.Deep

theorem putN_lt (l : List Nat) (hl : ∀ c ∈ l, c < 256) : ∀ c ∈ (putN l).1, c < 256 := by
  unfold putN
  split
  · simp
  · split
    · simp
    · intro c hc
      rcases List.mem_append.1 hc with h | h
      · exact putU_lt _ c h
      · exact hl c h

/-- n bytes 'a' -/
theorem rowIs_bts {w : World} {b n : Nat} (h : w.rowIs b 5 n (fun _ => .int .u8 97)) : Bts w (some ⟨b, 0, none⟩) (List.replicate n 97) := by
  refine ⟨fun c hc => by rw [List.eq_of_mem_replicate hc]; omega, .inr ⟨b, 0, rfl, fun i hi => ?_⟩⟩
  rw [List.length_replicate] at hi
  rw [Nat.zero_add, h.cell hi]
  simp [List.getD_eq_getElem?_getD, hi]

set_option maxRecDepth 100000 in
set_option maxHeartbeats 1000000 in
theorem nputs_in (s : ByteArray) (M : Nat) (w : World) (hs : s.size ≤ 3000) (hM : M ≤ 110000) :
    Calls Try.prog 13 #[.string s, .int .i64 M] w fun e w' => e = .returned (.bool true) ∧ Below w.heap.size w w' := by
  have hmk := run_make_row' (P := Try.prog) 22 5 (.int .u8 0) 1 Try.underlying22 info5 rfl .i64 .i64 M (by omega) (by omega)
  obtain ⟨str, hstr⟩ : ∃ str, str = strN (List.replicate M 97) := ⟨_, rfl⟩
  have hsz : (str ++ s).size ≤ 200000 := by rw [size_append, hstr, size_strN, List.length_replicate]; omega
  have hss : str.size ≤ 110000 := by rw [hstr, size_strN, List.length_replicate]; omega
  have P1 := Lib.hid (NPut_any (str ++ s) (by omega))
  have P2 := Lib.hid (rPut_any (str ++ s) (by omega))
  have HL := Lib.hid (putN_lt (nb (str ++ s)) (nb_lt _))
  generalize putN (nb (str ++ s)) = r at P1 P2 HL
  obtain ⟨l, er⟩ := r
  simp only at P1 P2 HL
  have HS := Lib.hid hstr
  clear hstr hsz
  go_enter Try.func13, Try.ntmps13
  go_wp2_with fail
  refine (knownN_any _).mono ?_
  rintro e w1 ⟨rfl, hb1⟩
  have B1 := Lib.hid hb1
  clear hb1
  go_wp2
  go_loopw [6] (fun x wr => ∃ k : Nat, x = .int .i64 (k : Int) ∧ k ≤ M ∧ wr.rowIs w1.heap.size 5 M (fun j => if j < k then .int .u8 97 else .int .u8 0) ∧ Below w1.heap.size w1 wr) (fun x _ => M - (intOf x).toNat)
  case atStart =>
    exact ⟨0, rfl, by omega, (World.rowIs_made w1 _ M 5).congr (fun j _ => by simp), (Below.refl _ _).alloc (Nat.le_refl _) _⟩
  case round =>
    obtain ⟨k, rfl, hk, hrow, hbel⟩ := hrel
    have RW := Lib.hid hrow
    have B2 := Lib.hid hbel
    clear hrow hbel
    by_cases hlt : k < M
    · have hc := RW.out.cell hlt
      have hf := RW.out.frozen k
      go_wp2
      go_roundw
      case rel =>
        exact ⟨k + 1, by go_num, by omega, (RW.out.set k (.int .u8 97)).congr (fun j hj => by by_cases e : j = k <;> simp [e]; by_cases e2 : j < k <;> simp [e2] <;> omega), B2.out.setCell (Nat.le_refl _) _⟩
      case measure => simp [intOf]; omega
    · have hkM : k = M := by omega
      subst hkM
      have hbt : Bts wr (some ⟨w1.heap.size, 0, none⟩) (List.replicate k 97) := rowIs_bts (RW.out.congr (fun j hj => by simp [hj]))
      have hrun := run_str hbt k
      rw [List.length_replicate, ← HS.out] at hrun
      clear hbt
      go_wp2_with fail
      refine (P1.out wr).mono ?_
      rintro e w3 ⟨v3, rfl, o3, b3⟩
      obtain ⟨a3, cap3, rfl, h3, -, -⟩ := o3.bts HL.out
      have H3 := Lib.hid h3
      have B3 := Lib.hid (B2.out.trans (b3.mono B2.out.size))
      clear o3 b3 h3 hrun
      go_wp2_with fail
      refine (P2.out w3).mono ?_
      rintro e w4 ⟨v4, rfl, o4, b4⟩
      obtain ⟨a4, cap4, rfl, h4, -, -⟩ := o4.bts HL.out
      have R1 := run_str (H3.out.kept b4) cap3
      have R2 := run_str h4 cap4
      have B4 := Lib.hid (B3.out.trans (b4.mono B3.out.size))
      clear o4 b4 h4
      generalize strN l = ls at R1 R2
      go_wp2
      go_ret
      exact ⟨rfl, B1.out.trans (B4.out.mono B1.out.size)⟩

set_option maxRecDepth 100000 in
theorem nputs_out (s : ByteArray) (x : Int) (w : World) (hs : s.size ≤ maxLen) (h : 3000 < s.size ∨ x < 0 ∨ 110000 < x) :
    Calls Try.prog 13 #[.string s, .int .i64 x] w fun e w' => e = .returned (.bool true) ∧ Below w.heap.size w w' := by
  unfold maxLen at hs
  by_cases c1 : 3000 < s.size
  · go_enter Try.func13, Try.ntmps13
    go_wp2_with fail
    refine (knownN_any _).mono ?_
    rintro e w1 ⟨rfl, hb1⟩
    have B1 := Lib.hid hb1
    clear hb1
    go_wp2
    go_ret
    exact ⟨rfl, B1.out⟩
  · by_cases c2 : x < 0
    · go_enter Try.func13, Try.ntmps13
      go_wp2_with fail
      refine (knownN_any _).mono ?_
      rintro e w1 ⟨rfl, hb1⟩
      have B1 := Lib.hid hb1
      clear hb1
      go_wp2
      go_ret
      exact ⟨rfl, B1.out⟩
    · have c3 : 110000 < x := by omega
      go_enter Try.func13, Try.ntmps13
      go_wp2_with fail
      refine (knownN_any _).mono ?_
      rintro e w1 ⟨rfl, hb1⟩
      have B1 := Lib.hid hb1
      clear hb1
      go_wp2
      go_ret
      exact ⟨rfl, B1.out⟩

theorem NamePuts_walk (a0 : ByteArray) (a1 : Int) (w0 : a0.size ≤ maxLen) (_w1 : (Lit.int .i64 a1).wf = true) (w : World) :
    Calls Try.prog 13 #[.string a0, .int .i64 a1] w fun e w' => e = .returned (.bool true) ∧ Below w.heap.size w w' := by
  by_cases h : a0.size ≤ 3000 ∧ 0 ≤ a1 ∧ a1 ≤ 110000
  · obtain ⟨M, rfl⟩ := Int.eq_ofNat_of_zero_le h.2.1
    exact nputs_in a0 M w h.1 (by omega)
  · exact nputs_out a0 a1 w w0 (by omega)
end Go.Proofs.Ytbaihhkcnlhdmaa

