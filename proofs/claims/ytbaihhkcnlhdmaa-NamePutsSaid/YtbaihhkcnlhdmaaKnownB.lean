/- The chapter's rows of layer 2 (geodelaw02.known). -/
import Derived.Test.YtbaihhkcnlhdmaaNameR
namespace Go.Proofs.Ytbaihhkcnlhdmaa
open Go.RowKit NameM

/-- counting by fuel: what the kernel can reckon -/
def cntF : Nat → List Nat → Int
  | 0, l => if l = [] then 0 else -1
  | f + 1, l => if l = [] then 0 else if one l = 0 then -1 else if cntF f (l.drop (one l)) < 0 then -1 else cntF f (l.drop (one l)) + 1
theorem cnt_fuel : ∀ (f : Nat) (l : List Nat), l.length ≤ f → cnt l = cntF f l
  | 0, l, h => by
    have : l = [] := List.eq_nil_of_length_eq_zero (by omega)
    subst this
    rw [cnt_nil]; rfl
  | f + 1, l, h => by
    by_cases h0 : l = []
    · subst h0; rw [cnt_nil]; rfl
    · by_cases h1 : one l = 0
      · rw [cnt_zero h0 h1, cntF, if_neg h0, if_pos h1]
      · have hl : l.length ≠ 0 := by intro he; exact h0 (List.eq_nil_of_length_eq_zero he)
        rw [cnt_step h1, cntF, if_neg h0, if_neg h1, cnt_fuel f (l.drop (one l)) (by simp; omega)]

theorem lit_R {k m : Nat} {A : Array Value} {w : World} (l : List Nat) (r : List Nat × Int × Nat) (hr : rdN l 0 = r) (hl : ∀ c ∈ l, c < 256) (hn : l.length ≤ 4611686018427387904) (hk : k = w.heap.size) (hA : A = (cellsOf l).toArray) (hm : m = l.length) :
    Calls Try.prog 16 #[.slice (some ⟨k, 0, none⟩) m m, .int .i64 0] (w.alloc (.cells A 5)) fun e w' =>
      e = .returned (nmV r) ∧ Below (w.heap.size + 1) (w.alloc (.cells A 5)) w' := by
  subst hr hk hA hm
  have := NRead_any _ l.length l 0 (w.alloc (.cells (cellsOf l).toArray 5)) (Bts_lit w l hl) hn (Nat.le_refl _)
  simpa using this

theorem lit_W (s : ByteArray) (t : Bool) (n : Nat) (hs : s.size ≤ n) (hn : n ≤ 100) (h : decide (0 ≤ cntF n (nb s)) = t) (w : World) :
    Calls Try.prog 18 #[.string s] w fun e w' => e = .returned (.bool t) ∧ Below w.heap.size w w' := by
  subst h
  rw [← cnt_fuel n (nb s) (by rw [len_nb]; exact hs)]
  exact Well_any s (by omega) w
theorem lit_C (s : ByteArray) (t : Int) (n : Nat) (hs : s.size ≤ n) (hn : n ≤ 100) (h : cntF n (nb s) = t) (w : World) :
    Calls Try.prog 20 #[.string s] w fun e w' => e = .returned (.int .i64 t) ∧ Below w.heap.size w w' := by
  subst h
  rw [← cnt_fuel n (nb s) (by rw [len_nb]; exact hs)]
  exact Count_any s (by omega) w

theorem rdN_1 : rdN [2, 195, 169] 0 = ([195, 169], 3, 0) := by
  have h : LebM.read [2, 195, 169] 0 32 false = (2, 1, 0) := by decide +kernel
  unfold rdN
  rw [h]
  simp
  rw [cnt_fuel 2 _ (by simp)]
  decide +kernel
theorem rdN_2 : rdN [3, 195, 169] 0 = ([], 0, 10) := by
  have h : LebM.read [3, 195, 169] 0 32 false = (3, 1, 0) := by decide +kernel
  unfold rdN
  rw [h]
  simp
theorem rdN_3 : rdN [1, 195] 0 = ([], 0, 20) := by
  have h : LebM.read [1, 195] 0 32 false = (1, 1, 0) := by decide +kernel
  unfold rdN
  rw [h]
  simp
  rw [cnt_fuel 1 _ (by simp)]
  decide +kernel

set_option maxRecDepth 100000 in
set_option maxHeartbeats 1000000 in
theorem knownN_any (w : World) : Calls Try.prog 15 #[] w fun e w' => e = .returned (.bool true) ∧ Below w.heap.size w w' := by
  go_enter Try.func15, Try.ntmps15
  go_wp2_with fail
  refine (lit_R [2, 195, 169] _ rdN_1 (by decide) (by decide) (by simp) rfl rfl).mono ?_
  rintro e w1 ⟨rfl, hb⟩
  have B1 := Lib.hid (((Below.refl w.heap.size w).alloc (Nat.le_refl _) _).trans (hb.mono (by omega)))
  clear hb
  have es : strN [195, 169] = ⟨#[195, 169]⟩ := rfl
  have e0 : strN [] = ⟨#[]⟩ := rfl
  unfold nmV
  go_wp2_with fail
  refine (lit_R [3, 195, 169] _ rdN_2 (by decide) (by decide) (by simp) rfl rfl).mono ?_
  rintro e w2 ⟨rfl, hb⟩
  have B2 := Lib.hid (B1.out.trans (((Below.refl w1.heap.size w1).alloc (Nat.le_refl _) _).trans (hb.mono (by omega)) |>.mono B1.out.size))
  clear hb
  unfold nmV
  go_wp2_with fail
  refine (lit_R [1, 195] _ rdN_3 (by decide) (by decide) (by simp) rfl rfl).mono ?_
  rintro e w3 ⟨rfl, hb⟩
  have B3 := Lib.hid (B2.out.trans (((Below.refl w2.heap.size w2).alloc (Nat.le_refl _) _).trans (hb.mono (by omega)) |>.mono B2.out.size))
  clear hb
  unfold nmV
  go_wp2_with fail
  refine (lit_C ⟨#[195, 169]⟩ 1 2 (by decide) (by decide) (by decide +kernel) _).mono ?_
  rintro e w4 ⟨rfl, hb⟩
  have B4 := Lib.hid (B3.out.trans (hb.mono B3.out.size))
  clear hb
  go_wp2_with fail
  refine (lit_W ⟨#[240, 159, 152, 128]⟩ true 4 (by decide) (by decide) (by decide +kernel) _).mono ?_
  rintro e w5 ⟨rfl, hb⟩
  have B5 := Lib.hid (B4.out.trans (hb.mono B4.out.size))
  clear hb
  go_wp2_with fail
  refine (lit_W ⟨#[237, 160, 128]⟩ false 3 (by decide) (by decide) (by decide +kernel) _).mono ?_
  rintro e w6 ⟨rfl, hb⟩
  have B6 := Lib.hid (B5.out.trans (hb.mono B5.out.size))
  clear hb
  go_wp2_with fail
  refine (lit_W ⟨#[192, 128]⟩ false 2 (by decide) (by decide) (by decide +kernel) _).mono ?_
  rintro e w7 ⟨rfl, hb⟩
  have B7 := Lib.hid (B6.out.trans (hb.mono B6.out.size))
  clear hb
  go_wp2_with fail
  refine (lit_W ⟨#[244, 144, 128, 128]⟩ false 4 (by decide) (by decide) (by decide +kernel) _).mono ?_
  rintro e w8 ⟨rfl, hb⟩
  have B8 := Lib.hid (B7.out.trans (hb.mono B7.out.size))
  clear hb
  go_wp2
  go_ret
  exact ⟨rfl, B8.out⟩
end Go.Proofs.Ytbaihhkcnlhdmaa
