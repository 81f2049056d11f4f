/- The chapter's rows of layer 1 (geodelaw01.known), and leb.Len. -/
import Derived.Test.YtbaihhkcnlhdmaaMem
import Derived.Test.YtbaihhkcnlhdmaaShelf
import Derived.Lib.ItoaNum
namespace Go.Proofs.Ytbaihhkcnlhdmaa
open Go.RowKit

theorem bitLen_put (n : Nat) (h : n < 18446744073709551616) : (max (Lib.bitLen n) 1 + 6) / 7 = (LebM.putU n).length := by
  obtain ⟨_, h2, h3⟩ := LebM.putU_pad n
  have hp := LebM.putU_pos n
  generalize (LebM.putU n).length = L at *
  by_cases h0 : n = 0
  · subst h0
    have : Lib.bitLen 0 = 0 := by decide +kernel
    rw [this]
    rcases h3 with h3 | h3
    · omega
    · have := Nat.two_pow_pos (7 * (L - 1)); omega
  · obtain ⟨b1, b2, b3⟩ := Lib.bitLenAux_bounds 64 n (by simpa using h) h0
    have e : Lib.bitLen n = Lib.bitLenAux 64 n := rfl
    rw [← e] at b1 b2 b3
    generalize Lib.bitLen n = B at *
    have u1 : B - 1 < 7 * L := LebM.lt_of_pow_lt (Nat.lt_of_le_of_lt b2 h2)
    rcases h3 with h3 | h3
    · omega
    · have u2 : 7 * (L - 1) < B := LebM.lt_of_pow_lt (Nat.lt_of_le_of_lt h3 b3)
      omega

theorem Len_any (n : Nat) (hn : n < 18446744073709551616) (w : World) :
    Calls Try.prog 30 #[.int .u64 n] w fun e w' => e = .returned (.int .i64 ((LebM.putU n).length : Nat)) ∧ w = w' := by
  have H := Lib.hid (Try.bits_Len64 n w (by omega) (by omega))
  have HB := Lib.hid (bitLen_put n hn)
  have hle : Lib.bitLen n ≤ 64 := Lib.bitLen_le n 64 (by omega) (by simpa using hn)
  rw [Int.toNat_natCast] at H
  generalize Lib.bitLen n = B at *
  clear hn
  go_enter Try.func30, Try.ntmps30
  go_wp2_with fail
  refine H.out.mono ?_
  rintro e w1 ⟨rfl, rfl⟩
  go_wp2
  go_ret
  exact ⟨ret_i (by have := HB.out; omega), rfl⟩

/-- the reader at bytes written out -/
theorem lit_U {k m : Nat} {A : Array Value} {w : World} (l : List Nat) (x y : Int) (r : Int × Int × Nat) (hr : LebM.read l x y false = r) (hl : ∀ c ∈ l, c < 256) (hn : l.length ≤ 4611686018427387904) (hk : k = w.heap.size) (hA : A = (cellsOf l).toArray) (hm : m = l.length) :
    Calls Try.prog 22 #[.slice (some ⟨k, 0, none⟩) m m, .int .i64 x, .int .i64 y] (w.alloc (.cells A 5)) fun e w' =>
      e = .returned (.tuple #[.int .u64 r.1, .int .i64 r.2.1, .int .i64 r.2.2]) ∧ w.alloc (.cells A 5) = w' := by
  subst hr hk hA hm
  exact U_any _ _ l x y _ (Bts_lit w l hl) hn
theorem lit_S {k m : Nat} {A : Array Value} {w : World} (l : List Nat) (x y : Int) (r : Int × Int × Nat) (hr : LebM.read l x y true = r) (hl : ∀ c ∈ l, c < 256) (hn : l.length ≤ 4611686018427387904) (hk : k = w.heap.size) (hA : A = (cellsOf l).toArray) (hm : m = l.length) :
    Calls Try.prog 24 #[.slice (some ⟨k, 0, none⟩) m m, .int .i64 x, .int .i64 y] (w.alloc (.cells A 5)) fun e w' =>
      e = .returned (.tuple #[.int .i64 r.1, .int .i64 r.2.1, .int .i64 r.2.2]) ∧ w.alloc (.cells A 5) = w' := by
  subst hr hk hA hm
  exact S_any _ _ l x y _ (Bts_lit w l hl) hn

theorem known_any (w : World) : Calls Try.prog 21 #[] w fun e w' => e = .returned (.bool true) ∧ Below w.heap.size w w' := by
  go_enter Try.func21, Try.ntmps21
  go_wp2_with fail
  refine (lit_U [229, 142, 38] 0 32 (624485, 3, 0) (by decide +kernel) (by decide) (by decide) (by simp) rfl rfl).mono ?_
  rintro e w1 ⟨rfl, rfl⟩
  go_wp2_with fail
  refine (lit_S [128, 127] 0 32 (-128, 2, 0) (by decide +kernel) (by decide) (by decide) (by simp) rfl rfl).mono ?_
  rintro e w1 ⟨rfl, rfl⟩
  go_wp2_with fail
  refine (lit_U [255, 255, 255, 255, 31] 0 32 (0, 0, 11) (by decide +kernel) (by decide) (by decide) (by simp) rfl rfl).mono ?_
  rintro e w1 ⟨rfl, rfl⟩
  go_wp2_with fail
  refine (lit_S [255, 255, 255, 255, 79] 0 32 (0, 0, 11) (by decide +kernel) (by decide) (by decide) (by simp) rfl rfl).mono ?_
  rintro e w1 ⟨rfl, rfl⟩
  go_wp2_with fail
  refine (lit_U [128] 0 32 (0, 0, 10) (by decide +kernel) (by decide) (by decide) (by simp) rfl rfl).mono ?_
  rintro e w1 ⟨rfl, rfl⟩
  go_wp2_with fail
  refine (PutS_any 64 (by omega) (by omega) _).mono ?_
  rintro e w1 ⟨v, rfl, hown, hbel⟩
  have hb0 := Lib.hid ((((((Below.refl w.heap.size w).alloc (Nat.le_refl _) _).alloc (by simp) _).alloc (by simp; omega) _).alloc (by simp; omega) _).alloc (by simp; omega) _ |>.trans (hbel.mono (by simp; omega)))
  clear hbel
  rw [show LebM.putS 64 = [192, 0] by decide +kernel] at hown
  obtain ⟨a, cap, rfl, hbts, -, -⟩ := hown.bts (by decide)
  clear hown
  have hrun : (convert 22 9 (.slice a 2 cap)).run Try.prog w1 = .ok (.string ⟨#[192, 0]⟩) w1 := run_str hbts cap
  clear hbts
  go_wp2_with fail
  refine (Len_any 128 (by omega) _).mono ?_
  rintro e w2 ⟨rfl, rfl⟩
  rw [show LebM.putU 128 = [128, 1] by decide +kernel]
  go_wp2
  go_ret
  exact ⟨rfl, hb0.out⟩
end Go.Proofs.Ytbaihhkcnlhdmaa
