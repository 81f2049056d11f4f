/- Small helpers of this seat: results, bytes in memory, and the walk's spellings of a byte's operations. Each is a plain law; none speaks of one function of the program. -/
import Derived.Test.YtbaihhkcnlhdmaaRows
import Derived.Test.YtbaihhkcnlhdmaaLebMb
import Derived.WalkKit
import Derived.WalkSpells
import Derived.WalkLawsBesides
import Derived.Lib.Hide
namespace Go.Proofs.Ytbaihhkcnlhdmaa
open Go.RowKit

theorem ret_b {a b : Bool} (h : a = b) : Ending.returned (.bool a) = .returned (.bool b) := by rw [h]
theorem ret_i {k : IntKind} {a b : Int} (h : a = b) : Ending.returned (.int k a) = .returned (.int k b) := by rw [h]
theorem ret_3 {k1 k2 k3 : IntKind} {a1 b1 a2 b2 a3 b3 : Int} (h1 : a1 = b1) (h2 : a2 = b2) (h3 : a3 = b3) :
    Ending.returned (.tuple #[.int k1 a1, .int k2 a2, .int k3 a3]) = .returned (.tuple #[.int k1 b1, .int k2 b2, .int k3 b3]) := by rw [h1, h2, h3]

/-- a number as one of 64 bits, unsigned -/
def u64 (x : Int) : Int := x % 18446744073709551616
theorem u64_small {x : Int} (h0 : 0 ≤ x) (h : x < 18446744073709551616) : u64 x = x := Int.emod_eq_of_lt h0 h

/-- the bytes bs lie at an address -/
def Bts (w : World) (a : Option Addr) (bs : List Nat) : Prop :=
  (∀ c ∈ bs, c < 256) ∧ (bs = [] ∨ ∃ b off, a = some ⟨b, off, none⟩ ∧ ∀ i, i < bs.length → w.cell? ⟨b, off + i, none⟩ = some (.int .u8 ((bs.getD i 0 : Nat) : Int)))

theorem Bts.lt {w : World} {a : Option Addr} {bs : List Nat} (h : Bts w a bs) (i : Nat) : bs.getD i 0 < 256 := by
  rw [List.getD_eq_getElem?_getD]
  by_cases hi : i < bs.length
  · rw [List.getElem?_eq_getElem hi]; exact h.1 _ (List.getElem_mem hi)
  · rw [List.getElem?_eq_none (by omega)]; simp

theorem drop_cons {bs : List Nat} {i : Nat} (h : i < bs.length) : bs.drop i = bs.getD i 0 :: bs.drop (i + 1) := by
  rw [List.getD_eq_getElem?_getD, List.getElem?_eq_getElem h]; exact List.drop_eq_getElem_cons h

theorem and127 (c : Nat) (hc : c < 256) : bits .and .u8 (c : Int) 127 = ((c % 128 : Nat) : Int) := by
  have := u8_and_nat c 127 hc (by omega)
  rw [nat_mask7] at this
  exact this

end Go.Proofs.Ytbaihhkcnlhdmaa
