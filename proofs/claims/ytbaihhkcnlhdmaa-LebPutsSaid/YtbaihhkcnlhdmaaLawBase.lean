/- What all laws of this seat use: a slice of bytes that came in; a new empty slice. -/
import Derived.Test.YtbaihhkcnlhdmaaKnownA
namespace Go.Proofs.Ytbaihhkcnlhdmaa
open Go.RowKit

/-- a slice of integers that came in: nil, or a row of 'cap' cells -/
def IsRow (k : IntKind) (w : World) (a : Option Addr) (len cap : Nat) (zs : List Int) : Prop :=
  (a = none ∧ len = 0 ∧ cap = 0 ∧ zs = []) ∨
  ∃ x, a = some x ∧ len ≤ cap ∧ cap ≤ maxLen ∧ zs.length = cap ∧ (∀ i, i < zs.length → w.cell? (x.add i) = some (.int k (zs.getD i 0))) ∧ ∀ n ∈ zs, (Lit.int k n).wf = true

theorem u8_wf {n : Int} (h : (Lit.int .u8 n).wf = true) : 0 ≤ n ∧ n < 256 := by
  simp [Lit.wf, IntKind.min, IntKind.max, IntKind.signed, IntKind.bits] at h; omega
theorem u64_wf {n : Int} (h : (Lit.int .u64 n).wf = true) : 0 ≤ n ∧ n < 18446744073709551616 := by
  simp [Lit.wf, IntKind.min, IntKind.max, IntKind.signed, IntKind.bits] at h; omega
theorem i64_wf {n : Int} (h : (Lit.int .i64 n).wf = true) : -9223372036854775808 ≤ n ∧ n < 9223372036854775808 := by
  simp [Lit.wf, IntKind.min, IntKind.max, IntKind.signed, IntKind.bits] at h; omega

theorem IsRow.bts {w : World} {a : Option Addr} {len cap : Nat} {zs : List Int} (h : IsRow .u8 w a len cap zs) :
    ∃ bs : List Nat, len = bs.length ∧ Bts w a bs ∧ (a = none → cap = 0) ∧ bs.length ≤ cap ∧ cap ≤ maxLen := by
  rcases h with ⟨rfl, rfl, rfl, rfl⟩ | ⟨x, rfl, h1, h2, h3, h4, h5⟩
  · exact ⟨[], rfl, ⟨by simp, .inl rfl⟩, fun _ => rfl, Nat.le_refl _, by simp⟩
  · have hlen : ((zs.take len).map Int.toNat).length = len := by simp; omega
    have hlt : ∀ c ∈ (zs.take len).map Int.toNat, c < 256 := by
      intro c hc
      obtain ⟨z, hz, rfl⟩ := List.mem_map.1 hc
      have := u8_wf (h5 z (List.mem_of_mem_take hz))
      omega
    refine ⟨(zs.take len).map Int.toNat, hlen.symm, ⟨hlt, ?_⟩, fun e => by simp at e, by omega, h2⟩
    by_cases h0 : len = 0
    · subst h0; exact .inl (by simp)
    · right
      obtain ⟨b, off, spot⟩ := x
      have hc0 := h4 0 (by omega)
      have hspot : spot = none := by simpa [Addr.add] using World.cell?_spot hc0
      subst hspot
      refine ⟨b, off, rfl, fun i hi => ?_⟩
      rw [hlen] at hi
      have := h4 i (by omega)
      rw [Addr.add_lit] at this
      rw [this]
      have hz : i < zs.length := by omega
      have hz0 := u8_wf (h5 (zs[i]) (List.getElem_mem hz))
      simp [List.getD_eq_getElem?_getD, List.getElem?_eq_getElem hz, hi]
      omega

theorem Own_new (w : World) : Own (w.alloc (.cells #[] 5)) w.heap.size (.slice (some ⟨w.heap.size, 0, none⟩) 0 0) [] :=
  World.ownsRow_lit w #[] 0 (Nat.le_refl _) (by simp) rfl
end Go.Proofs.Ytbaihhkcnlhdmaa
