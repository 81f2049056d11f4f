/- A memory in the heap; what reads it: place, Size, Load. -/
import Derived.Test.YtalgpmnjkfconaaBytes
namespace Go.Proofs.Ytalgpmnjkfconaa
open Go.RowKit Go.Deep

/-- at block p stands a memory: its limits, and n bytes f in block g -/
structure MemIs (w : World) (p g n : Nat) (wd hm : Bool) (mn mx : Nat) (f : Nat → Nat) : Prop where
  c0 : w.cell? ⟨p, 0, none⟩ = some (.bool wd)
  c1 : w.cell? ⟨p, 1, none⟩ = some (.int .u64 mn)
  c2 : w.cell? ⟨p, 2, none⟩ = some (.int .u64 mx)
  c3 : w.cell? ⟨p, 3, none⟩ = some (.bool hm)
  c4 : w.cell? ⟨p, 4, none⟩ = some (.slice (some ⟨g, 0, none⟩) n n)
  z4 : w.frozen? ⟨p, 4, none⟩ = false
  row : w.rowIs g 5 n (fun i => .int .u8 (f i : Int))
  lt : ∀ i, f i < 256
  ne : p ≠ g
  big : n ≤ 2097152

/-- where n bytes from an address and an offset on stand, and the error -/
def placeV (n x o : Nat) (k : Int) : Nat × Nat :=
  if wide k = false then (0, 2) else if x + o + k.toNat ≤ n then (x + o, 0) else (0, 260)

theorem wide_cases {k : Int} (h : wide k = true) : k = 1 ∨ k = 2 ∨ k = 4 ∨ k = 8 := by
  simp [wide] at h; omega

set_option maxRecDepth 100000 in
theorem place_any {w : World} {p g n : Nat} {wd hm : Bool} {mn mx : Nat} {f : Nat → Nat} (h : MemIs w p g n wd hm mn mx f) (x o : Nat) (k : Int) (h1 : x < 18446744073709551616) (h2 : o < 18446744073709551616) :
    Calls Try.prog 31 #[.pointer (some ⟨p, 0, none⟩), .int .u64 x, .int .u64 o, .int .i64 k] w fun e w' => e = .returned (.tuple #[.int .u64 (placeV n x o k).1, .int .i64 (placeV n x o k).2]) ∧ w = w' := by
  have hc := h.c4
  have hb := h.big
  have hW := Lib.hid (isWidth_any k)
  obtain ⟨r, hr⟩ : ∃ r, r = placeV n x o k := ⟨_, rfl⟩
  rw [← hr]
  by_cases hw : wide k = false
  · rw [hw] at hW
    have HR := Lib.hid (show r = (0, 2) by rw [hr]; unfold placeV; rw [if_pos hw])
    clear hr
    go_enter Try.func31, Try.ntmps31
    go_wp2_with fail
    refine (hW.out _).mono ?_
    rintro e w1 ⟨rfl, rfl⟩
    go_wp2
    go_ret2
    exact ⟨by rw [HR.out]; rfl, rfl⟩
  · have hw' : wide k = true := by simpa using hw
    have hk := wide_cases hw'
    rw [hw'] at hW
    obtain ⟨K, rfl⟩ := Int.eq_ofNat_of_zero_le (show 0 ≤ k by omega)
    have hK : K ≤ 8 := by omega
    have ha := add_run x o (by omega) (by omega)
    unfold placeV at hr
    rw [if_neg hw] at hr
    clear hk hw hw'
    by_cases hs : x + o < 18446744073709551616
    · rw [show ((x : Int) + o) % 18446744073709551616 = ((x + o : Nat) : Int) by omega, show ((x : Int) + o) / 18446744073709551616 = 0 by omega] at ha
      have hI := Lib.hid (in_any (x + o) K n hs (by omega) (by omega))
      by_cases hin : x + o + K ≤ n
      · have HR := Lib.hid (show r = (x + o, 0) by rw [hr, if_pos (by omega)])
        rw [show decide (x + o + K ≤ n) = true by simpa using hin] at hI
        clear hr
        go_enter Try.func31, Try.ntmps31
        go_wp2_with fail
        refine (hW.out _).mono ?_
        rintro e w1 ⟨rfl, rfl⟩
        go_wp2_with fail
        refine (hI.out _).mono ?_
        rintro e w1 ⟨rfl, rfl⟩
        go_wp2
        go_ret2
        exact ⟨by rw [HR.out]; rfl, rfl⟩
      · have HR := Lib.hid (show r = (0, 260) by rw [hr, if_neg (by omega)])
        rw [show decide (x + o + K ≤ n) = false by simpa using hin] at hI
        clear hr
        go_enter Try.func31, Try.ntmps31
        go_wp2_with fail
        refine (hW.out _).mono ?_
        rintro e w1 ⟨rfl, rfl⟩
        go_wp2_with fail
        refine (hI.out _).mono ?_
        rintro e w1 ⟨rfl, rfl⟩
        go_wp2
        go_ret2
        exact ⟨by rw [HR.out]; rfl, rfl⟩
    · obtain ⟨y, hy⟩ : ∃ y, y = x + o - 18446744073709551616 := ⟨_, rfl⟩
      rw [show ((x : Int) + o) % 18446744073709551616 = ((y : Nat) : Int) by omega, show ((x : Int) + o) / 18446744073709551616 = 1 by omega] at ha
      have HR := Lib.hid (show r = (0, 260) by rw [hr, if_neg (by omega)])
      clear hy hs hr
      go_enter Try.func31, Try.ntmps31
      go_wp2_with fail
      refine (hW.out _).mono ?_
      rintro e w1 ⟨rfl, rfl⟩
      go_wp2
      go_ret2
      exact ⟨by rw [HR.out]; rfl, rfl⟩
end Go.Proofs.Ytalgpmnjkfconaa
