/- Laws for MemKeeps: bytes kept aside, slices of them, numbers of laid bytes. -/
import Derived.Test.YtalgpmnjkfconaaKnownM
namespace Go.Proofs.Ytalgpmnjkfconaa
open Go.RowKit Go.Deep Go.Instr

theorem MemIs.kept {w w' : World} {p g n : Nat} {wd hm : Bool} {mn mx : Nat} {f : Nat → Nat} (h : MemIs w p g n wd hm mn mx f) (hb : Below w.heap.size w w') : MemIs w' p g n wd hm mn mx f := by
  have hp := h.lt_size
  have e := hb.block p hp
  refine ⟨?_, ?_, ?_, ?_, ?_, ?_, h.row.of_block (hb.block g h.row.lt), h.lt, h.ne, h.big⟩
  · exact (World.cell?_of_block (w := w) e).trans h.c0
  · exact (World.cell?_of_block (w := w) e).trans h.c1
  · exact (World.cell?_of_block (w := w) e).trans h.c2
  · exact (World.cell?_of_block (w := w) e).trans h.c3
  · exact (World.cell?_of_block (w := w) e).trans h.c4
  · exact (World.frozen?_of_block (w := w) e).trans h.z4

theorem Own.snap {w : World} {B : Nat} {v : Value} {l : List Nat} (h : Own w B v l) (hl : ∀ c ∈ l, c < 256) (hne : l ≠ []) :
    ∃ b cap, v = .slice (some ⟨b, 0, none⟩) l.length cap ∧ Bts w (some ⟨b, 0, none⟩) l ∧ l.length ≤ cap ∧ B ≤ b ∧ b < w.heap.size := by
  rcases h.2 with ⟨hv, hx⟩ | ⟨g, cap, cur, hv, hg, hh, hm, r1, r2, r3⟩
  · exact absurd (List.eq_nil_of_length_eq_zero hx) hne
  · obtain ⟨a, cap', e, hb, _, hc⟩ := h.bts hl
    rw [hv] at e
    injection e with e1 e2 e3
    subst e1
    subst e3
    exact ⟨g, cap, hv, hb, hc, hg, (Array.getElem?_eq_some_iff.1 hh).1⟩

theorem Bts.touch {w w' : World} {b g : Nat} {l : List Nat} (h : Bts w (some ⟨b, 0, none⟩) l) (ht : Touch g w w') (hne : b ≠ g) (hb : b < w.heap.size) : Bts w' (some ⟨b, 0, none⟩) l := by
  refine ⟨h.1, ?_⟩
  rcases h.2 with hx | ⟨b', off, e, hc⟩
  · exact .inl hx
  · injection e with e
    injection e with e1 e2
    subst e1
    subst e2
    refine .inr ⟨b, 0, rfl, fun i hi => ?_⟩
    rw [World.cell?_of_block (w := w) (ht.block b hb hne)]
    exact hc i hi

theorem Bts.drewN {w : World} {a : Option Addr} {l : List Nat} (h : Bts w a l) (n : Nat) : Bts (w.drewN n) a l := h

theorem size31 (w : World) : (sizeOf (Try.prog.elem 31)).run Try.prog w = .ok 1 w := by kernel_rfl

/-- a part of bytes: what slicing hands out -/
theorem slice31 (P : Option Addr) (l : List Nat) (cap i j : Nat) (hij : i ≤ j) (hj : j ≤ l.length) (hc : l.length ≤ cap) :
    ∃ a' : Option Addr, (∀ w : World, (slice 31 (.slice P l.length cap) (some (.int .u64 (i : Int))) (some (.int .u64 (j : Int))) none).run Try.prog w = .ok (.slice a' (j - i) (cap - i)) w) ∧
      (j = l.length → ∀ w : World, (slice 31 (.slice P l.length cap) (some (.int .u64 (i : Int))) none none).run Try.prog w = .ok (.slice a' (j - i) (cap - i)) w) ∧
      (i = 0 → ∀ w : World, (slice 31 (.slice P l.length cap) none (some (.int .u64 (j : Int))) none).run Try.prog w = .ok (.slice a' (j - i) (cap - i)) w) ∧
      ∀ w, Bts w P l → Bts w a' ((l.drop i).take (j - i)) := by
  refine ⟨if cap = i then P else P.map (·.add i), ?_, ?_, ?_, ?_⟩
  · intro w
    rw [run_slice_lh _ _ _ _ _ Try.underlying31 .u64 .u64 _ _ (by omega) (by omega) (by omega)]
    simp [sliced, size31, Result.andThen]
  · intro h w
    subst h
    rw [run_slice_l _ _ _ _ _ Try.underlying31 .u64 _ (by omega) (by omega)]
    simp [sliced, size31, Result.andThen]
  · intro h w
    subst h
    rw [run_slice_h _ _ _ _ _ Try.underlying31 .u64 _ (by omega) (by omega)]
    simp [sliced, size31, Result.andThen]
  · intro w h
    refine ⟨fun c hc' => h.1 c (List.mem_of_mem_drop (List.mem_of_mem_take hc')), ?_⟩
    rcases h.2 with rfl | ⟨b, off, rfl, hcell⟩
    · left; simp
    · by_cases hz : cap = i
      · left
        have : j - i = 0 := by omega
        rw [this]; rfl
      · right
        rw [if_neg hz]
        refine ⟨b, off + i, by simp [Addr.add], fun k hk => ?_⟩
        simp only [List.length_take, List.length_drop] at hk
        rw [show off + i + k = off + (i + k) by omega, hcell (i + k) (by omega)]
        congr 2
        simp only [List.getD_eq_getElem?_getD, List.getElem?_take, List.getElem?_drop]
        rw [if_pos (by omega)]

/-- the numbers that are laid are read again -/
theorem num_lay (f : Nat → Nat) (X x N : Nat) : ∀ k, k ≤ N → num (fun i => lay f X x N (X + i)) k = x % 256 ^ k
  | 0, _ => by simp [num, Nat.mod_one]
  | k + 1, h => by
    rw [num, num_lay f X x N k (by omega)]
    unfold lay
    rw [if_pos (by omega), Nat.add_sub_cancel_left, Nat.pow_succ, Nat.mod_mul]
    rw [Nat.mul_comm]

theorem num_lay_at (f : Nat → Nat) (X x N o : Nat) : ∀ k, o + k ≤ N → num (fun i => lay f X x N (X + o + i)) k = x / 256 ^ o % 256 ^ k
  | 0, _ => by simp [num, Nat.mod_one]
  | k + 1, h => by
    rw [num, num_lay_at f X x N o k (by omega)]
    unfold lay
    rw [if_pos (by omega), show X + o + k - X = o + k by omega, Nat.pow_succ, Nat.mod_mul, Nat.pow_add, Nat.div_div_eq_div_mul]
    rw [Nat.mul_comm (256 ^ k)]

theorem two_of_four (x : Nat) (h : x < 18446744073709551616) : (x % 256 ^ 4 : Nat) + (x / 256 ^ 4 % 256 ^ 4) * 4294967296 = x := by
  omega

theorem part_take (f : Nat → Nat) (n i j : Nat) (h : i ≤ j) (hj : j ≤ n) : ((part f 0 n).drop i).take (j - i) = part f i (j - i) := by
  apply List.ext_getElem
  · simp [len_part]; omega
  · intro k h1 h2
    rw [len_part] at h2
    simp [part]

theorem part_congr (f f' : Nat → Nat) (i m : Nat) (h : ∀ k, k < m → f (i + k) = f' (i + k)) : part f i m = part f' i m := by
  apply List.ext_getElem
  · simp [len_part]
  · intro k h1 h2
    rw [len_part] at h2
    simp [part, h k h2]

theorem part_moved (f f' : Nat → Nat) (i i' m : Nat) (h : ∀ k, k < m → f (i + k) = f' (i' + k)) : part f i m = part f' i' m := by
  apply List.ext_getElem
  · simp [len_part]
  · intro k h1 h2
    rw [len_part] at h2
    simp [part, h k h2]

theorem put_in (f : Nat → Nat) (to src m n k : Nat) (hk : k < m) (hs : src + m ≤ n) : put f to (part f 0 n) src m (to + k) = f (src + k) := by
  unfold put
  rw [if_pos (by omega), show src + (to + k - to) = src + k by omega, part_at _ _ _ _ (by omega), Nat.zero_add]
theorem put_out (f : Nat → Nat) (to src m n k : Nat) (hk : k < to ∨ to + m ≤ k) : put f to (part f 0 n) src m k = f k := by
  unfold put
  rw [if_neg (by omega)]
theorem lay_out (f : Nat → Nat) (X x N k : Nat) (hk : k < X ∨ X + N ≤ k) : lay f X x N k = f k := by
  unfold lay
  rw [if_neg (by omega)]
/-- n bytes f, set aside in block b, which is not the block g -/
structure Snap (w : World) (g b cap n : Nat) (f : Nat → Nat) : Prop where
  bts : Bts w (some ⟨b, 0, none⟩) (part f 0 n)
  room : n ≤ cap
  ne : b ≠ g
  lt : b < w.heap.size
theorem Snap.touch {w w' : World} {g b cap n : Nat} {f : Nat → Nat} (h : Snap w g b cap n f) (t : Touch g w w') : Snap w' g b cap n f :=
  ⟨h.bts.touch t h.ne h.lt, h.room, h.ne, Nat.lt_of_lt_of_le h.lt t.size⟩
theorem Snap.below {w w' : World} {g b cap n : Nat} {f : Nat → Nat} (h : Snap w g b cap n f) (t : Below w.heap.size w w') : Snap w' g b cap n f :=
  ⟨h.bts.kept t, h.room, h.ne, Nat.lt_of_lt_of_le h.lt t.size⟩
theorem Snap.str {w : World} {g b cap n : Nat} {f : Nat → Nat} (h : Snap w g b cap n f) (k : Nat) :
    (convert 31 9 (.slice (some ⟨b, 0, none⟩) n cap)).run Try.prog (w.drewN k) = .ok (.string (strN (part f 0 n))) (w.drewN k) := by
  have := run_str (h.bts.drewN k) cap
  rw [len_part] at this
  exact this
theorem Snap.str0 {w : World} {g b cap n : Nat} {f : Nat → Nat} (h : Snap w g b cap n f) :
    (convert 31 9 (.slice (some ⟨b, 0, none⟩) n cap)).run Try.prog w = .ok (.string (strN (part f 0 n))) w := h.str 0
theorem Snap.cut {w : World} {g b cap n : Nat} {f : Nat → Nat} (h : Snap w g b cap n f) (i j : Nat) (hij : i ≤ j) (hj : j ≤ n) :
    ∃ a' : Option Addr, (∀ w : World, (slice 31 (.slice (some ⟨b, 0, none⟩) n cap) (some (.int .u64 (i : Int))) (some (.int .u64 (j : Int))) none).run Try.prog w = .ok (.slice a' (j - i) (cap - i)) w) ∧
      (j = n → ∀ w : World, (slice 31 (.slice (some ⟨b, 0, none⟩) n cap) (some (.int .u64 (i : Int))) none none).run Try.prog w = .ok (.slice a' (j - i) (cap - i)) w) ∧
      (i = 0 → ∀ w : World, (slice 31 (.slice (some ⟨b, 0, none⟩) n cap) none (some (.int .u64 (j : Int))) none).run Try.prog w = .ok (.slice a' (j - i) (cap - i)) w) ∧
      ∀ k, (convert 31 9 (.slice a' (j - i) (cap - i))).run Try.prog (w.drewN k) = .ok (.string (strN (part f i (j - i)))) (w.drewN k) := by
  obtain ⟨a', h1, h2, h3, h4⟩ := slice31 (some ⟨b, 0, none⟩) (part f 0 n) cap i j hij (by rw [len_part]; exact hj) (by rw [len_part]; exact h.room)
  rw [len_part] at h1 h2 h3
  refine ⟨a', h1, h2, h3, fun k => ?_⟩
  have hb := h4 w h.bts
  rw [part_take f n i j hij hj] at hb
  have := run_str (hb.drewN k) (cap - i)
  rw [len_part] at this
  exact this

theorem Bytes_all {w : World} {p g n : Nat} {wd hm : Bool} {mn mx : Nat} {f : Nat → Nat} (h : MemIs w p g n wd hm mn mx f) (hg : 1 ≤ n) :
    Calls Try.prog 10 #[.pointer (some ⟨p, 0, none⟩), .int .u64 0, .int .u64 n] w fun e w' => ∃ b cap, e = .returned (.tuple #[.slice (some ⟨b, 0, none⟩) n cap, .int .i64 0]) ∧ Snap w' g b cap n f ∧ Below w.heap.size w w' := by
  have hb := h.big
  have hB := Bytes_any h 0 n (by omega) (by omega)
  rw [show bytesV n f 0 n = (part f 0 n, 0) by unfold bytesV; rw [if_pos (by omega)]] at hB
  refine hB.mono ?_
  rintro e w' ⟨v, rfl, o, bl⟩
  replace o : Own w' w.heap.size v (part f 0 n) := o
  obtain ⟨b, cap, rfl, hbt, hc, hbb, hbs⟩ := o.snap (part_lt h.lt 0 n) (fun e => by have := len_part f 0 n; rw [e] at this; simp at this; omega)
  rw [len_part] at hc ⊢
  have := h.row.lt
  exact ⟨b, cap, rfl, ⟨hbt, hc, by omega, hbs⟩, bl⟩
end Go.Proofs.Ytalgpmnjkfconaa
