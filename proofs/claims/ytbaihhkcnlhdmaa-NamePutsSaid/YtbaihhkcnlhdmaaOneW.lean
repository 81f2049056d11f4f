/- The reference's decoder: geoderef02.One. -/
import Derived.Test.YtbaihhkcnlhdmaaNameC
namespace Go.Proofs.Ytbaihhkcnlhdmaa
open Go.RowKit NameM

theorem byte_at (s : ByteArray) (i : Nat) (h : i < s.size) : (s[i]'h).toNat = (nb s).getD i 0 := by
  rw [← get_nb]
  exact congrArg UInt8.toNat (get_at s i h).symm

/-- the value behind k bytes that go on -/
def ac (l : List Nat) (v : Nat) : Nat → Nat
  | 0 => v
  | k + 1 => ac l v k * 64 + (l.getD (k + 1) 0 - 128)
theorem ac_step (l : List Nat) (v k B : Nat) (hl : ∀ k, l.getD k 0 < 256) (h : ac l v k ≤ B) : ac l v (k + 1) ≤ B * 64 + 128 := by
  have h1 := hl (k + 1)
  have e : ac l v (k + 1) = ac l v k * 64 + (l.getD (k + 1) 0 - 128) := rfl
  generalize l.getD (k + 1) 0 = c at h1 e
  generalize ac l v k = A at h e
  generalize ac l v (k + 1) = D at e ⊢
  omega
set_option maxRecDepth 100000 in
theorem ac_lt (l : List Nat) (v : Nat) (hv : v < 32) (hl : ∀ k, l.getD k 0 < 256) (k : Nat) (hk : k ≤ 3) : ac l v k ≤ 8921216 := by
  have h0 : ac l v 0 ≤ 32 := Nat.le_of_lt hv
  have h1 : ac l v 1 ≤ 2176 := ac_step l v 0 32 hl h0
  have h2 : ac l v 2 ≤ 139392 := ac_step l v 1 _ hl h1
  have h3 : ac l v 3 ≤ 8921216 := ac_step l v 2 _ hl h2
  have hc : k = 0 ∨ k = 1 ∨ k = 2 ∨ k = 3 := by omega
  rcases hc with rfl | rfl | rfl | rfl
  · omega
  · exact Nat.le_trans h1 (by decide)
  · exact Nat.le_trans h2 (by decide)
  · exact Nat.le_trans h3 (by decide)
def lst : Nat → Nat
  | 2 => 128
  | 3 => 2048
  | _ => 65536
/-- a lead byte that asks for n bytes -/
def lead (n v : Nat) (l : List Nat) : Prop :=
  (n = 2 ∧ v = l.getD 0 0 - 192 ∧ 192 ≤ l.getD 0 0 ∧ l.getD 0 0 < 224) ∨ (n = 3 ∧ v = l.getD 0 0 - 224 ∧ 224 ≤ l.getD 0 0 ∧ l.getD 0 0 < 240) ∨
  (n = 4 ∧ v = l.getD 0 0 - 240 ∧ 240 ≤ l.getD 0 0 ∧ l.getD 0 0 < 248)
/-- the first k bytes behind the lead byte go on -/
def go1 (l : List Nat) (k : Nat) : Prop := ∀ j, 1 ≤ j → j < k → co l j = true
def okn (n V : Nat) : Prop := lst n ≤ V ∧ V ≤ 1114111 ∧ ¬ (55296 ≤ V ∧ V ≤ 57343)
set_option maxRecDepth 100000 in
theorem one_lead {n v : Nat} {l : List Nat} (h : lead n v l) (h0 : l.length ≠ 0) :
    (go1 l n ∧ okn n (ac l v (n - 1)) → one l = n) ∧ (¬ (go1 l n ∧ okn n (ac l v (n - 1))) → one l = 0) := by
  have hlt : ∀ k, co l k = true → l.getD k 0 - 128 < 64 := fun k hk => by have := co_lt hk; omega
  rcases h with ⟨rfl, rfl, a, b⟩ | ⟨rfl, rfl, a, b⟩ | ⟨rfl, rfl, a, b⟩
  · have e : one l = if ok2 l then 2 else 0 := by unfold one; rw [if_neg h0, if_neg (by omega), if_pos ⟨a, b⟩]
    have hiff : ok2 l = true ↔ go1 l 2 ∧ okn 2 (ac l (l.getD 0 0 - 192) (2 - 1)) := by
      have ea : ac l (l.getD 0 0 - 192) (2 - 1) = c2 l := rfl
      rw [ea]
      unfold ok2 okn
      rw [show lst 2 = 128 from rfl]
      rw [Bool.and_eq_true, decide_eq_true_eq]
      constructor
      · rintro ⟨h1, h2⟩
        have := hlt 1 h1
        refine ⟨fun k a b => ?_, ?_⟩
        · obtain rfl : k = 1 := by omega
          exact h1
        · unfold c2 at h2 ⊢; omega
      · rintro ⟨h1, h2, -⟩
        exact ⟨h1 1 (by omega) (by omega), h2⟩
    exact ⟨fun h => by rw [e, if_pos (hiff.2 h)], fun h => by rw [e, if_neg (fun hc => h (hiff.1 hc))]⟩
  · have e : one l = if ok3 l then 3 else 0 := by unfold one; rw [if_neg h0, if_neg (by omega), if_neg (by omega), if_pos ⟨a, b⟩]
    have hiff : ok3 l = true ↔ go1 l 3 ∧ okn 3 (ac l (l.getD 0 0 - 224) (3 - 1)) := by
      have ea : ac l (l.getD 0 0 - 224) (3 - 1) = c3 l := rfl
      rw [ea]
      unfold ok3 okn
      rw [show lst 3 = 2048 from rfl]
      simp only [Bool.and_eq_true, decide_eq_true_eq, Bool.not_eq_true', Bool.and_eq_false_iff, decide_eq_false_iff_not]
      constructor
      · rintro ⟨⟨⟨h1, h2⟩, h3⟩, h4⟩
        have := hlt 1 h1
        have := hlt 2 h2
        refine ⟨fun k a b => ?_, h3, ?_, by omega⟩
        · rcases (show k = 1 ∨ k = 2 by omega) with rfl | rfl
          · exact h1
          · exact h2
        · unfold c3; omega
      · rintro ⟨h1, h2, h3, h4⟩
        exact ⟨⟨⟨h1 1 (by omega) (by omega), h1 2 (by omega) (by omega)⟩, h2⟩, by omega⟩
    exact ⟨fun h => by rw [e, if_pos (hiff.2 h)], fun h => by rw [e, if_neg (fun hc => h (hiff.1 hc))]⟩
  · have e : one l = if ok4 l then 4 else 0 := by unfold one; rw [if_neg h0, if_neg (by omega), if_neg (by omega), if_neg (by omega), if_pos ⟨a, b⟩]
    have hiff : ok4 l = true ↔ go1 l 4 ∧ okn 4 (ac l (l.getD 0 0 - 240) (4 - 1)) := by
      have ea : ac l (l.getD 0 0 - 240) (4 - 1) = c4 l := rfl
      rw [ea]
      unfold ok4 okn
      rw [show lst 4 = 65536 from rfl]
      simp only [Bool.and_eq_true, decide_eq_true_eq]
      constructor
      · rintro ⟨⟨⟨⟨h1, h2⟩, h3⟩, h4⟩, h5⟩
        refine ⟨fun k a b => ?_, h4, h5, by omega⟩
        rcases (show k = 1 ∨ k = 2 ∨ k = 3 by omega) with rfl | rfl | rfl
        · exact h1
        · exact h2
        · exact h3
      · rintro ⟨h1, h2, h3, h4⟩
        exact ⟨⟨⟨⟨h1 1 (by omega) (by omega), h1 2 (by omega) (by omega)⟩, h1 3 (by omega) (by omega)⟩, h2⟩, h3⟩
    exact ⟨fun h => by rw [e, if_pos (hiff.2 h)], fun h => by rw [e, if_neg (fun hc => h (hiff.1 hc))]⟩

set_option maxRecDepth 100000 in
set_option maxHeartbeats 1000000 in
theorem One_2 (s : ByteArray) (R : Nat) (hs : s.size ≤ 4611686018427387904) (h0 : 0 < s.size) (h1 : 192 ≤ (s[0]'h0).toNat) (h2 : (s[0]'h0).toNat < 224) (HR : Hid (R = one (nb s))) (w : World) :
    Calls Try.prog 33 #[.string s] w fun e w' => e = .returned (.int .i64 R) ∧ Below w.heap.size w w' := by
  have hl := byte_at s 0 h0
  have HO := Lib.hid (one_lead (n := 2) (v := (s[0]'h0).toNat - 192) (l := nb s) (by unfold lead; omega) (by rw [len_nb]; omega))
  have HG := Lib.hid (byte_at s)
  have HN := Lib.hid (len_nb s)
  have HAC := Lib.hid (ac_lt (nb s) ((s[0]'h0).toNat - 192) (by omega) (by intro k; rw [← get_nb]; exact UInt8.toNat_lt _))
  have hv : (s[0]'h0).toNat - 192 < 64 := by omega
  obtain ⟨v, hveq⟩ : ∃ v, v = (s[0]'h0).toNat - 192 := ⟨_, rfl⟩
  have hvi : ((s[0]'h0).toNat : Int) - 192 = (v : Int) := by omega
  rw [← hveq] at HO HAC hv
  have HV := Lib.hid hvi
  have hd224 : decide (((s[0]'h0).toNat : Int) < 224) = true := by simp; omega
  clear hl hveq hvi
  by_cases hsz : s.size < 2
  · have HZ := Lib.hid (show R = 0 by
      rw [HR.out]
      apply HO.out.2
      rintro ⟨a, -⟩
      have := (co_lt (a 1 (by omega) (by omega))).1
      rw [HN.out] at this
      omega)
    go_enter Try.func33, Try.ntmps33
    go_wp2
    go_ret
    exact ⟨ret_i (by rw [HZ.out]; rfl), Below.refl _ _⟩
  · go_enter Try.func33, Try.ntmps33
    go_wp2
    rw [HV.out]
    go_loopw [4, 5] (fun x y wr => ∃ k : Nat, x = .int .i64 ((ac (nb s) v k : Nat) : Int) ∧ y = .int .i64 ((k + 1 : Nat) : Int) ∧ k + 1 ≤ 2 ∧ go1 (nb s) (k + 1) ∧ wr = w) (fun _ y _ => 4 - (intOf y).toNat)
    case atStart => exact ⟨0, rfl, rfl, by omega, fun j a b => by omega, rfl⟩
    case round =>
      obtain ⟨k, rfl, rfl, hk, hgo, rfl⟩ := hrel
      have HGO := Lib.hid hgo
      have hb := HAC.out k (by omega)
      obtain ⟨V, hV⟩ : ∃ V, V = ac (nb s) v k := ⟨_, rfl⟩
      rw [← hV] at hb
      have HVV := Lib.hid hV
      rw [← hV]
      clear hgo hV
      by_cases hlast : k + 1 < 2
      · have hj : k + 1 < s.size := by omega
        have hg := HG.out (k + 1) hj
        by_cases hc1 : (s[k + 1]'hj).toNat < 128
        · have HZ := Lib.hid (show R = 0 by
            rw [HR.out]
            apply HO.out.2
            rintro ⟨a, -⟩
            have := (co_lt (a (k + 1) (by omega) (by omega)))
            omega)
          clear hg
          go_wp2
          go_ret
          exact ⟨ret_i (by rw [HZ.out]; rfl), Below.refl _ _⟩
        · by_cases hc2 : 191 < (s[k + 1]'hj).toNat
          · have HZ := Lib.hid (show R = 0 by
              rw [HR.out]
              apply HO.out.2
              rintro ⟨a, -⟩
              have := (co_lt (a (k + 1) (by omega) (by omega)))
              omega)
            clear hg
            go_wp2
            go_ret
            exact ⟨ret_i (by rw [HZ.out]; rfl), Below.refl _ _⟩
          · have hgo2 : go1 (nb s) (k + 1 + 1) := by
              intro j a b
              by_cases hj' : j < k + 1
              · exact HGO.out j a hj'
              · obtain rfl : j = k + 1 := by omega
                unfold co
                rw [HN.out]
                simp only [Bool.and_eq_true, decide_eq_true_eq]
                omega
            have HGO2 := Lib.hid hgo2
            have hst : (V : Int) * 64 + ((s[k + 1]'hj).toNat : Int) - 128 = ((ac (nb s) v (k + 1) : Nat) : Int) := by
              have e : ac (nb s) v (k + 1) = ac (nb s) v k * 64 + ((nb s).getD (k + 1) 0 - 128) := rfl
              rw [← HVV.out, ← hg] at e
              generalize ac (nb s) v (k + 1) = D at e ⊢
              omega
            have HST := Lib.hid hst
            clear hgo2 hst hg
            go_wp2
            go_roundw
            case rel => exact ⟨k + 1, by rw [HST.out], by go_num, by omega, HGO2.out, trivial⟩
            case measure => simp [intOf]; omega
      · have hkk : k = 1 := by omega
        subst hkk
        have HO2 := Lib.hid HO.out
        rw [show 2 - 1 = 1 from rfl, ← HVV.out] at HO2
        clear hlast hk
        by_cases hq1 : V < 128
        · have HZ := Lib.hid (show R = 0 by
            rw [HR.out]
            apply HO2.out.2
            rintro ⟨-, a, -⟩
            rw [show lst 2 = 128 from rfl] at a
            omega)
          go_wp2
          go_ret
          exact ⟨ret_i (by rw [HZ.out]; rfl), (Below.refl _ _).alloc (Nat.le_refl _) _⟩
        · by_cases hq2 : 1114111 < V
          · have HZ := Lib.hid (show R = 0 by
              rw [HR.out]
              apply HO2.out.2
              rintro ⟨-, -, a, -⟩
              omega)
            go_wp2
            go_ret
            exact ⟨ret_i (by rw [HZ.out]; rfl), (Below.refl _ _).alloc (Nat.le_refl _) _⟩
          · by_cases hq3 : V < 55296
            · have HZ := Lib.hid (show R = 2 by
                rw [HR.out]
                apply HO2.out.1
                refine ⟨HGO.out, ?_, by omega, by omega⟩
                rw [show lst 2 = 128 from rfl]
                omega)
              go_wp2
              go_ret
              exact ⟨ret_i (by rw [HZ.out]; rfl), (Below.refl _ _).alloc (Nat.le_refl _) _⟩
            · by_cases hq4 : V ≤ 57343
              · have HZ := Lib.hid (show R = 0 by
                  rw [HR.out]
                  apply HO2.out.2
                  rintro ⟨-, -, -, a⟩
                  omega)
                go_wp2
                go_ret
                exact ⟨ret_i (by rw [HZ.out]; rfl), (Below.refl _ _).alloc (Nat.le_refl _) _⟩
              · have HZ := Lib.hid (show R = 2 by
                  rw [HR.out]
                  apply HO2.out.1
                  refine ⟨HGO.out, ?_, by omega, by omega⟩
                  rw [show lst 2 = 128 from rfl]
                  omega)
                go_wp2
                go_ret
                exact ⟨ret_i (by rw [HZ.out]; rfl), (Below.refl _ _).alloc (Nat.le_refl _) _⟩

set_option maxRecDepth 100000 in
set_option maxHeartbeats 1000000 in
theorem One_3 (s : ByteArray) (R : Nat) (hs : s.size ≤ 4611686018427387904) (h0 : 0 < s.size) (h1 : 224 ≤ (s[0]'h0).toNat) (h2 : (s[0]'h0).toNat < 240) (HR : Hid (R = one (nb s))) (w : World) :
    Calls Try.prog 33 #[.string s] w fun e w' => e = .returned (.int .i64 R) ∧ Below w.heap.size w w' := by
  have hl := byte_at s 0 h0
  have HO := Lib.hid (one_lead (n := 3) (v := (s[0]'h0).toNat - 224) (l := nb s) (by unfold lead; omega) (by rw [len_nb]; omega))
  have HG := Lib.hid (byte_at s)
  have HN := Lib.hid (len_nb s)
  have HAC := Lib.hid (ac_lt (nb s) ((s[0]'h0).toNat - 224) (by omega) (by intro k; rw [← get_nb]; exact UInt8.toNat_lt _))
  have hv : (s[0]'h0).toNat - 224 < 64 := by omega
  obtain ⟨v, hveq⟩ : ∃ v, v = (s[0]'h0).toNat - 224 := ⟨_, rfl⟩
  have hvi : ((s[0]'h0).toNat : Int) - 224 = (v : Int) := by omega
  rw [← hveq] at HO HAC hv
  have HV := Lib.hid hvi
  have hd224 : decide (((s[0]'h0).toNat : Int) < 224) = false := by simp; omega
  have hd240 : decide (((s[0]'h0).toNat : Int) < 240) = true := by simp; omega
  clear hl hveq hvi
  by_cases hsz : s.size < 3
  · have HZ := Lib.hid (show R = 0 by
      rw [HR.out]
      apply HO.out.2
      rintro ⟨a, -⟩
      have := (co_lt (a 2 (by omega) (by omega))).1
      rw [HN.out] at this
      omega)
    go_enter Try.func33, Try.ntmps33
    go_wp2
    go_ret
    exact ⟨ret_i (by rw [HZ.out]; rfl), Below.refl _ _⟩
  · go_enter Try.func33, Try.ntmps33
    go_wp2
    rw [HV.out]
    go_loopw [4, 5] (fun x y wr => ∃ k : Nat, x = .int .i64 ((ac (nb s) v k : Nat) : Int) ∧ y = .int .i64 ((k + 1 : Nat) : Int) ∧ k + 1 ≤ 3 ∧ go1 (nb s) (k + 1) ∧ wr = w) (fun _ y _ => 4 - (intOf y).toNat)
    case atStart => exact ⟨0, rfl, rfl, by omega, fun j a b => by omega, rfl⟩
    case round =>
      obtain ⟨k, rfl, rfl, hk, hgo, rfl⟩ := hrel
      have HGO := Lib.hid hgo
      have hb := HAC.out k (by omega)
      obtain ⟨V, hV⟩ : ∃ V, V = ac (nb s) v k := ⟨_, rfl⟩
      rw [← hV] at hb
      have HVV := Lib.hid hV
      rw [← hV]
      clear hgo hV
      by_cases hlast : k + 1 < 3
      · have hj : k + 1 < s.size := by omega
        have hg := HG.out (k + 1) hj
        by_cases hc1 : (s[k + 1]'hj).toNat < 128
        · have HZ := Lib.hid (show R = 0 by
            rw [HR.out]
            apply HO.out.2
            rintro ⟨a, -⟩
            have := (co_lt (a (k + 1) (by omega) (by omega)))
            omega)
          clear hg
          go_wp2
          go_ret
          exact ⟨ret_i (by rw [HZ.out]; rfl), Below.refl _ _⟩
        · by_cases hc2 : 191 < (s[k + 1]'hj).toNat
          · have HZ := Lib.hid (show R = 0 by
              rw [HR.out]
              apply HO.out.2
              rintro ⟨a, -⟩
              have := (co_lt (a (k + 1) (by omega) (by omega)))
              omega)
            clear hg
            go_wp2
            go_ret
            exact ⟨ret_i (by rw [HZ.out]; rfl), Below.refl _ _⟩
          · have hgo2 : go1 (nb s) (k + 1 + 1) := by
              intro j a b
              by_cases hj' : j < k + 1
              · exact HGO.out j a hj'
              · obtain rfl : j = k + 1 := by omega
                unfold co
                rw [HN.out]
                simp only [Bool.and_eq_true, decide_eq_true_eq]
                omega
            have HGO2 := Lib.hid hgo2
            have hst : (V : Int) * 64 + ((s[k + 1]'hj).toNat : Int) - 128 = ((ac (nb s) v (k + 1) : Nat) : Int) := by
              have e : ac (nb s) v (k + 1) = ac (nb s) v k * 64 + ((nb s).getD (k + 1) 0 - 128) := rfl
              rw [← HVV.out, ← hg] at e
              generalize ac (nb s) v (k + 1) = D at e ⊢
              omega
            have HST := Lib.hid hst
            clear hgo2 hst hg
            go_wp2
            go_roundw
            case rel => exact ⟨k + 1, by rw [HST.out], by go_num, by omega, HGO2.out, trivial⟩
            case measure => simp [intOf]; omega
      · have hkk : k = 2 := by omega
        subst hkk
        have HO2 := Lib.hid HO.out
        rw [show 3 - 1 = 2 from rfl, ← HVV.out] at HO2
        clear hlast hk
        by_cases hq1 : V < 2048
        · have HZ := Lib.hid (show R = 0 by
            rw [HR.out]
            apply HO2.out.2
            rintro ⟨-, a, -⟩
            rw [show lst 3 = 2048 from rfl] at a
            omega)
          go_wp2
          go_ret
          exact ⟨ret_i (by rw [HZ.out]; rfl), (Below.refl _ _).alloc (Nat.le_refl _) _⟩
        · by_cases hq2 : 1114111 < V
          · have HZ := Lib.hid (show R = 0 by
              rw [HR.out]
              apply HO2.out.2
              rintro ⟨-, -, a, -⟩
              omega)
            go_wp2
            go_ret
            exact ⟨ret_i (by rw [HZ.out]; rfl), (Below.refl _ _).alloc (Nat.le_refl _) _⟩
          · by_cases hq3 : V < 55296
            · have HZ := Lib.hid (show R = 3 by
                rw [HR.out]
                apply HO2.out.1
                refine ⟨HGO.out, ?_, by omega, by omega⟩
                rw [show lst 3 = 2048 from rfl]
                omega)
              go_wp2
              go_ret
              exact ⟨ret_i (by rw [HZ.out]; rfl), (Below.refl _ _).alloc (Nat.le_refl _) _⟩
            · by_cases hq4 : V ≤ 57343
              · have HZ := Lib.hid (show R = 0 by
                  rw [HR.out]
                  apply HO2.out.2
                  rintro ⟨-, -, -, a⟩
                  omega)
                go_wp2
                go_ret
                exact ⟨ret_i (by rw [HZ.out]; rfl), (Below.refl _ _).alloc (Nat.le_refl _) _⟩
              · have HZ := Lib.hid (show R = 3 by
                  rw [HR.out]
                  apply HO2.out.1
                  refine ⟨HGO.out, ?_, by omega, by omega⟩
                  rw [show lst 3 = 2048 from rfl]
                  omega)
                go_wp2
                go_ret
                exact ⟨ret_i (by rw [HZ.out]; rfl), (Below.refl _ _).alloc (Nat.le_refl _) _⟩

set_option maxRecDepth 100000 in
set_option maxHeartbeats 1000000 in
theorem One_4 (s : ByteArray) (R : Nat) (hs : s.size ≤ 4611686018427387904) (h0 : 0 < s.size) (h1 : 240 ≤ (s[0]'h0).toNat) (h2 : (s[0]'h0).toNat < 248) (HR : Hid (R = one (nb s))) (w : World) :
    Calls Try.prog 33 #[.string s] w fun e w' => e = .returned (.int .i64 R) ∧ Below w.heap.size w w' := by
  have hl := byte_at s 0 h0
  have HO := Lib.hid (one_lead (n := 4) (v := (s[0]'h0).toNat - 240) (l := nb s) (by unfold lead; omega) (by rw [len_nb]; omega))
  have HG := Lib.hid (byte_at s)
  have HN := Lib.hid (len_nb s)
  have HAC := Lib.hid (ac_lt (nb s) ((s[0]'h0).toNat - 240) (by omega) (by intro k; rw [← get_nb]; exact UInt8.toNat_lt _))
  have hv : (s[0]'h0).toNat - 240 < 64 := by omega
  obtain ⟨v, hveq⟩ : ∃ v, v = (s[0]'h0).toNat - 240 := ⟨_, rfl⟩
  have hvi : ((s[0]'h0).toNat : Int) - 240 = (v : Int) := by omega
  rw [← hveq] at HO HAC hv
  have HV := Lib.hid hvi
  have hd224 : decide (((s[0]'h0).toNat : Int) < 224) = false := by simp; omega
  have hd240 : decide (((s[0]'h0).toNat : Int) < 240) = false := by simp; omega
  have hd248 : decide (((s[0]'h0).toNat : Int) < 248) = true := by simp; omega
  clear hl hveq hvi
  by_cases hsz : s.size < 4
  · have HZ := Lib.hid (show R = 0 by
      rw [HR.out]
      apply HO.out.2
      rintro ⟨a, -⟩
      have := (co_lt (a 3 (by omega) (by omega))).1
      rw [HN.out] at this
      omega)
    go_enter Try.func33, Try.ntmps33
    go_wp2
    go_ret
    exact ⟨ret_i (by rw [HZ.out]; rfl), Below.refl _ _⟩
  · go_enter Try.func33, Try.ntmps33
    go_wp2
    rw [HV.out]
    go_loopw [4, 5] (fun x y wr => ∃ k : Nat, x = .int .i64 ((ac (nb s) v k : Nat) : Int) ∧ y = .int .i64 ((k + 1 : Nat) : Int) ∧ k + 1 ≤ 4 ∧ go1 (nb s) (k + 1) ∧ wr = w) (fun _ y _ => 4 - (intOf y).toNat)
    case atStart => exact ⟨0, rfl, rfl, by omega, fun j a b => by omega, rfl⟩
    case round =>
      obtain ⟨k, rfl, rfl, hk, hgo, rfl⟩ := hrel
      have HGO := Lib.hid hgo
      have hb := HAC.out k (by omega)
      obtain ⟨V, hV⟩ : ∃ V, V = ac (nb s) v k := ⟨_, rfl⟩
      rw [← hV] at hb
      have HVV := Lib.hid hV
      rw [← hV]
      clear hgo hV
      by_cases hlast : k + 1 < 4
      · have hj : k + 1 < s.size := by omega
        have hg := HG.out (k + 1) hj
        by_cases hc1 : (s[k + 1]'hj).toNat < 128
        · have HZ := Lib.hid (show R = 0 by
            rw [HR.out]
            apply HO.out.2
            rintro ⟨a, -⟩
            have := (co_lt (a (k + 1) (by omega) (by omega)))
            omega)
          clear hg
          go_wp2
          go_ret
          exact ⟨ret_i (by rw [HZ.out]; rfl), Below.refl _ _⟩
        · by_cases hc2 : 191 < (s[k + 1]'hj).toNat
          · have HZ := Lib.hid (show R = 0 by
              rw [HR.out]
              apply HO.out.2
              rintro ⟨a, -⟩
              have := (co_lt (a (k + 1) (by omega) (by omega)))
              omega)
            clear hg
            go_wp2
            go_ret
            exact ⟨ret_i (by rw [HZ.out]; rfl), Below.refl _ _⟩
          · have hgo2 : go1 (nb s) (k + 1 + 1) := by
              intro j a b
              by_cases hj' : j < k + 1
              · exact HGO.out j a hj'
              · obtain rfl : j = k + 1 := by omega
                unfold co
                rw [HN.out]
                simp only [Bool.and_eq_true, decide_eq_true_eq]
                omega
            have HGO2 := Lib.hid hgo2
            have hst : (V : Int) * 64 + ((s[k + 1]'hj).toNat : Int) - 128 = ((ac (nb s) v (k + 1) : Nat) : Int) := by
              have e : ac (nb s) v (k + 1) = ac (nb s) v k * 64 + ((nb s).getD (k + 1) 0 - 128) := rfl
              rw [← HVV.out, ← hg] at e
              generalize ac (nb s) v (k + 1) = D at e ⊢
              omega
            have HST := Lib.hid hst
            clear hgo2 hst hg
            go_wp2
            go_roundw
            case rel => exact ⟨k + 1, by rw [HST.out], by go_num, by omega, HGO2.out, trivial⟩
            case measure => simp [intOf]; omega
      · have hkk : k = 3 := by omega
        subst hkk
        have HO2 := Lib.hid HO.out
        rw [show 4 - 1 = 3 from rfl, ← HVV.out] at HO2
        clear hlast hk
        by_cases hq1 : V < 65536
        · have HZ := Lib.hid (show R = 0 by
            rw [HR.out]
            apply HO2.out.2
            rintro ⟨-, a, -⟩
            rw [show lst 4 = 65536 from rfl] at a
            omega)
          go_wp2
          go_ret
          exact ⟨ret_i (by rw [HZ.out]; rfl), (Below.refl _ _).alloc (Nat.le_refl _) _⟩
        · by_cases hq2 : 1114111 < V
          · have HZ := Lib.hid (show R = 0 by
              rw [HR.out]
              apply HO2.out.2
              rintro ⟨-, -, a, -⟩
              omega)
            go_wp2
            go_ret
            exact ⟨ret_i (by rw [HZ.out]; rfl), (Below.refl _ _).alloc (Nat.le_refl _) _⟩
          · by_cases hq3 : V < 55296
            · exact absurd hq3 (by omega)
            · by_cases hq4 : V ≤ 57343
              · exact absurd hq4 (by omega)
              · have HZ := Lib.hid (show R = 4 by
                  rw [HR.out]
                  apply HO2.out.1
                  refine ⟨HGO.out, ?_, by omega, by omega⟩
                  rw [show lst 4 = 65536 from rfl]
                  omega)
                go_wp2
                go_ret
                exact ⟨ret_i (by rw [HZ.out]; rfl), (Below.refl _ _).alloc (Nat.le_refl _) _⟩

set_option maxRecDepth 100000 in
theorem One_any (s : ByteArray) (hs : s.size ≤ 4611686018427387904) (w : World) :
    Calls Try.prog 33 #[.string s] w fun e w' => e = .returned (.int .i64 ((one (nb s) : Nat) : Int)) ∧ Below w.heap.size w w' := by
  by_cases h0 : s.size = 0
  · have HZ := Lib.hid (show one (nb s) = 0 by unfold one; rw [if_pos (by rw [len_nb]; exact h0)])
    have hq : ((s.size : Int) == 0) = true := beq_iff_eq.2 (by omega)
    go_enter Try.func33, Try.ntmps33
    go_wp2
    go_ret
    exact ⟨ret_i (by rw [HZ.out]; rfl), Below.refl _ _⟩
  · have hpos : 0 < s.size := by omega
    have hb := byte_at s 0 hpos
    have hlen : (nb s).length ≠ 0 := by rw [len_nb]; omega
    have h256 : (s[0]'hpos).toNat < 256 := UInt8.toNat_lt _
    have hq : ((s.size : Int) == 0) = false := beq_eq_false_iff_ne.2 (by omega)
    by_cases c1 : (s[0]'hpos).toNat < 128
    · have HZ := Lib.hid (show one (nb s) = 1 by unfold one; rw [if_neg hlen, if_pos (by omega)])
      clear hb
      go_enter Try.func33, Try.ntmps33
      go_wp2
      go_ret
      exact ⟨ret_i (by rw [HZ.out]; rfl), Below.refl _ _⟩
    · by_cases c2 : (s[0]'hpos).toNat < 192
      · have HZ := Lib.hid (show one (nb s) = 0 by unfold one; rw [if_neg hlen, if_neg (by omega), if_neg (by omega), if_neg (by omega), if_neg (by omega)])
        have q2 : decide ((192 : Int) ≤ ((s[0]'hpos).toNat : Int)) = false := by simp; omega
        have q3 : decide ((224 : Int) ≤ ((s[0]'hpos).toNat : Int)) = false := by simp; omega
        have q4 : decide ((240 : Int) ≤ ((s[0]'hpos).toNat : Int)) = false := by simp; omega
        clear hb
        go_enter Try.func33, Try.ntmps33
        go_wp2
        go_ret
        exact ⟨ret_i (by rw [HZ.out]; rfl), Below.refl _ _⟩
      · by_cases c3 : (s[0]'hpos).toNat < 224
        · exact One_2 s _ hs hpos (by omega) c3 (Lib.hid rfl) w
        · by_cases c4 : (s[0]'hpos).toNat < 240
          · exact One_3 s _ hs hpos (by omega) c4 (Lib.hid rfl) w
          · by_cases c5 : (s[0]'hpos).toNat < 248
            · exact One_4 s _ hs hpos (by omega) c5 (Lib.hid rfl) w
            · have HZ := Lib.hid (show one (nb s) = 0 by unfold one; rw [if_neg hlen, if_neg (by omega), if_neg (by omega), if_neg (by omega), if_neg (by omega)])
              clear hb
              go_enter Try.func33, Try.ntmps33
              go_wp2
              go_ret
              exact ⟨ret_i (by rw [HZ.out]; rfl), Below.refl _ _⟩
end Go.Proofs.Ytbaihhkcnlhdmaa

