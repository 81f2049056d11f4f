/- num.Two, num.One, num.Bits. -/
import Derived.Test.YtdoejkdckokjdaaDoorSem
namespace Go.Proofs.YtdoejkdckokjdaaDoor
open Go.RowKit

theorem neq42f (k : Nat) (w : World) : (binOp .eql 42 (.func (.func k) #[] #[]) .nilFunc).run Tryd.prog w = .ok (.bool false) w := by kernel_rfl
theorem eql42n (w : World) : (binOp .eql 42 .nilFunc .nilFunc).run Tryd.prog w = .ok (.bool true) w := by kernel_rfl
theorem neq42g (k : Nat) (w : World) : (binOp .neq 42 (.func (.func k) #[] #[]) .nilFunc).run Tryd.prog w = .ok (.bool true) w := by kernel_rfl
theorem neq42n (w : World) : (binOp .neq 42 .nilFunc .nilFunc).run Tryd.prog w = .ok (.bool false) w := by kernel_rfl
theorem neq43f (k : Nat) (w : World) : (binOp .neq 43 (.func (.func k) #[] #[]) .nilFunc).run Tryd.prog w = .ok (.bool true) w := by kernel_rfl
theorem neq43n (w : World) : (binOp .neq 43 .nilFunc .nilFunc).run Tryd.prog w = .ok (.bool false) w := by kernel_rfl
theorem neq44f (k : Nat) (w : World) : (binOp .neq 44 (.func (.func k) #[] #[]) .nilFunc).run Tryd.prog w = .ok (.bool true) w := by kernel_rfl
theorem neq44n (w : World) : (binOp .neq 44 .nilFunc .nilFunc).run Tryd.prog w = .ok (.bool false) w := by kernel_rfl

theorem ent34 (args : Array Value) (w : World) : (callFunc 34 args).run Tryd.prog w = .ok (.enter 34 args) w := by kernel_rfl
theorem ent47 (args : Array Value) (w : World) : (callFunc 47 args).run Tryd.prog w = .ok (.enter 47 args) w := by kernel_rfl
theorem ent48 (args : Array Value) (w : World) : (callFunc 48 args).run Tryd.prog w = .ok (.enter 48 args) w := by kernel_rfl
theorem ent49 (args : Array Value) (w : World) : (callFunc 49 args).run Tryd.prog w = .ok (.enter 49 args) w := by kernel_rfl
theorem ent66 (args : Array Value) (w : World) : (callFunc 66 args).run Tryd.prog w = .ok (.enter 66 args) w := by kernel_rfl
theorem ent68 (args : Array Value) (w : World) : (callFunc 68 args).run Tryd.prog w = .ok (.enter 68 args) w := by kernel_rfl
theorem ent69 (args : Array Value) (w : World) : (callFunc 69 args).run Tryd.prog w = .ok (.enter 69 args) w := by kernel_rfl
theorem ent70 (args : Array Value) (w : World) : (callFunc 70 args).run Tryd.prog w = .ok (.enter 70 args) w := by kernel_rfl
theorem ent71 (args : Array Value) (w : World) : (callFunc 71 args).run Tryd.prog w = .ok (.enter 71 args) w := by kernel_rfl
theorem ent72 (args : Array Value) (w : World) : (callFunc 72 args).run Tryd.prog w = .ok (.enter 72 args) w := by kernel_rfl
theorem ent35 (args : Array Value) (w : World) : (callFunc 35 args).run Tryd.prog w = .ok (.enter 35 args) w := by kernel_rfl
theorem ent37 (args : Array Value) (w : World) : (callFunc 37 args).run Tryd.prog w = .ok (.enter 37 args) w := by kernel_rfl
theorem ent38 (args : Array Value) (w : World) : (callFunc 38 args).run Tryd.prog w = .ok (.enter 38 args) w := by kernel_rfl
theorem ent40 (args : Array Value) (w : World) : (callFunc 40 args).run Tryd.prog w = .ok (.enter 40 args) w := by kernel_rfl
theorem ent41 (args : Array Value) (w : World) : (callFunc 41 args).run Tryd.prog w = .ok (.enter 41 args) w := by kernel_rfl
theorem ent42 (args : Array Value) (w : World) : (callFunc 42 args).run Tryd.prog w = .ok (.enter 42 args) w := by kernel_rfl
theorem ent43 (args : Array Value) (w : World) : (callFunc 43 args).run Tryd.prog w = .ok (.enter 43 args) w := by kernel_rfl
theorem ent44 (args : Array Value) (w : World) : (callFunc 44 args).run Tryd.prog w = .ok (.enter 44 args) w := by kernel_rfl
theorem ent45 (args : Array Value) (w : World) : (callFunc 45 args).run Tryd.prog w = .ok (.enter 45 args) w := by kernel_rfl
theorem ent46 (args : Array Value) (w : World) : (callFunc 46 args).run Tryd.prog w = .ok (.enter 46 args) w := by kernel_rfl
theorem ent50 (args : Array Value) (w : World) : (callFunc 50 args).run Tryd.prog w = .ok (.enter 50 args) w := by kernel_rfl
theorem ent52 (args : Array Value) (w : World) : (callFunc 52 args).run Tryd.prog w = .ok (.enter 52 args) w := by kernel_rfl
theorem ent53 (args : Array Value) (w : World) : (callFunc 53 args).run Tryd.prog w = .ok (.enter 53 args) w := by kernel_rfl
theorem ent58 (args : Array Value) (w : World) : (callFunc 58 args).run Tryd.prog w = .ok (.enter 58 args) w := by kernel_rfl
theorem ent59 (args : Array Value) (w : World) : (callFunc 59 args).run Tryd.prog w = .ok (.enter 59 args) w := by kernel_rfl
theorem ent60 (args : Array Value) (w : World) : (callFunc 60 args).run Tryd.prog w = .ok (.enter 60 args) w := by kernel_rfl
theorem ent61 (args : Array Value) (w : World) : (callFunc 61 args).run Tryd.prog w = .ok (.enter 61 args) w := by kernel_rfl
theorem ent62 (args : Array Value) (w : World) : (callFunc 62 args).run Tryd.prog w = .ok (.enter 62 args) w := by kernel_rfl
theorem ent63 (args : Array Value) (w : World) : (callFunc 63 args).run Tryd.prog w = .ok (.enter 63 args) w := by kernel_rfl
theorem ent64 (args : Array Value) (w : World) : (callFunc 64 args).run Tryd.prog w = .ok (.enter 64 args) w := by kernel_rfl
theorem ent65 (args : Array Value) (w : World) : (callFunc 65 args).run Tryd.prog w = .ok (.enter 65 args) w := by kernel_rfl
theorem ent54 (args : Array Value) (w : World) : (callFunc 54 args).run Tryd.prog w = .ok (.enter 54 args) w := by kernel_rfl
theorem ent55 (args : Array Value) (w : World) : (callFunc 55 args).run Tryd.prog w = .ok (.enter 55 args) w := by kernel_rfl
theorem ent56 (args : Array Value) (w : World) : (callFunc 56 args).run Tryd.prog w = .ok (.enter 56 args) w := by kernel_rfl
theorem ent57 (args : Array Value) (w : World) : (callFunc 57 args).run Tryd.prog w = .ok (.enter 57 args) w := by kernel_rfl
theorem ent_one (p : Nat) (hp : p < 35) (h : (opc p).2.1 ≠ 0) (args : Array Value) (w : World) : (callFunc (opc p).2.1 args).run Tryd.prog w = .ok (.enter (opc p).2.1 args) w := by
  match p, hp, h with
  | 0, _, _ => exact ent34 args w
  | 11, _, _ => exact ent47 args w
  | 12, _, _ => exact ent48 args w
  | 13, _, _ => exact ent49 args w
  | 29, _, _ => exact ent66 args w
  | 30, _, _ => exact ent68 args w
  | 31, _, _ => exact ent69 args w
  | 32, _, _ => exact ent70 args w
  | 33, _, _ => exact ent71 args w
  | 34, _, _ => exact ent72 args w
  | 1, _, hk | 2, _, hk | 3, _, hk | 4, _, hk | 5, _, hk | 6, _, hk | 7, _, hk | 8, _, hk | 9, _, hk | 10, _, hk | 14, _, hk | 15, _, hk | 16, _, hk | 17, _, hk | 18, _, hk | 19, _, hk | 20, _, hk | 21, _, hk | 22, _, hk | 23, _, hk | 24, _, hk | 25, _, hk | 26, _, hk | 27, _, hk | 28, _, hk => exact absurd rfl hk
  | n + 35, hp, _ => omega
theorem ent_two (p : Nat) (hp : p < 35) (h : (opc p).2.2.1 ≠ 0) (args : Array Value) (w : World) : (callFunc (opc p).2.2.1 args).run Tryd.prog w = .ok (.enter (opc p).2.2.1 args) w := by
  match p, hp, h with
  | 1, _, _ => exact ent35 args w
  | 2, _, _ => exact ent37 args w
  | 3, _, _ => exact ent38 args w
  | 4, _, _ => exact ent40 args w
  | 5, _, _ => exact ent41 args w
  | 6, _, _ => exact ent42 args w
  | 7, _, _ => exact ent43 args w
  | 8, _, _ => exact ent44 args w
  | 9, _, _ => exact ent45 args w
  | 10, _, _ => exact ent46 args w
  | 14, _, _ => exact ent50 args w
  | 15, _, _ => exact ent52 args w
  | 16, _, _ => exact ent53 args w
  | 21, _, _ => exact ent58 args w
  | 22, _, _ => exact ent59 args w
  | 23, _, _ => exact ent60 args w
  | 24, _, _ => exact ent61 args w
  | 25, _, _ => exact ent62 args w
  | 26, _, _ => exact ent63 args w
  | 27, _, _ => exact ent64 args w
  | 28, _, _ => exact ent65 args w
  | 0, _, hk | 11, _, hk | 12, _, hk | 13, _, hk | 17, _, hk | 18, _, hk | 19, _, hk | 20, _, hk | 29, _, hk | 30, _, hk | 31, _, hk | 32, _, hk | 33, _, hk | 34, _, hk => exact absurd rfl hk
  | n + 35, hp, _ => omega
theorem ent_may (p : Nat) (hp : p < 35) (h : (opc p).2.2.2 ≠ 0) (args : Array Value) (w : World) : (callFunc (opc p).2.2.2 args).run Tryd.prog w = .ok (.enter (opc p).2.2.2 args) w := by
  match p, hp, h with
  | 17, _, _ => exact ent54 args w
  | 18, _, _ => exact ent55 args w
  | 19, _, _ => exact ent56 args w
  | 20, _, _ => exact ent57 args w
  | 0, _, hk | 1, _, hk | 2, _, hk | 3, _, hk | 4, _, hk | 5, _, hk | 6, _, hk | 7, _, hk | 8, _, hk | 9, _, hk | 10, _, hk | 11, _, hk | 12, _, hk | 13, _, hk | 14, _, hk | 15, _, hk | 16, _, hk | 21, _, hk | 22, _, hk | 23, _, hk | 24, _, hk | 25, _, hk | 26, _, hk | 27, _, hk | 28, _, hk | 29, _, hk | 30, _, hk | 31, _, hk | 32, _, hk | 33, _, hk | 34, _, hk => exact absurd rfl hk
  | n + 35, hp, _ => omega

theorem Two_two (op : Int) (a b W t k r : Nat) (w : World)
    (hF : Calls Tryd.prog 20 #[.int .i64 op] w fun e w' => e = .returned (.tuple #[.agg #[.int .i64 t, .nilFunc, .func (.func k) #[] #[], .nilFunc], .int .i64 W]) ∧ Below w.heap.size w w')
    (hA : ∀ w, Calls Tryd.prog 21 #[.int .u64 a, .int .i64 W] w fun e w' => e = .returned (.bool true) ∧ w = w')
    (hB : ∀ w, Calls Tryd.prog 21 #[.int .u64 b, .int .i64 W] w fun e w' => e = .returned (.bool true) ∧ w = w')
    (hE : ∀ (args : Array Value) (w : World), (callFunc k args).run Tryd.prog w = .ok (.enter k args) w)
    (hK : ∀ w1, Below w.heap.size w w1 → Calls Tryd.prog k #[.int .u64 a, .int .u64 b, .int .i64 W] w1 fun e w' => e = .returned (.int .u64 r) ∧ Below w1.heap.size w1 w') :
    Calls Tryd.prog 10 #[.int .i64 op, .int .u64 a, .int .u64 b] w fun e w' => e = .returned (.tuple #[.int .u64 r, .int .i64 0]) ∧ Below w.heap.size w w' := by
  have HF := Lib.hid hF
  have HA := Lib.hid hA
  have HB := Lib.hid hB
  have HK := Lib.hid hK
  clear hF hA hB hK
  have n1 := neq43f k
  go_enter Tryd.func10, Tryd.ntmps10
  go_wp2_with fail
  refine HF.out.mono ?_
  rintro e w1 ⟨rfl, b1⟩
  have B1 := Lib.hid b1
  clear b1
  go_wp2_with fail
  refine (HA.out _).mono ?_
  rintro e w2 ⟨rfl, rfl⟩
  go_wp2_with fail
  refine (HB.out _).mono ?_
  rintro e w2 ⟨rfl, rfl⟩
  go_wp2_with fail
  refine (HK.out _ (B1.out.alloc B1.out.size _)).mono ?_
  rintro e w3 ⟨rfl, b3⟩
  go_wp2
  go_ret2
  exact ⟨rfl, (B1.out.alloc B1.out.size _).trans (b3.mono (by have := B1.out.size; simp; omega))⟩

theorem Two_may (op : Int) (a b W t k r q : Nat) (w : World)
    (hF : Calls Tryd.prog 20 #[.int .i64 op] w fun e w' => e = .returned (.tuple #[.agg #[.int .i64 t, .nilFunc, .nilFunc, .func (.func k) #[] #[]], .int .i64 W]) ∧ Below w.heap.size w w')
    (hA : ∀ w, Calls Tryd.prog 21 #[.int .u64 a, .int .i64 W] w fun e w' => e = .returned (.bool true) ∧ w = w')
    (hB : ∀ w, Calls Tryd.prog 21 #[.int .u64 b, .int .i64 W] w fun e w' => e = .returned (.bool true) ∧ w = w')
    (hE : ∀ (args : Array Value) (w : World), (callFunc k args).run Tryd.prog w = .ok (.enter k args) w)
    (hK : ∀ w1, Below w.heap.size w w1 → Calls Tryd.prog k #[.int .u64 a, .int .u64 b, .int .i64 W] w1 fun e w' => e = .returned (.tuple #[.int .u64 r, .int .i64 q]) ∧ Below w1.heap.size w1 w') :
    Calls Tryd.prog 10 #[.int .i64 op, .int .u64 a, .int .u64 b] w fun e w' => e = .returned (.tuple #[.int .u64 r, .int .i64 q]) ∧ Below w.heap.size w w' := by
  have HF := Lib.hid hF
  have HA := Lib.hid hA
  have HB := Lib.hid hB
  have HK := Lib.hid hK
  clear hF hA hB hK
  have n1 := neq43n
  have n2 := neq44f k
  go_enter Tryd.func10, Tryd.ntmps10
  go_wp2_with fail
  refine HF.out.mono ?_
  rintro e w1 ⟨rfl, b1⟩
  have B1 := Lib.hid b1
  clear b1
  go_wp2_with fail
  refine (HA.out _).mono ?_
  rintro e w2 ⟨rfl, rfl⟩
  go_wp2_with fail
  refine (HB.out _).mono ?_
  rintro e w2 ⟨rfl, rfl⟩
  go_wp2_with fail
  refine (HK.out _ (B1.out.alloc B1.out.size _)).mono ?_
  rintro e w3 ⟨rfl, b3⟩
  go_wp2
  go_ret2
  exact ⟨rfl, (B1.out.alloc B1.out.size _).trans (b3.mono (by have := B1.out.size; simp; omega))⟩

theorem Two_nil (op : Int) (a b W t : Nat) (x : Value) (w : World)
    (hF : Calls Tryd.prog 20 #[.int .i64 op] w fun e w' => e = .returned (.tuple #[.agg #[.int .i64 t, x, .nilFunc, .nilFunc], .int .i64 W]) ∧ Below w.heap.size w w')
    (hx : x.oneCell' = true)
    (hA : ∀ w, Calls Tryd.prog 21 #[.int .u64 a, .int .i64 W] w fun e w' => e = .returned (.bool true) ∧ w = w')
    (hB : ∀ w, Calls Tryd.prog 21 #[.int .u64 b, .int .i64 W] w fun e w' => e = .returned (.bool true) ∧ w = w') :
    Calls Tryd.prog 10 #[.int .i64 op, .int .u64 a, .int .u64 b] w fun e w' => e = .returned (.tuple #[.int .u64 0, .int .i64 2]) ∧ Below w.heap.size w w' := by
  have st : ∀ (W : World) (p : Addr) (md : Mode), (store p x md).run Tryd.prog W = stored Tryd.prog W p x md := fun W p md => run_store _ W p _ md hx
  have HF := Lib.hid hF
  have HA := Lib.hid hA
  have HB := Lib.hid hB
  clear hF hA hB
  have n1 := neq43n
  have n2 := neq44n
  go_enter Tryd.func10, Tryd.ntmps10
  go_wp2_with fail
  refine HF.out.mono ?_
  rintro e w1 ⟨rfl, b1⟩
  have B1 := Lib.hid b1
  clear b1
  go_wp2_with fail
  refine (HA.out _).mono ?_
  rintro e w2 ⟨rfl, rfl⟩
  go_wp2_with fail
  refine (HB.out _).mono ?_
  rintro e w2 ⟨rfl, rfl⟩
  go_wp2
  go_ret2
  exact ⟨rfl, (B1.out.alloc B1.out.size _)⟩

theorem Two_bad1 (op : Int) (a b W t : Nat) (x y z : Value) (w : World)
    (hF : Calls Tryd.prog 20 #[.int .i64 op] w fun e w' => e = .returned (.tuple #[.agg #[.int .i64 t, x, y, z], .int .i64 W]) ∧ Below w.heap.size w w')
    (hx : x.oneCell' = true) (hy : y.oneCell' = true) (hz : z.oneCell' = true)
    (hA : ∀ w, Calls Tryd.prog 21 #[.int .u64 a, .int .i64 W] w fun e w' => e = .returned (.bool false) ∧ w = w') :
    Calls Tryd.prog 10 #[.int .i64 op, .int .u64 a, .int .u64 b] w fun e w' => e = .returned (.tuple #[.int .u64 0, .int .i64 2]) ∧ Below w.heap.size w w' := by
  have st1 : ∀ (W : World) (p : Addr) (md : Mode), (store p x md).run Tryd.prog W = stored Tryd.prog W p x md := fun W p md => run_store _ W p _ md hx
  have st2 : ∀ (W : World) (p : Addr) (md : Mode), (store p y md).run Tryd.prog W = stored Tryd.prog W p y md := fun W p md => run_store _ W p _ md hy
  have st3 : ∀ (W : World) (p : Addr) (md : Mode), (store p z md).run Tryd.prog W = stored Tryd.prog W p z md := fun W p md => run_store _ W p _ md hz
  have HF := Lib.hid hF
  have HA := Lib.hid hA
  clear hF hA
  go_enter Tryd.func10, Tryd.ntmps10
  go_wp2_with fail
  refine HF.out.mono ?_
  rintro e w1 ⟨rfl, b1⟩
  have B1 := Lib.hid b1
  clear b1
  go_wp2_with fail
  refine (HA.out _).mono ?_
  rintro e w2 ⟨rfl, rfl⟩
  go_wp2
  go_ret2
  exact ⟨rfl, (B1.out.alloc B1.out.size _)⟩

theorem Two_bad2 (op : Int) (a b W t : Nat) (x y z : Value) (w : World)
    (hF : Calls Tryd.prog 20 #[.int .i64 op] w fun e w' => e = .returned (.tuple #[.agg #[.int .i64 t, x, y, z], .int .i64 W]) ∧ Below w.heap.size w w')
    (hx : x.oneCell' = true) (hy : y.oneCell' = true) (hz : z.oneCell' = true)
    (hA : ∀ w, Calls Tryd.prog 21 #[.int .u64 a, .int .i64 W] w fun e w' => e = .returned (.bool true) ∧ w = w')
    (hB : ∀ w, Calls Tryd.prog 21 #[.int .u64 b, .int .i64 W] w fun e w' => e = .returned (.bool false) ∧ w = w') :
    Calls Tryd.prog 10 #[.int .i64 op, .int .u64 a, .int .u64 b] w fun e w' => e = .returned (.tuple #[.int .u64 0, .int .i64 2]) ∧ Below w.heap.size w w' := by
  have st1 : ∀ (W : World) (p : Addr) (md : Mode), (store p x md).run Tryd.prog W = stored Tryd.prog W p x md := fun W p md => run_store _ W p _ md hx
  have st2 : ∀ (W : World) (p : Addr) (md : Mode), (store p y md).run Tryd.prog W = stored Tryd.prog W p y md := fun W p md => run_store _ W p _ md hy
  have st3 : ∀ (W : World) (p : Addr) (md : Mode), (store p z md).run Tryd.prog W = stored Tryd.prog W p z md := fun W p md => run_store _ W p _ md hz
  have HF := Lib.hid hF
  have HA := Lib.hid hA
  have HB := Lib.hid hB
  clear hF hA hB
  go_enter Tryd.func10, Tryd.ntmps10
  go_wp2_with fail
  refine HF.out.mono ?_
  rintro e w1 ⟨rfl, b1⟩
  have B1 := Lib.hid b1
  clear b1
  go_wp2_with fail
  refine (HA.out _).mono ?_
  rintro e w2 ⟨rfl, rfl⟩
  go_wp2_with fail
  refine (HB.out _).mono ?_
  rintro e w2 ⟨rfl, rfl⟩
  go_wp2
  go_ret2
  exact ⟨rfl, (B1.out.alloc B1.out.size _)⟩

theorem One_one (op : Int) (a W t k r : Nat) (w : World)
    (hF : Calls Tryd.prog 20 #[.int .i64 op] w fun e w' => e = .returned (.tuple #[.agg #[.int .i64 t, .func (.func k) #[] #[], .nilFunc, .nilFunc], .int .i64 W]) ∧ Below w.heap.size w w')
    (hA : ∀ w, Calls Tryd.prog 21 #[.int .u64 a, .int .i64 W] w fun e w' => e = .returned (.bool true) ∧ w = w')
    (hE : ∀ (args : Array Value) (w : World), (callFunc k args).run Tryd.prog w = .ok (.enter k args) w)
    (hK : ∀ w1, Below w.heap.size w w1 → Calls Tryd.prog k #[.int .u64 a, .int .i64 W] w1 fun e w' => e = .returned (.int .u64 r) ∧ Below w1.heap.size w1 w') :
    Calls Tryd.prog 15 #[.int .i64 op, .int .u64 a] w fun e w' => e = .returned (.tuple #[.int .u64 r, .int .i64 0]) ∧ Below w.heap.size w w' := by
  have HF := Lib.hid hF
  have HA := Lib.hid hA
  have HK := Lib.hid hK
  clear hF hA hK
  have n1 := neq42f k
  go_enter Tryd.func15, Tryd.ntmps15
  go_wp2_with fail
  refine HF.out.mono ?_
  rintro e w1 ⟨rfl, b1⟩
  have B1 := Lib.hid b1
  clear b1
  go_wp2_with fail
  refine (HA.out _).mono ?_
  rintro e w2 ⟨rfl, rfl⟩
  go_wp2_with fail
  refine (HK.out _ (B1.out.alloc B1.out.size _)).mono ?_
  rintro e w3 ⟨rfl, b3⟩
  go_wp2
  go_ret2
  exact ⟨rfl, (B1.out.alloc B1.out.size _).trans (b3.mono (by have := B1.out.size; simp; omega))⟩

theorem One_bad (op : Int) (a W t k : Nat) (w : World)
    (hF : Calls Tryd.prog 20 #[.int .i64 op] w fun e w' => e = .returned (.tuple #[.agg #[.int .i64 t, .func (.func k) #[] #[], .nilFunc, .nilFunc], .int .i64 W]) ∧ Below w.heap.size w w')
    (hA : ∀ w, Calls Tryd.prog 21 #[.int .u64 a, .int .i64 W] w fun e w' => e = .returned (.bool false) ∧ w = w') :
    Calls Tryd.prog 15 #[.int .i64 op, .int .u64 a] w fun e w' => e = .returned (.tuple #[.int .u64 0, .int .i64 2]) ∧ Below w.heap.size w w' := by
  have HF := Lib.hid hF
  have HA := Lib.hid hA
  clear hF hA
  have n1 := neq42f k
  go_enter Tryd.func15, Tryd.ntmps15
  go_wp2_with fail
  refine HF.out.mono ?_
  rintro e w1 ⟨rfl, b1⟩
  have B1 := Lib.hid b1
  clear b1
  go_wp2_with fail
  refine (HA.out _).mono ?_
  rintro e w2 ⟨rfl, rfl⟩
  go_wp2
  go_ret2
  exact ⟨rfl, (B1.out.alloc B1.out.size _)⟩

theorem One_nil (op : Int) (a W t : Nat) (y z : Value) (w : World)
    (hF : Calls Tryd.prog 20 #[.int .i64 op] w fun e w' => e = .returned (.tuple #[.agg #[.int .i64 t, .nilFunc, y, z], .int .i64 W]) ∧ Below w.heap.size w w')
    (hy : y.oneCell' = true) (hz : z.oneCell' = true) :
    Calls Tryd.prog 15 #[.int .i64 op, .int .u64 a] w fun e w' => e = .returned (.tuple #[.int .u64 0, .int .i64 2]) ∧ Below w.heap.size w w' := by
  have st2 : ∀ (W : World) (p : Addr) (md : Mode), (store p y md).run Tryd.prog W = stored Tryd.prog W p y md := fun W p md => run_store _ W p _ md hy
  have st3 : ∀ (W : World) (p : Addr) (md : Mode), (store p z md).run Tryd.prog W = stored Tryd.prog W p z md := fun W p md => run_store _ W p _ md hz
  have HF := Lib.hid hF
  clear hF
  have n1 := eql42n
  go_enter Tryd.func15, Tryd.ntmps15
  go_wp2_with fail
  refine HF.out.mono ?_
  rintro e w1 ⟨rfl, b1⟩
  have B1 := Lib.hid b1
  clear b1
  go_wp2
  go_ret2
  exact ⟨rfl, (B1.out.alloc B1.out.size _)⟩

theorem Bits_none (op : Int) (t : Nat) (x y z : Value) (w : World)
    (hF : Calls Tryd.prog 20 #[.int .i64 op] w fun e w' => e = .returned (.tuple #[.agg #[.int .i64 t, x, y, z], .int .i64 0]) ∧ Below w.heap.size w w')
    (hx : x.oneCell' = true) (hy : y.oneCell' = true) (hz : z.oneCell' = true) :
    Calls Tryd.prog 18 #[.int .i64 op] w fun e w' => e = .returned (.tuple #[.int .i64 0, .int .i64 0, .int .i64 0]) ∧ Below w.heap.size w w' := by
  have st1 : ∀ (W : World) (p : Addr) (md : Mode), (store p x md).run Tryd.prog W = stored Tryd.prog W p x md := fun W p md => run_store _ W p _ md hx
  have st2 : ∀ (W : World) (p : Addr) (md : Mode), (store p y md).run Tryd.prog W = stored Tryd.prog W p y md := fun W p md => run_store _ W p _ md hy
  have st3 : ∀ (W : World) (p : Addr) (md : Mode), (store p z md).run Tryd.prog W = stored Tryd.prog W p z md := fun W p md => run_store _ W p _ md hz
  have HF := Lib.hid hF
  clear hF
  go_enter Tryd.func18, Tryd.ntmps18
  go_wp2_with fail
  refine HF.out.mono ?_
  rintro e w1 ⟨rfl, b1⟩
  have B1 := Lib.hid b1
  clear b1
  go_wp2
  refine bodyPost_ret (v := .tuple #[.int .i64 0, .int .i64 0, .int .i64 0]) (by simp [results, Tryd.results18, go_sem]) rfl ⟨rfl, (B1.out.alloc B1.out.size _)⟩

theorem Bits_one_z (op : Int) (W t k : Nat) (y z : Value) (w : World) (hW : W ≠ 0) (ht : t = 0)
    (hF : Calls Tryd.prog 20 #[.int .i64 op] w fun e w' => e = .returned (.tuple #[.agg #[.int .i64 t, .func (.func k) #[] #[], y, z], .int .i64 W]) ∧ Below w.heap.size w w')
    (hy : y.oneCell' = true) (hz : z.oneCell' = true) :
    Calls Tryd.prog 18 #[.int .i64 op] w fun e w' => e = .returned (.tuple #[.int .i64 W, .int .i64 W, .int .i64 1]) ∧ Below w.heap.size w w' := by
  have st2 : ∀ (W : World) (p : Addr) (md : Mode), (store p y md).run Tryd.prog W = stored Tryd.prog W p y md := fun W p md => run_store _ W p _ md hy
  have st3 : ∀ (W : World) (p : Addr) (md : Mode), (store p z md).run Tryd.prog W = stored Tryd.prog W p z md := fun W p md => run_store _ W p _ md hz
  have HF := Lib.hid hF
  clear hF
  have hw0 : ((W : Int) == 0) = false := by simp; omega
  subst ht
  have n1 := neq42g k
  clear hW
  go_enter Tryd.func18, Tryd.ntmps18
  go_wp2_with fail
  refine HF.out.mono ?_
  rintro e w1 ⟨rfl, b1⟩
  have B1 := Lib.hid b1
  clear b1
  go_wp2
  refine bodyPost_ret (v := .tuple #[.int .i64 W, .int .i64 W, .int .i64 1]) (by simp [results, Tryd.results18, go_sem]) rfl ⟨rfl, (B1.out.alloc B1.out.size _)⟩

theorem Bits_one (op : Int) (W t k : Nat) (y z : Value) (w : World) (hW : W ≠ 0) (ht : t ≠ 0)
    (hF : Calls Tryd.prog 20 #[.int .i64 op] w fun e w' => e = .returned (.tuple #[.agg #[.int .i64 t, .func (.func k) #[] #[], y, z], .int .i64 W]) ∧ Below w.heap.size w w')
    (hy : y.oneCell' = true) (hz : z.oneCell' = true) :
    Calls Tryd.prog 18 #[.int .i64 op] w fun e w' => e = .returned (.tuple #[.int .i64 W, .int .i64 t, .int .i64 1]) ∧ Below w.heap.size w w' := by
  have st2 : ∀ (W : World) (p : Addr) (md : Mode), (store p y md).run Tryd.prog W = stored Tryd.prog W p y md := fun W p md => run_store _ W p _ md hy
  have st3 : ∀ (W : World) (p : Addr) (md : Mode), (store p z md).run Tryd.prog W = stored Tryd.prog W p z md := fun W p md => run_store _ W p _ md hz
  have HF := Lib.hid hF
  clear hF
  have hw0 : ((W : Int) == 0) = false := by simp; omega
  have ht0 : ((t : Int) == 0) = false := by simp; omega
  clear ht
  have n1 := neq42g k
  clear hW
  go_enter Tryd.func18, Tryd.ntmps18
  go_wp2_with fail
  refine HF.out.mono ?_
  rintro e w1 ⟨rfl, b1⟩
  have B1 := Lib.hid b1
  clear b1
  go_wp2
  refine bodyPost_ret (v := .tuple #[.int .i64 W, .int .i64 t, .int .i64 1]) (by simp [results, Tryd.results18, go_sem]) rfl ⟨rfl, (B1.out.alloc B1.out.size _)⟩

theorem Bits_two_z (op : Int) (W t  : Nat) (y z : Value) (w : World) (hW : W ≠ 0) (ht : t = 0)
    (hF : Calls Tryd.prog 20 #[.int .i64 op] w fun e w' => e = .returned (.tuple #[.agg #[.int .i64 t, .nilFunc, y, z], .int .i64 W]) ∧ Below w.heap.size w w')
    (hy : y.oneCell' = true) (hz : z.oneCell' = true) :
    Calls Tryd.prog 18 #[.int .i64 op] w fun e w' => e = .returned (.tuple #[.int .i64 W, .int .i64 W, .int .i64 2]) ∧ Below w.heap.size w w' := by
  have st2 : ∀ (W : World) (p : Addr) (md : Mode), (store p y md).run Tryd.prog W = stored Tryd.prog W p y md := fun W p md => run_store _ W p _ md hy
  have st3 : ∀ (W : World) (p : Addr) (md : Mode), (store p z md).run Tryd.prog W = stored Tryd.prog W p z md := fun W p md => run_store _ W p _ md hz
  have HF := Lib.hid hF
  clear hF
  have hw0 : ((W : Int) == 0) = false := by simp; omega
  subst ht
  have n1 := neq42n
  clear hW
  go_enter Tryd.func18, Tryd.ntmps18
  go_wp2_with fail
  refine HF.out.mono ?_
  rintro e w1 ⟨rfl, b1⟩
  have B1 := Lib.hid b1
  clear b1
  go_wp2
  refine bodyPost_ret (v := .tuple #[.int .i64 W, .int .i64 W, .int .i64 2]) (by simp [results, Tryd.results18, go_sem]) rfl ⟨rfl, (B1.out.alloc B1.out.size _)⟩

theorem Bits_two (op : Int) (W t  : Nat) (y z : Value) (w : World) (hW : W ≠ 0) (ht : t ≠ 0)
    (hF : Calls Tryd.prog 20 #[.int .i64 op] w fun e w' => e = .returned (.tuple #[.agg #[.int .i64 t, .nilFunc, y, z], .int .i64 W]) ∧ Below w.heap.size w w')
    (hy : y.oneCell' = true) (hz : z.oneCell' = true) :
    Calls Tryd.prog 18 #[.int .i64 op] w fun e w' => e = .returned (.tuple #[.int .i64 W, .int .i64 t, .int .i64 2]) ∧ Below w.heap.size w w' := by
  have st2 : ∀ (W : World) (p : Addr) (md : Mode), (store p y md).run Tryd.prog W = stored Tryd.prog W p y md := fun W p md => run_store _ W p _ md hy
  have st3 : ∀ (W : World) (p : Addr) (md : Mode), (store p z md).run Tryd.prog W = stored Tryd.prog W p z md := fun W p md => run_store _ W p _ md hz
  have HF := Lib.hid hF
  clear hF
  have hw0 : ((W : Int) == 0) = false := by simp; omega
  have ht0 : ((t : Int) == 0) = false := by simp; omega
  clear ht
  have n1 := neq42n
  clear hW
  go_enter Tryd.func18, Tryd.ntmps18
  go_wp2_with fail
  refine HF.out.mono ?_
  rintro e w1 ⟨rfl, b1⟩
  have B1 := Lib.hid b1
  clear b1
  go_wp2
  refine bodyPost_ret (v := .tuple #[.int .i64 W, .int .i64 t, .int .i64 2]) (by simp [results, Tryd.results18, go_sem]) rfl ⟨rfl, (B1.out.alloc B1.out.size _)⟩


theorem fnV_one' (k : Nat) : (fnV k).oneCell' = true := fnV_one k
theorem within0 (a : Nat) (w : World) : Calls Tryd.prog 21 #[.int .u64 a, .int .i64 0] w fun e w' => e = .returned (.bool (decide (a = 0))) ∧ w = w' := by
  go_enter Tryd.func21, Tryd.ntmps21
  go_wp2
  go_ret
  exact ⟨ret_b (by rw [Bool.eq_iff_iff]; simp), rfl⟩
theorem within_is {W M : Nat} (h : Wd W M) (a : Nat) (ha : a < 18446744073709551616) (b : Bool) (hb : decide (a < M) = b) (w : World) : Calls Tryd.prog 21 #[.int .u64 a, .int .i64 W] w fun e w' => e = .returned (.bool b) ∧ w = w' := by
  have := within_any h a ha w
  rw [hb] at this; exact this

theorem Two_any (op : Int) (h1 : -9223372036854775808 ≤ op) (h2 : op < 9223372036854775808) (a b : Nat) (ha : a < 18446744073709551616) (hb : b < 18446744073709551616) (w : World) (hL : Laid w) :
    Calls Tryd.prog 10 #[.int .i64 op, .int .u64 a, .int .u64 b] w fun e w' => e = .returned (.tuple #[.int .u64 (((twoV op a b).1 : Nat) : Int), .int .i64 (((twoV op a b).2 : Nat) : Int)]) ∧ Below w.heap.size w w' := by
  have hF := find_any op h1 h2 w hL
  unfold findV at hF
  unfold twoV
  cases hh : hit op with
  | none =>
    rw [hh] at hF
    dsimp only at hF ⊢
    by_cases h0 : a = 0
    · by_cases h00 : b = 0
      · exact Two_nil op a b 0 0 .nilFunc w hF rfl (fun w => by have := within0 a w; rwa [decide_eq_true h0] at this) (fun w => by have := within0 b w; rwa [decide_eq_true h00] at this)
      · exact Two_bad2 op a b 0 0 .nilFunc .nilFunc .nilFunc w hF rfl rfl rfl (fun w => by have := within0 a w; rwa [decide_eq_true h0] at this) (fun w => by have := within0 b w; rwa [decide_eq_false h00] at this)
    · exact Two_bad1 op a b 0 0 .nilFunc .nilFunc .nilFunc w hF rfl rfl rfl (fun w => by have := within0 a w; rwa [decide_eq_false h0] at this)
  | some q =>
    obtain ⟨p, W⟩ := q
    rw [hh] at hF
    dsimp only at hF ⊢
    obtain ⟨hp, hW, _⟩ := hit_wd op p W hh
    unfold opV at hF
    by_cases hla : a < po W
    · by_cases hlb : b < po W
      · rw [if_pos ⟨hla, hlb⟩]
        rcases opc_kind p hp with ⟨k1, k2, k3⟩ | ⟨k1, k2, k3⟩ | ⟨k1, k2, k3⟩
        · rw [k2, k3, fnV_zero] at hF
          rw [bin_none p hp k1]
          exact Two_nil op a b W (opc p).1 (fnV (opc p).2.1) w hF (fnV_one _) (within_is hW a ha true (by simpa using hla)) (within_is hW b hb true (by simpa using hlb))
        · rw [k1, k3, fnV_zero, fnV_pos k2] at hF
          have hz := (two_fn p hp k2 hW a b hla hlb w).2
          rw [hz]
          exact Two_two op a b W (opc p).1 (opc p).2.2.1 _ w hF (within_is hW a ha true (by simpa using hla)) (within_is hW b hb true (by simpa using hlb)) (ent_two p hp k2) (fun w1 _ => (two_fn p hp k2 hW a b hla hlb w1).1)
        · rw [k1, k2, fnV_zero, fnV_pos k3] at hF
          exact Two_may op a b W (opc p).1 (opc p).2.2.2 _ _ w hF (within_is hW a ha true (by simpa using hla)) (within_is hW b hb true (by simpa using hlb)) (ent_may p hp k3) (fun w1 _ => may_fn p hp k3 hW a b hla hlb w1)
      · rw [if_neg (fun h => hlb h.2)]
        exact Two_bad2 op a b W (opc p).1 _ _ _ w hF (fnV_one _) (fnV_one _) (fnV_one _) (within_is hW a ha true (by simpa using hla)) (within_is hW b hb false (by simpa using hlb))
    · rw [if_neg (fun h => hla h.1)]
      exact Two_bad1 op a b W (opc p).1 _ _ _ w hF (fnV_one _) (fnV_one _) (fnV_one _) (within_is hW a ha false (by simpa using hla))

theorem One_any (op : Int) (h1 : -9223372036854775808 ≤ op) (h2 : op < 9223372036854775808) (a : Nat) (ha : a < 18446744073709551616) (w : World) (hL : Laid w) :
    Calls Tryd.prog 15 #[.int .i64 op, .int .u64 a] w fun e w' => e = .returned (.tuple #[.int .u64 (((oneV op a).1 : Nat) : Int), .int .i64 (((oneV op a).2 : Nat) : Int)]) ∧ Below w.heap.size w w' := by
  have hF := find_any op h1 h2 w hL
  unfold findV at hF
  unfold oneV
  cases hh : hit op with
  | none =>
    rw [hh] at hF
    dsimp only at hF ⊢
    exact One_nil op a 0 0 .nilFunc .nilFunc w hF rfl rfl
  | some q =>
    obtain ⟨p, W⟩ := q
    rw [hh] at hF
    dsimp only at hF ⊢
    obtain ⟨hp, hW, h33⟩ := hit_wd op p W hh
    unfold opV at hF
    by_cases k1 : (opc p).2.1 = 0
    · rw [k1, fnV_zero] at hF
      rw [una_none p hp k1]
      rw [show (if a < po W then ((0 : Nat), (2 : Nat)) else (0, 2)) = (0, 2) by split <;> rfl]
      exact One_nil op a W (opc p).1 _ _ w hF (fnV_one _) (fnV_one _)
    · have k23 : (opc p).2.2.1 = 0 ∧ (opc p).2.2.2 = 0 := by
        rcases opc_kind p hp with ⟨_, k2, k3⟩ | ⟨k1', _, _⟩ | ⟨k1', _, _⟩
        · exact ⟨k2, k3⟩
        · exact absurd k1' k1
        · exact absurd k1' k1
      rw [k23.1, k23.2, fnV_zero, fnV_pos k1] at hF
      by_cases hla : a < po W
      · rw [if_pos hla]
        have hz := (one_fn p hp k1 hW h33 a hla w hL).2
        rw [hz]
        exact One_one op a W (opc p).1 (opc p).2.1 _ w hF (within_is hW a ha true (by simpa using hla)) (ent_one p hp k1) (fun w1 b1 => (one_fn p hp k1 hW h33 a hla w1 (hL.kept b1)).1)
      · rw [if_neg hla]
        exact One_bad op a W (opc p).1 (opc p).2.1 w hF (within_is hW a ha false (by simpa using hla))

/-- num.Bits -/
def bitsV (op : Int) : Nat × Nat × Nat := match hit op with
  | some (p, W) => (W, if (opc p).1 = 0 then W else (opc p).1, if (opc p).2.1 = 0 then 2 else 1)
  | none => (0, 0, 0)

theorem Bits_any (op : Int) (h1 : -9223372036854775808 ≤ op) (h2 : op < 9223372036854775808) (w : World) (hL : Laid w) :
    Calls Tryd.prog 18 #[.int .i64 op] w fun e w' => e = .returned (.tuple #[.int .i64 (((bitsV op).1 : Nat) : Int), .int .i64 (((bitsV op).2.1 : Nat) : Int), .int .i64 (((bitsV op).2.2 : Nat) : Int)]) ∧ Below w.heap.size w w' := by
  have hF := find_any op h1 h2 w hL
  unfold findV at hF
  unfold bitsV
  cases hh : hit op with
  | none =>
    rw [hh] at hF
    dsimp only at hF ⊢
    exact Bits_none op 0 .nilFunc .nilFunc .nilFunc w hF rfl rfl rfl
  | some q =>
    obtain ⟨p, W⟩ := q
    rw [hh] at hF
    dsimp only at hF ⊢
    obtain ⟨hp, hW, h33⟩ := hit_wd op p W hh
    have hW0 : W ≠ 0 := by have := hW.lt; omega
    unfold opV at hF
    by_cases k1 : (opc p).2.1 = 0
    · rw [k1, fnV_zero] at hF
      rw [if_pos k1]
      by_cases t0 : (opc p).1 = 0
      · rw [if_pos t0]
        exact Bits_two_z op W (opc p).1 _ _ w hW0 t0 hF (fnV_one _) (fnV_one _)
      · rw [if_neg t0]
        exact Bits_two op W (opc p).1 _ _ w hW0 t0 hF (fnV_one _) (fnV_one _)
    · rw [fnV_pos k1] at hF
      rw [if_neg k1]
      by_cases t0 : (opc p).1 = 0
      · rw [if_pos t0]
        exact Bits_one_z op W (opc p).1 _ _ _ w hW0 t0 hF (fnV_one _) (fnV_one _)
      · rw [if_neg t0]
        exact Bits_one op W (opc p).1 _ _ _ w hW0 t0 hF (fnV_one _) (fnV_one _)

end Go.Proofs.YtdoejkdckokjdaaDoor
