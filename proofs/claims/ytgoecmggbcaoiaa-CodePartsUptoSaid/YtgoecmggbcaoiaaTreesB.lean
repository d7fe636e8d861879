/- The functions' trees, printed by a program (wip/tools/Emit.lean) and checked by the kernel against the model's own code. -/
import Derived.Test.YtgoecmggbcaoiaaTreesA
import Derived.Test.YtgoecmggbcaoiaaProg
namespace Go.Proofs.Ytgoecmggbcaoiaa
open Go hiding Expr
open Go.Proofs.Ytgoecmggbcaoiaa.Tr
set_option linter.unusedVariables false
set_option maxRecDepth 100000
def t3 (o0 : Option Addr) (n1 n2 : Nat) (i3 : Int) : T :=
  T.call 10 [Value.slice o0 n1 n2] fun v4 =>
  T.asU v4 fun l5 =>
    T.req (List.length l5 = 2)
    (T.asS (List.headD l5 (Value.tuple (Array.mk []))) fun o6 n7 n8 =>
    T.asI IntKind.i64 (List.headD (List.tail l5) (Value.tuple (Array.mk []))) fun i9 =>
    T.call 11 [Value.slice o0 n1 n2] fun v10 =>
    T.asU v10 fun l11 =>
    T.req (List.length l11 = 2)
    (T.asS (List.headD l11 (Value.tuple (Array.mk []))) fun o12 n13 n14 =>
    T.asI IntKind.i64 (List.headD (List.tail l11) (Value.tuple (Array.mk []))) fun i15 =>
    T.call 12 [Value.int IntKind.i64 i3] fun v16 =>
    T.asU v16 fun l17 =>
    T.req (List.length l17 = 2)
    (T.asI IntKind.i64 (List.headD l17 (Value.tuple (Array.mk []))) fun i18 =>
    T.asB (List.headD (List.tail l17) (Value.tuple (Array.mk []))) fun b19 =>
    T.call 13 [Value.int IntKind.i64 i3] fun v20 =>
    T.asI IntKind.i64 v20 fun i21 =>
    T.call 14 [] fun v22 =>
    T.asB v22 fun b23 =>
    T.ite b23
    (T.ite (i9 == i15)
    (T.call 15 [Value.slice o6 n7 n8, Value.slice o12 n13 n14] fun v24 =>
    T.asB v24 fun b25 =>
    T.ite b25 (T.ite (i18 == i21) (T.ret (Value.bool (b19 == decide (i21 > 0)))) (T.ret (Value.bool false)))
    (T.ret (Value.bool false)))
    (T.ret (Value.bool false)))
    (T.ret (Value.bool false)))))
theorem e3 (o0 : Option Addr) (n1 n2 : Nat) (i3 : Int) : treeOf Try.prog Try.f3 (codeOf Try.f3) .n [.v (.slice o0 n1 n2), .v (.int .i64 i3)] = (t3 o0 n1 n2 i3) := by kernel_rfl
theorem c3 (o0 : Option Addr) (n1 n2 : Nat) (i3 : Int) {w : World} {R : Ending → World → Prop} (h : (t3 o0 n1 n2 i3).sem Try.prog R ρ0 w) : Calls Try.prog 3 #[.slice o0 n1 n2, .int .i64 i3] w R :=
  calls_of mixed Try.func3 rfl rfl (e3 o0 n1 n2 i3) h
def t17 (o0 : Option Addr) (n1 n2 : Nat) : T :=
  T.call 46 [Value.slice o0 n1 n2] fun v3 =>
  T.asS v3 fun o4 n5 n6 =>
    T.new (Obj.cells (Array.mk [Value.slice none 0 0]) 23) fun n7 =>
    T.st n7 0 (Value.slice o4 n5 n6) (T.ret (Value.func (Fn.func 47) (Array.mk []) (Array.mk [Value.pointer (some (Addr.mk n7 0 none))])))
theorem e17 (o0 : Option Addr) (n1 n2 : Nat) : treeOf Try.prog Try.f17 (codeOf Try.f17) .n [.v (.slice o0 n1 n2)] = (t17 o0 n1 n2) := by kernel_rfl
theorem c17 (o0 : Option Addr) (n1 n2 : Nat) {w : World} {R : Ending → World → Prop} (h : (t17 o0 n1 n2).sem Try.prog R ρ0 w) : Calls Try.prog 17 #[.slice o0 n1 n2] w R :=
  calls_of mixed Try.func17 rfl rfl (e17 o0 n1 n2) h
def t46 (o0 : Option Addr) (n1 n2 : Nat) : T :=
  T.ite (Option.isNone o0) (T.ret (Value.slice none 0 0))
  (T.new (Obj.cells (Array.mk []) 5) fun n3 =>
    T.run (biV Builtin.append (Array.mk [23, 23]) 23 (Array.mk [Value.slice (some (Addr.mk n3 0 none)) 0 0, Value.slice o0 n1 n2])) fun v4 =>
    T.asS v4 fun o5 n6 n7 => T.ret (Value.slice o5 n6 n7))
theorem e46 (o0 : Option Addr) (n1 n2 : Nat) : treeOf Try.prog Try.f46 (codeOf Try.f46) .n [.v (.slice o0 n1 n2)] = (t46 o0 n1 n2) := by kernel_rfl
theorem c46 (o0 : Option Addr) (n1 n2 : Nat) {w : World} {R : Ending → World → Prop} (h : (t46 o0 n1 n2).sem Try.prog R ρ0 w) : Calls Try.prog 46 #[.slice o0 n1 n2] w R :=
  calls_of mixed Try.func46 rfl rfl (e46 o0 n1 n2) h
def t24 (o0 : Option Addr) (n1 n2 : Nat) : T :=
  T.ite (Option.isNone o0) (T.ret (Value.slice none 0 0))
  (T.new (Obj.cells (Array.mk []) 5) fun n3 =>
    T.run (biV Builtin.append (Array.mk [23, 23]) 23 (Array.mk [Value.slice (some (Addr.mk n3 0 none)) 0 0, Value.slice o0 n1 n2])) fun v4 =>
    T.asS v4 fun o5 n6 n7 => T.ret (Value.slice o5 n6 n7))
theorem e24 (o0 : Option Addr) (n1 n2 : Nat) : treeOf Try.prog Try.f24 (codeOf Try.f24) .n [.v (.slice o0 n1 n2)] = (t24 o0 n1 n2) := by kernel_rfl
theorem c24 (o0 : Option Addr) (n1 n2 : Nat) {w : World} {R : Ending → World → Prop} (h : (t24 o0 n1 n2).sem Try.prog R ρ0 w) : Calls Try.prog 24 #[.slice o0 n1 n2] w R :=
  calls_of mixed Try.func24 rfl rfl (e24 o0 n1 n2) h
def t19 (o0 : Option Addr) (n1 n2 : Nat) (i3 : Int) : T :=
  T.call 48 [Value.slice o0 n1 n2, Value.int IntKind.i64 i3] fun v4 => T.asI IntKind.i64 v4 fun i5 => T.ret (Value.bool (decide (i5 ≥ 0)))
theorem e19 (o0 : Option Addr) (n1 n2 : Nat) (i3 : Int) : treeOf Try.prog Try.f19 (codeOf Try.f19) .n [.v (.slice o0 n1 n2), .v (.int .i64 i3)] = (t19 o0 n1 n2 i3) := by kernel_rfl
theorem c19 (o0 : Option Addr) (n1 n2 : Nat) (i3 : Int) {w : World} {R : Ending → World → Prop} (h : (t19 o0 n1 n2 i3).sem Try.prog R ρ0 w) : Calls Try.prog 19 #[.slice o0 n1 n2, .int .i64 i3] w R :=
  calls_of mixed Try.func19 rfl rfl (e19 o0 n1 n2 i3) h
def t48 (o0 : Option Addr) (n1 n2 : Nat) (i3 : Int) : T :=
  T.loop 0 [Value.int IntKind.i64 0] fun l4 j5 =>
  T.asI IntKind.i64 (List.headD l4 (Value.tuple (Array.mk []))) fun i6 =>
    T.ite (decide (i6 < (↑n1 : Int)))
    (T.req (0 ≤ i6 ∧ i6 < (↑n1 : Int))
    (T.sm o0 fun n7 n8 =>
    T.ldI IntKind.i64 n7 (n8 + Int.toNat i6 * 1) fun i9 =>
    T.ite (i3 == i9) (T.ret (Value.int IntKind.i64 i6))
    (T.next 0 [Value.int IntKind.i64 (IntKind.wrap IntKind.i64 (i6 + 1))]
    ([Value.slice o0 n1 n2, Value.int IntKind.i64 i3, Value.int IntKind.i64 (↑n1 : Int)] =
    [Value.slice o0 n1 n2, Value.int IntKind.i64 i3, Value.int IntKind.i64 (↑n1 : Int)] ∧ ([] : List Deferred) = []))))
    (T.ret (Value.int IntKind.i64 (-1)))
theorem e48 (o0 : Option Addr) (n1 n2 : Nat) (i3 : Int) : treeOf Try.prog Try.f48 (codeOf Try.f48) (.s .n (.s (.s .n (.u (.l [(8, .int .i64)] [0, 1, 7] .n))) .n)) [.v (.slice o0 n1 n2), .v (.int .i64 i3)] = (t48 o0 n1 n2 i3) := by kernel_rfl
theorem c48 (o0 : Option Addr) (n1 n2 : Nat) (i3 : Int) {w : World} {R : Ending → World → Prop} (h : (t48 o0 n1 n2 i3).sem Try.prog R ρ0 w) : Calls Try.prog 48 #[.slice o0 n1 n2, .int .i64 i3] w R :=
  calls_of mixed Try.func48 rfl rfl (e48 o0 n1 n2 i3) h
def t22 (i0 : Int) (i1 : Int) (o2 : Option Addr) (n3 n4 : Nat) (o5 : Option Addr) (n6 n7 : Nat) (o8 : Option Addr) (n9 n10 : Nat) (o11 : Option Addr) (n12 n13 : Nat) : T :=
  T.new
  (Obj.cells
    (Array.mk [Value.int IntKind.i64 i0, Value.int IntKind.i64 i1, Value.slice o2 n3 n4, Value.slice o5 n6 n7, Value.slice o8 n9 n10, Value.slice o11 n12 n13])
    51)
  fun n14 =>
  T.blk 0
    (fun l15 j16 =>
    T.ldS n14 2 fun o17 n18 n19 =>
    T.call 16 [Value.slice o17 n18 n19] fun v20 =>
    T.asU v20 fun l21 =>
    T.req (List.length l21 = 2)
    (T.asS (List.headD l21 (Value.tuple (Array.mk []))) fun o22 n23 n24 =>
    T.asI IntKind.i64 (List.headD (List.tail l21) (Value.tuple (Array.mk []))) fun i25 =>
    T.ite (i25 != 0) (T.ret (Value.int IntKind.i64 i25))
    (T.loop 0 [Value.int IntKind.i64 0] fun l26 j27 =>
    T.asI IntKind.i64 (List.headD l26 (Value.tuple (Array.mk []))) fun i28 =>
    T.ite (decide (i28 < (↑n23 : Int)))
    (T.req (0 ≤ i28 ∧ i28 < (↑n23 : Int))
    (T.sm o22 fun n29 n30 =>
    T.ldI IntKind.i64 n29 (n30 + Int.toNat i28 * 5) fun i31 =>
    T.ldI IntKind.i64 n29 (n30 + Int.toNat i28 * 5 + 1) fun i32 =>
    T.ldI IntKind.i64 n29 (n30 + Int.toNat i28 * 5 + 2) fun i33 =>
    T.ldI IntKind.i64 n29 (n30 + Int.toNat i28 * 5 + 3) fun i34 =>
    T.ldI IntKind.i64 n29 (n30 + Int.toNat i28 * 5 + 4) fun i35 =>
    T.new
    (Obj.cells
    (Array.mk
    [Value.int IntKind.i64 0, Value.int IntKind.i64 0, Value.int IntKind.i64 0, Value.int IntKind.i64 0,
    Value.int IntKind.i64 0])
    40)
    fun n36 =>
    T.st n36 0 (Value.int IntKind.i64 i31)
    (T.st n36 1 (Value.int IntKind.i64 i32)
    (T.st n36 2 (Value.int IntKind.i64 i33)
    (T.st n36 3 (Value.int IntKind.i64 i34)
    (T.st n36 4 (Value.int IntKind.i64 i35)
    (T.blk 1
    (fun l37 j38 =>
    T.asI IntKind.i64 (List.headD l37 (Value.tuple (Array.mk []))) fun i39 =>
    T.ldI IntKind.i64 n36 4 fun i40 =>
    T.ite (decide (i40 ≥ i39)) (T.ret (Value.int IntKind.i64 132))
    (T.next 0 [Value.int IntKind.i64 (IntKind.wrap IntKind.i64 (i28 + 1))]
    ([Value.pointer (some (Addr.mk n14 0 none)), Value.slice o22 n23 n24,
    Value.int IntKind.i64 (↑n23 : Int)] =
    [Value.pointer (some (Addr.mk n14 0 none)), Value.slice o22 n23 n24,
    Value.int IntKind.i64 (↑n23 : Int)] ∧ ([] : List Deferred) = [])))
    (T.ldI IntKind.i64 n36 1 fun i41 =>
    T.blk 2
    (fun l42 j43 =>
    T.asB (List.headD l42 (Value.tuple (Array.mk []))) fun b44 =>
    T.ite b44
    (T.ldS n14 4 fun o45 n46 n47 =>
    T.next 1 [Value.int IntKind.i64 (↑n46 : Int)]
    ([Value.pointer (some (Addr.mk n14 0 none)), Value.pointer (some (Addr.mk n36 0 none)),
    Value.slice o22 n23 n24, Value.int IntKind.i64 (↑n23 : Int),
    Value.int IntKind.i64 i28] =
    [Value.pointer (some (Addr.mk n14 0 none)), Value.pointer (some (Addr.mk n36 0 none)),
    Value.slice o22 n23 n24, Value.int IntKind.i64 (↑n23 : Int),
    Value.int IntKind.i64 i28] ∧ ([] : List Deferred) = []))
    (T.blk 2
    (fun l48 j49 =>
    T.asB (List.headD l48 (Value.tuple (Array.mk []))) fun b50 =>
    T.ite b50
    (T.ldS n14 5 fun o51 n52 n53 =>
    T.next 1 [Value.int IntKind.i64 (↑n52 : Int)]
    ([Value.pointer (some (Addr.mk n14 0 none)),
    Value.pointer (some (Addr.mk n36 0 none)), Value.slice o22 n23 n24,
    Value.int IntKind.i64 (↑n23 : Int), Value.int IntKind.i64 i28] =
    [Value.pointer (some (Addr.mk n14 0 none)),
    Value.pointer (some (Addr.mk n36 0 none)), Value.slice o22 n23 n24,
    Value.int IntKind.i64 (↑n23 : Int), Value.int IntKind.i64 i28] ∧ ([] : List Deferred) = []))
    (T.ite (i41 == 2)
    (T.ldS n14 3 fun o54 n55 n56 =>
    T.next 1 [Value.int IntKind.i64 (↑n55 : Int)]
    ([Value.pointer (some (Addr.mk n14 0 none)),
    Value.pointer (some (Addr.mk n36 0 none)), Value.slice o22 n23 n24,
    Value.int IntKind.i64 (↑n23 : Int), Value.int IntKind.i64 i28] =
    [Value.pointer (some (Addr.mk n14 0 none)),
    Value.pointer (some (Addr.mk n36 0 none)), Value.slice o22 n23 n24,
    Value.int IntKind.i64 (↑n23 : Int), Value.int IntKind.i64 i28] ∧ ([] : List Deferred) = []))
    (T.next 1 [Value.int IntKind.i64 1048576]
    ([Value.pointer (some (Addr.mk n14 0 none)),
    Value.pointer (some (Addr.mk n36 0 none)), Value.slice o22 n23 n24,
    Value.int IntKind.i64 (↑n23 : Int), Value.int IntKind.i64 i28] =
    [Value.pointer (some (Addr.mk n14 0 none)),
    Value.pointer (some (Addr.mk n36 0 none)), Value.slice o22 n23 n24,
    Value.int IntKind.i64 (↑n23 : Int), Value.int IntKind.i64 i28] ∧ ([] : List Deferred) = []))))
    (T.ite (i41 == 5)
    (T.next 2 [Value.bool (i41 == 5)]
    ([Value.pointer (some (Addr.mk n14 0 none)), Value.pointer (some (Addr.mk n36 0 none)),
    Value.int IntKind.i64 1048576, Value.slice o22 n23 n24,
    Value.int IntKind.i64 (↑n23 : Int), Value.int IntKind.i64 i28,
    Value.int IntKind.i64 i41] =
    [Value.pointer (some (Addr.mk n14 0 none)), Value.pointer (some (Addr.mk n36 0 none)),
    Value.int IntKind.i64 1048576, Value.slice o22 n23 n24,
    Value.int IntKind.i64 (↑n23 : Int), Value.int IntKind.i64 i28,
    Value.int IntKind.i64 i41] ∧ ([] : List Deferred) = []))
    (T.next 2 [Value.bool (i41 == 6)]
    ([Value.pointer (some (Addr.mk n14 0 none)), Value.pointer (some (Addr.mk n36 0 none)),
    Value.int IntKind.i64 1048576, Value.slice o22 n23 n24,
    Value.int IntKind.i64 (↑n23 : Int), Value.int IntKind.i64 i28,
    Value.int IntKind.i64 i41] =
    [Value.pointer (some (Addr.mk n14 0 none)), Value.pointer (some (Addr.mk n36 0 none)),
    Value.int IntKind.i64 1048576, Value.slice o22 n23 n24,
    Value.int IntKind.i64 (↑n23 : Int), Value.int IntKind.i64 i28,
    Value.int IntKind.i64 i41] ∧ ([] : List Deferred) = [])))))
    (T.ite (i41 == 3)
    (T.next 2 [Value.bool (i41 == 3)]
    ([Value.pointer (some (Addr.mk n14 0 none)), Value.pointer (some (Addr.mk n36 0 none)),
    Value.int IntKind.i64 1048576, Value.slice o22 n23 n24, Value.int IntKind.i64 (↑n23 : Int),
    Value.int IntKind.i64 i28, Value.int IntKind.i64 i41] =
    [Value.pointer (some (Addr.mk n14 0 none)), Value.pointer (some (Addr.mk n36 0 none)),
    Value.int IntKind.i64 1048576, Value.slice o22 n23 n24, Value.int IntKind.i64 (↑n23 : Int),
    Value.int IntKind.i64 i28, Value.int IntKind.i64 i41] ∧ ([] : List Deferred) = []))
    (T.next 2 [Value.bool (i41 == 4)]
    ([Value.pointer (some (Addr.mk n14 0 none)), Value.pointer (some (Addr.mk n36 0 none)),
    Value.int IntKind.i64 1048576, Value.slice o22 n23 n24, Value.int IntKind.i64 (↑n23 : Int),
    Value.int IntKind.i64 i28, Value.int IntKind.i64 i41] =
    [Value.pointer (some (Addr.mk n14 0 none)), Value.pointer (some (Addr.mk n36 0 none)),
    Value.int IntKind.i64 1048576, Value.slice o22 n23 n24, Value.int IntKind.i64 (↑n23 : Int),
    Value.int IntKind.i64 i28, Value.int IntKind.i64 i41] ∧ ([] : List Deferred) = [])))))))))))
    (T.ret (Value.int IntKind.i64 0)))))
    (T.blk 1
    (fun l57 j58 =>
    T.asB (List.headD l57 (Value.tuple (Array.mk []))) fun b59 =>
    T.ite b59 (T.ret (Value.int IntKind.i64 1))
    (T.blk 1
    (fun l60 j61 =>
    T.asB (List.headD l60 (Value.tuple (Array.mk []))) fun b62 =>
    T.ite b62 (T.ret (Value.int IntKind.i64 3))
    (T.ldS n14 4 fun o63 n64 n65 =>
    T.call 50 [Value.slice o63 n64 n65] fun v66 =>
    T.asB v66 fun b67 =>
    T.ite (!b67) (T.ret (Value.int IntKind.i64 1))
    (T.ldS n14 5 fun o68 n69 n70 =>
    T.call 50 [Value.slice o68 n69 n70] fun v71 =>
    T.asB v71 fun b72 =>
    T.ite (!b72) (T.ret (Value.int IntKind.i64 1))
    (T.next 0 [] ([Value.pointer (some (Addr.mk n14 0 none))] = [Value.pointer (some (Addr.mk n14 0 none))] ∧ ([] : List Deferred) = [])))))
    (T.ldS n14 3 fun o73 n74 n75 =>
    T.ite (decide ((↑n74 : Int) > 8))
    (T.next 1 [Value.bool true] ([Value.pointer (some (Addr.mk n14 0 none))] = [Value.pointer (some (Addr.mk n14 0 none))] ∧ ([] : List Deferred) = []))
    (T.ldS n14 4 fun o76 n77 n78 =>
    T.ite (decide ((↑n77 : Int) > 16))
    (T.next 1 [Value.bool true] ([Value.pointer (some (Addr.mk n14 0 none))] = [Value.pointer (some (Addr.mk n14 0 none))] ∧ ([] : List Deferred) = []))
    (T.ldS n14 5 fun o79 n80 n81 =>
    T.next 1 [Value.bool (decide ((↑n80 : Int) > 16))]
    ([Value.pointer (some (Addr.mk n14 0 none))] = [Value.pointer (some (Addr.mk n14 0 none))] ∧ ([] : List Deferred) = []))))))
    (T.ldI IntKind.i64 n14 0 fun i82 =>
    T.ite (decide (i82 < 1))
    (T.next 1 [Value.bool true] ([Value.pointer (some (Addr.mk n14 0 none))] = [Value.pointer (some (Addr.mk n14 0 none))] ∧ ([] : List Deferred) = []))
    (T.ldI IntKind.i64 n14 0 fun i83 =>
    T.ite (decide (i83 > 1099511627776))
    (T.next 1 [Value.bool true] ([Value.pointer (some (Addr.mk n14 0 none))] = [Value.pointer (some (Addr.mk n14 0 none))] ∧ ([] : List Deferred) = []))
    (T.ldI IntKind.i64 n14 1 fun i84 =>
    T.ite (decide (i84 < 1))
    (T.next 1 [Value.bool true] ([Value.pointer (some (Addr.mk n14 0 none))] = [Value.pointer (some (Addr.mk n14 0 none))] ∧ ([] : List Deferred) = []))
    (T.ldI IntKind.i64 n14 1 fun i85 =>
    T.next 1 [Value.bool (decide (i85 > 1099511627776))]
    ([Value.pointer (some (Addr.mk n14 0 none))] = [Value.pointer (some (Addr.mk n14 0 none))] ∧ ([] : List Deferred) = []))))))
theorem e22 (i0 : Int) (i1 : Int) (o2 : Option Addr) (n3 n4 : Nat) (o5 : Option Addr) (n6 n7 : Nat) (o8 : Option Addr) (n9 n10 : Nat) (o11 : Option Addr) (n12 n13 : Nat) : treeOf Try.prog Try.f22 (codeOf Try.f22) (.s .n (.c [] [1] (.u (.c [(8, .bool)] [1] .n (.s .n (.c [(27, .bool)] [1] .n .n)))) (.s .n (.s .n (.s (.s .n (.u (.l [(66, .int .i64)] [1, 64, 65] (.s .n (.s .n (.s (.u (.s .n (.s .n (.c [(7, .int .i64)] [1, 6, 64, 65, 66] (.s .n (.u (.c [(72, .bool)] [1, 6, 7, 64, 65, 66, 71] .n (.s .n (.c [(78, .bool)] [1, 6, 7, 64, 65, 66, 71] .n .n))))) .n)))) .n)))))) .n))))) [.v (.agg #[.int .i64 i0, .int .i64 i1, .slice o2 n3 n4, .slice o5 n6 n7, .slice o8 n9 n10, .slice o11 n12 n13])] = (t22 i0 i1 o2 n3 n4 o5 n6 n7 o8 n9 n10 o11 n12 n13) := by kernel_rfl
theorem c22 (i0 : Int) (i1 : Int) (o2 : Option Addr) (n3 n4 : Nat) (o5 : Option Addr) (n6 n7 : Nat) (o8 : Option Addr) (n9 n10 : Nat) (o11 : Option Addr) (n12 n13 : Nat) {w : World} {R : Ending → World → Prop} (h : (t22 i0 i1 o2 n3 n4 o5 n6 n7 o8 n9 n10 o11 n12 n13).sem Try.prog R ρ0 w) : Calls Try.prog 22 #[.agg #[.int .i64 i0, .int .i64 i1, .slice o2 n3 n4, .slice o5 n6 n7, .slice o8 n9 n10, .slice o11 n12 n13]] w R :=
  calls_of mixed Try.func22 rfl rfl (e22 i0 i1 o2 n3 n4 o5 n6 n7 o8 n9 n10 o11 n12 n13) h
def t23 (i0 : Int) (i1 : Int) (o2 : Option Addr) (n3 n4 : Nat) (o5 : Option Addr) (n6 n7 : Nat) (o8 : Option Addr) (n9 n10 : Nat) (o11 : Option Addr) (n12 n13 : Nat) : T :=
  T.new
  (Obj.cells
    (Array.mk [Value.int IntKind.i64 i0, Value.int IntKind.i64 i1, Value.slice o2 n3 n4, Value.slice o5 n6 n7, Value.slice o8 n9 n10, Value.slice o11 n12 n13])
    51)
  fun n14 =>
  T.blk 0
    (fun l15 j16 =>
    T.blk 0
    (fun l17 j18 =>
    T.blk 0
    (fun l19 j20 =>
    T.ldS n14 2 fun o21 n22 n23 =>
    T.call 25 [Value.slice o21 n22 n23] fun v24 =>
    T.asU v24 fun l25 =>
    T.req (List.length l25 = 2)
    (T.asS (List.headD l25 (Value.tuple (Array.mk []))) fun o26 n27 n28 =>
    T.asI IntKind.i64 (List.headD (List.tail l25) (Value.tuple (Array.mk []))) fun i29 =>
    T.ite (i29 != 0) (T.ret (Value.int IntKind.i64 i29))
    (T.loop 0 [Value.int IntKind.i64 0] fun l30 j31 =>
    T.asI IntKind.i64 (List.headD l30 (Value.tuple (Array.mk []))) fun i32 =>
    T.ite (decide (i32 < (↑n27 : Int)))
    (T.blk 1
    (fun l33 j34 =>
    T.asI IntKind.i64 (List.headD l33 (Value.tuple (Array.mk []))) fun i35 =>
    T.req (0 ≤ i32 ∧ i32 < (↑n27 : Int))
    (T.sm o26 fun n36 n37 =>
    T.ldI IntKind.i64 n36 (n37 + Int.toNat i32 * 5 + 4) fun i38 =>
    T.ite (decide (i38 ≥ i35)) (T.ret (Value.int IntKind.i64 132))
    (T.next 0 [Value.int IntKind.i64 (IntKind.wrap IntKind.i64 (i32 + 1))]
    ([Value.pointer (some (Addr.mk n14 0 none)), Value.slice o26 n27 n28] =
    [Value.pointer (some (Addr.mk n14 0 none)), Value.slice o26 n27 n28] ∧ ([] : List Deferred) = []))))
    (T.req (0 ≤ i32 ∧ i32 < (↑n27 : Int))
    (T.sm o26 fun n39 n40 =>
    T.ldI IntKind.i64 n39 (n40 + Int.toNat i32 * 5 + 1) fun i41 =>
    T.blk 2
    (fun l42 j43 =>
    T.asB (List.headD l42 (Value.tuple (Array.mk []))) fun b44 =>
    T.ite b44
    (T.ldS n14 4 fun o45 n46 n47 =>
    T.next 1 [Value.int IntKind.i64 (↑n46 : Int)]
    ([Value.pointer (some (Addr.mk n14 0 none)), Value.slice o26 n27 n28, Value.int IntKind.i64 i32] =
    [Value.pointer (some (Addr.mk n14 0 none)), Value.slice o26 n27 n28, Value.int IntKind.i64 i32] ∧ ([] : List Deferred) = []))
    (T.blk 2
    (fun l48 j49 =>
    T.asB (List.headD l48 (Value.tuple (Array.mk []))) fun b50 =>
    T.ite b50
    (T.ldS n14 5 fun o51 n52 n53 =>
    T.next 1 [Value.int IntKind.i64 (↑n52 : Int)]
    ([Value.pointer (some (Addr.mk n14 0 none)), Value.slice o26 n27 n28, Value.int IntKind.i64 i32] =
    [Value.pointer (some (Addr.mk n14 0 none)), Value.slice o26 n27 n28,
    Value.int IntKind.i64 i32] ∧ ([] : List Deferred) = []))
    (T.ite (i41 == 2)
    (T.ldS n14 3 fun o54 n55 n56 =>
    T.next 1 [Value.int IntKind.i64 (↑n55 : Int)]
    ([Value.pointer (some (Addr.mk n14 0 none)), Value.slice o26 n27 n28,
    Value.int IntKind.i64 i32] =
    [Value.pointer (some (Addr.mk n14 0 none)), Value.slice o26 n27 n28,
    Value.int IntKind.i64 i32] ∧ ([] : List Deferred) = []))
    (T.next 0 [Value.int IntKind.i64 (IntKind.wrap IntKind.i64 (i32 + 1))]
    ([Value.pointer (some (Addr.mk n14 0 none)), Value.slice o26 n27 n28] =
    [Value.pointer (some (Addr.mk n14 0 none)), Value.slice o26 n27 n28] ∧ ([] : List Deferred) = []))))
    (T.ite (i41 == 5)
    (T.next 2 [Value.bool (i41 == 5)]
    ([Value.pointer (some (Addr.mk n14 0 none)), Value.slice o26 n27 n28, Value.int IntKind.i64 i32,
    Value.int IntKind.i64 i41] =
    [Value.pointer (some (Addr.mk n14 0 none)), Value.slice o26 n27 n28, Value.int IntKind.i64 i32,
    Value.int IntKind.i64 i41] ∧ ([] : List Deferred) = []))
    (T.next 2 [Value.bool (i41 == 6)]
    ([Value.pointer (some (Addr.mk n14 0 none)), Value.slice o26 n27 n28, Value.int IntKind.i64 i32,
    Value.int IntKind.i64 i41] =
    [Value.pointer (some (Addr.mk n14 0 none)), Value.slice o26 n27 n28, Value.int IntKind.i64 i32,
    Value.int IntKind.i64 i41] ∧ ([] : List Deferred) = [])))))
    (T.ite (i41 == 3)
    (T.next 2 [Value.bool (i41 == 3)]
    ([Value.pointer (some (Addr.mk n14 0 none)), Value.slice o26 n27 n28, Value.int IntKind.i64 i32,
    Value.int IntKind.i64 i41] =
    [Value.pointer (some (Addr.mk n14 0 none)), Value.slice o26 n27 n28, Value.int IntKind.i64 i32,
    Value.int IntKind.i64 i41] ∧ ([] : List Deferred) = []))
    (T.next 2 [Value.bool (i41 == 4)]
    ([Value.pointer (some (Addr.mk n14 0 none)), Value.slice o26 n27 n28, Value.int IntKind.i64 i32,
    Value.int IntKind.i64 i41] =
    [Value.pointer (some (Addr.mk n14 0 none)), Value.slice o26 n27 n28, Value.int IntKind.i64 i32,
    Value.int IntKind.i64 i41] ∧ ([] : List Deferred) = []))))))
    (T.ret (Value.int IntKind.i64 0)))))
    (T.ldS n14 4 fun o57 n58 n59 =>
    T.call 51 [Value.slice o57 n58 n59] fun v60 =>
    T.asB v60 fun b61 =>
    T.ite (!b61) (T.ret (Value.int IntKind.i64 1))
    (T.ldS n14 5 fun o62 n63 n64 =>
    T.call 51 [Value.slice o62 n63 n64] fun v65 =>
    T.asB v65 fun b66 =>
    T.ite (!b66) (T.ret (Value.int IntKind.i64 1))
    (T.next 0 [] ([Value.pointer (some (Addr.mk n14 0 none))] = [Value.pointer (some (Addr.mk n14 0 none))] ∧ ([] : List Deferred) = [])))))
    (T.ldS n14 3 fun o67 n68 n69 =>
    T.ite (decide ((↑n68 : Int) > 8)) (T.ret (Value.int IntKind.i64 3))
    (T.ldS n14 4 fun o70 n71 n72 =>
    T.ite (decide ((↑n71 : Int) > 16)) (T.ret (Value.int IntKind.i64 3))
    (T.ldS n14 5 fun o73 n74 n75 =>
    T.ite (decide ((↑n74 : Int) > 16)) (T.ret (Value.int IntKind.i64 3))
    (T.next 0 [] ([Value.pointer (some (Addr.mk n14 0 none))] = [Value.pointer (some (Addr.mk n14 0 none))] ∧ ([] : List Deferred) = []))))))
    (T.ldI IntKind.i64 n14 0 fun i76 =>
    T.ite (decide (i76 < 1)) (T.ret (Value.int IntKind.i64 1))
    (T.ldI IntKind.i64 n14 0 fun i77 =>
    T.ite (decide (i77 > 1099511627776)) (T.ret (Value.int IntKind.i64 1))
    (T.ldI IntKind.i64 n14 1 fun i78 =>
    T.ite (decide (i78 < 1)) (T.ret (Value.int IntKind.i64 1))
    (T.ldI IntKind.i64 n14 1 fun i79 =>
    T.ite (decide (i79 > 1099511627776)) (T.ret (Value.int IntKind.i64 1))
    (T.next 0 [] ([Value.pointer (some (Addr.mk n14 0 none))] = [Value.pointer (some (Addr.mk n14 0 none))] ∧ ([] : List Deferred) = []))))))
theorem e23 (i0 : Int) (i1 : Int) (o2 : Option Addr) (n3 n4 : Nat) (o5 : Option Addr) (n6 n7 : Nat) (o8 : Option Addr) (n9 n10 : Nat) (o11 : Option Addr) (n12 n13 : Nat) : treeOf Try.prog Try.f23 (codeOf Try.f23) (.s .n (.c [] [1] .n (.c [] [1] .n (.c [] [1] .n (.s .n (.s .n (.s (.s .n (.u (.l [(5, .int .i64)] [1, 3] (.s .n (.s (.u (.s .n (.c [(6, .int .i64)] [1, 3, 5] (.s .n (.u (.c [(71, .bool)] [1, 3, 5, 70] .n (.s .n (.c [(77, .bool)] [1, 3, 5, 70] .n .n))))) .n))) .n))))) .n))))))) [.v (.agg #[.int .i64 i0, .int .i64 i1, .slice o2 n3 n4, .slice o5 n6 n7, .slice o8 n9 n10, .slice o11 n12 n13])] = (t23 i0 i1 o2 n3 n4 o5 n6 n7 o8 n9 n10 o11 n12 n13) := by kernel_rfl
theorem c23 (i0 : Int) (i1 : Int) (o2 : Option Addr) (n3 n4 : Nat) (o5 : Option Addr) (n6 n7 : Nat) (o8 : Option Addr) (n9 n10 : Nat) (o11 : Option Addr) (n12 n13 : Nat) {w : World} {R : Ending → World → Prop} (h : (t23 i0 i1 o2 n3 n4 o5 n6 n7 o8 n9 n10 o11 n12 n13).sem Try.prog R ρ0 w) : Calls Try.prog 23 #[.agg #[.int .i64 i0, .int .i64 i1, .slice o2 n3 n4, .slice o5 n6 n7, .slice o8 n9 n10, .slice o11 n12 n13]] w R :=
  calls_of mixed Try.func23 rfl rfl (e23 i0 i1 o2 n3 n4 o5 n6 n7 o8 n9 n10 o11 n12 n13) h
def t50 (o0 : Option Addr) (n1 n2 : Nat) : T :=
  T.loop 0 [Value.int IntKind.i64 0] fun l3 j4 =>
  T.asI IntKind.i64 (List.headD l3 (Value.tuple (Array.mk []))) fun i5 =>
    T.ite (decide (i5 < (↑n1 : Int)))
    (T.drew
    (T.ite (decide (i5 > 0))
    (T.req (0 ≤ i5 ∧ i5 < (↑n1 : Int))
    (T.sm o0 fun n6 n7 =>
    T.ldI IntKind.i32 n6 (n7 + Int.toNat i5 * 2) fun i8 =>
    T.req (0 ≤ IntKind.wrap IntKind.i64 (i5 - 1) ∧ IntKind.wrap IntKind.i64 (i5 - 1) < (↑n1 : Int))
    (T.sm o0 fun n9 n10 =>
    T.ldI IntKind.i32 n9 (n10 + Int.toNat (IntKind.wrap IntKind.i64 (i5 - 1)) * 2) fun i11 =>
    T.ite (decide (i8 < i11)) (T.ret (Value.bool false))
    (T.req (0 ≤ i5 ∧ i5 < (↑n1 : Int))
    (T.sm o0 fun n12 n13 =>
    T.ldI IntKind.i32 n12 (n13 + Int.toNat i5 * 2) fun i14 =>
    T.req (0 ≤ IntKind.wrap IntKind.i64 (i5 - 1) ∧ IntKind.wrap IntKind.i64 (i5 - 1) < (↑n1 : Int))
    (T.sm o0 fun n15 n16 =>
    T.ldI IntKind.i32 n15 (n16 + Int.toNat (IntKind.wrap IntKind.i64 (i5 - 1)) * 2) fun i17 =>
    T.ite (i14 == i17)
    (T.req (0 ≤ i5 ∧ i5 < (↑n1 : Int))
    (T.sm o0 fun n18 n19 =>
    T.ldI IntKind.i64 n18 (n19 + Int.toNat i5 * 2 + 1) fun i20 =>
    T.req (0 ≤ IntKind.wrap IntKind.i64 (i5 - 1) ∧ IntKind.wrap IntKind.i64 (i5 - 1) < (↑n1 : Int))
    (T.sm o0 fun n21 n22 =>
    T.ldI IntKind.i64 n21 (n22 + Int.toNat (IntKind.wrap IntKind.i64 (i5 - 1)) * 2 + 1) fun i23 =>
    T.ite (decide (i20 ≤ i23)) (T.ret (Value.bool false))
    (T.next 0 [Value.int IntKind.i64 (IntKind.wrap IntKind.i64 (i5 + 1))]
    ([Value.slice o0 n1 n2, Value.int IntKind.i64 (↑n1 : Int)] =
    [Value.slice o0 n1 n2, Value.int IntKind.i64 (↑n1 : Int)] ∧ ([] : List Deferred) = [])))))
    (T.next 0 [Value.int IntKind.i64 (IntKind.wrap IntKind.i64 (i5 + 1))]
    ([Value.slice o0 n1 n2, Value.int IntKind.i64 (↑n1 : Int)] = [Value.slice o0 n1 n2, Value.int IntKind.i64 (↑n1 : Int)] ∧ ([] : List Deferred) = []))))))))
    (T.next 0 [Value.int IntKind.i64 (IntKind.wrap IntKind.i64 (i5 + 1))]
    ([Value.slice o0 n1 n2, Value.int IntKind.i64 (↑n1 : Int)] = [Value.slice o0 n1 n2, Value.int IntKind.i64 (↑n1 : Int)] ∧ ([] : List Deferred) = []))))
    (T.ret (Value.bool true))
theorem e50 (o0 : Option Addr) (n1 n2 : Nat) : treeOf Try.prog Try.f50 (codeOf Try.f50) (.s .n (.s (.s .n (.u (.l [(6, .int .i64)] [0, 5] (.s .n (.s .n (.s (.u (.s .n (.s (.p [0, 1, 2, 3, 4, 5, 6, 7, 8, 9, 10, 11, 12, 13, 14, 15, 16, 17, 18, 19, 20, 21, 22, 23, 24, 25, 26, 27, 28, 29, 30, 31, 32, 33, 34, 35, 36, 37, 38, 39, 40, 41, 42, 43]) .n))) .n)))))) .n)) [.v (.slice o0 n1 n2)] = (t50 o0 n1 n2) := by kernel_rfl
theorem c50 (o0 : Option Addr) (n1 n2 : Nat) {w : World} {R : Ending → World → Prop} (h : (t50 o0 n1 n2).sem Try.prog R ρ0 w) : Calls Try.prog 50 #[.slice o0 n1 n2] w R :=
  calls_of mixed Try.func50 rfl rfl (e50 o0 n1 n2) h
def t51 (o0 : Option Addr) (n1 n2 : Nat) : T :=
  T.loop 0 [Value.int IntKind.i64 1] fun l3 j4 =>
  T.asI IntKind.i64 (List.headD l3 (Value.tuple (Array.mk []))) fun i5 =>
    T.ite (decide (i5 < (↑n1 : Int)))
    (T.drew
    (T.req (0 ≤ IntKind.wrap IntKind.i64 (i5 - 1) ∧ IntKind.wrap IntKind.i64 (i5 - 1) < (↑n1 : Int))
    (T.sm o0 fun n6 n7 =>
    T.ldI IntKind.i32 n6 (n7 + Int.toNat (IntKind.wrap IntKind.i64 (i5 - 1)) * 2) fun i8 =>
    T.ldI IntKind.i64 n6 (n7 + Int.toNat (IntKind.wrap IntKind.i64 (i5 - 1)) * 2 + 1) fun i9 =>
    T.req (0 ≤ i5 ∧ i5 < (↑n1 : Int))
    (T.sm o0 fun n10 n11 =>
    T.ldI IntKind.i32 n10 (n11 + Int.toNat i5 * 2) fun i12 =>
    T.ldI IntKind.i64 n10 (n11 + Int.toNat i5 * 2 + 1) fun i13 =>
    T.call 59
    [Value.agg (Array.mk [Value.int IntKind.i32 i8, Value.int IntKind.i64 i9]),
    Value.agg (Array.mk [Value.int IntKind.i32 i12, Value.int IntKind.i64 i13])]
    fun v14 =>
    T.asI IntKind.i64 v14 fun i15 =>
    T.chk []
    (T.ite (decide (i15 ≥ 0)) (T.ret (Value.bool false))
    (T.next 0 [Value.int IntKind.i64 (IntKind.wrap IntKind.i64 (i5 + 1))]
    ([Value.slice o0 n1 n2] = [Value.slice o0 n1 n2] ∧ ([] : List Deferred) = [])))))))
    (T.ret (Value.bool true))
theorem e51 (o0 : Option Addr) (n1 n2 : Nat) : treeOf Try.prog Try.f51 (codeOf Try.f51) (.s .n (.s (.s .n (.u (.l [(3, .int .i64)] [0] (.s .n (.s (.u (.s (.p [0, 1, 2, 3, 4, 5, 6, 7, 8, 9, 10]) .n)) .n))))) .n)) [.v (.slice o0 n1 n2)] = (t51 o0 n1 n2) := by kernel_rfl
theorem c51 (o0 : Option Addr) (n1 n2 : Nat) {w : World} {R : Ending → World → Prop} (h : (t51 o0 n1 n2).sem Try.prog R ρ0 w) : Calls Try.prog 51 #[.slice o0 n1 n2] w R :=
  calls_of mixed Try.func51 rfl rfl (e51 o0 n1 n2) h
def t59 (i0 : Int) (i1 : Int) (i2 : Int) (i3 : Int) : T :=
  T.new (Obj.cells (Array.mk [Value.int IntKind.i32 i0, Value.int IntKind.i64 i1]) 88) fun n4 =>
  T.new (Obj.cells (Array.mk [Value.int IntKind.i32 i2, Value.int IntKind.i64 i3]) 88) fun n5 =>
    T.blk 0
    (fun l6 j7 =>
    T.ldI IntKind.i32 n4 0 fun i8 =>
    T.ldI IntKind.i64 n4 1 fun i9 =>
    T.ldI IntKind.i32 n5 0 fun i10 =>
    T.ldI IntKind.i64 n5 1 fun i11 => T.ite (i8 == i10 && (i9 == i11 && true)) (T.ret (Value.int IntKind.i64 0)) (T.ret (Value.int IntKind.i64 1)))
    (T.ldI IntKind.i32 n4 0 fun i12 =>
    T.ldI IntKind.i32 n5 0 fun i13 =>
    T.ite (decide (i12 < i13)) (T.ret (Value.int IntKind.i64 (-1)))
    (T.ldI IntKind.i32 n4 0 fun i14 =>
    T.ldI IntKind.i32 n5 0 fun i15 =>
    T.ite (i14 == i15)
    (T.ldI IntKind.i64 n4 1 fun i16 =>
    T.ldI IntKind.i64 n5 1 fun i17 =>
    T.ite (decide (i16 < i17)) (T.ret (Value.int IntKind.i64 (-1)))
    (T.next 0 []
    ([Value.pointer (some (Addr.mk n4 0 none)), Value.pointer (some (Addr.mk n5 0 none))] =
    [Value.pointer (some (Addr.mk n4 0 none)), Value.pointer (some (Addr.mk n5 0 none))] ∧ ([] : List Deferred) = [])))
    (T.next 0 []
    ([Value.pointer (some (Addr.mk n4 0 none)), Value.pointer (some (Addr.mk n5 0 none))] =
    [Value.pointer (some (Addr.mk n4 0 none)), Value.pointer (some (Addr.mk n5 0 none))] ∧ ([] : List Deferred) = []))))
theorem e59 (i0 : Int) (i1 : Int) (i2 : Int) (i3 : Int) : treeOf Try.prog Try.f59 (codeOf Try.f59) (.s .n (.c [] [2, 3] .n .n)) [.v (.agg #[.int .i32 i0, .int .i64 i1]), .v (.agg #[.int .i32 i2, .int .i64 i3])] = (t59 i0 i1 i2 i3) := by kernel_rfl
theorem c59 (i0 : Int) (i1 : Int) (i2 : Int) (i3 : Int) {w : World} {R : Ending → World → Prop} (h : (t59 i0 i1 i2 i3).sem Try.prog R ρ0 w) : Calls Try.prog 59 #[.agg #[.int .i32 i0, .int .i64 i1], .agg #[.int .i32 i2, .int .i64 i3]] w R :=
  calls_of mixed Try.func59 rfl rfl (e59 i0 i1 i2 i3) h
def t25 (o0 : Option Addr) (n1 n2 : Nat) : T :=
  T.ite (decide ((↑n1 : Int) > 512)) (T.ret (Value.tuple (Array.mk [Value.slice none 0 0, Value.int IntKind.i64 3])))
  (T.call 29 [Value.slice o0 n1 n2] fun v3 =>
    T.asU v3 fun l4 =>
    T.req (List.length l4 = 2)
    (T.asS (List.headD l4 (Value.tuple (Array.mk []))) fun o5 n6 n7 =>
    T.asI IntKind.i64 (List.headD (List.tail l4) (Value.tuple (Array.mk []))) fun i8 =>
    T.ite (i8 != 0) (T.ret (Value.tuple (Array.mk [Value.slice none 0 0, Value.int IntKind.i64 i8])))
    (T.loop 0 [Value.int IntKind.i64 0] fun l9 j10 =>
    T.asI IntKind.i64 (List.headD l9 (Value.tuple (Array.mk []))) fun i11 =>
    T.ite (decide (i11 < (↑n6 : Int)))
    (T.req (0 ≤ i11 ∧ i11 < (↑n6 : Int))
    (T.sm o5 fun n12 n13 =>
    T.ldI IntKind.i64 n12 (n13 + Int.toNat i11 * 5 + 1) fun i14 =>
    T.call 52 [Value.int IntKind.i64 i14] fun v15 =>
    T.asB v15 fun b16 =>
    T.ite b16
    (T.req (0 ≤ i11 ∧ i11 < (↑n6 : Int))
    (T.sm o5 fun n17 n18 =>
    T.ldI IntKind.i64 n17 (n18 + Int.toNat i11 * 5 + 4) fun i19 =>
    T.call 53 [Value.slice o5 n6 n7, Value.int IntKind.i64 i19] fun v20 =>
    T.asB v20 fun b21 =>
    T.ite (!b21) (T.ret (Value.tuple (Array.mk [Value.slice none 0 0, Value.int IntKind.i64 131])))
    (T.next 0 [Value.int IntKind.i64 (IntKind.wrap IntKind.i64 (i11 + 1))]
    ([Value.slice o5 n6 n7] = [Value.slice o5 n6 n7] ∧ ([] : List Deferred) = []))))
    (T.next 0 [Value.int IntKind.i64 (IntKind.wrap IntKind.i64 (i11 + 1))]
    ([Value.slice o5 n6 n7] = [Value.slice o5 n6 n7] ∧ ([] : List Deferred) = []))))
    (T.ret (Value.tuple (Array.mk [Value.slice o5 n6 n7, Value.int IntKind.i64 0]))))))
theorem e25 (o0 : Option Addr) (n1 n2 : Nat) : treeOf Try.prog Try.f25 (codeOf Try.f25) (.s .n (.s .n (.s .n (.s .n (.s (.s .n (.u (.l [(6, .int .i64)] [4] .n))) .n))))) [.v (.slice o0 n1 n2)] = (t25 o0 n1 n2) := by kernel_rfl
theorem c25 (o0 : Option Addr) (n1 n2 : Nat) {w : World} {R : Ending → World → Prop} (h : (t25 o0 n1 n2).sem Try.prog R ρ0 w) : Calls Try.prog 25 #[.slice o0 n1 n2] w R :=
  calls_of mixed Try.func25 rfl rfl (e25 o0 n1 n2) h
def t26 (o0 : Option Addr) (n1 n2 : Nat) (o3 : Option Addr) (n4 n5 : Nat) : T :=
  T.ite ((↑n1 : Int) != (↑n4 : Int)) (T.ret (Value.bool false))
  (T.loop 0 [Value.int IntKind.i64 0] fun l6 j7 =>
    T.asI IntKind.i64 (List.headD l6 (Value.tuple (Array.mk []))) fun i8 =>
    T.ite (decide (i8 < (↑n1 : Int)))
    (T.drew
    (T.req (0 ≤ i8 ∧ i8 < (↑n1 : Int))
    (T.sm o0 fun n9 n10 =>
    T.ldI IntKind.i64 n9 (n10 + Int.toNat i8 * 5) fun i11 =>
    T.ldI IntKind.i64 n9 (n10 + Int.toNat i8 * 5 + 1) fun i12 =>
    T.ldI IntKind.i64 n9 (n10 + Int.toNat i8 * 5 + 2) fun i13 =>
    T.ldI IntKind.i64 n9 (n10 + Int.toNat i8 * 5 + 3) fun i14 =>
    T.ldI IntKind.i64 n9 (n10 + Int.toNat i8 * 5 + 4) fun i15 =>
    T.req (0 ≤ i8 ∧ i8 < (↑n4 : Int))
    (T.sm o3 fun n16 n17 =>
    T.ldI IntKind.i64 n16 (n17 + Int.toNat i8 * 5) fun i18 =>
    T.ldI IntKind.i64 n16 (n17 + Int.toNat i8 * 5 + 1) fun i19 =>
    T.ldI IntKind.i64 n16 (n17 + Int.toNat i8 * 5 + 2) fun i20 =>
    T.ldI IntKind.i64 n16 (n17 + Int.toNat i8 * 5 + 3) fun i21 =>
    T.ldI IntKind.i64 n16 (n17 + Int.toNat i8 * 5 + 4) fun i22 =>
    T.ite (!(i11 == i18 && (i12 == i19 && (i13 == i20 && (i14 == i21 && (i15 == i22 && true)))))) (T.ret (Value.bool false))
    (T.next 0 [Value.int IntKind.i64 (IntKind.wrap IntKind.i64 (i8 + 1))]
    ([Value.slice o0 n1 n2, Value.slice o3 n4 n5] = [Value.slice o0 n1 n2, Value.slice o3 n4 n5] ∧ ([] : List Deferred) = []))))))
    (T.ret (Value.bool true)))
theorem e26 (o0 : Option Addr) (n1 n2 : Nat) (o3 : Option Addr) (n4 n5 : Nat) : treeOf Try.prog Try.f26 (codeOf Try.f26) (.s .n (.s .n (.s (.s .n (.u (.l [(5, .int .i64)] [0, 1] (.s .n (.s (.u (.s (.p [0, 1, 2, 3, 4, 5, 6, 7, 8]) .n)) .n))))) .n))) [.v (.slice o0 n1 n2), .v (.slice o3 n4 n5)] = (t26 o0 n1 n2 o3 n4 n5) := by kernel_rfl
theorem c26 (o0 : Option Addr) (n1 n2 : Nat) (o3 : Option Addr) (n4 n5 : Nat) {w : World} {R : Ending → World → Prop} (h : (t26 o0 n1 n2 o3 n4 n5).sem Try.prog R ρ0 w) : Calls Try.prog 26 #[.slice o0 n1 n2, .slice o3 n4 n5] w R :=
  calls_of mixed Try.func26 rfl rfl (e26 o0 n1 n2 o3 n4 n5) h
def t28 (o0 : Option Addr) (n1 n2 : Nat) (i3 : Int) : T :=
  T.new (Obj.cells (Array.mk [Value.int IntKind.i64 0, Value.int IntKind.i64 0, Value.int IntKind.i64 0, Value.int IntKind.i64 0, Value.int IntKind.i64 0]) 40)
  fun n4 =>
  T.blk 0
    (fun l5 j6 =>
    T.req (0 ≤ i3 ∧ i3 < (↑n1 : Int))
    (T.sm o0 fun n7 n8 =>
    T.ldI IntKind.u8 n7 (n8 + Int.toNat i3 * 1) fun i9 =>
    T.call 13 [Value.int IntKind.i64 (IntKind.wrap IntKind.i64 i9)] fun v10 =>
    T.asI IntKind.i64 v10 fun i11 =>
    T.blk 0
    (fun l12 j13 =>
    T.req (0 ≤ i3 ∧ i3 < (↑n1 : Int))
    (T.sm o0 fun n14 n15 =>
    T.ldI IntKind.u8 n14 (n15 + Int.toNat i3 * 1) fun i16 =>
    T.new
    (Obj.cells
    (Array.mk
    [Value.int IntKind.i64 0, Value.int IntKind.i64 0, Value.int IntKind.i64 0, Value.int IntKind.i64 0, Value.int IntKind.i64 0])
    40)
    fun n17 =>
    T.st n17 0 (Value.int IntKind.i64 i3)
    (T.st n17 1 (Value.int IntKind.i64 (IntKind.wrap IntKind.i64 i16))
    (T.st n17 2 (Value.int IntKind.i64 0)
    (T.st n17 3 (Value.int IntKind.i64 0)
    (T.st n17 4 (Value.int IntKind.i64 0)
    (T.blk 0
    (fun l18 j19 =>
    T.asI IntKind.i64 (List.headD l18 (Value.tuple (Array.mk []))) fun i20 =>
    T.blk 0
    (fun l21 j22 =>
    T.asI IntKind.i64 (List.headD l21 (Value.tuple (Array.mk []))) fun i23 =>
    T.ldI IntKind.i64 n17 1 fun i24 =>
    T.call 39 [Value.int IntKind.i64 i24] fun v25 =>
    T.asI IntKind.i64 v25 fun i26 =>
    T.blk 0
    (fun l27 j28 =>
    T.blk 0
    (fun l29 j30 =>
    T.ldI IntKind.i64 n17 0 fun i31 =>
    T.ldI IntKind.i64 n17 1 fun i32 =>
    T.ldI IntKind.i64 n17 2 fun i33 =>
    T.ldI IntKind.i64 n17 3 fun i34 =>
    T.ldI IntKind.i64 n17 4 fun i35 =>
    T.call 55
    [Value.agg
    (Array.mk
    [Value.int IntKind.i64 i31, Value.int IntKind.i64 i32,
    Value.int IntKind.i64 i33, Value.int IntKind.i64 i34,
    Value.int IntKind.i64 i35])]
    fun v36 =>
    T.asI IntKind.i64 v36 fun i37 =>
    T.ite (i37 != 0)
    (T.st n4 0 (Value.int IntKind.i64 0)
    (T.st n4 1 (Value.int IntKind.i64 0)
    (T.st n4 2 (Value.int IntKind.i64 0)
    (T.st n4 3 (Value.int IntKind.i64 0)
    (T.st n4 4 (Value.int IntKind.i64 0)
    (T.ldI IntKind.i64 n4 0 fun i38 =>
    T.ldI IntKind.i64 n4 1 fun i39 =>
    T.ldI IntKind.i64 n4 2 fun i40 =>
    T.ldI IntKind.i64 n4 3 fun i41 =>
    T.ldI IntKind.i64 n4 4 fun i42 =>
    T.ret
    (Value.tuple
    (Array.mk
    [Value.agg
    (Array.mk
    [Value.int IntKind.i64 i38,
    Value.int IntKind.i64 i39,
    Value.int IntKind.i64 i40,
    Value.int IntKind.i64 i41,
    Value.int IntKind.i64 i42]),
    Value.int IntKind.i64 0,
    Value.int IntKind.i64 i37]))))))))
    (T.ldI IntKind.i64 n17 0 fun i43 =>
    T.ldI IntKind.i64 n17 1 fun i44 =>
    T.ldI IntKind.i64 n17 2 fun i45 =>
    T.ldI IntKind.i64 n17 3 fun i46 =>
    T.ldI IntKind.i64 n17 4 fun i47 =>
    T.st n4 0 (Value.int IntKind.i64 i43)
    (T.st n4 1 (Value.int IntKind.i64 i44)
    (T.st n4 2 (Value.int IntKind.i64 i45)
    (T.st n4 3 (Value.int IntKind.i64 i46)
    (T.st n4 4 (Value.int IntKind.i64 i47)
    (T.ldI IntKind.i64 n4 0 fun i48 =>
    T.ldI IntKind.i64 n4 1 fun i49 =>
    T.ldI IntKind.i64 n4 2 fun i50 =>
    T.ldI IntKind.i64 n4 3 fun i51 =>
    T.ldI IntKind.i64 n4 4 fun i52 =>
    T.ret
    (Value.tuple
    (Array.mk
    [Value.agg
    (Array.mk
    [Value.int IntKind.i64 i48,
    Value.int IntKind.i64 i49,
    Value.int IntKind.i64 i50,
    Value.int IntKind.i64 i51,
    Value.int IntKind.i64 i52]),
    Value.int IntKind.i64
    (IntKind.wrap IntKind.i64 (i3 + i11)),
    Value.int IntKind.i64 0])))))))))
    (T.ite (i26 == 2)
    (T.drew
    (T.ldI IntKind.i64 n17 4 fun i53 =>
    T.req
    (0 ≤ IntKind.wrap IntKind.i64 (i23 + 1) ∧
    IntKind.wrap IntKind.i64 (i23 + 1) < (↑n1 : Int))
    (T.sm o0 fun n54 n55 =>
    T.ldI IntKind.u8 n54 (n55 + Int.toNat (IntKind.wrap IntKind.i64 (i23 + 1)) * 1)
    fun i56 =>
    T.st n17 4
    (Value.int IntKind.i64
    (IntKind.wrap IntKind.i64
    (i53 + IntKind.wrap IntKind.i64 (256 * IntKind.wrap IntKind.i64 i56))))
    (T.chk []
    (T.ldI IntKind.i64 n17 1 fun i57 =>
    T.ite (i57 == 1)
    (T.ldI IntKind.i64 n17 4 fun i58 =>
    T.ite (decide (i58 ≥ 32768))
    (T.ldI IntKind.i64 n17 4 fun i59 =>
    T.st n17 4
    (Value.int IntKind.i64 (IntKind.wrap IntKind.i64 (i59 - 65536)))
    (T.next 0 []
    ([Value.int IntKind.i64 i3,
    Value.pointer (some (Addr.mk n4 0 none)),
    Value.int IntKind.i64 i11,
    Value.pointer (some (Addr.mk n17 0 none))] =
    [Value.int IntKind.i64 i3,
    Value.pointer (some (Addr.mk n4 0 none)),
    Value.int IntKind.i64 i11,
    Value.pointer (some (Addr.mk n17 0 none))] ∧ ([] : List Deferred) = [])))
    (T.next 0 []
    ([Value.int IntKind.i64 i3, Value.pointer (some (Addr.mk n4 0 none)),
    Value.int IntKind.i64 i11,
    Value.pointer (some (Addr.mk n17 0 none))] =
    [Value.int IntKind.i64 i3, Value.pointer (some (Addr.mk n4 0 none)),
    Value.int IntKind.i64 i11,
    Value.pointer (some (Addr.mk n17 0 none))] ∧ ([] : List Deferred) = [])))
    (T.next 0 []
    ([Value.int IntKind.i64 i3, Value.pointer (some (Addr.mk n4 0 none)),
    Value.int IntKind.i64 i11,
    Value.pointer (some (Addr.mk n17 0 none))] =
    [Value.int IntKind.i64 i3, Value.pointer (some (Addr.mk n4 0 none)),
    Value.int IntKind.i64 i11,
    Value.pointer (some (Addr.mk n17 0 none))] ∧ ([] : List Deferred) = [])))))))
    (T.next 0 []
    ([Value.int IntKind.i64 i3, Value.pointer (some (Addr.mk n4 0 none)),
    Value.int IntKind.i64 i11, Value.pointer (some (Addr.mk n17 0 none))] =
    [Value.int IntKind.i64 i3, Value.pointer (some (Addr.mk n4 0 none)),
    Value.int IntKind.i64 i11, Value.pointer (some (Addr.mk n17 0 none))] ∧ ([] : List Deferred) = []))))
    (T.ite (decide (i26 ≥ 1))
    (T.req (0 ≤ i23 ∧ i23 < (↑n1 : Int))
    (T.sm o0 fun n60 n61 =>
    T.ldI IntKind.u8 n60 (n61 + Int.toNat i23 * 1) fun i62 =>
    T.st n17 4 (Value.int IntKind.i64 (IntKind.wrap IntKind.i64 i62))
    (T.next 0 []
    ([Value.slice o0 n1 n2, Value.int IntKind.i64 i3,
    Value.pointer (some (Addr.mk n4 0 none)), Value.int IntKind.i64 i11,
    Value.pointer (some (Addr.mk n17 0 none)), Value.int IntKind.i64 i23,
    Value.int IntKind.i64 i26] =
    [Value.slice o0 n1 n2, Value.int IntKind.i64 i3,
    Value.pointer (some (Addr.mk n4 0 none)), Value.int IntKind.i64 i11,
    Value.pointer (some (Addr.mk n17 0 none)), Value.int IntKind.i64 i23,
    Value.int IntKind.i64 i26] ∧ ([] : List Deferred) = []))))
    (T.next 0 []
    ([Value.slice o0 n1 n2, Value.int IntKind.i64 i3, Value.pointer (some (Addr.mk n4 0 none)),
    Value.int IntKind.i64 i11, Value.pointer (some (Addr.mk n17 0 none)),
    Value.int IntKind.i64 i23, Value.int IntKind.i64 i26] =
    [Value.slice o0 n1 n2, Value.int IntKind.i64 i3, Value.pointer (some (Addr.mk n4 0 none)),
    Value.int IntKind.i64 i11, Value.pointer (some (Addr.mk n17 0 none)),
    Value.int IntKind.i64 i23, Value.int IntKind.i64 i26] ∧ ([] : List Deferred) = []))))
    (T.ldI IntKind.i64 n17 1 fun i63 =>
    T.call 38 [Value.int IntKind.i64 i63] fun v64 =>
    T.asB v64 fun b65 =>
    T.ite b65
    (T.req (0 ≤ i20 ∧ i20 < (↑n1 : Int))
    (T.sm o0 fun n66 n67 =>
    T.ldI IntKind.u8 n66 (n67 + Int.toNat i20 * 1) fun i68 =>
    T.st n17 3 (Value.int IntKind.i64 (IntKind.wrap IntKind.i64 i68))
    (T.next 0 [Value.int IntKind.i64 (IntKind.wrap IntKind.i64 (i20 + 1))]
    ([Value.slice o0 n1 n2, Value.int IntKind.i64 i3, Value.pointer (some (Addr.mk n4 0 none)),
    Value.int IntKind.i64 i11, Value.pointer (some (Addr.mk n17 0 none))] =
    [Value.slice o0 n1 n2, Value.int IntKind.i64 i3, Value.pointer (some (Addr.mk n4 0 none)),
    Value.int IntKind.i64 i11, Value.pointer (some (Addr.mk n17 0 none))] ∧ ([] : List Deferred) = []))))
    (T.next 0 [Value.int IntKind.i64 i20]
    ([Value.slice o0 n1 n2, Value.int IntKind.i64 i3, Value.pointer (some (Addr.mk n4 0 none)),
    Value.int IntKind.i64 i11, Value.pointer (some (Addr.mk n17 0 none))] =
    [Value.slice o0 n1 n2, Value.int IntKind.i64 i3, Value.pointer (some (Addr.mk n4 0 none)),
    Value.int IntKind.i64 i11, Value.pointer (some (Addr.mk n17 0 none))] ∧ ([] : List Deferred) = []))))
    (T.ldI IntKind.i64 n17 1 fun i69 =>
    T.call 37 [Value.int IntKind.i64 i69] fun v70 =>
    T.asB v70 fun b71 =>
    T.ite b71
    (T.req (0 ≤ IntKind.wrap IntKind.i64 (i3 + 1) ∧ IntKind.wrap IntKind.i64 (i3 + 1) < (↑n1 : Int))
    (T.sm o0 fun n72 n73 =>
    T.ldI IntKind.u8 n72 (n73 + Int.toNat (IntKind.wrap IntKind.i64 (i3 + 1)) * 1) fun i74 =>
    T.st n17 2 (Value.int IntKind.i64 (IntKind.wrap IntKind.i64 i74))
    (T.next 0 [Value.int IntKind.i64 (IntKind.wrap IntKind.i64 (IntKind.wrap IntKind.i64 (i3 + 1) + 1))]
    ([Value.slice o0 n1 n2, Value.int IntKind.i64 i3, Value.pointer (some (Addr.mk n4 0 none)),
    Value.int IntKind.i64 i11, Value.pointer (some (Addr.mk n17 0 none))] =
    [Value.slice o0 n1 n2, Value.int IntKind.i64 i3, Value.pointer (some (Addr.mk n4 0 none)),
    Value.int IntKind.i64 i11, Value.pointer (some (Addr.mk n17 0 none))] ∧ ([] : List Deferred) = []))))
    (T.next 0 [Value.int IntKind.i64 (IntKind.wrap IntKind.i64 (i3 + 1))]
    ([Value.slice o0 n1 n2, Value.int IntKind.i64 i3, Value.pointer (some (Addr.mk n4 0 none)),
    Value.int IntKind.i64 i11, Value.pointer (some (Addr.mk n17 0 none))] =
    [Value.slice o0 n1 n2, Value.int IntKind.i64 i3, Value.pointer (some (Addr.mk n4 0 none)),
    Value.int IntKind.i64 i11, Value.pointer (some (Addr.mk n17 0 none))] ∧ ([] : List Deferred) = []))))))))))
    (T.ite (i11 == 0)
    (T.st n4 0 (Value.int IntKind.i64 0)
    (T.st n4 1 (Value.int IntKind.i64 0)
    (T.st n4 2 (Value.int IntKind.i64 0)
    (T.st n4 3 (Value.int IntKind.i64 0)
    (T.st n4 4 (Value.int IntKind.i64 0)
    (T.ldI IntKind.i64 n4 0 fun i75 =>
    T.ldI IntKind.i64 n4 1 fun i76 =>
    T.ldI IntKind.i64 n4 2 fun i77 =>
    T.ldI IntKind.i64 n4 3 fun i78 =>
    T.ldI IntKind.i64 n4 4 fun i79 =>
    T.ret
    (Value.tuple
    (Array.mk
    [Value.agg
    (Array.mk
    [Value.int IntKind.i64 i75, Value.int IntKind.i64 i76, Value.int IntKind.i64 i77, Value.int IntKind.i64 i78,
    Value.int IntKind.i64 i79]),
    Value.int IntKind.i64 0, Value.int IntKind.i64 130]))))))))
    (T.ite (decide (i11 > IntKind.wrap IntKind.i64 ((↑n1 : Int) - i3)))
    (T.st n4 0 (Value.int IntKind.i64 0)
    (T.st n4 1 (Value.int IntKind.i64 0)
    (T.st n4 2 (Value.int IntKind.i64 0)
    (T.st n4 3 (Value.int IntKind.i64 0)
    (T.st n4 4 (Value.int IntKind.i64 0)
    (T.ldI IntKind.i64 n4 0 fun i80 =>
    T.ldI IntKind.i64 n4 1 fun i81 =>
    T.ldI IntKind.i64 n4 2 fun i82 =>
    T.ldI IntKind.i64 n4 3 fun i83 =>
    T.ldI IntKind.i64 n4 4 fun i84 =>
    T.ret
    (Value.tuple
    (Array.mk
    [Value.agg
    (Array.mk
    [Value.int IntKind.i64 i80, Value.int IntKind.i64 i81, Value.int IntKind.i64 i82,
    Value.int IntKind.i64 i83, Value.int IntKind.i64 i84]),
    Value.int IntKind.i64 0, Value.int IntKind.i64 130]))))))))
    (T.next 0 []
    ([Value.slice o0 n1 n2, Value.int IntKind.i64 i3, Value.pointer (some (Addr.mk n4 0 none)), Value.int IntKind.i64 i11] =
    [Value.slice o0 n1 n2, Value.int IntKind.i64 i3, Value.pointer (some (Addr.mk n4 0 none)), Value.int IntKind.i64 i11] ∧ ([] : List Deferred) = []))))))
    (T.ite (decide (i3 < 0))
    (T.st n4 0 (Value.int IntKind.i64 0)
    (T.st n4 1 (Value.int IntKind.i64 0)
    (T.st n4 2 (Value.int IntKind.i64 0)
    (T.st n4 3 (Value.int IntKind.i64 0)
    (T.st n4 4 (Value.int IntKind.i64 0)
    (T.ldI IntKind.i64 n4 0 fun i85 =>
    T.ldI IntKind.i64 n4 1 fun i86 =>
    T.ldI IntKind.i64 n4 2 fun i87 =>
    T.ldI IntKind.i64 n4 3 fun i88 =>
    T.ldI IntKind.i64 n4 4 fun i89 =>
    T.ret
    (Value.tuple
    (Array.mk
    [Value.agg
    (Array.mk
    [Value.int IntKind.i64 i85, Value.int IntKind.i64 i86, Value.int IntKind.i64 i87, Value.int IntKind.i64 i88,
    Value.int IntKind.i64 i89]),
    Value.int IntKind.i64 0, Value.int IntKind.i64 130]))))))))
    (T.ite (decide (i3 ≥ (↑n1 : Int)))
    (T.st n4 0 (Value.int IntKind.i64 0)
    (T.st n4 1 (Value.int IntKind.i64 0)
    (T.st n4 2 (Value.int IntKind.i64 0)
    (T.st n4 3 (Value.int IntKind.i64 0)
    (T.st n4 4 (Value.int IntKind.i64 0)
    (T.ldI IntKind.i64 n4 0 fun i90 =>
    T.ldI IntKind.i64 n4 1 fun i91 =>
    T.ldI IntKind.i64 n4 2 fun i92 =>
    T.ldI IntKind.i64 n4 3 fun i93 =>
    T.ldI IntKind.i64 n4 4 fun i94 =>
    T.ret
    (Value.tuple
    (Array.mk
    [Value.agg
    (Array.mk
    [Value.int IntKind.i64 i90, Value.int IntKind.i64 i91, Value.int IntKind.i64 i92, Value.int IntKind.i64 i93,
    Value.int IntKind.i64 i94]),
    Value.int IntKind.i64 0, Value.int IntKind.i64 130]))))))))
    (T.next 0 []
    ([Value.slice o0 n1 n2, Value.int IntKind.i64 i3, Value.pointer (some (Addr.mk n4 0 none))] =
    [Value.slice o0 n1 n2, Value.int IntKind.i64 i3, Value.pointer (some (Addr.mk n4 0 none))] ∧ ([] : List Deferred) = []))))
theorem e28 (o0 : Option Addr) (n1 n2 : Nat) (i3 : Int) : treeOf Try.prog Try.f28 (codeOf Try.f28) (.s .n (.c [] [0, 1, 4] .n (.s .n (.c [] [0, 1, 4, 7] .n (.s .n (.s .n (.c [(9, .int .i64)] [0, 1, 4, 7, 8] .n (.c [(9, .int .i64)] [0, 1, 4, 7, 8] .n (.s .n (.c [] [0, 1, 4, 7, 8, 9, 10] .n (.c [] [1, 4, 7, 8] (.s .n (.s (.s (.p [0, 1, 2, 3, 4, 5, 6, 7, 8, 9, 10, 11]) .n) .n)) .n))))))))))) [.v (.slice o0 n1 n2), .v (.int .i64 i3)] = (t28 o0 n1 n2 i3) := by kernel_rfl
theorem c28 (o0 : Option Addr) (n1 n2 : Nat) (i3 : Int) {w : World} {R : Ending → World → Prop} (h : (t28 o0 n1 n2 i3).sem Try.prog R ρ0 w) : Calls Try.prog 28 #[.slice o0 n1 n2, .int .i64 i3] w R :=
  calls_of mixed Try.func28 rfl rfl (e28 o0 n1 n2 i3) h
def t29 (o0 : Option Addr) (n1 n2 : Nat) : T :=
  T.loop 0 [Value.slice none 0 0, Value.int IntKind.i64 0] fun l3 j4 =>
  T.asS (List.headD l3 (Value.tuple (Array.mk []))) fun o5 n6 n7 =>
    T.asI IntKind.i64 (List.headD (List.tail l3) (Value.tuple (Array.mk []))) fun i8 =>
    T.ite (decide (i8 < (↑n1 : Int)))
    (T.call 28 [Value.slice o0 n1 n2, Value.int IntKind.i64 i8] fun v9 =>
    T.asU v9 fun l10 =>
    T.req (List.length l10 = 3)
    (T.asA (List.headD l10 (Value.tuple (Array.mk []))) fun l11 =>
    T.req (List.length l11 = 5)
    (T.asI IntKind.i64 (List.headD l11 (Value.tuple (Array.mk []))) fun i12 =>
    T.asI IntKind.i64 (List.headD (List.tail l11) (Value.tuple (Array.mk []))) fun i13 =>
    T.asI IntKind.i64 (List.headD (List.tail (List.tail l11)) (Value.tuple (Array.mk []))) fun i14 =>
    T.asI IntKind.i64 (List.headD (List.tail (List.tail (List.tail l11))) (Value.tuple (Array.mk []))) fun i15 =>
    T.asI IntKind.i64 (List.headD (List.tail (List.tail (List.tail (List.tail l11)))) (Value.tuple (Array.mk []))) fun i16 =>
    T.asI IntKind.i64 (List.headD (List.tail l10) (Value.tuple (Array.mk []))) fun i17 =>
    T.asI IntKind.i64 (List.headD (List.tail (List.tail l10)) (Value.tuple (Array.mk []))) fun i18 =>
    T.new
    (Obj.cells
    (Array.mk
    [Value.int IntKind.i64 0, Value.int IntKind.i64 0, Value.int IntKind.i64 0, Value.int IntKind.i64 0,
    Value.int IntKind.i64 0])
    40)
    fun n19 =>
    T.st n19 0 (Value.int IntKind.i64 i12)
    (T.st n19 1 (Value.int IntKind.i64 i13)
    (T.st n19 2 (Value.int IntKind.i64 i14)
    (T.st n19 3 (Value.int IntKind.i64 i15)
    (T.st n19 4 (Value.int IntKind.i64 i16)
    (T.ite (i18 != 0) (T.ret (Value.tuple (Array.mk [Value.slice o5 n6 n7, Value.int IntKind.i64 i18])))
    (T.ldI IntKind.i64 n19 0 fun i20 =>
    T.ldI IntKind.i64 n19 1 fun i21 =>
    T.ldI IntKind.i64 n19 2 fun i22 =>
    T.ldI IntKind.i64 n19 3 fun i23 =>
    T.ldI IntKind.i64 n19 4 fun i24 =>
    T.new
    (Obj.cells
    (Array.mk
    [Value.int IntKind.i64 i20, Value.int IntKind.i64 i21, Value.int IntKind.i64 i22,
    Value.int IntKind.i64 i23, Value.int IntKind.i64 i24])
    40)
    fun n25 =>
    T.run
    (biV Builtin.append (Array.mk [22, 22]) 22
    (Array.mk [Value.slice o5 n6 n7, Value.slice (some (Addr.mk n25 0 none)) 1 1]))
    fun v26 =>
    T.asS v26 fun o27 n28 n29 =>
    T.next 0 [Value.slice o27 n28 n29, Value.int IntKind.i64 i17]
    ([Value.slice o0 n1 n2] = [Value.slice o0 n1 n2] ∧ ([] : List Deferred) = []))))))))))
    (T.ret (Value.tuple (Array.mk [Value.slice o5 n6 n7, Value.int IntKind.i64 0])))
theorem e29 (o0 : Option Addr) (n1 n2 : Nat) : treeOf Try.prog Try.f29 (codeOf Try.f29) (.s .n (.s .n (.s (.s .n (.u (.l [(4, .slice), (5, .int .i64)] [0] .n))) .n))) [.v (.slice o0 n1 n2)] = (t29 o0 n1 n2) := by kernel_rfl
theorem c29 (o0 : Option Addr) (n1 n2 : Nat) {w : World} {R : Ending → World → Prop} (h : (t29 o0 n1 n2).sem Try.prog R ρ0 w) : Calls Try.prog 29 #[.slice o0 n1 n2] w R :=
  calls_of mixed Try.func29 rfl rfl (e29 o0 n1 n2) h
def t52 (i0 : Int) : T :=
  T.ite (i0 == 22) (T.ret (Value.bool true)) (T.ret (Value.bool (i0 == 23)))
theorem e52 (i0 : Int) : treeOf Try.prog Try.f52 (codeOf Try.f52) .n [.v (.int .i64 i0)] = (t52 i0) := by kernel_rfl
theorem c52 (i0 : Int) {w : World} {R : Ending → World → Prop} (h : (t52 i0).sem Try.prog R ρ0 w) : Calls Try.prog 52 #[.int .i64 i0] w R :=
  calls_of mixed Try.func52 rfl rfl (e52 i0) h
def t53 (o0 : Option Addr) (n1 n2 : Nat) (i3 : Int) : T :=
  T.loop 0 [Value.int IntKind.i64 0] fun l4 j5 =>
  T.asI IntKind.i64 (List.headD l4 (Value.tuple (Array.mk []))) fun i6 =>
    T.ite (decide (i6 < (↑n1 : Int)))
    (T.req (0 ≤ i6 ∧ i6 < (↑n1 : Int))
    (T.sm o0 fun n7 n8 =>
    T.ldI IntKind.i64 n7 (n8 + Int.toNat i6 * 5) fun i9 =>
    T.ite (i9 == i3) (T.ret (Value.bool true))
    (T.next 0 [Value.int IntKind.i64 (IntKind.wrap IntKind.i64 (i6 + 1))]
    ([Value.slice o0 n1 n2, Value.int IntKind.i64 i3] = [Value.slice o0 n1 n2, Value.int IntKind.i64 i3] ∧ ([] : List Deferred) = []))))
    (T.ret (Value.bool false))
theorem e53 (o0 : Option Addr) (n1 n2 : Nat) (i3 : Int) : treeOf Try.prog Try.f53 (codeOf Try.f53) (.s .n (.s (.s .n (.u (.l [(5, .int .i64)] [0, 1] .n))) .n)) [.v (.slice o0 n1 n2), .v (.int .i64 i3)] = (t53 o0 n1 n2 i3) := by kernel_rfl
theorem c53 (o0 : Option Addr) (n1 n2 : Nat) (i3 : Int) {w : World} {R : Ending → World → Prop} (h : (t53 o0 n1 n2 i3).sem Try.prog R ρ0 w) : Calls Try.prog 53 #[.slice o0 n1 n2, .int .i64 i3] w R :=
  calls_of mixed Try.func53 rfl rfl (e53 o0 n1 n2 i3) h
def t7 (i0 : Int) (i1 : Int) (o2 : Option Addr) (n3 n4 : Nat) (o5 : Option Addr) (n6 n7 : Nat) (o8 : Option Addr) (n9 n10 : Nat) (o11 : Option Addr) (n12 n13 : Nat) : T :=
  T.new
  (Obj.cells
    (Array.mk [Value.int IntKind.i64 i0, Value.int IntKind.i64 i1, Value.slice o2 n3 n4, Value.slice o5 n6 n7, Value.slice o8 n9 n10, Value.slice o11 n12 n13])
    51)
  fun n14 =>
  T.ldS n14 2 fun o15 n16 n17 =>
    T.call 24 [Value.slice o15 n16 n17] fun v18 =>
    T.asS v18 fun o19 n20 n21 =>
    T.ldS n14 2 fun o22 n23 n24 =>
    T.call 16 [Value.slice o22 n23 n24] fun v25 =>
    T.asU v25 fun l26 =>
    T.req (List.length l26 = 2)
    (T.asS (List.headD l26 (Value.tuple (Array.mk []))) fun o27 n28 n29 =>
    T.asI IntKind.i64 (List.headD (List.tail l26) (Value.tuple (Array.mk []))) fun i30 =>
    T.call 10 [Value.slice o27 n28 n29] fun v31 =>
    T.asU v31 fun l32 =>
    T.req (List.length l32 = 2)
    (T.asS (List.headD l32 (Value.tuple (Array.mk []))) fun o33 n34 n35 =>
    T.asI IntKind.i64 (List.headD (List.tail l32) (Value.tuple (Array.mk []))) fun i36 =>
    T.loop 0 [Value.int IntKind.i64 0] fun l37 j38 =>
    T.asI IntKind.i64 (List.headD l37 (Value.tuple (Array.mk []))) fun i39 =>
    T.ite (decide (i39 < (↑n28 : Int)))
    (T.req (0 ≤ i39 ∧ i39 < (↑n28 : Int))
    (T.sm o27 fun n40 n41 =>
    T.st n40 (n41 + Int.toNat i39 * 5 + 1) (Value.int IntKind.i64 99)
    (T.next 0 [Value.int IntKind.i64 (IntKind.wrap IntKind.i64 (i39 + 1))]
    ([Value.pointer (some (Addr.mk n14 0 none)), Value.slice o19 n20 n21, Value.slice o27 n28 n29,
    Value.slice o33 n34 n35, Value.int IntKind.i64 (↑n28 : Int)] =
    [Value.pointer (some (Addr.mk n14 0 none)), Value.slice o19 n20 n21, Value.slice o27 n28 n29,
    Value.slice o33 n34 n35, Value.int IntKind.i64 (↑n28 : Int)] ∧ ([] : List Deferred) = []))))
    (T.loop 0 [Value.int IntKind.i64 0] fun l42 j43 =>
    T.asI IntKind.i64 (List.headD l42 (Value.tuple (Array.mk []))) fun i44 =>
    T.ite (decide (i44 < (↑n34 : Int)))
    (T.req (0 ≤ i44 ∧ i44 < (↑n34 : Int))
    (T.sm o33 fun n45 n46 =>
    T.st n45 (n46 + Int.toNat i44 * 1) (Value.int IntKind.u8 99)
    (T.next 0 [Value.int IntKind.i64 (IntKind.wrap IntKind.i64 (i44 + 1))]
    ([Value.pointer (some (Addr.mk n14 0 none)), Value.slice o19 n20 n21, Value.slice o33 n34 n35,
    Value.int IntKind.i64 (↑n34 : Int)] =
    [Value.pointer (some (Addr.mk n14 0 none)), Value.slice o19 n20 n21, Value.slice o33 n34 n35,
    Value.int IntKind.i64 (↑n34 : Int)] ∧ ([] : List Deferred) = []))))
    (T.ldI IntKind.i64 n14 0 fun i47 =>
    T.ldI IntKind.i64 n14 1 fun i48 =>
    T.ldS n14 2 fun o49 n50 n51 =>
    T.ldS n14 3 fun o52 n53 n54 =>
    T.ldS n14 4 fun o55 n56 n57 =>
    T.ldS n14 5 fun o58 n59 n60 =>
    T.call 22
    [Value.agg
    (Array.mk
    [Value.int IntKind.i64 i47, Value.int IntKind.i64 i48, Value.slice o49 n50 n51,
    Value.slice o52 n53 n54, Value.slice o55 n56 n57, Value.slice o58 n59 n60])]
    fun v61 =>
    T.asI IntKind.i64 v61 fun i62 =>
    T.ldS n14 2 fun o63 n64 n65 =>
    T.call 16 [Value.slice o63 n64 n65] fun v66 =>
    T.asU v66 fun l67 =>
    T.req (List.length l67 = 2)
    (T.asS (List.headD l67 (Value.tuple (Array.mk []))) fun o68 n69 n70 =>
    T.asI IntKind.i64 (List.headD (List.tail l67) (Value.tuple (Array.mk []))) fun i71 =>
    T.call 25 [Value.slice o19 n20 n21] fun v72 =>
    T.asU v72 fun l73 =>
    T.req (List.length l73 = 2)
    (T.asS (List.headD l73 (Value.tuple (Array.mk []))) fun o74 n75 n76 =>
    T.asI IntKind.i64 (List.headD (List.tail l73) (Value.tuple (Array.mk [])))
    fun i77 =>
    T.call 14 [] fun v78 =>
    T.asB v78 fun b79 =>
    T.ite b79
    (T.ldS n14 2 fun o80 n81 n82 =>
    T.call 15 [Value.slice o80 n81 n82, Value.slice o19 n20 n21] fun v83 =>
    T.asB v83 fun b84 =>
    T.ite b84
    (T.call 26 [Value.slice o68 n69 n70, Value.slice o74 n75 n76]
    fun v85 => T.asB v85 fun b86 => T.ret (Value.bool b86))
    (T.ret (Value.bool false)))
    (T.ret (Value.bool false))))))))
theorem e7 (i0 : Int) (i1 : Int) (o2 : Option Addr) (n3 n4 : Nat) (o5 : Option Addr) (n6 n7 : Nat) (o8 : Option Addr) (n9 n10 : Nat) (o11 : Option Addr) (n12 n13 : Nat) : treeOf Try.prog Try.f7 (codeOf Try.f7) (.s .n (.s .n (.s .n (.s .n (.s (.s .n (.u (.l [(30, .int .i64)] [1, 3, 4, 6, 29] .n))) (.s (.s .n (.u (.l [(40, .int .i64)] [1, 3, 6, 39] .n))) .n)))))) [.v (.agg #[.int .i64 i0, .int .i64 i1, .slice o2 n3 n4, .slice o5 n6 n7, .slice o8 n9 n10, .slice o11 n12 n13])] = (t7 i0 i1 o2 n3 n4 o5 n6 n7 o8 n9 n10 o11 n12 n13) := by kernel_rfl
theorem c7 (i0 : Int) (i1 : Int) (o2 : Option Addr) (n3 n4 : Nat) (o5 : Option Addr) (n6 n7 : Nat) (o8 : Option Addr) (n9 n10 : Nat) (o11 : Option Addr) (n12 n13 : Nat) {w : World} {R : Ending → World → Prop} (h : (t7 i0 i1 o2 n3 n4 o5 n6 n7 o8 n9 n10 o11 n12 n13).sem Try.prog R ρ0 w) : Calls Try.prog 7 #[.agg #[.int .i64 i0, .int .i64 i1, .slice o2 n3 n4, .slice o5 n6 n7, .slice o8 n9 n10, .slice o11 n12 n13]] w R :=
  calls_of mixed Try.func7 rfl rfl (e7 i0 i1 o2 n3 n4 o5 n6 n7 o8 n9 n10 o11 n12 n13) h
def t6 (i0 : Int) (i1 : Int) (o2 : Option Addr) (n3 n4 : Nat) (o5 : Option Addr) (n6 n7 : Nat) (o8 : Option Addr) (n9 n10 : Nat) (o11 : Option Addr) (n12 n13 : Nat) : T :=
  T.new
  (Obj.cells
    (Array.mk [Value.int IntKind.i64 i0, Value.int IntKind.i64 i1, Value.slice o2 n3 n4, Value.slice o5 n6 n7, Value.slice o8 n9 n10, Value.slice o11 n12 n13])
    51)
  fun n14 =>
  T.drew
    (T.call 14 [] fun v15 =>
    T.asB v15 fun b16 =>
    T.chk []
    (T.ite b16
    (T.ldI IntKind.i64 n14 0 fun i17 =>
    T.ldI IntKind.i64 n14 1 fun i18 =>
    T.ldS n14 2 fun o19 n20 n21 =>
    T.ldS n14 3 fun o22 n23 n24 =>
    T.ldS n14 4 fun o25 n26 n27 =>
    T.ldS n14 5 fun o28 n29 n30 =>
    T.ldI IntKind.i64 n14 0 fun i31 =>
    T.ldI IntKind.i64 n14 1 fun i32 =>
    T.ldS n14 2 fun o33 n34 n35 =>
    T.ldS n14 3 fun o36 n37 n38 =>
    T.ldS n14 4 fun o39 n40 n41 =>
    T.ldS n14 5 fun o42 n43 n44 =>
    T.call 22
    [Value.agg
    (Array.mk
    [Value.int IntKind.i64 i17, Value.int IntKind.i64 i18, Value.slice o19 n20 n21, Value.slice o22 n23 n24,
    Value.slice o25 n26 n27, Value.slice o28 n29 n30])]
    fun v45 =>
    T.asI IntKind.i64 v45 fun i46 =>
    T.chk
    [(Addr.mk n14 0 none, Value.int IntKind.i64 i31), (Addr.mk n14 1 none, Value.int IntKind.i64 i32),
    (Addr.mk n14 2 none, Value.slice o33 n34 n35), (Addr.mk n14 3 none, Value.slice o36 n37 n38),
    (Addr.mk n14 4 none, Value.slice o39 n40 n41), (Addr.mk n14 5 none, Value.slice o42 n43 n44)]
    (T.call 23
    [Value.agg
    (Array.mk
    [Value.int IntKind.i64 i31, Value.int IntKind.i64 i32, Value.slice o33 n34 n35, Value.slice o36 n37 n38,
    Value.slice o39 n40 n41, Value.slice o42 n43 n44])]
    fun v47 => T.asI IntKind.i64 v47 fun i48 => T.chk [] (T.ret (Value.bool (i46 == i48)))))
    (T.chk [] (T.chk [] (T.ret (Value.bool false))))))
theorem e6 (i0 : Int) (i1 : Int) (o2 : Option Addr) (n3 n4 : Nat) (o5 : Option Addr) (n6 n7 : Nat) (o8 : Option Addr) (n9 n10 : Nat) (o11 : Option Addr) (n12 n13 : Nat) : treeOf Try.prog Try.f6 (codeOf Try.f6) (.s .n (.s (.p [0, 1, 2, 4, 3, 5, 6, 7, 8]) .n)) [.v (.agg #[.int .i64 i0, .int .i64 i1, .slice o2 n3 n4, .slice o5 n6 n7, .slice o8 n9 n10, .slice o11 n12 n13])] = (t6 i0 i1 o2 n3 n4 o5 n6 n7 o8 n9 n10 o11 n12 n13) := by kernel_rfl
theorem c6 (i0 : Int) (i1 : Int) (o2 : Option Addr) (n3 n4 : Nat) (o5 : Option Addr) (n6 n7 : Nat) (o8 : Option Addr) (n9 n10 : Nat) (o11 : Option Addr) (n12 n13 : Nat) {w : World} {R : Ending → World → Prop} (h : (t6 i0 i1 o2 n3 n4 o5 n6 n7 o8 n9 n10 o11 n12 n13).sem Try.prog R ρ0 w) : Calls Try.prog 6 #[.agg #[.int .i64 i0, .int .i64 i1, .slice o2 n3 n4, .slice o5 n6 n7, .slice o8 n9 n10, .slice o11 n12 n13]] w R :=
  calls_of mixed Try.func6 rfl rfl (e6 i0 i1 o2 n3 n4 o5 n6 n7 o8 n9 n10 o11 n12 n13) h
def t47 (n0 : Nat) (n1 n2 : Nat) : T :=
  T.loop 0 [Value.int IntKind.i64 0] fun l3 j4 =>
  T.asI IntKind.i64 (List.headD l3 (Value.tuple (Array.mk []))) fun i5 =>
    T.ldS n1 n2 fun o6 n7 n8 =>
    T.ite (decide (i5 < (↑n7 : Int)))
    (T.ldS n1 n2 fun o9 n10 n11 =>
    T.call 27 [Value.slice o9 n10 n11, Value.int IntKind.i64 i5] fun v12 =>
    T.asU v12 fun l13 =>
    T.req (List.length l13 = 3)
    (T.asA (List.headD l13 (Value.tuple (Array.mk []))) fun l14 =>
    T.req (List.length l14 = 5)
    (T.asI IntKind.i64 (List.headD l14 (Value.tuple (Array.mk []))) fun i15 =>
    T.asI IntKind.i64 (List.headD (List.tail l14) (Value.tuple (Array.mk []))) fun i16 =>
    T.asI IntKind.i64 (List.headD (List.tail (List.tail l14)) (Value.tuple (Array.mk []))) fun i17 =>
    T.asI IntKind.i64 (List.headD (List.tail (List.tail (List.tail l14))) (Value.tuple (Array.mk []))) fun i18 =>
    T.asI IntKind.i64 (List.headD (List.tail (List.tail (List.tail (List.tail l14)))) (Value.tuple (Array.mk []))) fun i19 =>
    T.asI IntKind.i64 (List.headD (List.tail l13) (Value.tuple (Array.mk []))) fun i20 =>
    T.asI IntKind.i64 (List.headD (List.tail (List.tail l13)) (Value.tuple (Array.mk []))) fun i21 =>
    T.new
    (Obj.cells
    (Array.mk
    [Value.int IntKind.i64 0, Value.int IntKind.i64 0, Value.int IntKind.i64 0, Value.int IntKind.i64 0,
    Value.int IntKind.i64 0])
    40)
    fun n22 =>
    T.st n22 0 (Value.int IntKind.i64 i15)
    (T.st n22 1 (Value.int IntKind.i64 i16)
    (T.st n22 2 (Value.int IntKind.i64 i17)
    (T.st n22 3 (Value.int IntKind.i64 i18)
    (T.st n22 4 (Value.int IntKind.i64 i19)
    (T.ite (i21 != 0) (T.ret (Value.tuple (Array.mk [])))
    (T.ldI IntKind.i64 n22 0 fun i23 =>
    T.ldI IntKind.i64 n22 1 fun i24 =>
    T.ldI IntKind.i64 n22 2 fun i25 =>
    T.ldI IntKind.i64 n22 3 fun i26 =>
    T.ldI IntKind.i64 n22 4 fun i27 =>
    T.yl n0
    [Value.int IntKind.i64 i5,
    Value.agg
    (Array.mk
    [Value.int IntKind.i64 i23, Value.int IntKind.i64 i24, Value.int IntKind.i64 i25,
    Value.int IntKind.i64 i26, Value.int IntKind.i64 i27])]
    fun v28 =>
    T.asB v28 fun b29 =>
    T.ite (!b29) (T.ret (Value.tuple (Array.mk [])))
    (T.next 0 [Value.int IntKind.i64 i20]
    ([Value.func (Fn.yield n0) (Array.mk []) (Array.mk []),
    Value.pointer (some (Addr.mk n1 n2 none))] =
    [Value.func (Fn.yield n0) (Array.mk []) (Array.mk []),
    Value.pointer (some (Addr.mk n1 n2 none))] ∧ ([] : List Deferred) = [])))))))))))
    (T.ret (Value.tuple (Array.mk [])))
theorem e47 (n0 : Nat) (n1 n2 : Nat) : treeOf Try.prog Try.f47 (codeOf Try.f47) (.s .n (.u (.l [(3, .int .i64)] [0, 1] .n))) [.v (.func (.yield n0) #[] #[]), .p n1 n2] = (t47 n0 n1 n2) := by kernel_rfl
theorem c47 (n0 : Nat) (n1 n2 : Nat) {w : World} {R : Ending → World → Prop} (h : (t47 n0 n1 n2).sem Try.prog R ρ0 w) : Calls Try.prog 47 #[.func (.yield n0) #[] #[], .pointer (some ⟨n1, n2, none⟩)] w R :=
  calls_of mixed Try.func47 rfl rfl (e47 n0 n1 n2) h
def t21 (i0 : Int) (i1 : Int) (i2 : Int) (i3 : Int) (i4 : Int) (n5 n6 : Nat) : T :=
  T.new
  (Obj.cells (Array.mk [Value.int IntKind.i64 i0, Value.int IntKind.i64 i1, Value.int IntKind.i64 i2, Value.int IntKind.i64 i3, Value.int IntKind.i64 i4]) 40)
  fun n7 => T.ldI IntKind.i64 n7 0 fun i8 => T.ldI IntKind.i64 n5 n6 fun i9 => T.ret (Value.bool (i8 == i9))
theorem e21 (i0 : Int) (i1 : Int) (i2 : Int) (i3 : Int) (i4 : Int) (n5 n6 : Nat) : treeOf Try.prog Try.f21 (codeOf Try.f21) .n [.v (.agg #[.int .i64 i0, .int .i64 i1, .int .i64 i2, .int .i64 i3, .int .i64 i4]), .p n5 n6] = (t21 i0 i1 i2 i3 i4 n5 n6) := by kernel_rfl
theorem c21 (i0 : Int) (i1 : Int) (i2 : Int) (i3 : Int) (i4 : Int) (n5 n6 : Nat) {w : World} {R : Ending → World → Prop} (h : (t21 i0 i1 i2 i3 i4 n5 n6).sem Try.prog R ρ0 w) : Calls Try.prog 21 #[.agg #[.int .i64 i0, .int .i64 i1, .int .i64 i2, .int .i64 i3, .int .i64 i4], .pointer (some ⟨n5, n6, none⟩)] w R :=
  calls_of mixed Try.func21 rfl rfl (e21 i0 i1 i2 i3 i4 n5 n6) h
def t20 (o0 : Option Addr) (n1 n2 : Nat) (n3 n4 : Nat) : T :=
  T.call 49 [Value.slice o0 n1 n2, Value.func (Fn.func 21) (Array.mk []) (Array.mk [Value.pointer (some (Addr.mk n3 n4 none))])] fun v5 =>
  T.asI IntKind.i64 v5 fun i6 => T.ret (Value.bool (decide (i6 ≥ 0)))
theorem e20 (o0 : Option Addr) (n1 n2 : Nat) (n3 n4 : Nat) : treeOf Try.prog Try.f20 (codeOf Try.f20) .n [.v (.slice o0 n1 n2), .v (.func (.func 21) #[] #[.pointer (some ⟨n3, n4, none⟩)])] = (t20 o0 n1 n2 n3 n4) := by kernel_rfl
theorem c20 (o0 : Option Addr) (n1 n2 : Nat) (n3 n4 : Nat) {w : World} {R : Ending → World → Prop} (h : (t20 o0 n1 n2 n3 n4).sem Try.prog R ρ0 w) : Calls Try.prog 20 #[.slice o0 n1 n2, .func (.func 21) #[] #[.pointer (some ⟨n3, n4, none⟩)]] w R :=
  calls_of mixed Try.func20 rfl rfl (e20 o0 n1 n2 n3 n4) h
def t49 (o0 : Option Addr) (n1 n2 : Nat) (n3 n4 : Nat) : T :=
  T.loop 0 [Value.int IntKind.i64 0] fun l5 j6 =>
  T.asI IntKind.i64 (List.headD l5 (Value.tuple (Array.mk []))) fun i7 =>
    T.ite (decide (i7 < (↑n1 : Int)))
    (T.req (0 ≤ i7 ∧ i7 < (↑n1 : Int))
    (T.sm o0 fun n8 n9 =>
    T.ldI IntKind.i64 n8 (n9 + Int.toNat i7 * 5) fun i10 =>
    T.ldI IntKind.i64 n8 (n9 + Int.toNat i7 * 5 + 1) fun i11 =>
    T.ldI IntKind.i64 n8 (n9 + Int.toNat i7 * 5 + 2) fun i12 =>
    T.ldI IntKind.i64 n8 (n9 + Int.toNat i7 * 5 + 3) fun i13 =>
    T.ldI IntKind.i64 n8 (n9 + Int.toNat i7 * 5 + 4) fun i14 =>
    T.call 21
    [Value.agg
    (Array.mk
    [Value.int IntKind.i64 i10, Value.int IntKind.i64 i11, Value.int IntKind.i64 i12, Value.int IntKind.i64 i13,
    Value.int IntKind.i64 i14]),
    Value.pointer (some (Addr.mk n3 n4 none))]
    fun v15 =>
    T.asB v15 fun b16 =>
    T.ite b16 (T.ret (Value.int IntKind.i64 i7))
    (T.next 0 [Value.int IntKind.i64 (IntKind.wrap IntKind.i64 (i7 + 1))]
    ([Value.slice o0 n1 n2, Value.func (Fn.func 21) (Array.mk []) (Array.mk [Value.pointer (some (Addr.mk n3 n4 none))]),
    Value.int IntKind.i64 (↑n1 : Int)] =
    [Value.slice o0 n1 n2, Value.func (Fn.func 21) (Array.mk []) (Array.mk [Value.pointer (some (Addr.mk n3 n4 none))]),
    Value.int IntKind.i64 (↑n1 : Int)] ∧ ([] : List Deferred) = []))))
    (T.ret (Value.int IntKind.i64 (-1)))
theorem e49 (o0 : Option Addr) (n1 n2 : Nat) (n3 n4 : Nat) : treeOf Try.prog Try.f49 (codeOf Try.f49) (.s .n (.s (.s .n (.u (.l [(8, .int .i64)] [0, 1, 7] .n))) .n)) [.v (.slice o0 n1 n2), .v (.func (.func 21) #[] #[.pointer (some ⟨n3, n4, none⟩)])] = (t49 o0 n1 n2 n3 n4) := by kernel_rfl
theorem c49 (o0 : Option Addr) (n1 n2 : Nat) (n3 n4 : Nat) {w : World} {R : Ending → World → Prop} (h : (t49 o0 n1 n2 n3 n4).sem Try.prog R ρ0 w) : Calls Try.prog 49 #[.slice o0 n1 n2, .func (.func 21) #[] #[.pointer (some ⟨n3, n4, none⟩)]] w R :=
  calls_of mixed Try.func49 rfl rfl (e49 o0 n1 n2 n3 n4) h
end Go.Proofs.Ytgoecmggbcaoiaa
