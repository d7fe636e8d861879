/- The functions' trees, printed by a program (wip/tools/Emit.lean) and checked by the kernel against the model's own code. -/
import Derived.Test.YtcmdbaafnbdpbaaCode
import Derived.Test.YtcmdbaafnbdpbaaProg
namespace Go.Proofs.Ytcmdbaafnbdpbaa
open Go hiding Expr
open Go.Proofs.Ytcmdbaafnbdpbaa.Tr
set_option linter.unusedVariables false
set_option maxRecDepth 100000
theorem mixed : Try.prog.follows .mixedOrders = true := by kernel_rfl
def t10  : T :=
  T.new (Obj.map (Array.mk []) 0) fun n0 =>
  T.new (Obj.cells (Array.mk [Value.map (some n0), Value.slice none 0 0]) 61) fun n1 => T.ret (Value.pointer (some (Addr.mk n1 0 none)))
theorem e10  : treeOf Try.prog Try.f10 (codeOf Try.f10) .n [] = t10 := by kernel_rfl
theorem c10  {w : World} {R : Ending → World → Prop} (h : t10.sem Try.prog R ρ0 w) : Calls Try.prog 10 #[] w R :=
  calls_of mixed Try.func10 rfl rfl (e10 ) h
def t25 (n0 n1 : Nat) : T :=
  T.ldM n0 n1 fun o2 => T.ret (Value.bool (Option.isNone o2))
theorem e25 (n0 n1 : Nat) : treeOf Try.prog Try.f25 (codeOf Try.f25) .n [.p n0 n1] = (t25 n0 n1) := by kernel_rfl
theorem c25 (n0 n1 : Nat) {w : World} {R : Ending → World → Prop} (h : (t25 n0 n1).sem Try.prog R ρ0 w) : Calls Try.prog 25 #[.pointer (some ⟨n0, n1, none⟩)] w R :=
  calls_of mixed Try.func25 rfl rfl (e25 n0 n1) h
def t29 (i0 : Int) (o1 : Option Addr) (n2 n3 : Nat) (i4 : Int) (i5 : Int) : T :=
  T.new (Obj.cells (Array.mk [Value.int IntKind.i64 i0, Value.slice o1 n2 n3, Value.int IntKind.i64 i4, Value.int IntKind.i64 i5]) 30) fun n6 =>
  T.new (Obj.cells (Array.mk [Value.int IntKind.i64 0, Value.slice none 0 0, Value.int IntKind.i64 0, Value.int IntKind.i64 0]) 30) fun n7 =>
    T.ldS n6 1 fun o8 n9 n10 =>
    T.call 39 [Value.slice o8 n9 n10] fun v11 =>
    T.asS v11 fun o12 n13 n14 =>
    T.st n6 1 (Value.slice o12 n13 n14)
    (T.ldI IntKind.i64 n6 0 fun i15 =>
    T.ldS n6 1 fun o16 n17 n18 =>
    T.ldI IntKind.i64 n6 2 fun i19 =>
    T.ldI IntKind.i64 n6 3 fun i20 =>
    T.st n7 0 (Value.int IntKind.i64 i15)
    (T.st n7 1 (Value.slice o16 n17 n18)
    (T.st n7 2 (Value.int IntKind.i64 i19)
    (T.st n7 3 (Value.int IntKind.i64 i20)
    (T.ldI IntKind.i64 n7 0 fun i21 =>
    T.ldS n7 1 fun o22 n23 n24 =>
    T.ldI IntKind.i64 n7 2 fun i25 =>
    T.ldI IntKind.i64 n7 3 fun i26 =>
    T.ret
    (Value.agg
    (Array.mk
    [Value.int IntKind.i64 i21, Value.slice o22 n23 n24, Value.int IntKind.i64 i25, Value.int IntKind.i64 i26])))))))
theorem e29 (i0 : Int) (o1 : Option Addr) (n2 n3 : Nat) (i4 : Int) (i5 : Int) : treeOf Try.prog Try.f29 (codeOf Try.f29) .n [.v (.agg #[.int .i64 i0, .slice o1 n2 n3, .int .i64 i4, .int .i64 i5])] = (t29 i0 o1 n2 n3 i4 i5) := by kernel_rfl
theorem c29 (i0 : Int) (o1 : Option Addr) (n2 n3 : Nat) (i4 : Int) (i5 : Int) {w : World} {R : Ending → World → Prop} (h : (t29 i0 o1 n2 n3 i4 i5).sem Try.prog R ρ0 w) : Calls Try.prog 29 #[.agg #[.int .i64 i0, .slice o1 n2 n3, .int .i64 i4, .int .i64 i5]] w R :=
  calls_of mixed Try.func29 rfl rfl (e29 i0 o1 n2 n3 i4 i5) h
def t39 (o0 : Option Addr) (n1 n2 : Nat) : T :=
  T.ite (Option.isNone o0) (T.ret (Value.slice none 0 0))
  (T.new (Obj.cells (Array.mk []) 2) fun n3 =>
    T.run (biV Builtin.append (Array.mk [28, 28]) 28 (Array.mk [Value.slice (some (Addr.mk n3 0 none)) 0 0, Value.slice o0 n1 n2])) fun v4 =>
    T.asS v4 fun o5 n6 n7 => T.ret (Value.slice o5 n6 n7))
theorem e39 (o0 : Option Addr) (n1 n2 : Nat) : treeOf Try.prog Try.f39 (codeOf Try.f39) .n [.v (.slice o0 n1 n2)] = (t39 o0 n1 n2) := by kernel_rfl
theorem c39 (o0 : Option Addr) (n1 n2 : Nat) {w : World} {R : Ending → World → Prop} (h : (t39 o0 n1 n2).sem Try.prog R ρ0 w) : Calls Try.prog 39 #[.slice o0 n1 n2] w R :=
  calls_of mixed Try.func39 rfl rfl (e39 o0 n1 n2) h
def t31 (o0 : Option Addr) (n1 n2 : Nat) : T :=
  T.call 40 [Value.slice o0 n1 n2, Value.func (Fn.func 41) (Array.mk []) (Array.mk [])] fun v3 => T.asB v3 fun b4 => T.ret (Value.bool b4)
theorem e31 (o0 : Option Addr) (n1 n2 : Nat) : treeOf Try.prog Try.f31 (codeOf Try.f31) .n [.v (.slice o0 n1 n2)] = (t31 o0 n1 n2) := by kernel_rfl
theorem c31 (o0 : Option Addr) (n1 n2 : Nat) {w : World} {R : Ending → World → Prop} (h : (t31 o0 n1 n2).sem Try.prog R ρ0 w) : Calls Try.prog 31 #[.slice o0 n1 n2] w R :=
  calls_of mixed Try.func31 rfl rfl (e31 o0 n1 n2) h
def t41 (i0 : Int) : T :=
  T.ite (decide (i0 < 1)) (T.ret (Value.bool true)) (T.ret (Value.bool (decide (i0 > 1099511627776))))
theorem e41 (i0 : Int) : treeOf Try.prog Try.f41 (codeOf Try.f41) .n [.v (.int .i64 i0)] = (t41 i0) := by kernel_rfl
theorem c41 (i0 : Int) {w : World} {R : Ending → World → Prop} (h : (t41 i0).sem Try.prog R ρ0 w) : Calls Try.prog 41 #[.int .i64 i0] w R :=
  calls_of mixed Try.func41 rfl rfl (e41 i0) h
def t26 (i0 : Int) : T :=
  T.new (Obj.map (Array.mk []) 0) fun n1 =>
  T.run (muV 79 (Value.map (some n1)) (Value.int IntKind.i64 1) (Value.int IntKind.i64 0)) fun v2 =>
    T.run (muV 79 (Value.map (some n1)) (Value.int IntKind.i64 2) (Value.int IntKind.i64 5)) fun v3 =>
    T.run (muV 79 (Value.map (some n1)) (Value.int IntKind.i64 5) (Value.int IntKind.i64 6)) fun v4 =>
    T.run (Instr.lookup 79 (Value.map (some n1)) (Value.int IntKind.i64 i0) true) fun v5 =>
    T.asU v5 fun l6 =>
    T.req (List.length l6 = 2)
    (T.asI IntKind.i64 (List.headD l6 (Value.tuple (Array.mk []))) fun i7 =>
    T.asB (List.headD (List.tail l6) (Value.tuple (Array.mk []))) fun b8 =>
    T.ite (!b8) (T.ret (Value.int IntKind.i64 1)) (T.ret (Value.int IntKind.i64 i7)))
theorem e26 (i0 : Int) : treeOf Try.prog Try.f26 (codeOf Try.f26) .n [.v (.int .i64 i0)] = (t26 i0) := by kernel_rfl
theorem c26 (i0 : Int) {w : World} {R : Ending → World → Prop} (h : (t26 i0).sem Try.prog R ρ0 w) : Calls Try.prog 26 #[.int .i64 i0] w R :=
  calls_of mixed Try.func26 rfl rfl (e26 i0) h
def t27 (n0 n1 : Nat) (i2 : Int) (i3 : Int) : T :=
  T.new (Obj.cells (Array.mk [Value.int IntKind.i64 i2, Value.int IntKind.i64 i3]) 2) fun n4 =>
  T.call 31 [Value.slice (some (Addr.mk n4 0 none)) 2 2] fun v5 =>
    T.asB v5 fun b6 =>
    T.ite b6 (T.ret (Value.int IntKind.i64 6))
    (T.ldM n0 n1 fun o7 =>
    T.run (Instr.lookup 59 (Value.map o7) (Value.int IntKind.i64 i2) true) fun v8 =>
    T.asU v8 fun l9 =>
    T.req (List.length l9 = 2)
    (T.asA (List.headD l9 (Value.tuple (Array.mk []))) fun l10 =>
    T.req (List.length l10 = 5)
    (T.asI IntKind.i64 (List.headD l10 (Value.tuple (Array.mk []))) fun i11 =>
    T.asI IntKind.i64 (List.headD (List.tail l10) (Value.tuple (Array.mk []))) fun i12 =>
    T.asS (List.headD (List.tail (List.tail l10)) (Value.tuple (Array.mk []))) fun o13 n14 n15 =>
    T.asI IntKind.i64 (List.headD (List.tail (List.tail (List.tail l10))) (Value.tuple (Array.mk []))) fun i16 =>
    T.asI IntKind.i64 (List.headD (List.tail (List.tail (List.tail (List.tail l10)))) (Value.tuple (Array.mk []))) fun i17 =>
    T.asB (List.headD (List.tail l9) (Value.tuple (Array.mk []))) fun b18 =>
    T.new
    (Obj.cells
    (Array.mk
    [Value.int IntKind.i64 0, Value.int IntKind.i64 0, Value.slice none 0 0, Value.int IntKind.i64 0,
    Value.int IntKind.i64 0])
    69)
    fun n19 =>
    T.st n19 0 (Value.int IntKind.i64 i11)
    (T.st n19 1 (Value.int IntKind.i64 i12)
    (T.st n19 2 (Value.slice o13 n14 n15)
    (T.st n19 3 (Value.int IntKind.i64 i16)
    (T.st n19 4 (Value.int IntKind.i64 i17)
    (T.blk 0
    (fun l20 j21 =>
    T.ldI IntKind.i64 n19 0 fun i22 =>
    T.ite (IntKind.wrap IntKind.i64 (i3 - i22) == 1) (T.ret (Value.int IntKind.i64 1))
    (T.ite (decide (IntKind.wrap IntKind.i64 (i3 - i22) > 1)) (T.ret (Value.int IntKind.i64 4))
    (T.ite (IntKind.wrap IntKind.i64 (i3 - i22) == 0) (T.ret (Value.int IntKind.i64 2))
    (T.ret (Value.int IntKind.i64 3)))))
    (T.ite (!b18)
    (T.ite (i3 == 1)
    (T.ldS n0 (n1 + 1) fun o23 n24 n25 =>
    T.ite ((↑n24 : Int) == 64) (T.ret (Value.int IntKind.i64 5))
    (T.next 0 []
    ([Value.int IntKind.i64 i3, Value.pointer (some (Addr.mk n19 0 none))] =
    [Value.int IntKind.i64 i3, Value.pointer (some (Addr.mk n19 0 none))] ∧ ([] : List Deferred) = [])))
    (T.next 0 []
    ([Value.int IntKind.i64 i3, Value.pointer (some (Addr.mk n19 0 none))] =
    [Value.int IntKind.i64 i3, Value.pointer (some (Addr.mk n19 0 none))] ∧ ([] : List Deferred) = [])))
    (T.next 0 []
    ([Value.int IntKind.i64 i3, Value.pointer (some (Addr.mk n19 0 none))] =
    [Value.int IntKind.i64 i3, Value.pointer (some (Addr.mk n19 0 none))] ∧ ([] : List Deferred) = [])))))))))))
theorem e27 (n0 n1 : Nat) (i2 : Int) (i3 : Int) : treeOf Try.prog Try.f27 (codeOf Try.f27) (.s .n (.s .n (.s .n (.c [] [2, 7] .n .n)))) [.p n0 n1, .v (.int .i64 i2), .v (.int .i64 i3)] = (t27 n0 n1 i2 i3) := by kernel_rfl
theorem c27 (n0 n1 : Nat) (i2 : Int) (i3 : Int) {w : World} {R : Ending → World → Prop} (h : (t27 n0 n1 i2 i3).sem Try.prog R ρ0 w) : Calls Try.prog 27 #[.pointer (some ⟨n0, n1, none⟩), .int .i64 i2, .int .i64 i3] w R :=
  calls_of mixed Try.func27 rfl rfl (e27 n0 n1 i2 i3) h
def t28 (n0 n1 : Nat) (i2 : Int) (i3 : Int) (i4 : Int) (o5 : Option Addr) (n6 n7 : Nat) (i8 : Int) (i9 : Int) : T :=
  T.new (Obj.cells (Array.mk [Value.int IntKind.i64 i4, Value.slice o5 n6 n7, Value.int IntKind.i64 i8, Value.int IntKind.i64 i9]) 30) fun n10 =>
  T.blk 0
    (fun l11 j12 =>
    T.drew
    (T.ldM n0 n1 fun o13 =>
    T.ldI IntKind.i64 n10 0 fun i14 =>
    T.ldS n10 1 fun o15 n16 n17 =>
    T.ldI IntKind.i64 n10 2 fun i18 =>
    T.ldI IntKind.i64 n10 3 fun i19 =>
    T.call 29 [Value.agg (Array.mk [Value.int IntKind.i64 i14, Value.slice o15 n16 n17, Value.int IntKind.i64 i18, Value.int IntKind.i64 i19])]
    fun v20 =>
    T.asA v20 fun l21 =>
    T.req (List.length l21 = 4)
    (T.asI IntKind.i64 (List.headD l21 (Value.tuple (Array.mk []))) fun i22 =>
    T.asS (List.headD (List.tail l21) (Value.tuple (Array.mk []))) fun o23 n24 n25 =>
    T.asI IntKind.i64 (List.headD (List.tail (List.tail l21)) (Value.tuple (Array.mk []))) fun i26 =>
    T.asI IntKind.i64 (List.headD (List.tail (List.tail (List.tail l21))) (Value.tuple (Array.mk []))) fun i27 =>
    T.chk [(Addr.mk n0 n1 none, Value.map o13)]
    (T.run
    (muV 59 (Value.map o13) (Value.int IntKind.i64 i2)
    (Value.agg
    (Array.mk
    [Value.int IntKind.i64 i3, Value.int IntKind.i64 i22, Value.slice o23 n24 n25, Value.int IntKind.i64 i26,
    Value.int IntKind.i64 i27])))
    fun v28 => T.chk [] (T.ret (Value.tuple (Array.mk [])))))))
    (T.ldS n0 (n1 + 1) fun o29 n30 n31 =>
    T.call 37 [Value.slice o29 n30 n31, Value.int IntKind.i64 i2] fun v32 =>
    T.asU v32 fun l33 =>
    T.req (List.length l33 = 2)
    (T.asI IntKind.i64 (List.headD l33 (Value.tuple (Array.mk []))) fun i34 =>
    T.asB (List.headD (List.tail l33) (Value.tuple (Array.mk []))) fun b35 =>
    T.ite (!b35)
    (T.ldS n0 (n1 + 1) fun o36 n37 n38 =>
    T.new (Obj.cells (Array.mk [Value.int IntKind.i64 i2]) 2) fun n39 =>
    T.call 38 [Value.slice o36 n37 n38, Value.int IntKind.i64 i34, Value.slice (some (Addr.mk n39 0 none)) 1 1] fun v40 =>
    T.asS v40 fun o41 n42 n43 =>
    T.st n0 (n1 + 1) (Value.slice o41 n42 n43)
    (T.next 0 []
    ([Value.pointer (some (Addr.mk n0 n1 none)), Value.int IntKind.i64 i2, Value.int IntKind.i64 i3,
    Value.pointer (some (Addr.mk n10 0 none))] =
    [Value.pointer (some (Addr.mk n0 n1 none)), Value.int IntKind.i64 i2, Value.int IntKind.i64 i3,
    Value.pointer (some (Addr.mk n10 0 none))] ∧ ([] : List Deferred) = [])))
    (T.next 0 []
    ([Value.pointer (some (Addr.mk n0 n1 none)), Value.int IntKind.i64 i2, Value.int IntKind.i64 i3,
    Value.pointer (some (Addr.mk n10 0 none))] =
    [Value.pointer (some (Addr.mk n0 n1 none)), Value.int IntKind.i64 i2, Value.int IntKind.i64 i3,
    Value.pointer (some (Addr.mk n10 0 none))] ∧ ([] : List Deferred) = []))))
theorem e28 (n0 n1 : Nat) (i2 : Int) (i3 : Int) (i4 : Int) (o5 : Option Addr) (n6 n7 : Nat) (i8 : Int) (i9 : Int) : treeOf Try.prog Try.f28 (codeOf Try.f28) (.s .n (.c [] [0, 1, 2, 7] .n (.p [0, 1, 2, 3, 4, 5, 6, 7, 8, 9]))) [.p n0 n1, .v (.int .i64 i2), .v (.int .i64 i3), .v (.agg #[.int .i64 i4, .slice o5 n6 n7, .int .i64 i8, .int .i64 i9])] = (t28 n0 n1 i2 i3 i4 o5 n6 n7 i8 i9) := by kernel_rfl
theorem c28 (n0 n1 : Nat) (i2 : Int) (i3 : Int) (i4 : Int) (o5 : Option Addr) (n6 n7 : Nat) (i8 : Int) (i9 : Int) {w : World} {R : Ending → World → Prop} (h : (t28 n0 n1 i2 i3 i4 o5 n6 n7 i8 i9).sem Try.prog R ρ0 w) : Calls Try.prog 28 #[.pointer (some ⟨n0, n1, none⟩), .int .i64 i2, .int .i64 i3, .agg #[.int .i64 i4, .slice o5 n6 n7, .int .i64 i8, .int .i64 i9]] w R :=
  calls_of mixed Try.func28 rfl rfl (e28 n0 n1 i2 i3 i4 o5 n6 n7 i8 i9) h
def t37 (o0 : Option Addr) (n1 n2 : Nat) (i3 : Int) : T :=
  T.loop 0 [Value.int IntKind.i64 0, Value.int IntKind.i64 (↑n1 : Int)] fun l4 j5 =>
  T.asI IntKind.i64 (List.headD l4 (Value.tuple (Array.mk []))) fun i6 =>
    T.asI IntKind.i64 (List.headD (List.tail l4) (Value.tuple (Array.mk []))) fun i7 =>
    T.ite (decide (i6 < i7))
    (T.req ((0 : Int) ≤ 1)
    (T.req
    (0 ≤ IntKind.wrap IntKind.i64 (shrI IntKind.u64 (IntKind.wrap IntKind.u64 (IntKind.wrap IntKind.i64 (i6 + i7))) 1) ∧
    IntKind.wrap IntKind.i64 (shrI IntKind.u64 (IntKind.wrap IntKind.u64 (IntKind.wrap IntKind.i64 (i6 + i7))) 1) < (↑n1 : Int))
    (T.sm o0 fun n8 n9 =>
    T.ldI IntKind.i64 n8
    (n9 + Int.toNat (IntKind.wrap IntKind.i64 (shrI IntKind.u64 (IntKind.wrap IntKind.u64 (IntKind.wrap IntKind.i64 (i6 + i7))) 1)) * 1) fun i10 =>
    T.call 43 [Value.int IntKind.i64 i10, Value.int IntKind.i64 i3] fun v11 =>
    T.asB v11 fun b12 =>
    T.ite b12
    (T.next 0
    [Value.int IntKind.i64
    (IntKind.wrap IntKind.i64
    (IntKind.wrap IntKind.i64 (shrI IntKind.u64 (IntKind.wrap IntKind.u64 (IntKind.wrap IntKind.i64 (i6 + i7))) 1) + 1)),
    Value.int IntKind.i64 i7]
    ([Value.slice o0 n1 n2, Value.int IntKind.i64 i3, Value.int IntKind.i64 (↑n1 : Int)] =
    [Value.slice o0 n1 n2, Value.int IntKind.i64 i3, Value.int IntKind.i64 (↑n1 : Int)] ∧ ([] : List Deferred) = []))
    (T.next 0
    [Value.int IntKind.i64 i6,
    Value.int IntKind.i64 (IntKind.wrap IntKind.i64 (shrI IntKind.u64 (IntKind.wrap IntKind.u64 (IntKind.wrap IntKind.i64 (i6 + i7))) 1))]
    ([Value.slice o0 n1 n2, Value.int IntKind.i64 i3, Value.int IntKind.i64 (↑n1 : Int)] =
    [Value.slice o0 n1 n2, Value.int IntKind.i64 i3, Value.int IntKind.i64 (↑n1 : Int)] ∧ ([] : List Deferred) = [])))))
    (T.ite (decide (i6 < (↑n1 : Int)))
    (T.req (0 ≤ i6 ∧ i6 < (↑n1 : Int))
    (T.sm o0 fun n13 n14 =>
    T.ldI IntKind.i64 n13 (n14 + Int.toNat i6 * 1) fun i15 =>
    T.ite (i15 == i3) (T.ret (Value.tuple (Array.mk [Value.int IntKind.i64 i6, Value.bool true])))
    (T.req (0 ≤ i6 ∧ i6 < (↑n1 : Int))
    (T.sm o0 fun n16 n17 =>
    T.ldI IntKind.i64 n16 (n17 + Int.toNat i6 * 1) fun i18 =>
    T.call 44 [Value.int IntKind.i64 i18] fun v19 =>
    T.asB v19 fun b20 =>
    T.ite b20
    (T.call 44 [Value.int IntKind.i64 i3] fun v21 =>
    T.asB v21 fun b22 => T.ret (Value.tuple (Array.mk [Value.int IntKind.i64 i6, Value.bool b22])))
    (T.ret (Value.tuple (Array.mk [Value.int IntKind.i64 i6, Value.bool false])))))))
    (T.ret (Value.tuple (Array.mk [Value.int IntKind.i64 i6, Value.bool false]))))
theorem e37 (o0 : Option Addr) (n1 n2 : Nat) (i3 : Int) : treeOf Try.prog Try.f37 (codeOf Try.f37) (.s .n (.s .n (.s .n (.s (.u (.l [(7, .int .i64), (8, .int .i64)] [0, 1, 6] .n)) .n)))) [.v (.slice o0 n1 n2), .v (.int .i64 i3)] = (t37 o0 n1 n2 i3) := by kernel_rfl
theorem c37 (o0 : Option Addr) (n1 n2 : Nat) (i3 : Int) {w : World} {R : Ending → World → Prop} (h : (t37 o0 n1 n2 i3).sem Try.prog R ρ0 w) : Calls Try.prog 37 #[.slice o0 n1 n2, .int .i64 i3] w R :=
  calls_of mixed Try.func37 rfl rfl (e37 o0 n1 n2 i3) h
def t38 (o0 : Option Addr) (n1 n2 : Nat) (i3 : Int) (o4 : Option Addr) (n5 n6 : Nat) : T :=
  T.req (0 ≤ i3 ∧ i3 ≤ (↑n1 : Int))
  (T.ite ((↑n5 : Int) == 0) (T.ret (Value.slice o0 n1 n2))
    (T.ite (i3 == (↑n1 : Int))
    (T.run (biV Builtin.append (Array.mk [28, 28]) 28 (Array.mk [Value.slice o0 n1 n2, Value.slice o4 n5 n6])) fun v7 =>
    T.asS v7 fun o8 n9 n10 => T.ret (Value.slice o8 n9 n10))
    (T.ite (decide (IntKind.wrap IntKind.i64 ((↑n1 : Int) + (↑n5 : Int)) > (↑n2 : Int)))
    (T.req (0 ≤ i3 ∧ i3 ≤ (↑n2 : Int))
    (T.run
    (biV Builtin.append (Array.mk [28, 3]) 28
    (Array.mk
    [Value.slice (sliceBase o0 0 n2 1) (Int.toNat i3) n2,
    Value.int IntKind.i64 (IntKind.wrap IntKind.i64 (IntKind.wrap IntKind.i64 ((↑n1 : Int) + (↑n5 : Int)) - i3))]))
    fun v11 =>
    T.asS v11 fun o12 n13 n14 =>
    T.req (0 ≤ i3 ∧ i3 ≤ (↑n13 : Int))
    (T.run
    (biV Builtin.copy (Array.mk [28, 28]) 3
    (Array.mk [Value.slice (sliceBase o12 (Int.toNat i3) n14 1) (n13 - Int.toNat i3) (n14 - Int.toNat i3), Value.slice o4 n5 n6]))
    fun v15 =>
    T.asI IntKind.i64 v15 fun i16 =>
    T.drew
    (T.req (0 ≤ IntKind.wrap IntKind.i64 (i3 + (↑n5 : Int)) ∧ IntKind.wrap IntKind.i64 (i3 + (↑n5 : Int)) ≤ (↑n13 : Int))
    (T.req (0 ≤ i3 ∧ i3 ≤ (↑n1 : Int))
    (T.run
    (biV Builtin.copy (Array.mk [28, 28]) 3
    (Array.mk
    [Value.slice (sliceBase o12 (Int.toNat (IntKind.wrap IntKind.i64 (i3 + (↑n5 : Int)))) n14 1)
    (n13 - Int.toNat (IntKind.wrap IntKind.i64 (i3 + (↑n5 : Int))))
    (n14 - Int.toNat (IntKind.wrap IntKind.i64 (i3 + (↑n5 : Int)))),
    Value.slice (sliceBase o0 (Int.toNat i3) n2 1) (n1 - Int.toNat i3) (n2 - Int.toNat i3)]))
    fun v17 => T.asI IntKind.i64 v17 fun i18 => T.chk [] (T.ret (Value.slice o12 n13 n14))))))))
    (T.req (0 ≤ IntKind.wrap IntKind.i64 ((↑n1 : Int) + (↑n5 : Int)) ∧ IntKind.wrap IntKind.i64 ((↑n1 : Int) + (↑n5 : Int)) ≤ (↑n2 : Int))
    (T.req
    (0 ≤ IntKind.wrap IntKind.i64 (i3 + (↑n5 : Int)) ∧
    IntKind.wrap IntKind.i64 (i3 + (↑n5 : Int)) ≤ (↑(Int.toNat (IntKind.wrap IntKind.i64 ((↑n1 : Int) + (↑n5 : Int)))) : Int))
    (T.run
    (extV 45
    (Array.mk
    [Value.slice o4 n5 n6,
    Value.slice (sliceBase (sliceBase o0 0 n2 1) (Int.toNat (IntKind.wrap IntKind.i64 (i3 + (↑n5 : Int)))) n2 1)
    (Int.toNat (IntKind.wrap IntKind.i64 ((↑n1 : Int) + (↑n5 : Int))) - Int.toNat (IntKind.wrap IntKind.i64 (i3 + (↑n5 : Int))))
    (n2 - Int.toNat (IntKind.wrap IntKind.i64 (i3 + (↑n5 : Int))))]))
    fun v19 =>
    T.asB v19 fun b20 =>
    T.ite (!b20)
    (T.drew
    (T.req
    (0 ≤ IntKind.wrap IntKind.i64 (i3 + (↑n5 : Int)) ∧
    IntKind.wrap IntKind.i64 (i3 + (↑n5 : Int)) ≤ (↑(Int.toNat (IntKind.wrap IntKind.i64 ((↑n1 : Int) + (↑n5 : Int)))) : Int))
    (T.req (0 ≤ i3 ∧ i3 ≤ (↑(Int.toNat (IntKind.wrap IntKind.i64 ((↑n1 : Int) + (↑n5 : Int)))) : Int))
    (T.run
    (biV Builtin.copy (Array.mk [28, 28]) 3
    (Array.mk
    [Value.slice (sliceBase (sliceBase o0 0 n2 1) (Int.toNat (IntKind.wrap IntKind.i64 (i3 + (↑n5 : Int)))) n2 1)
    (Int.toNat (IntKind.wrap IntKind.i64 ((↑n1 : Int) + (↑n5 : Int))) - Int.toNat (IntKind.wrap IntKind.i64 (i3 + (↑n5 : Int))))
    (n2 - Int.toNat (IntKind.wrap IntKind.i64 (i3 + (↑n5 : Int)))),
    Value.slice (sliceBase (sliceBase o0 0 n2 1) (Int.toNat i3) n2 1)
    (Int.toNat (IntKind.wrap IntKind.i64 ((↑n1 : Int) + (↑n5 : Int))) - Int.toNat i3) (n2 - Int.toNat i3)]))
    fun v21 =>
    T.asI IntKind.i64 v21 fun i22 =>
    T.chk []
    (T.req (0 ≤ i3 ∧ i3 ≤ (↑(Int.toNat (IntKind.wrap IntKind.i64 ((↑n1 : Int) + (↑n5 : Int)))) : Int))
    (T.run
    (biV Builtin.copy (Array.mk [28, 28]) 3
    (Array.mk
    [Value.slice (sliceBase (sliceBase o0 0 n2 1) (Int.toNat i3) n2 1)
    (Int.toNat (IntKind.wrap IntKind.i64 ((↑n1 : Int) + (↑n5 : Int))) - Int.toNat i3) (n2 - Int.toNat i3),
    Value.slice o4 n5 n6]))
    fun v23 =>
    T.asI IntKind.i64 v23 fun i24 =>
    T.ret (Value.slice (sliceBase o0 0 n2 1) (Int.toNat (IntKind.wrap IntKind.i64 ((↑n1 : Int) + (↑n5 : Int)))) n2)))))))
    (T.req (0 ≤ (↑n1 : Int) ∧ (↑n1 : Int) ≤ (↑(Int.toNat (IntKind.wrap IntKind.i64 ((↑n1 : Int) + (↑n5 : Int)))) : Int))
    (T.run
    (biV Builtin.copy (Array.mk [28, 28]) 3
    (Array.mk
    [Value.slice (sliceBase (sliceBase o0 0 n2 1) (Int.toNat (↑n1 : Int)) n2 1)
    (Int.toNat (IntKind.wrap IntKind.i64 ((↑n1 : Int) + (↑n5 : Int))) - Int.toNat (↑n1 : Int)) (n2 - Int.toNat (↑n1 : Int)),
    Value.slice o4 n5 n6]))
    fun v25 =>
    T.asI IntKind.i64 v25 fun i26 =>
    T.req (0 ≤ i3 ∧ i3 ≤ (↑(Int.toNat (IntKind.wrap IntKind.i64 ((↑n1 : Int) + (↑n5 : Int)))) : Int))
    (T.call 46
    [Value.slice (sliceBase (sliceBase o0 0 n2 1) (Int.toNat i3) n2 1)
    (Int.toNat (IntKind.wrap IntKind.i64 ((↑n1 : Int) + (↑n5 : Int))) - Int.toNat i3) (n2 - Int.toNat i3),
    Value.int IntKind.i64 (↑n5 : Int)]
    fun v27 => T.ret (Value.slice (sliceBase o0 0 n2 1) (Int.toNat (IntKind.wrap IntKind.i64 ((↑n1 : Int) + (↑n5 : Int)))) n2))))))))))
theorem e38 (o0 : Option Addr) (n1 n2 : Nat) (i3 : Int) (o4 : Option Addr) (n5 n6 : Nat) : treeOf Try.prog Try.f38 (codeOf Try.f38) (.s .n (.s .n (.s .n (.s .n (.s .n (.s .n (.s (.s .n (.s (.s .n (.s .n (.s (.p [0, 1, 2, 3, 4, 5, 6, 7, 8]) .n))) .n)) (.s .n (.s (.s .n (.s (.s (.p [0, 1, 2, 3, 4, 5, 6, 7, 8]) .n) .n)) .n))))))))) [.v (.slice o0 n1 n2), .v (.int .i64 i3), .v (.slice o4 n5 n6)] = (t38 o0 n1 n2 i3 o4 n5 n6) := by kernel_rfl
theorem c38 (o0 : Option Addr) (n1 n2 : Nat) (i3 : Int) (o4 : Option Addr) (n5 n6 : Nat) {w : World} {R : Ending → World → Prop} (h : (t38 o0 n1 n2 i3 o4 n5 n6).sem Try.prog R ρ0 w) : Calls Try.prog 38 #[.slice o0 n1 n2, .int .i64 i3, .slice o4 n5 n6] w R :=
  calls_of mixed Try.func38 rfl rfl (e38 o0 n1 n2 i3 o4 n5 n6) h
def t43 (i0 : Int) (i1 : Int) : T :=
  T.call 48 [Value.int IntKind.i64 i0] fun v2 =>
  T.asB v2 fun b3 =>
    T.ite b3 (T.call 48 [Value.int IntKind.i64 i1] fun v4 => T.asB v4 fun b5 => T.ite (!b5) (T.ret (Value.bool true)) (T.ret (Value.bool (decide (i0 < i1)))))
    (T.ret (Value.bool (decide (i0 < i1))))
theorem e43 (i0 : Int) (i1 : Int) : treeOf Try.prog Try.f43 (codeOf Try.f43) .n [.v (.int .i64 i0), .v (.int .i64 i1)] = (t43 i0 i1) := by kernel_rfl
theorem c43 (i0 : Int) (i1 : Int) {w : World} {R : Ending → World → Prop} (h : (t43 i0 i1).sem Try.prog R ρ0 w) : Calls Try.prog 43 #[.int .i64 i0, .int .i64 i1] w R :=
  calls_of mixed Try.func43 rfl rfl (e43 i0 i1) h
def t44 (i0 : Int) : T :=
  T.ret (Value.bool (i0 != i0))
theorem e44 (i0 : Int) : treeOf Try.prog Try.f44 (codeOf Try.f44) .n [.v (.int .i64 i0)] = (t44 i0) := by kernel_rfl
theorem c44 (i0 : Int) {w : World} {R : Ending → World → Prop} (h : (t44 i0).sem Try.prog R ρ0 w) : Calls Try.prog 44 #[.int .i64 i0] w R :=
  calls_of mixed Try.func44 rfl rfl (e44 i0) h
def t12 (n0 n1 : Nat) (i2 : Int) (i3 : Int) (i4 : Int) (o5 : Option Addr) (n6 n7 : Nat) (i8 : Int) (i9 : Int) : T :=
  T.new (Obj.cells (Array.mk [Value.int IntKind.i64 i4, Value.slice o5 n6 n7, Value.int IntKind.i64 i8, Value.int IntKind.i64 i9]) 30) fun n10 =>
  T.call 25 [Value.pointer (some (Addr.mk n0 n1 none))] fun v11 =>
    T.asB v11 fun b12 =>
    T.ite b12 (T.ret (Value.int IntKind.i64 2))
    (T.call 27 [Value.pointer (some (Addr.mk n0 n1 none)), Value.int IntKind.i64 i2, Value.int IntKind.i64 i3] fun v13 =>
    T.asI IntKind.i64 v13 fun i14 =>
    T.call 26 [Value.int IntKind.i64 i14] fun v15 =>
    T.asI IntKind.i64 v15 fun i16 =>
    T.ite (i16 == 0)
    (T.ldI IntKind.i64 n10 0 fun i17 =>
    T.ldS n10 1 fun o18 n19 n20 =>
    T.ldI IntKind.i64 n10 2 fun i21 =>
    T.ldI IntKind.i64 n10 3 fun i22 =>
    T.call 28
    [Value.pointer (some (Addr.mk n0 n1 none)), Value.int IntKind.i64 i2, Value.int IntKind.i64 i3,
    Value.agg (Array.mk [Value.int IntKind.i64 i17, Value.slice o18 n19 n20, Value.int IntKind.i64 i21, Value.int IntKind.i64 i22])]
    fun v23 => T.ret (Value.int IntKind.i64 i16))
    (T.ret (Value.int IntKind.i64 i16)))
theorem e12 (n0 n1 : Nat) (i2 : Int) (i3 : Int) (i4 : Int) (o5 : Option Addr) (n6 n7 : Nat) (i8 : Int) (i9 : Int) : treeOf Try.prog Try.f12 (codeOf Try.f12) .n [.p n0 n1, .v (.int .i64 i2), .v (.int .i64 i3), .v (.agg #[.int .i64 i4, .slice o5 n6 n7, .int .i64 i8, .int .i64 i9])] = (t12 n0 n1 i2 i3 i4 o5 n6 n7 i8 i9) := by kernel_rfl
theorem c12 (n0 n1 : Nat) (i2 : Int) (i3 : Int) (i4 : Int) (o5 : Option Addr) (n6 n7 : Nat) (i8 : Int) (i9 : Int) {w : World} {R : Ending → World → Prop} (h : (t12 n0 n1 i2 i3 i4 o5 n6 n7 i8 i9).sem Try.prog R ρ0 w) : Calls Try.prog 12 #[.pointer (some ⟨n0, n1, none⟩), .int .i64 i2, .int .i64 i3, .agg #[.int .i64 i4, .slice o5 n6 n7, .int .i64 i8, .int .i64 i9]] w R :=
  calls_of mixed Try.func12 rfl rfl (e12 n0 n1 i2 i3 i4 o5 n6 n7 i8 i9) h
def t13 (n0 n1 : Nat) (i2 : Int) (i3 : Int) : T :=
  T.new (Obj.cells (Array.mk [Value.int IntKind.i64 0, Value.slice none 0 0, Value.int IntKind.i64 0, Value.int IntKind.i64 0]) 30) fun n4 =>
  T.call 25 [Value.pointer (some (Addr.mk n0 n1 none))] fun v5 =>
    T.asB v5 fun b6 =>
    T.ite b6
    (T.st n4 0 (Value.int IntKind.i64 0)
    (T.st n4 1 (Value.slice none 0 0)
    (T.st n4 2 (Value.int IntKind.i64 0)
    (T.st n4 3 (Value.int IntKind.i64 0)
    (T.ldI IntKind.i64 n4 0 fun i7 =>
    T.ldS n4 1 fun o8 n9 n10 =>
    T.ldI IntKind.i64 n4 2 fun i11 =>
    T.ldI IntKind.i64 n4 3 fun i12 =>
    T.ret
    (Value.tuple
    (Array.mk
    [Value.agg (Array.mk [Value.int IntKind.i64 i7, Value.slice o8 n9 n10, Value.int IntKind.i64 i11, Value.int IntKind.i64 i12]),
    Value.int IntKind.i64 0])))))))
    (T.call 27 [Value.pointer (some (Addr.mk n0 n1 none)), Value.int IntKind.i64 i2, Value.int IntKind.i64 i3] fun v13 =>
    T.asI IntKind.i64 v13 fun i14 =>
    T.ite (i14 != 2)
    (T.st n4 0 (Value.int IntKind.i64 0)
    (T.st n4 1 (Value.slice none 0 0)
    (T.st n4 2 (Value.int IntKind.i64 0)
    (T.st n4 3 (Value.int IntKind.i64 0)
    (T.ldI IntKind.i64 n4 0 fun i15 =>
    T.ldS n4 1 fun o16 n17 n18 =>
    T.ldI IntKind.i64 n4 2 fun i19 =>
    T.ldI IntKind.i64 n4 3 fun i20 =>
    T.ret
    (Value.tuple
    (Array.mk
    [Value.agg
    (Array.mk [Value.int IntKind.i64 i15, Value.slice o16 n17 n18, Value.int IntKind.i64 i19, Value.int IntKind.i64 i20]),
    Value.int IntKind.i64 i14])))))))
    (T.ldM n0 n1 fun o21 =>
    T.run (Instr.lookup 59 (Value.map o21) (Value.int IntKind.i64 i2) false) fun v22 =>
    T.asA v22 fun l23 =>
    T.req (List.length l23 = 5)
    (T.asI IntKind.i64 (List.headD l23 (Value.tuple (Array.mk []))) fun i24 =>
    T.asI IntKind.i64 (List.headD (List.tail l23) (Value.tuple (Array.mk []))) fun i25 =>
    T.asS (List.headD (List.tail (List.tail l23)) (Value.tuple (Array.mk []))) fun o26 n27 n28 =>
    T.asI IntKind.i64 (List.headD (List.tail (List.tail (List.tail l23))) (Value.tuple (Array.mk []))) fun i29 =>
    T.asI IntKind.i64 (List.headD (List.tail (List.tail (List.tail (List.tail l23)))) (Value.tuple (Array.mk []))) fun i30 =>
    T.call 29
    [Value.agg
    (Array.mk [Value.int IntKind.i64 i25, Value.slice o26 n27 n28, Value.int IntKind.i64 i29, Value.int IntKind.i64 i30])]
    fun v31 =>
    T.asA v31 fun l32 =>
    T.req (List.length l32 = 4)
    (T.asI IntKind.i64 (List.headD l32 (Value.tuple (Array.mk []))) fun i33 =>
    T.asS (List.headD (List.tail l32) (Value.tuple (Array.mk []))) fun o34 n35 n36 =>
    T.asI IntKind.i64 (List.headD (List.tail (List.tail l32)) (Value.tuple (Array.mk []))) fun i37 =>
    T.asI IntKind.i64 (List.headD (List.tail (List.tail (List.tail l32))) (Value.tuple (Array.mk []))) fun i38 =>
    T.st n4 0 (Value.int IntKind.i64 i33)
    (T.st n4 1 (Value.slice o34 n35 n36)
    (T.st n4 2 (Value.int IntKind.i64 i37)
    (T.st n4 3 (Value.int IntKind.i64 i38)
    (T.ldI IntKind.i64 n4 0 fun i39 =>
    T.ldS n4 1 fun o40 n41 n42 =>
    T.ldI IntKind.i64 n4 2 fun i43 =>
    T.ldI IntKind.i64 n4 3 fun i44 =>
    T.ret
    (Value.tuple
    (Array.mk
    [Value.agg
    (Array.mk
    [Value.int IntKind.i64 i39, Value.slice o40 n41 n42, Value.int IntKind.i64 i43,
    Value.int IntKind.i64 i44]),
    Value.int IntKind.i64 i14]))))))))))
theorem e13 (n0 n1 : Nat) (i2 : Int) (i3 : Int) : treeOf Try.prog Try.f13 (codeOf Try.f13) .n [.p n0 n1, .v (.int .i64 i2), .v (.int .i64 i3)] = (t13 n0 n1 i2 i3) := by kernel_rfl
theorem c13 (n0 n1 : Nat) (i2 : Int) (i3 : Int) {w : World} {R : Ending → World → Prop} (h : (t13 n0 n1 i2 i3).sem Try.prog R ρ0 w) : Calls Try.prog 13 #[.pointer (some ⟨n0, n1, none⟩), .int .i64 i2, .int .i64 i3] w R :=
  calls_of mixed Try.func13 rfl rfl (e13 n0 n1 i2 i3) h
def t23 (n0 n1 : Nat) (i2 : Int) : T :=
  T.call 25 [Value.pointer (some (Addr.mk n0 n1 none))] fun v3 =>
  T.asB v3 fun b4 =>
    T.ite b4 (T.ret (Value.int IntKind.i64 0))
    (T.ldM n0 n1 fun o5 =>
    T.run (Instr.lookup 59 (Value.map o5) (Value.int IntKind.i64 i2) false) fun v6 =>
    T.asA v6 fun l7 =>
    T.req (List.length l7 = 5)
    (T.asI IntKind.i64 (List.headD l7 (Value.tuple (Array.mk []))) fun i8 =>
    T.asI IntKind.i64 (List.headD (List.tail l7) (Value.tuple (Array.mk []))) fun i9 =>
    T.asS (List.headD (List.tail (List.tail l7)) (Value.tuple (Array.mk []))) fun o10 n11 n12 =>
    T.asI IntKind.i64 (List.headD (List.tail (List.tail (List.tail l7))) (Value.tuple (Array.mk []))) fun i13 =>
    T.asI IntKind.i64 (List.headD (List.tail (List.tail (List.tail (List.tail l7)))) (Value.tuple (Array.mk []))) fun i14 =>
    T.ret (Value.int IntKind.i64 i8)))
theorem e23 (n0 n1 : Nat) (i2 : Int) : treeOf Try.prog Try.f23 (codeOf Try.f23) .n [.p n0 n1, .v (.int .i64 i2)] = (t23 n0 n1 i2) := by kernel_rfl
theorem c23 (n0 n1 : Nat) (i2 : Int) {w : World} {R : Ending → World → Prop} (h : (t23 n0 n1 i2).sem Try.prog R ρ0 w) : Calls Try.prog 23 #[.pointer (some ⟨n0, n1, none⟩), .int .i64 i2] w R :=
  calls_of mixed Try.func23 rfl rfl (e23 n0 n1 i2) h
def t30 (n0 n1 : Nat) : T :=
  T.call 25 [Value.pointer (some (Addr.mk n0 n1 none))] fun v2 =>
  T.asB v2 fun b3 =>
    T.ite b3 (T.ret (Value.slice none 0 0))
    (T.ldS n0 (n1 + 1) fun o4 n5 n6 =>
    T.loop 0 [Value.slice none 0 0, Value.int IntKind.i64 0] fun l7 j8 =>
    T.asS (List.headD l7 (Value.tuple (Array.mk []))) fun o9 n10 n11 =>
    T.asI IntKind.i64 (List.headD (List.tail l7) (Value.tuple (Array.mk []))) fun i12 =>
    T.ite (decide (i12 < (↑n5 : Int)))
    (T.req (0 ≤ i12 ∧ i12 < (↑n5 : Int))
    (T.sm o4 fun n13 n14 =>
    T.ldI IntKind.i64 n13 (n14 + Int.toNat i12 * 1) fun i15 =>
    T.drew
    (T.ldM n0 n1 fun o16 =>
    T.ldM n0 n1 fun o17 =>
    T.both
    (T.run (Instr.lookup 59 (Value.map o16) (Value.int IntKind.i64 i15) false) fun v18 =>
    T.asA v18 fun l19 =>
    T.req (List.length l19 = 5)
    (T.asI IntKind.i64 (List.headD l19 (Value.tuple (Array.mk []))) fun i20 =>
    T.asI IntKind.i64 (List.headD (List.tail l19) (Value.tuple (Array.mk []))) fun i21 =>
    T.asS (List.headD (List.tail (List.tail l19)) (Value.tuple (Array.mk []))) fun o22 n23 n24 =>
    T.asI IntKind.i64 (List.headD (List.tail (List.tail (List.tail l19))) (Value.tuple (Array.mk []))) fun i25 =>
    T.asI IntKind.i64 (List.headD (List.tail (List.tail (List.tail (List.tail l19)))) (Value.tuple (Array.mk [])))
    fun i26 =>
    T.chk [(Addr.mk n0 n1 none, Value.map o17)]
    (T.run (Instr.lookup 59 (Value.map o17) (Value.int IntKind.i64 i15) false) fun v27 =>
    T.asA v27 fun l28 =>
    T.req (List.length l28 = 5)
    (T.asI IntKind.i64 (List.headD l28 (Value.tuple (Array.mk []))) fun i29 =>
    T.asI IntKind.i64 (List.headD (List.tail l28) (Value.tuple (Array.mk []))) fun i30 =>
    T.asS (List.headD (List.tail (List.tail l28)) (Value.tuple (Array.mk []))) fun o31 n32 n33 =>
    T.asI IntKind.i64 (List.headD (List.tail (List.tail (List.tail l28))) (Value.tuple (Array.mk [])))
    fun i34 =>
    T.asI IntKind.i64
    (List.headD (List.tail (List.tail (List.tail (List.tail l28)))) (Value.tuple (Array.mk [])))
    fun i35 =>
    T.chk []
    (T.call 29
    [Value.agg
    (Array.mk
    [Value.int IntKind.i64 i30, Value.slice o31 n32 n33, Value.int IntKind.i64 i34,
    Value.int IntKind.i64 i35])]
    fun v36 =>
    T.asA v36 fun l37 =>
    T.req (List.length l37 = 4)
    (T.asI IntKind.i64 (List.headD l37 (Value.tuple (Array.mk []))) fun i38 =>
    T.asS (List.headD (List.tail l37) (Value.tuple (Array.mk []))) fun o39 n40 n41 =>
    T.asI IntKind.i64
    (List.headD (List.tail (List.tail l37)) (Value.tuple (Array.mk []))) fun i42 =>
    T.asI IntKind.i64
    (List.headD (List.tail (List.tail (List.tail l37))) (Value.tuple (Array.mk [])))
    fun i43 =>
    T.chk []
    (T.new
    (Obj.cells
    (Array.mk
    [Value.int IntKind.i64 i15, Value.int IntKind.i64 i20,
    Value.int IntKind.i64 i38, Value.slice o39 n40 n41,
    Value.int IntKind.i64 i42, Value.int IntKind.i64 i43])
    56)
    fun n44 =>
    T.chk []
    (T.run
    (biV Builtin.append (Array.mk [42, 42]) 42
    (Array.mk
    [Value.slice o9 n10 n11,
    Value.slice (some (Addr.mk n44 0 none)) 1 1]))
    fun v45 =>
    T.asS v45 fun o46 n47 n48 =>
    T.chk []
    (T.next 0
    [Value.slice o46 n47 n48,
    Value.int IntKind.i64 (IntKind.wrap IntKind.i64 (i12 + 1))]
    ([Value.pointer (some (Addr.mk n0 n1 none)), Value.slice o4 n5 n6,
    Value.int IntKind.i64 (↑n5 : Int)] =
    [Value.pointer (some (Addr.mk n0 n1 none)),
    Value.slice o4 n5 n6, Value.int IntKind.i64 (↑n5 : Int)] ∧ ([] : List Deferred) = []))))))))))
    (T.run (Instr.lookup 59 (Value.map o17) (Value.int IntKind.i64 i15) false) fun v49 =>
    T.asA v49 fun l50 =>
    T.req (List.length l50 = 5)
    (T.asI IntKind.i64 (List.headD l50 (Value.tuple (Array.mk []))) fun i51 =>
    T.asI IntKind.i64 (List.headD (List.tail l50) (Value.tuple (Array.mk []))) fun i52 =>
    T.asS (List.headD (List.tail (List.tail l50)) (Value.tuple (Array.mk []))) fun o53 n54 n55 =>
    T.asI IntKind.i64 (List.headD (List.tail (List.tail (List.tail l50))) (Value.tuple (Array.mk []))) fun i56 =>
    T.asI IntKind.i64 (List.headD (List.tail (List.tail (List.tail (List.tail l50)))) (Value.tuple (Array.mk [])))
    fun i57 =>
    T.chk [(Addr.mk n0 n1 none, Value.map o16)]
    (T.both
    (T.run (Instr.lookup 59 (Value.map o16) (Value.int IntKind.i64 i15) false) fun v58 =>
    T.asA v58 fun l59 =>
    T.req (List.length l59 = 5)
    (T.asI IntKind.i64 (List.headD l59 (Value.tuple (Array.mk []))) fun i60 =>
    T.asI IntKind.i64 (List.headD (List.tail l59) (Value.tuple (Array.mk []))) fun i61 =>
    T.asS (List.headD (List.tail (List.tail l59)) (Value.tuple (Array.mk []))) fun o62 n63 n64 =>
    T.asI IntKind.i64 (List.headD (List.tail (List.tail (List.tail l59))) (Value.tuple (Array.mk [])))
    fun i65 =>
    T.asI IntKind.i64
    (List.headD (List.tail (List.tail (List.tail (List.tail l59)))) (Value.tuple (Array.mk [])))
    fun i66 =>
    T.chk []
    (T.call 29
    [Value.agg
    (Array.mk
    [Value.int IntKind.i64 i52, Value.slice o53 n54 n55, Value.int IntKind.i64 i56,
    Value.int IntKind.i64 i57])]
    fun v67 =>
    T.asA v67 fun l68 =>
    T.req (List.length l68 = 4)
    (T.asI IntKind.i64 (List.headD l68 (Value.tuple (Array.mk []))) fun i69 =>
    T.asS (List.headD (List.tail l68) (Value.tuple (Array.mk []))) fun o70 n71 n72 =>
    T.asI IntKind.i64
    (List.headD (List.tail (List.tail l68)) (Value.tuple (Array.mk []))) fun i73 =>
    T.asI IntKind.i64
    (List.headD (List.tail (List.tail (List.tail l68)))
    (Value.tuple (Array.mk [])))
    fun i74 =>
    T.chk []
    (T.new
    (Obj.cells
    (Array.mk
    [Value.int IntKind.i64 i15, Value.int IntKind.i64 i60,
    Value.int IntKind.i64 i69, Value.slice o70 n71 n72,
    Value.int IntKind.i64 i73, Value.int IntKind.i64 i74])
    56)
    fun n75 =>
    T.chk []
    (T.run
    (biV Builtin.append (Array.mk [42, 42]) 42
    (Array.mk
    [Value.slice o9 n10 n11,
    Value.slice (some (Addr.mk n75 0 none)) 1 1]))
    fun v76 =>
    T.asS v76 fun o77 n78 n79 =>
    T.chk []
    (T.next 0
    [Value.slice o77 n78 n79,
    Value.int IntKind.i64 (IntKind.wrap IntKind.i64 (i12 + 1))]
    ([Value.pointer (some (Addr.mk n0 n1 none)),
    Value.slice o4 n5 n6, Value.int IntKind.i64 (↑n5 : Int)] =
    [Value.pointer (some (Addr.mk n0 n1 none)),
    Value.slice o4 n5 n6, Value.int IntKind.i64 (↑n5 : Int)] ∧ ([] : List Deferred) = []))))))))
    (T.call 29
    [Value.agg
    (Array.mk
    [Value.int IntKind.i64 i52, Value.slice o53 n54 n55, Value.int IntKind.i64 i56,
    Value.int IntKind.i64 i57])]
    fun v80 =>
    T.asA v80 fun l81 =>
    T.req (List.length l81 = 4)
    (T.asI IntKind.i64 (List.headD l81 (Value.tuple (Array.mk []))) fun i82 =>
    T.asS (List.headD (List.tail l81) (Value.tuple (Array.mk []))) fun o83 n84 n85 =>
    T.asI IntKind.i64 (List.headD (List.tail (List.tail l81)) (Value.tuple (Array.mk []))) fun i86 =>
    T.asI IntKind.i64 (List.headD (List.tail (List.tail (List.tail l81))) (Value.tuple (Array.mk [])))
    fun i87 =>
    T.chk [(Addr.mk n0 n1 none, Value.map o16)]
    (T.run (Instr.lookup 59 (Value.map o16) (Value.int IntKind.i64 i15) false) fun v88 =>
    T.asA v88 fun l89 =>
    T.req (List.length l89 = 5)
    (T.asI IntKind.i64 (List.headD l89 (Value.tuple (Array.mk []))) fun i90 =>
    T.asI IntKind.i64 (List.headD (List.tail l89) (Value.tuple (Array.mk []))) fun i91 =>
    T.asS (List.headD (List.tail (List.tail l89)) (Value.tuple (Array.mk [])))
    fun o92 n93 n94 =>
    T.asI IntKind.i64
    (List.headD (List.tail (List.tail (List.tail l89))) (Value.tuple (Array.mk [])))
    fun i95 =>
    T.asI IntKind.i64
    (List.headD (List.tail (List.tail (List.tail (List.tail l89))))
    (Value.tuple (Array.mk [])))
    fun i96 =>
    T.chk []
    (T.new
    (Obj.cells
    (Array.mk
    [Value.int IntKind.i64 i15, Value.int IntKind.i64 i90,
    Value.int IntKind.i64 i82, Value.slice o83 n84 n85,
    Value.int IntKind.i64 i86, Value.int IntKind.i64 i87])
    56)
    fun n97 =>
    T.chk []
    (T.run
    (biV Builtin.append (Array.mk [42, 42]) 42
    (Array.mk
    [Value.slice o9 n10 n11,
    Value.slice (some (Addr.mk n97 0 none)) 1 1]))
    fun v98 =>
    T.asS v98 fun o99 n100 n101 =>
    T.chk []
    (T.next 0
    [Value.slice o99 n100 n101,
    Value.int IntKind.i64 (IntKind.wrap IntKind.i64 (i12 + 1))]
    ([Value.pointer (some (Addr.mk n0 n1 none)),
    Value.slice o4 n5 n6, Value.int IntKind.i64 (↑n5 : Int)] =
    [Value.pointer (some (Addr.mk n0 n1 none)),
    Value.slice o4 n5 n6, Value.int IntKind.i64 (↑n5 : Int)] ∧ ([] : List Deferred) = []))))))))))))))
    (T.ret (Value.slice o9 n10 n11)))
theorem e30 (n0 n1 : Nat) : treeOf Try.prog Try.f30 (codeOf Try.f30) (.s .n (.s .n (.s .n (.s (.s .n (.u (.l [(3, .slice), (13, .int .i64)] [0, 11, 12] (.s .n (.s .n (.s (.u (.s .n (.p [0, 1, 2, 3, 4, 5, 6, 9, 10, 11, 12, 13, 7, 8, 14, 15, 16, 17, 18, 19, 20]))) .n)))))) .n)))) [.p n0 n1] = (t30 n0 n1) := by kernel_rfl
theorem c30 (n0 n1 : Nat) {w : World} {R : Ending → World → Prop} (h : (t30 n0 n1).sem Try.prog R ρ0 w) : Calls Try.prog 30 #[.pointer (some ⟨n0, n1, none⟩)] w R :=
  calls_of mixed Try.func30 rfl rfl (e30 n0 n1) h
def t15 (n0 n1 : Nat) : T :=
  T.call 30 [Value.pointer (some (Addr.mk n0 n1 none))] fun v2 => T.asS v2 fun o3 n4 n5 => T.ret (Value.int IntKind.i64 (↑n4 : Int))
theorem e15 (n0 n1 : Nat) : treeOf Try.prog Try.f15 (codeOf Try.f15) .n [.p n0 n1] = (t15 n0 n1) := by kernel_rfl
theorem c15 (n0 n1 : Nat) {w : World} {R : Ending → World → Prop} (h : (t15 n0 n1).sem Try.prog R ρ0 w) : Calls Try.prog 15 #[.pointer (some ⟨n0, n1, none⟩)] w R :=
  calls_of mixed Try.func15 rfl rfl (e15 n0 n1) h
def t16 (o0 : Option Addr) (n1 n2 : Nat) : T :=
  T.call 10 [] fun v3 =>
  T.asP v3 fun o4 =>
    T.loop 0 [Value.int IntKind.i64 0] fun l5 j6 =>
    T.asI IntKind.i64 (List.headD l5 (Value.tuple (Array.mk []))) fun i7 =>
    T.ite (decide (i7 < (↑n1 : Int)))
    (T.req (0 ≤ i7 ∧ i7 < (↑n1 : Int))
    (T.sm o0 fun n8 n9 =>
    T.ldI IntKind.i64 n8 (n9 + Int.toNat i7 * 6) fun i10 =>
    T.ldI IntKind.i64 n8 (n9 + Int.toNat i7 * 6 + 1) fun i11 =>
    T.ldI IntKind.i64 n8 (n9 + Int.toNat i7 * 6 + 2) fun i12 =>
    T.ldS n8 (n9 + Int.toNat i7 * 6 + 3) fun o13 n14 n15 =>
    T.ldI IntKind.i64 n8 (n9 + Int.toNat i7 * 6 + 4) fun i16 =>
    T.ldI IntKind.i64 n8 (n9 + Int.toNat i7 * 6 + 5) fun i17 =>
    T.new
    (Obj.cells
    (Array.mk
    [Value.int IntKind.i64 0, Value.int IntKind.i64 0, Value.int IntKind.i64 0, Value.slice none 0 0, Value.int IntKind.i64 0,
    Value.int IntKind.i64 0])
    56)
    fun n18 =>
    T.st n18 0 (Value.int IntKind.i64 i10)
    (T.st n18 1 (Value.int IntKind.i64 i11)
    (T.st n18 2 (Value.int IntKind.i64 i12)
    (T.st n18 3 (Value.slice o13 n14 n15)
    (T.st n18 4 (Value.int IntKind.i64 i16)
    (T.st n18 5 (Value.int IntKind.i64 i17)
    (T.ldI IntKind.i64 n18 0 fun i19 =>
    T.ldI IntKind.i64 n18 1 fun i20 =>
    T.new (Obj.cells (Array.mk [Value.int IntKind.i64 i19, Value.int IntKind.i64 i20]) 2) fun n21 =>
    T.call 31 [Value.slice (some (Addr.mk n21 0 none)) 2 2] fun v22 =>
    T.asB v22 fun b23 =>
    T.ite b23 (T.ret (Value.tuple (Array.mk [Value.pointer none, Value.int IntKind.i64 1])))
    (T.drew
    (T.sm o4 fun n24 n25 =>
    T.ldM n24 n25 fun o26 =>
    T.ldI IntKind.i64 n18 0 fun i27 =>
    T.both
    (T.run (Instr.lookup 59 (Value.map o26) (Value.int IntKind.i64 i27) true) fun v28 =>
    T.asU v28 fun l29 =>
    T.req (List.length l29 = 2)
    (T.asA (List.headD l29 (Value.tuple (Array.mk []))) fun l30 =>
    T.req (List.length l30 = 5)
    (T.asI IntKind.i64 (List.headD l30 (Value.tuple (Array.mk []))) fun i31 =>
    T.asI IntKind.i64 (List.headD (List.tail l30) (Value.tuple (Array.mk []))) fun i32 =>
    T.asS (List.headD (List.tail (List.tail l30)) (Value.tuple (Array.mk [])))
    fun o33 n34 n35 =>
    T.asI IntKind.i64
    (List.headD (List.tail (List.tail (List.tail l30))) (Value.tuple (Array.mk [])))
    fun i36 =>
    T.asI IntKind.i64
    (List.headD (List.tail (List.tail (List.tail (List.tail l30))))
    (Value.tuple (Array.mk [])))
    fun i37 =>
    T.asB (List.headD (List.tail l29) (Value.tuple (Array.mk []))) fun b38 =>
    T.chk []
    (T.new
    (Obj.cells
    (Array.mk
    [Value.int IntKind.i64 0, Value.int IntKind.i64 0,
    Value.slice none 0 0, Value.int IntKind.i64 0,
    Value.int IntKind.i64 0])
    69)
    fun n39 =>
    T.chk []
    (T.st n39 0 (Value.int IntKind.i64 i31)
    (T.st n39 1 (Value.int IntKind.i64 i32)
    (T.st n39 2 (Value.slice o33 n34 n35)
    (T.st n39 3 (Value.int IntKind.i64 i36)
    (T.st n39 4 (Value.int IntKind.i64 i37)
    (T.chk []
    (T.ite b38
    (T.ret
    (Value.tuple
    (Array.mk
    [Value.pointer none, Value.int IntKind.i64 5])))
    (T.ite (i7 == 64)
    (T.ret
    (Value.tuple
    (Array.mk
    [Value.pointer none, Value.int IntKind.i64 6])))
    (T.ldI IntKind.i64 n18 0 fun i40 =>
    T.ldI IntKind.i64 n18 1 fun i41 =>
    T.ldI IntKind.i64 n18 2 fun i42 =>
    T.ldS n18 3 fun o43 n44 n45 =>
    T.ldI IntKind.i64 n18 4 fun i46 =>
    T.ldI IntKind.i64 n18 5 fun i47 =>
    T.call 28
    [Value.pointer o4,
    Value.int IntKind.i64 i40,
    Value.int IntKind.i64 i41,
    Value.agg
    (Array.mk
    [Value.int IntKind.i64 i42,
    Value.slice o43 n44 n45,
    Value.int IntKind.i64 i46,
    Value.int IntKind.i64 i47])]
    fun v48 =>
    T.next 0
    [Value.int IntKind.i64
    (IntKind.wrap IntKind.i64
    (i7 + 1))]
    ([Value.pointer o4,
    Value.slice o0 n1 n2,
    Value.int IntKind.i64
    (↑n1 : Int)] =
    [Value.pointer o4,
    Value.slice o0 n1 n2,
    Value.int IntKind.i64
    (↑n1 : Int)] ∧ ([] : List Deferred) = []))))))))))))))
    (T.new
    (Obj.cells
    (Array.mk
    [Value.int IntKind.i64 0, Value.int IntKind.i64 0, Value.slice none 0 0,
    Value.int IntKind.i64 0, Value.int IntKind.i64 0])
    69)
    fun n49 =>
    T.chk [(Addr.mk n18 0 none, Value.int IntKind.i64 i27), (Addr.mk n24 n25 none, Value.map o26)]
    (T.run (Instr.lookup 59 (Value.map o26) (Value.int IntKind.i64 i27) true) fun v50 =>
    T.asU v50 fun l51 =>
    T.req (List.length l51 = 2)
    (T.asA (List.headD l51 (Value.tuple (Array.mk []))) fun l52 =>
    T.req (List.length l52 = 5)
    (T.asI IntKind.i64 (List.headD l52 (Value.tuple (Array.mk []))) fun i53 =>
    T.asI IntKind.i64 (List.headD (List.tail l52) (Value.tuple (Array.mk [])))
    fun i54 =>
    T.asS (List.headD (List.tail (List.tail l52)) (Value.tuple (Array.mk [])))
    fun o55 n56 n57 =>
    T.asI IntKind.i64
    (List.headD (List.tail (List.tail (List.tail l52)))
    (Value.tuple (Array.mk [])))
    fun i58 =>
    T.asI IntKind.i64
    (List.headD (List.tail (List.tail (List.tail (List.tail l52))))
    (Value.tuple (Array.mk [])))
    fun i59 =>
    T.asB (List.headD (List.tail l51) (Value.tuple (Array.mk []))) fun b60 =>
    T.chk []
    (T.st n49 0 (Value.int IntKind.i64 i53)
    (T.st n49 1 (Value.int IntKind.i64 i54)
    (T.st n49 2 (Value.slice o55 n56 n57)
    (T.st n49 3 (Value.int IntKind.i64 i58)
    (T.st n49 4 (Value.int IntKind.i64 i59)
    (T.chk []
    (T.ite b60
    (T.ret
    (Value.tuple
    (Array.mk
    [Value.pointer none, Value.int IntKind.i64 5])))
    (T.ite (i7 == 64)
    (T.ret
    (Value.tuple
    (Array.mk
    [Value.pointer none, Value.int IntKind.i64 6])))
    (T.ldI IntKind.i64 n18 0 fun i61 =>
    T.ldI IntKind.i64 n18 1 fun i62 =>
    T.ldI IntKind.i64 n18 2 fun i63 =>
    T.ldS n18 3 fun o64 n65 n66 =>
    T.ldI IntKind.i64 n18 4 fun i67 =>
    T.ldI IntKind.i64 n18 5 fun i68 =>
    T.call 28
    [Value.pointer o4,
    Value.int IntKind.i64 i61,
    Value.int IntKind.i64 i62,
    Value.agg
    (Array.mk
    [Value.int IntKind.i64 i63,
    Value.slice o64 n65 n66,
    Value.int IntKind.i64 i67,
    Value.int IntKind.i64 i68])]
    fun v69 =>
    T.next 0
    [Value.int IntKind.i64
    (IntKind.wrap IntKind.i64
    (i7 + 1))]
    ([Value.pointer o4,
    Value.slice o0 n1 n2,
    Value.int IntKind.i64
    (↑n1 : Int)] =
    [Value.pointer o4,
    Value.slice o0 n1 n2,
    Value.int IntKind.i64
    (↑n1 : Int)] ∧ ([] : List Deferred) = []))))))))))))))))))))))))
    (T.ret (Value.tuple (Array.mk [Value.pointer o4, Value.int IntKind.i64 0])))
theorem e16 (o0 : Option Addr) (n1 n2 : Nat) : treeOf Try.prog Try.f16 (codeOf Try.f16) (.s .n (.s .n (.s (.s .n (.u (.l [(12, .int .i64)] [4, 10, 11] (.s .n (.s .n (.s (.u (.s .n (.s .n (.s (.s (.p [0, 1, 2, 3, 4, 5, 6, 7, 8, 9, 10, 11, 12]) .n) .n)))) .n)))))) .n))) [.v (.slice o0 n1 n2)] = (t16 o0 n1 n2) := by kernel_rfl
theorem c16 (o0 : Option Addr) (n1 n2 : Nat) {w : World} {R : Ending → World → Prop} (h : (t16 o0 n1 n2).sem Try.prog R ρ0 w) : Calls Try.prog 16 #[.slice o0 n1 n2] w R :=
  calls_of mixed Try.func16 rfl rfl (e16 o0 n1 n2) h
def t20 (n0 n1 : Nat) : T :=
  T.call 25 [Value.pointer (some (Addr.mk n0 n1 none))] fun v2 =>
  T.asB v2 fun b3 =>
    T.ite b3 (T.ret (Value.pointer none))
    (T.call 30 [Value.pointer (some (Addr.mk n0 n1 none))] fun v4 =>
    T.asS v4 fun o5 n6 n7 =>
    T.call 16 [Value.slice o5 n6 n7] fun v8 =>
    T.asU v8 fun l9 =>
    T.req (List.length l9 = 2)
    (T.asP (List.headD l9 (Value.tuple (Array.mk []))) fun o10 =>
    T.asI IntKind.i64 (List.headD (List.tail l9) (Value.tuple (Array.mk []))) fun i11 => T.ret (Value.pointer o10)))
theorem e20 (n0 n1 : Nat) : treeOf Try.prog Try.f20 (codeOf Try.f20) .n [.p n0 n1] = (t20 n0 n1) := by kernel_rfl
theorem c20 (n0 n1 : Nat) {w : World} {R : Ending → World → Prop} (h : (t20 n0 n1).sem Try.prog R ρ0 w) : Calls Try.prog 20 #[.pointer (some ⟨n0, n1, none⟩)] w R :=
  calls_of mixed Try.func20 rfl rfl (e20 n0 n1) h
def t11  : T :=
  T.call 10 [] fun v0 =>
  T.asP v0 fun o1 =>
    T.ite (Option.isNone o1) (T.ret (Value.bool false))
    (T.call 13 [Value.pointer o1, Value.int IntKind.i64 7, Value.int IntKind.i64 1] fun v2 =>
    T.asU v2 fun l3 =>
    T.req (List.length l3 = 2)
    (T.asA (List.headD l3 (Value.tuple (Array.mk []))) fun l4 =>
    T.req (List.length l4 = 4)
    (T.asI IntKind.i64 (List.headD l4 (Value.tuple (Array.mk []))) fun i5 =>
    T.asS (List.headD (List.tail l4) (Value.tuple (Array.mk []))) fun o6 n7 n8 =>
    T.asI IntKind.i64 (List.headD (List.tail (List.tail l4)) (Value.tuple (Array.mk []))) fun i9 =>
    T.asI IntKind.i64 (List.headD (List.tail (List.tail (List.tail l4))) (Value.tuple (Array.mk []))) fun i10 =>
    T.asI IntKind.i64 (List.headD (List.tail l3) (Value.tuple (Array.mk []))) fun i11 =>
    T.new (Obj.cells (Array.mk [Value.int IntKind.i64 0, Value.slice none 0 0, Value.int IntKind.i64 0, Value.int IntKind.i64 0]) 30)
    fun n12 =>
    T.st n12 0 (Value.int IntKind.i64 i5)
    (T.st n12 1 (Value.slice o6 n7 n8)
    (T.st n12 2 (Value.int IntKind.i64 i9)
    (T.st n12 3 (Value.int IntKind.i64 i10)
    (T.call 12
    [Value.pointer o1, Value.int IntKind.i64 7, Value.int IntKind.i64 1,
    Value.agg (Array.mk [Value.int IntKind.i64 24, Value.slice none 0 0, Value.int IntKind.i64 0, Value.int IntKind.i64 0])]
    fun v13 =>
    T.asI IntKind.i64 v13 fun i14 =>
    T.call 13 [Value.pointer o1, Value.int IntKind.i64 7, Value.int IntKind.i64 1] fun v15 =>
    T.asU v15 fun l16 =>
    T.req (List.length l16 = 2)
    (T.asA (List.headD l16 (Value.tuple (Array.mk []))) fun l17 =>
    T.req (List.length l17 = 4)
    (T.asI IntKind.i64 (List.headD l17 (Value.tuple (Array.mk []))) fun i18 =>
    T.asS (List.headD (List.tail l17) (Value.tuple (Array.mk []))) fun o19 n20 n21 =>
    T.asI IntKind.i64 (List.headD (List.tail (List.tail l17)) (Value.tuple (Array.mk []))) fun i22 =>
    T.asI IntKind.i64 (List.headD (List.tail (List.tail (List.tail l17))) (Value.tuple (Array.mk [])))
    fun i23 =>
    T.asI IntKind.i64 (List.headD (List.tail l16) (Value.tuple (Array.mk []))) fun i24 =>
    T.new
    (Obj.cells
    (Array.mk
    [Value.int IntKind.i64 0, Value.slice none 0 0, Value.int IntKind.i64 0,
    Value.int IntKind.i64 0])
    30)
    fun n25 =>
    T.st n25 0 (Value.int IntKind.i64 i18)
    (T.st n25 1 (Value.slice o19 n20 n21)
    (T.st n25 2 (Value.int IntKind.i64 i22)
    (T.st n25 3 (Value.int IntKind.i64 i23)
    (T.ite (i11 == 1)
    (T.ite (i14 == 0)
    (T.ite (i24 == 2)
    (T.ldI IntKind.i64 n25 0 fun i26 =>
    T.ite (i26 == 24)
    (T.call 15 [Value.pointer o1] fun v27 =>
    T.asI IntKind.i64 v27 fun i28 => T.ret (Value.bool (i28 == 1)))
    (T.ret (Value.bool false)))
    (T.ret (Value.bool false)))
    (T.ret (Value.bool false)))
    (T.ret (Value.bool false)))))))))))))))
theorem e11  : treeOf Try.prog Try.f11 (codeOf Try.f11) .n [] = t11 := by kernel_rfl
theorem c11  {w : World} {R : Ending → World → Prop} (h : t11.sem Try.prog R ρ0 w) : Calls Try.prog 11 #[] w R :=
  calls_of mixed Try.func11 rfl rfl (e11 ) h
def t48 (i0 : Int) : T :=
  T.ret (Value.bool (i0 != i0))
theorem e48 (i0 : Int) : treeOf Try.prog Try.f48 (codeOf Try.f48) .n [.v (.int .i64 i0)] = (t48 i0) := by kernel_rfl
theorem c48 (i0 : Int) {w : World} {R : Ending → World → Prop} (h : (t48 i0).sem Try.prog R ρ0 w) : Calls Try.prog 48 #[.int .i64 i0] w R :=
  calls_of mixed Try.func48 rfl rfl (e48 i0) h
def t40 (o0 : Option Addr) (n1 n2 : Nat) : T :=
  T.call 47 [Value.slice o0 n1 n2, Value.func (Fn.func 41) (Array.mk []) (Array.mk [])] fun v3 =>
  T.asI IntKind.i64 v3 fun i4 => T.ret (Value.bool (decide (i4 ≥ 0)))
theorem e40 (o0 : Option Addr) (n1 n2 : Nat) : treeOf Try.prog Try.f40 (codeOf Try.f40) .n [.v (.slice o0 n1 n2), .v (.func (.func 41) #[] #[])] = (t40 o0 n1 n2) := by kernel_rfl
theorem c40 (o0 : Option Addr) (n1 n2 : Nat) {w : World} {R : Ending → World → Prop} (h : (t40 o0 n1 n2).sem Try.prog R ρ0 w) : Calls Try.prog 40 #[.slice o0 n1 n2, .func (.func 41) #[] #[]] w R :=
  calls_of mixed Try.func40 rfl rfl (e40 o0 n1 n2) h
def t47 (o0 : Option Addr) (n1 n2 : Nat) : T :=
  T.loop 0 [Value.int IntKind.i64 0] fun l3 j4 =>
  T.asI IntKind.i64 (List.headD l3 (Value.tuple (Array.mk []))) fun i5 =>
    T.ite (decide (i5 < (↑n1 : Int)))
    (T.req (0 ≤ i5 ∧ i5 < (↑n1 : Int))
    (T.sm o0 fun n6 n7 =>
    T.ldI IntKind.i64 n6 (n7 + Int.toNat i5 * 1) fun i8 =>
    T.call 41 [Value.int IntKind.i64 i8] fun v9 =>
    T.asB v9 fun b10 =>
    T.ite b10 (T.ret (Value.int IntKind.i64 i5))
    (T.next 0 [Value.int IntKind.i64 (IntKind.wrap IntKind.i64 (i5 + 1))]
    ([Value.slice o0 n1 n2, Value.func (Fn.func 41) (Array.mk []) (Array.mk []), Value.int IntKind.i64 (↑n1 : Int)] =
    [Value.slice o0 n1 n2, Value.func (Fn.func 41) (Array.mk []) (Array.mk []), Value.int IntKind.i64 (↑n1 : Int)] ∧ ([] : List Deferred) = []))))
    (T.ret (Value.int IntKind.i64 (-1)))
theorem e47 (o0 : Option Addr) (n1 n2 : Nat) : treeOf Try.prog Try.f47 (codeOf Try.f47) (.s .n (.s (.s .n (.u (.l [(8, .int .i64)] [0, 1, 7] .n))) .n)) [.v (.slice o0 n1 n2), .v (.func (.func 41) #[] #[])] = (t47 o0 n1 n2) := by kernel_rfl
theorem c47 (o0 : Option Addr) (n1 n2 : Nat) {w : World} {R : Ending → World → Prop} (h : (t47 o0 n1 n2).sem Try.prog R ρ0 w) : Calls Try.prog 47 #[.slice o0 n1 n2, .func (.func 41) #[] #[]] w R :=
  calls_of mixed Try.func47 rfl rfl (e47 o0 n1 n2) h
end Go.Proofs.Ytcmdbaafnbdpbaa
