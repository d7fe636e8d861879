/- The functions' trees, printed by a program (wip/tools/Emit.lean) and checked by the kernel against the model's own code. -/
import Derived.Test.YtndkffhlheaepaaTreesS
import Derived.Test.YtndkffhlheaepaaProg
namespace Go.Proofs.Ytndkffhlheaepaa
open Go hiding Expr
open Go.Proofs.Ytndkffhlheaepaa.Tr
set_option linter.unusedVariables false
set_option maxRecDepth 100000
def t41 (o0 : Option Addr) (n1 n2 : Nat) : T :=
  T.call 26 [Value.slice o0 n1 n2] fun v3 =>
  T.asS v3 fun o4 n5 n6 =>
    T.call 54 [Value.slice o4 n5 n6, Value.func (Fn.func 55) (Array.mk []) (Array.mk [])] fun v7 =>
    T.call 56 [Value.slice o4 n5 n6] fun v8 => T.asS v8 fun o9 n10 n11 => T.ret (Value.slice o9 n10 n11)
theorem e41 (o0 : Option Addr) (n1 n2 : Nat) : treeOf Try.prog Try.f41 (codeOf Try.f41) .n [.v (.slice o0 n1 n2)] = (t41 o0 n1 n2) := by kernel_rfl
theorem c41 (o0 : Option Addr) (n1 n2 : Nat) {w : World} {R : Ending → World → Prop} (h : (t41 o0 n1 n2).sem Try.prog R ρ0 w) : Calls Try.prog 41 #[.slice o0 n1 n2] w R :=
  calls_of mixed Try.func41 rfl rfl (e41 o0 n1 n2) h
def t48 (o0 : Option Addr) (n1 n2 : Nat) (i3 : Int) (i4 : Int) : T :=
  T.new (Obj.cells (Array.mk [Value.int IntKind.i32 i3, Value.int IntKind.i64 i4]) 50) fun n5 =>
  T.ldI IntKind.i32 n5 0 fun i6 =>
    T.ldI IntKind.i64 n5 1 fun i7 =>
    T.call 62 [Value.slice o0 n1 n2, Value.agg (Array.mk [Value.int IntKind.i32 i6, Value.int IntKind.i64 i7])] fun v8 =>
    T.asB v8 fun b9 => T.ret (Value.bool b9)
theorem e48 (o0 : Option Addr) (n1 n2 : Nat) (i3 : Int) (i4 : Int) : treeOf Try.prog Try.f48 (codeOf Try.f48) .n [.v (.slice o0 n1 n2), .v (.agg #[.int .i32 i3, .int .i64 i4])] = (t48 o0 n1 n2 i3 i4) := by kernel_rfl
theorem c48 (o0 : Option Addr) (n1 n2 : Nat) (i3 : Int) (i4 : Int) {w : World} {R : Ending → World → Prop} (h : (t48 o0 n1 n2 i3 i4).sem Try.prog R ρ0 w) : Calls Try.prog 48 #[.slice o0 n1 n2, .agg #[.int .i32 i3, .int .i64 i4]] w R :=
  calls_of mixed Try.func48 rfl rfl (e48 o0 n1 n2 i3 i4) h
def t56 (o0 : Option Addr) (n1 n2 : Nat) : T :=
  T.ite (decide ((↑n1 : Int) < 2)) (T.ret (Value.slice o0 n1 n2))
  (T.loop 0 [Value.int IntKind.i64 1] fun l3 j4 =>
    T.asI IntKind.i64 (List.headD l3 (Value.tuple (Array.mk []))) fun i5 =>
    T.ite (decide (i5 < (↑n1 : Int)))
    (T.drew
    (T.req (0 ≤ i5 ∧ i5 < (↑n1 : Int))
    (T.sm o0 fun n6 n7 =>
    T.ldI IntKind.i32 n6 (n7 + Int.toNat i5 * 2) fun i8 =>
    T.ldI IntKind.i64 n6 (n7 + Int.toNat i5 * 2 + 1) fun i9 =>
    T.req (0 ≤ IntKind.wrap IntKind.i64 (i5 - 1) ∧ IntKind.wrap IntKind.i64 (i5 - 1) < (↑n1 : Int))
    (T.sm o0 fun n10 n11 =>
    T.ldI IntKind.i32 n10 (n11 + Int.toNat (IntKind.wrap IntKind.i64 (i5 - 1)) * 2) fun i12 =>
    T.ldI IntKind.i64 n10 (n11 + Int.toNat (IntKind.wrap IntKind.i64 (i5 - 1)) * 2 + 1) fun i13 =>
    T.ite (i8 == i12 && (i9 == i13 && true))
    (T.req (0 ≤ i5 ∧ i5 ≤ (↑n1 : Int))
    (T.loop 1 [Value.int IntKind.i64 i5, Value.int IntKind.i64 1] fun l14 j15 =>
    T.asI IntKind.i64 (List.headD l14 (Value.tuple (Array.mk []))) fun i16 =>
    T.asI IntKind.i64 (List.headD (List.tail l14) (Value.tuple (Array.mk []))) fun i17 =>
    T.ite (decide (i17 < (↑(n1 - Int.toNat i5) : Int)))
    (T.drew
    (T.req (0 ≤ i17 ∧ i17 < (↑(n1 - Int.toNat i5) : Int))
    (T.sm (sliceBase o0 (Int.toNat i5) n2 2) fun n18 n19 =>
    T.ldI IntKind.i32 n18 (n19 + Int.toNat i17 * 2) fun i20 =>
    T.ldI IntKind.i64 n18 (n19 + Int.toNat i17 * 2 + 1) fun i21 =>
    T.req
    (0 ≤ IntKind.wrap IntKind.i64 (i17 - 1) ∧ IntKind.wrap IntKind.i64 (i17 - 1) < (↑(n1 - Int.toNat i5) : Int))
    (T.sm (sliceBase o0 (Int.toNat i5) n2 2) fun n22 n23 =>
    T.ldI IntKind.i32 n22 (n23 + Int.toNat (IntKind.wrap IntKind.i64 (i17 - 1)) * 2) fun i24 =>
    T.ldI IntKind.i64 n22 (n23 + Int.toNat (IntKind.wrap IntKind.i64 (i17 - 1)) * 2 + 1) fun i25 =>
    T.ite (!(i20 == i24 && (i21 == i25 && true)))
    (T.req (0 ≤ i17 ∧ i17 < (↑(n1 - Int.toNat i5) : Int))
    (T.sm (sliceBase o0 (Int.toNat i5) n2 2) fun n26 n27 =>
    T.ldI IntKind.i32 n26 (n27 + Int.toNat i17 * 2) fun i28 =>
    T.ldI IntKind.i64 n26 (n27 + Int.toNat i17 * 2 + 1) fun i29 =>
    T.req (0 ≤ i16 ∧ i16 < (↑n1 : Int))
    (T.sm o0 fun n30 n31 =>
    T.st n30 (n31 + Int.toNat i16 * 2) (Value.int IntKind.i32 i28)
    (T.st n30 (n31 + Int.toNat i16 * 2 + 1) (Value.int IntKind.i64 i29)
    (T.next 1
    [Value.int IntKind.i64 (IntKind.wrap IntKind.i64 (i16 + 1)),
    Value.int IntKind.i64 (IntKind.wrap IntKind.i64 (i17 + 1))]
    ([Value.slice o0 n1 n2,
    Value.slice (sliceBase o0 (Int.toNat i5) n2 2) (n1 - Int.toNat i5)
    (n2 - Int.toNat i5)] =
    [Value.slice o0 n1 n2,
    Value.slice (sliceBase o0 (Int.toNat i5) n2 2) (n1 - Int.toNat i5)
    (n2 - Int.toNat i5)] ∧ ([] : List Deferred) = []))))))
    (T.next 1 [Value.int IntKind.i64 i16, Value.int IntKind.i64 (IntKind.wrap IntKind.i64 (i17 + 1))]
    ([Value.slice o0 n1 n2,
    Value.slice (sliceBase o0 (Int.toNat i5) n2 2) (n1 - Int.toNat i5) (n2 - Int.toNat i5)] =
    [Value.slice o0 n1 n2,
    Value.slice (sliceBase o0 (Int.toNat i5) n2 2) (n1 - Int.toNat i5) (n2 - Int.toNat i5)] ∧ ([] : List Deferred) = []))))))
    (T.req (0 ≤ i16 ∧ i16 ≤ (↑n1 : Int))
    (T.run
    (biV Builtin.clear (Array.mk [37]) 0
    (Array.mk [Value.slice (sliceBase o0 (Int.toNat i16) n2 2) (n1 - Int.toNat i16) (n2 - Int.toNat i16)]))
    fun v32 => T.req (0 ≤ i16 ∧ i16 ≤ (↑n2 : Int)) (T.ret (Value.slice (sliceBase o0 0 n2 2) (Int.toNat i16) n2))))))
    (T.next 0 [Value.int IntKind.i64 (IntKind.wrap IntKind.i64 (i5 + 1))]
    ([Value.slice o0 n1 n2] = [Value.slice o0 n1 n2] ∧ ([] : List Deferred) = []))))))
    (T.ret (Value.slice o0 n1 n2)))
theorem e56 (o0 : Option Addr) (n1 n2 : Nat) : treeOf Try.prog Try.f56 (codeOf Try.f56) (.s .n (.s .n (.s (.s .n (.u (.l [(3, .int .i64)] [0] (.s .n (.s (.u (.s (.p [0, 1, 2, 3, 4, 5, 6, 7, 8, 9]) (.s (.s .n (.s (.s .n (.u (.l [(3, .int .i64), (5, .int .i64)] [0, 4] (.s .n (.s (.u (.s (.p [0, 1, 2, 3, 4, 5, 6, 7, 8, 9]) .n)) .n))))) .n)) .n))) .n))))) .n))) [.v (.slice o0 n1 n2)] = (t56 o0 n1 n2) := by kernel_rfl
theorem c56 (o0 : Option Addr) (n1 n2 : Nat) {w : World} {R : Ending → World → Prop} (h : (t56 o0 n1 n2).sem Try.prog R ρ0 w) : Calls Try.prog 56 #[.slice o0 n1 n2] w R :=
  calls_of mixed Try.func56 rfl rfl (e56 o0 n1 n2) h
def t62 (o0 : Option Addr) (n1 n2 : Nat) (i3 : Int) (i4 : Int) : T :=
  T.new (Obj.cells (Array.mk [Value.int IntKind.i32 i3, Value.int IntKind.i64 i4]) 50) fun n5 =>
  T.ldI IntKind.i32 n5 0 fun i6 =>
    T.ldI IntKind.i64 n5 1 fun i7 =>
    T.call 70 [Value.slice o0 n1 n2, Value.agg (Array.mk [Value.int IntKind.i32 i6, Value.int IntKind.i64 i7])] fun v8 =>
    T.asI IntKind.i64 v8 fun i9 => T.ret (Value.bool (decide (i9 ≥ 0)))
theorem e62 (o0 : Option Addr) (n1 n2 : Nat) (i3 : Int) (i4 : Int) : treeOf Try.prog Try.f62 (codeOf Try.f62) .n [.v (.slice o0 n1 n2), .v (.agg #[.int .i32 i3, .int .i64 i4])] = (t62 o0 n1 n2 i3 i4) := by kernel_rfl
theorem c62 (o0 : Option Addr) (n1 n2 : Nat) (i3 : Int) (i4 : Int) {w : World} {R : Ending → World → Prop} (h : (t62 o0 n1 n2 i3 i4).sem Try.prog R ρ0 w) : Calls Try.prog 62 #[.slice o0 n1 n2, .agg #[.int .i32 i3, .int .i64 i4]] w R :=
  calls_of mixed Try.func62 rfl rfl (e62 o0 n1 n2 i3 i4) h
def t70 (o0 : Option Addr) (n1 n2 : Nat) (i3 : Int) (i4 : Int) : T :=
  T.new (Obj.cells (Array.mk [Value.int IntKind.i32 i3, Value.int IntKind.i64 i4]) 50) fun n5 =>
  T.loop 0 [Value.int IntKind.i64 0] fun l6 j7 =>
    T.asI IntKind.i64 (List.headD l6 (Value.tuple (Array.mk []))) fun i8 =>
    T.ite (decide (i8 < (↑n1 : Int)))
    (T.drew
    (T.ldI IntKind.i32 n5 0 fun i9 =>
    T.ldI IntKind.i64 n5 1 fun i10 =>
    T.req (0 ≤ i8 ∧ i8 < (↑n1 : Int))
    (T.sm o0 fun n11 n12 =>
    T.ldI IntKind.i32 n11 (n12 + Int.toNat i8 * 2) fun i13 =>
    T.ldI IntKind.i64 n11 (n12 + Int.toNat i8 * 2 + 1) fun i14 =>
    T.ite (i9 == i13 && (i10 == i14 && true)) (T.ret (Value.int IntKind.i64 i8))
    (T.next 0 [Value.int IntKind.i64 (IntKind.wrap IntKind.i64 (i8 + 1))]
    ([Value.slice o0 n1 n2, Value.pointer (some (Addr.mk n5 0 none)), Value.int IntKind.i64 (↑n1 : Int)] =
    [Value.slice o0 n1 n2, Value.pointer (some (Addr.mk n5 0 none)), Value.int IntKind.i64 (↑n1 : Int)] ∧ ([] : List Deferred) = [])))))
    (T.ret (Value.int IntKind.i64 (-1)))
theorem e70 (o0 : Option Addr) (n1 n2 : Nat) (i3 : Int) (i4 : Int) : treeOf Try.prog Try.f70 (codeOf Try.f70) (.s .n (.s (.s .n (.u (.l [(8, .int .i64)] [0, 3, 7] (.s .n (.s .n (.s (.u (.s .n (.s (.p [0, 1, 2, 3, 4, 5]) .n))) .n)))))) .n)) [.v (.slice o0 n1 n2), .v (.agg #[.int .i32 i3, .int .i64 i4])] = (t70 o0 n1 n2 i3 i4) := by kernel_rfl
theorem c70 (o0 : Option Addr) (n1 n2 : Nat) (i3 : Int) (i4 : Int) {w : World} {R : Ending → World → Prop} (h : (t70 o0 n1 n2 i3 i4).sem Try.prog R ρ0 w) : Calls Try.prog 70 #[.slice o0 n1 n2, .agg #[.int .i32 i3, .int .i64 i4]] w R :=
  calls_of mixed Try.func70 rfl rfl (e70 o0 n1 n2 i3 i4) h
def t26 (o0 : Option Addr) (n1 n2 : Nat) : T :=
  T.ite (Option.isNone o0) (T.ret (Value.slice none 0 0))
  (T.new (Obj.cells (Array.mk []) 50) fun n3 =>
    T.run (biV Builtin.append (Array.mk [37, 37]) 37 (Array.mk [Value.slice (some (Addr.mk n3 0 none)) 0 0, Value.slice o0 n1 n2])) fun v4 =>
    T.asS v4 fun o5 n6 n7 => T.ret (Value.slice o5 n6 n7))
theorem e26 (o0 : Option Addr) (n1 n2 : Nat) : treeOf Try.prog Try.f26 (codeOf Try.f26) .n [.v (.slice o0 n1 n2)] = (t26 o0 n1 n2) := by kernel_rfl
theorem c26 (o0 : Option Addr) (n1 n2 : Nat) {w : World} {R : Ending → World → Prop} (h : (t26 o0 n1 n2).sem Try.prog R ρ0 w) : Calls Try.prog 26 #[.slice o0 n1 n2] w R :=
  calls_of mixed Try.func26 rfl rfl (e26 o0 n1 n2) h
def t59 (i0 : Int) (i1 : Int) : T :=
  T.new (Obj.cells (Array.mk [Value.int IntKind.i32 i0, Value.int IntKind.i64 i1]) 50) fun n2 =>
  T.drew
    (T.ldI IntKind.i32 n2 0 fun i3 =>
    T.ldI IntKind.i64 n2 1 fun i4 =>
    T.call 68 [Value.int IntKind.u64 (IntKind.wrap IntKind.u64 (IntKind.wrap IntKind.u64 i4 + 11400714819323198485))] fun v5 =>
    T.asI IntKind.u64 v5 fun i6 =>
    T.call 68 [Value.int IntKind.u64 (IntKind.wrap IntKind.u64 (i6 + IntKind.wrap IntKind.u64 (IntKind.wrap IntKind.u32 i3)))] fun v7 =>
    T.asI IntKind.u64 v7 fun i8 =>
    T.req ((0 : Int) ≤ 32)
    (T.req ((0 : Int) ≤ 32)
    (T.call 68
    [Value.int IntKind.u64
    (IntKind.wrap IntKind.u64
    (IntKind.wrap IntKind.u64 (i8 + shrI IntKind.u64 (IntKind.wrap IntKind.u64 i4) 32) +
    shlI IntKind.u64 (IntKind.wrap IntKind.u64 (IntKind.wrap IntKind.u32 i3)) 32))]
    fun v9 => T.asI IntKind.u64 v9 fun i10 => T.ret (Value.int IntKind.u64 i10))))
theorem e59 (i0 : Int) (i1 : Int) : treeOf Try.prog Try.f59 (codeOf Try.f59) (.s .n (.s (.p [0, 1, 2, 3, 4, 5, 6, 7, 8]) .n)) [.v (.agg #[.int .i32 i0, .int .i64 i1])] = (t59 i0 i1) := by kernel_rfl
theorem c59 (i0 : Int) (i1 : Int) {w : World} {R : Ending → World → Prop} (h : (t59 i0 i1).sem Try.prog R ρ0 w) : Calls Try.prog 59 #[.agg #[.int .i32 i0, .int .i64 i1]] w R :=
  calls_of mixed Try.func59 rfl rfl (e59 i0 i1) h
def t60 (i0 : Int) (i1 : Int) : T :=
  T.new (Obj.cells (Array.mk [Value.int IntKind.i32 i0, Value.int IntKind.i64 i1]) 50) fun n2 =>
  T.drew
    (T.ldI IntKind.i32 n2 0 fun i3 =>
    T.ldI IntKind.i64 n2 1 fun i4 =>
    T.call 69 [Value.int IntKind.u64 (IntKind.wrap IntKind.u64 (IntKind.wrap IntKind.u64 i4 + 11400714819323198485))] fun v5 =>
    T.asI IntKind.u64 v5 fun i6 =>
    T.call 69 [Value.int IntKind.u64 (IntKind.wrap IntKind.u64 (i6 + IntKind.wrap IntKind.u64 (IntKind.wrap IntKind.u32 i3)))] fun v7 =>
    T.asI IntKind.u64 v7 fun i8 =>
    T.req ((0 : Int) ≤ 32)
    (T.req ((0 : Int) ≤ 32)
    (T.call 69
    [Value.int IntKind.u64
    (IntKind.wrap IntKind.u64
    (IntKind.wrap IntKind.u64 (i8 + shrI IntKind.u64 (IntKind.wrap IntKind.u64 i4) 32) +
    shlI IntKind.u64 (IntKind.wrap IntKind.u64 (IntKind.wrap IntKind.u32 i3)) 32))]
    fun v9 => T.asI IntKind.u64 v9 fun i10 => T.ret (Value.int IntKind.u64 i10))))
theorem e60 (i0 : Int) (i1 : Int) : treeOf Try.prog Try.f60 (codeOf Try.f60) (.s .n (.s (.p [0, 1, 2, 3, 4, 5, 6, 7, 8]) .n)) [.v (.agg #[.int .i32 i0, .int .i64 i1])] = (t60 i0 i1) := by kernel_rfl
theorem c60 (i0 : Int) (i1 : Int) {w : World} {R : Ending → World → Prop} (h : (t60 i0 i1).sem Try.prog R ρ0 w) : Calls Try.prog 60 #[.agg #[.int .i32 i0, .int .i64 i1]] w R :=
  calls_of mixed Try.func60 rfl rfl (e60 i0 i1) h
def t68 (i0 : Int) : T :=
  T.req ((0 : Int) ≤ 13)
  (T.req ((0 : Int) ≤ 7)
    (T.req ((0 : Int) ≤ 17)
    (T.ret
    (Value.int IntKind.u64
    (bitsI BinOp.xor IntKind.u64
    (bitsI BinOp.xor IntKind.u64 (bitsI BinOp.xor IntKind.u64 i0 (shlI IntKind.u64 i0 13))
    (shrI IntKind.u64 (bitsI BinOp.xor IntKind.u64 i0 (shlI IntKind.u64 i0 13)) 7))
    (shlI IntKind.u64
    (bitsI BinOp.xor IntKind.u64 (bitsI BinOp.xor IntKind.u64 i0 (shlI IntKind.u64 i0 13))
    (shrI IntKind.u64 (bitsI BinOp.xor IntKind.u64 i0 (shlI IntKind.u64 i0 13)) 7))
    17))))))
theorem e68 (i0 : Int) : treeOf Try.prog Try.f68 (codeOf Try.f68) .n [.v (.int .u64 i0)] = (t68 i0) := by kernel_rfl
theorem c68 (i0 : Int) {w : World} {R : Ending → World → Prop} (h : (t68 i0).sem Try.prog R ρ0 w) : Calls Try.prog 68 #[.int .u64 i0] w R :=
  calls_of mixed Try.func68 rfl rfl (e68 i0) h
def t69 (i0 : Int) : T :=
  T.req ((0 : Int) ≤ 13)
  (T.req ((0 : Int) ≤ 7)
    (T.req ((0 : Int) ≤ 17)
    (T.ret
    (Value.int IntKind.u64
    (bitsI BinOp.xor IntKind.u64
    (bitsI BinOp.xor IntKind.u64 (bitsI BinOp.xor IntKind.u64 i0 (shlI IntKind.u64 i0 13))
    (shrI IntKind.u64 (bitsI BinOp.xor IntKind.u64 i0 (shlI IntKind.u64 i0 13)) 7))
    (shlI IntKind.u64
    (bitsI BinOp.xor IntKind.u64 (bitsI BinOp.xor IntKind.u64 i0 (shlI IntKind.u64 i0 13))
    (shrI IntKind.u64 (bitsI BinOp.xor IntKind.u64 i0 (shlI IntKind.u64 i0 13)) 7))
    17))))))
theorem e69 (i0 : Int) : treeOf Try.prog Try.f69 (codeOf Try.f69) .n [.v (.int .u64 i0)] = (t69 i0) := by kernel_rfl
theorem c69 (i0 : Int) {w : World} {R : Ending → World → Prop} (h : (t69 i0).sem Try.prog R ρ0 w) : Calls Try.prog 69 #[.int .u64 i0] w R :=
  calls_of mixed Try.func69 rfl rfl (e69 i0) h
def t46 (i0 : Int) (i1 : Int) (i2 : Int) : T :=
  T.new (Obj.cells (Array.mk [Value.int IntKind.i32 i0, Value.int IntKind.i64 i1]) 50) fun n3 =>
  T.ldI IntKind.i32 n3 0 fun i4 =>
    T.ldI IntKind.i64 n3 1 fun i5 =>
    T.call 59 [Value.agg (Array.mk [Value.int IntKind.i32 i4, Value.int IntKind.i64 i5])] fun v6 =>
    T.asI IntKind.u64 v6 fun i7 =>
    T.req ((0 : Int) ≤ 32)
    (T.call 52 [Value.int IntKind.i64 i2] fun v8 =>
    T.asI IntKind.i64 v8 fun i9 =>
    T.req ((0 : Int) ≤ 32)
    (T.ret
    (Value.int IntKind.i64
    (IntKind.wrap IntKind.i64 (shrI IntKind.u64 (IntKind.wrap IntKind.u64 (shrI IntKind.u64 i7 32 * IntKind.wrap IntKind.u64 i9)) 32)))))
theorem e46 (i0 : Int) (i1 : Int) (i2 : Int) : treeOf Try.prog Try.f46 (codeOf Try.f46) .n [.v (.agg #[.int .i32 i0, .int .i64 i1]), .v (.int .i64 i2)] = (t46 i0 i1 i2) := by kernel_rfl
theorem c46 (i0 : Int) (i1 : Int) (i2 : Int) {w : World} {R : Ending → World → Prop} (h : (t46 i0 i1 i2).sem Try.prog R ρ0 w) : Calls Try.prog 46 #[.agg #[.int .i32 i0, .int .i64 i1], .int .i64 i2] w R :=
  calls_of mixed Try.func46 rfl rfl (e46 i0 i1 i2) h
def t47 (i0 : Int) (i1 : Int) (i2 : Int) : T :=
  T.new (Obj.cells (Array.mk [Value.int IntKind.i32 i0, Value.int IntKind.i64 i1]) 50) fun n3 =>
  T.ldI IntKind.i32 n3 0 fun i4 =>
    T.ldI IntKind.i64 n3 1 fun i5 =>
    T.call 60 [Value.agg (Array.mk [Value.int IntKind.i32 i4, Value.int IntKind.i64 i5])] fun v6 =>
    T.asI IntKind.u64 v6 fun i7 =>
    T.req ((0 : Int) ≤ 32)
    (T.call 61 [Value.int IntKind.i64 i2] fun v8 =>
    T.asI IntKind.i64 v8 fun i9 =>
    T.req ((0 : Int) ≤ 32)
    (T.ret
    (Value.int IntKind.i64
    (IntKind.wrap IntKind.i64 (shrI IntKind.u64 (IntKind.wrap IntKind.u64 (shrI IntKind.u64 i7 32 * IntKind.wrap IntKind.u64 i9)) 32)))))
theorem e47 (i0 : Int) (i1 : Int) (i2 : Int) : treeOf Try.prog Try.f47 (codeOf Try.f47) .n [.v (.agg #[.int .i32 i0, .int .i64 i1]), .v (.int .i64 i2)] = (t47 i0 i1 i2) := by kernel_rfl
theorem c47 (i0 : Int) (i1 : Int) (i2 : Int) {w : World} {R : Ending → World → Prop} (h : (t47 i0 i1 i2).sem Try.prog R ρ0 w) : Calls Try.prog 47 #[.agg #[.int .i32 i0, .int .i64 i1], .int .i64 i2] w R :=
  calls_of mixed Try.func47 rfl rfl (e47 i0 i1 i2) h
def t52 (i0 : Int) : T :=
  T.run (biV Builtin.max (Array.mk [3, 3]) 3 (Array.mk [Value.int IntKind.i64 i0, Value.int IntKind.i64 1])) fun v1 =>
  T.asI IntKind.i64 v1 fun i2 =>
    T.run (biV Builtin.min (Array.mk [3, 3]) 3 (Array.mk [Value.int IntKind.i64 i2, Value.int IntKind.i64 8])) fun v3 =>
    T.asI IntKind.i64 v3 fun i4 => T.ret (Value.int IntKind.i64 i4)
theorem e52 (i0 : Int) : treeOf Try.prog Try.f52 (codeOf Try.f52) .n [.v (.int .i64 i0)] = (t52 i0) := by kernel_rfl
theorem c52 (i0 : Int) {w : World} {R : Ending → World → Prop} (h : (t52 i0).sem Try.prog R ρ0 w) : Calls Try.prog 52 #[.int .i64 i0] w R :=
  calls_of mixed Try.func52 rfl rfl (e52 i0) h
def t61 (i0 : Int) : T :=
  T.run (biV Builtin.max (Array.mk [3, 3]) 3 (Array.mk [Value.int IntKind.i64 i0, Value.int IntKind.i64 1])) fun v1 =>
  T.asI IntKind.i64 v1 fun i2 =>
    T.run (biV Builtin.min (Array.mk [3, 3]) 3 (Array.mk [Value.int IntKind.i64 i2, Value.int IntKind.i64 8])) fun v3 =>
    T.asI IntKind.i64 v3 fun i4 => T.ret (Value.int IntKind.i64 i4)
theorem e61 (i0 : Int) : treeOf Try.prog Try.f61 (codeOf Try.f61) .n [.v (.int .i64 i0)] = (t61 i0) := by kernel_rfl
theorem c61 (i0 : Int) {w : World} {R : Ending → World → Prop} (h : (t61 i0).sem Try.prog R ρ0 w) : Calls Try.prog 61 #[.int .i64 i0] w R :=
  calls_of mixed Try.func61 rfl rfl (e61 i0) h
def t39 (i0 : Int) (o1 : Option Addr) (n2 n3 : Nat) : T :=
  T.call 52 [Value.int IntKind.i64 i0] fun v4 =>
  T.asI IntKind.i64 v4 fun i5 =>
    T.run (Instr.makeSlice 72 (Value.int IntKind.i64 i5) (Value.int IntKind.i64 i5)) fun v6 =>
    T.asS v6 fun o7 n8 n9 =>
    T.call 41 [Value.slice o1 n2 n3] fun v10 =>
    T.asS v10 fun o11 n12 n13 =>
    T.loop 0 [Value.int IntKind.i64 0] fun l14 j15 =>
    T.asI IntKind.i64 (List.headD l14 (Value.tuple (Array.mk []))) fun i16 =>
    T.ite (decide (i16 < (↑n12 : Int)))
    (T.req (0 ≤ i16 ∧ i16 < (↑n12 : Int))
    (T.sm o11 fun n17 n18 =>
    T.ldI IntKind.i32 n17 (n18 + Int.toNat i16 * 2) fun i19 =>
    T.ldI IntKind.i64 n17 (n18 + Int.toNat i16 * 2 + 1) fun i20 =>
    T.new (Obj.cells (Array.mk [Value.int IntKind.i32 0, Value.int IntKind.i64 0]) 50) fun n21 =>
    T.st n21 0 (Value.int IntKind.i32 i19)
    (T.st n21 1 (Value.int IntKind.i64 i20)
    (T.ldI IntKind.i32 n21 0 fun i22 =>
    T.ldI IntKind.i64 n21 1 fun i23 =>
    T.call 46 [Value.agg (Array.mk [Value.int IntKind.i32 i22, Value.int IntKind.i64 i23]), Value.int IntKind.i64 i0] fun v24 =>
    T.asI IntKind.i64 v24 fun i25 =>
    T.drew
    (T.req (0 ≤ i25 ∧ i25 < (↑n8 : Int))
    (T.sm o7 fun n26 n27 =>
    T.ldS n26 (n27 + Int.toNat i25 * 1) fun o28 n29 n30 =>
    T.ldI IntKind.i32 n21 0 fun i31 =>
    T.ldI IntKind.i64 n21 1 fun i32 =>
    T.new (Obj.cells (Array.mk [Value.int IntKind.i32 i31, Value.int IntKind.i64 i32]) 50) fun n33 =>
    T.chk [(Addr.mk n26 (n27 + Int.toNat i25 * 1) none, Value.slice o28 n29 n30)]
    (T.run
    (biV Builtin.append (Array.mk [37, 37]) 37
    (Array.mk [Value.slice o28 n29 n30, Value.slice (some (Addr.mk n33 0 none)) 1 1]))
    fun v34 =>
    T.asS v34 fun o35 n36 n37 =>
    T.chk []
    (T.req (0 ≤ i25 ∧ i25 < (↑n8 : Int))
    (T.sm o7 fun n38 n39 =>
    T.st n38 (n39 + Int.toNat i25 * 1) (Value.slice o35 n36 n37)
    (T.chk []
    (T.next 0 [Value.int IntKind.i64 (IntKind.wrap IntKind.i64 (i16 + 1))]
    ([Value.int IntKind.i64 i0, Value.slice o7 n8 n9, Value.slice o11 n12 n13,
    Value.int IntKind.i64 (↑n12 : Int)] =
    [Value.int IntKind.i64 i0, Value.slice o7 n8 n9, Value.slice o11 n12 n13,
    Value.int IntKind.i64 (↑n12 : Int)] ∧ ([] : List Deferred) = []))))))))))))
    (T.ret (Value.slice o7 n8 n9))
theorem e39 (i0 : Int) (o1 : Option Addr) (n2 n3 : Nat) : treeOf Try.prog Try.f39 (codeOf Try.f39) (.s .n (.s .n (.s (.s .n (.u (.l [(15, .int .i64)] [0, 5, 13, 14] (.s .n (.s .n (.s (.u (.s .n (.s .n (.p [0, 1, 2, 3, 4, 5, 6, 7, 8, 9, 10])))) .n)))))) .n))) [.v (.int .i64 i0), .v (.slice o1 n2 n3)] = (t39 i0 o1 n2 n3) := by kernel_rfl
theorem c39 (i0 : Int) (o1 : Option Addr) (n2 n3 : Nat) {w : World} {R : Ending → World → Prop} (h : (t39 i0 o1 n2 n3).sem Try.prog R ρ0 w) : Calls Try.prog 39 #[.int .i64 i0, .slice o1 n2 n3] w R :=
  calls_of mixed Try.func39 rfl rfl (e39 i0 o1 n2 n3) h
def t53 (i0 : Int) (o1 : Option Addr) (n2 n3 : Nat) : T :=
  T.call 61 [Value.int IntKind.i64 i0] fun v4 =>
  T.asI IntKind.i64 v4 fun i5 =>
    T.run (Instr.makeSlice 72 (Value.int IntKind.i64 i5) (Value.int IntKind.i64 i5)) fun v6 =>
    T.asS v6 fun o7 n8 n9 =>
    T.call 43 [Value.slice o1 n2 n3] fun v10 =>
    T.asS v10 fun o11 n12 n13 =>
    T.loop 0 [Value.int IntKind.i64 0] fun l14 j15 =>
    T.asI IntKind.i64 (List.headD l14 (Value.tuple (Array.mk []))) fun i16 =>
    T.ite (decide (i16 < (↑n12 : Int)))
    (T.req (0 ≤ i16 ∧ i16 < (↑n12 : Int))
    (T.sm o11 fun n17 n18 =>
    T.ldI IntKind.i32 n17 (n18 + Int.toNat i16 * 2) fun i19 =>
    T.ldI IntKind.i64 n17 (n18 + Int.toNat i16 * 2 + 1) fun i20 =>
    T.call 47 [Value.agg (Array.mk [Value.int IntKind.i32 i19, Value.int IntKind.i64 i20]), Value.int IntKind.i64 i0] fun v21 =>
    T.asI IntKind.i64 v21 fun i22 =>
    T.drew
    (T.req (0 ≤ i22 ∧ i22 < (↑n8 : Int))
    (T.sm o7 fun n23 n24 =>
    T.ldS n23 (n24 + Int.toNat i22 * 1) fun o25 n26 n27 =>
    T.req (0 ≤ i16 ∧ i16 < (↑n12 : Int))
    (T.sm o11 fun n28 n29 =>
    T.ldI IntKind.i32 n28 (n29 + Int.toNat i16 * 2) fun i30 =>
    T.ldI IntKind.i64 n28 (n29 + Int.toNat i16 * 2 + 1) fun i31 =>
    T.new (Obj.cells (Array.mk [Value.int IntKind.i32 i30, Value.int IntKind.i64 i31]) 50) fun n32 =>
    T.chk [(Addr.mk n23 (n24 + Int.toNat i22 * 1) none, Value.slice o25 n26 n27)]
    (T.run
    (biV Builtin.append (Array.mk [37, 37]) 37
    (Array.mk [Value.slice o25 n26 n27, Value.slice (some (Addr.mk n32 0 none)) 1 1]))
    fun v33 =>
    T.asS v33 fun o34 n35 n36 =>
    T.chk []
    (T.req (0 ≤ i22 ∧ i22 < (↑n8 : Int))
    (T.sm o7 fun n37 n38 =>
    T.st n37 (n38 + Int.toNat i22 * 1) (Value.slice o34 n35 n36)
    (T.chk []
    (T.next 0 [Value.int IntKind.i64 (IntKind.wrap IntKind.i64 (i16 + 1))]
    ([Value.int IntKind.i64 i0, Value.slice o7 n8 n9, Value.slice o11 n12 n13] =
    [Value.int IntKind.i64 i0, Value.slice o7 n8 n9, Value.slice o11 n12 n13] ∧ ([] : List Deferred) = [])))))))))))
    (T.ret (Value.slice o7 n8 n9))
theorem e53 (i0 : Int) (o1 : Option Addr) (n2 n3 : Nat) : treeOf Try.prog Try.f53 (codeOf Try.f53) (.s .n (.s .n (.s .n (.s (.s .n (.u (.l [(7, .int .i64)] [0, 5, 6] (.s .n (.s (.u (.s .n (.p [0, 1, 2, 3, 4, 5, 6, 7, 8, 9, 10, 11, 12, 13]))) .n))))) .n)))) [.v (.int .i64 i0), .v (.slice o1 n2 n3)] = (t53 i0 o1 n2 n3) := by kernel_rfl
theorem c53 (i0 : Int) (o1 : Option Addr) (n2 n3 : Nat) {w : World} {R : Ending → World → Prop} (h : (t53 i0 o1 n2 n3).sem Try.prog R ρ0 w) : Calls Try.prog 53 #[.int .i64 i0, .slice o1 n2 n3] w R :=
  calls_of mixed Try.func53 rfl rfl (e53 i0 o1 n2 n3) h
def t37 (o0 : Option Addr) (n1 n2 : Nat) (o3 : Option Addr) (n4 n5 : Nat) : T :=
  T.ite ((↑n1 : Int) != (↑n4 : Int)) (T.ret (Value.bool false))
  (T.loop 0 [Value.int IntKind.i64 0] fun l6 j7 =>
    T.asI IntKind.i64 (List.headD l6 (Value.tuple (Array.mk []))) fun i8 =>
    T.ite (decide (i8 < (↑n1 : Int)))
    (T.drew
    (T.req (0 ≤ i8 ∧ i8 < (↑n1 : Int))
    (T.sm o0 fun n9 n10 =>
    T.ldI IntKind.i32 n9 (n10 + Int.toNat i8 * 2) fun i11 =>
    T.ldI IntKind.i64 n9 (n10 + Int.toNat i8 * 2 + 1) fun i12 =>
    T.req (0 ≤ i8 ∧ i8 < (↑n4 : Int))
    (T.sm o3 fun n13 n14 =>
    T.ldI IntKind.i32 n13 (n14 + Int.toNat i8 * 2) fun i15 =>
    T.ldI IntKind.i64 n13 (n14 + Int.toNat i8 * 2 + 1) fun i16 =>
    T.ite (!(i11 == i15 && (i12 == i16 && true))) (T.ret (Value.bool false))
    (T.next 0 [Value.int IntKind.i64 (IntKind.wrap IntKind.i64 (i8 + 1))]
    ([Value.slice o0 n1 n2, Value.slice o3 n4 n5] = [Value.slice o0 n1 n2, Value.slice o3 n4 n5] ∧ ([] : List Deferred) = []))))))
    (T.ret (Value.bool true)))
theorem e37 (o0 : Option Addr) (n1 n2 : Nat) (o3 : Option Addr) (n4 n5 : Nat) : treeOf Try.prog Try.f37 (codeOf Try.f37) (.s .n (.s .n (.s (.s .n (.u (.l [(5, .int .i64)] [0, 1] (.s .n (.s (.u (.s (.p [0, 1, 2, 3, 4, 5, 6, 7, 8]) .n)) .n))))) .n))) [.v (.slice o0 n1 n2), .v (.slice o3 n4 n5)] = (t37 o0 n1 n2 o3 n4 n5) := by kernel_rfl
theorem c37 (o0 : Option Addr) (n1 n2 : Nat) (o3 : Option Addr) (n4 n5 : Nat) {w : World} {R : Ending → World → Prop} (h : (t37 o0 n1 n2 o3 n4 n5).sem Try.prog R ρ0 w) : Calls Try.prog 37 #[.slice o0 n1 n2, .slice o3 n4 n5] w R :=
  calls_of mixed Try.func37 rfl rfl (e37 o0 n1 n2 o3 n4 n5) h
def t29 (o0 : Option Addr) (n1 n2 : Nat) (i3 : Int) (i4 : Int) : T :=
  T.new (Obj.cells (Array.mk [Value.int IntKind.i32 i3, Value.int IntKind.i64 i4]) 50) fun n5 =>
  T.loop 0 [Value.int IntKind.i64 0] fun l6 j7 =>
    T.asI IntKind.i64 (List.headD l6 (Value.tuple (Array.mk []))) fun i8 =>
    T.ite (decide (i8 < (↑n1 : Int)))
    (T.drew
    (T.req (0 ≤ i8 ∧ i8 < (↑n1 : Int))
    (T.sm o0 fun n9 n10 =>
    T.ldI IntKind.i32 n9 (n10 + Int.toNat i8 * 2) fun i11 =>
    T.ldI IntKind.i64 n9 (n10 + Int.toNat i8 * 2 + 1) fun i12 =>
    T.ldI IntKind.i32 n5 0 fun i13 =>
    T.ldI IntKind.i64 n5 1 fun i14 =>
    T.ite (i11 == i13 && (i12 == i14 && true)) (T.ret (Value.bool true))
    (T.next 0 [Value.int IntKind.i64 (IntKind.wrap IntKind.i64 (i8 + 1))]
    ([Value.slice o0 n1 n2, Value.pointer (some (Addr.mk n5 0 none))] = [Value.slice o0 n1 n2, Value.pointer (some (Addr.mk n5 0 none))] ∧ ([] : List Deferred) = [])))))
    (T.ret (Value.bool false))
theorem e29 (o0 : Option Addr) (n1 n2 : Nat) (i3 : Int) (i4 : Int) : treeOf Try.prog Try.f29 (codeOf Try.f29) (.s .n (.s (.s .n (.u (.l [(5, .int .i64)] [0, 3] (.s .n (.s (.u (.s (.p [0, 1, 2, 3, 4, 5]) .n)) .n))))) .n)) [.v (.slice o0 n1 n2), .v (.agg #[.int .i32 i3, .int .i64 i4])] = (t29 o0 n1 n2 i3 i4) := by kernel_rfl
theorem c29 (o0 : Option Addr) (n1 n2 : Nat) (i3 : Int) (i4 : Int) {w : World} {R : Ending → World → Prop} (h : (t29 o0 n1 n2 i3 i4).sem Try.prog R ρ0 w) : Calls Try.prog 29 #[.slice o0 n1 n2, .agg #[.int .i32 i3, .int .i64 i4]] w R :=
  calls_of mixed Try.func29 rfl rfl (e29 o0 n1 n2 i3 i4) h
def t43 (o0 : Option Addr) (n1 n2 : Nat) : T :=
  T.loop 0 [Value.slice none 0 0, Value.int IntKind.i64 0] fun l3 j4 =>
  T.asS (List.headD l3 (Value.tuple (Array.mk []))) fun o5 n6 n7 =>
    T.asI IntKind.i64 (List.headD (List.tail l3) (Value.tuple (Array.mk []))) fun i8 =>
    T.ite (decide (i8 < (↑n1 : Int)))
    (T.blk 1
    (fun l9 j10 =>
    T.asI IntKind.i64 (List.headD l9 (Value.tuple (Array.mk []))) fun i11 =>
    T.blk 1
    (fun l12 j13 =>
    T.drew
    (T.req (0 ≤ i11 ∧ i11 ≤ (↑n7 : Int))
    (T.req (0 ≤ i8 ∧ i8 < (↑n1 : Int))
    (T.sm o0 fun n14 n15 =>
    T.ldI IntKind.i32 n14 (n15 + Int.toNat i8 * 2) fun i16 =>
    T.ldI IntKind.i64 n14 (n15 + Int.toNat i8 * 2 + 1) fun i17 =>
    T.req (0 ≤ i11 ∧ i11 ≤ (↑n6 : Int))
    (T.both
    (T.run
    (biV Builtin.append (Array.mk [37, 37]) 37
    (Array.mk [Value.slice none 0 0, Value.slice (sliceBase o5 0 n7 2) (Int.toNat i11) n7]))
    fun v18 =>
    T.asS v18 fun o19 n20 n21 =>
    T.chk
    [(Addr.mk n14 (n15 + Int.toNat i8 * 2) none, Value.int IntKind.i32 i16),
    (Addr.mk n14 (n15 + Int.toNat i8 * 2 + 1) none, Value.int IntKind.i64 i17)]
    (T.new (Obj.cells (Array.mk [Value.int IntKind.i32 i16, Value.int IntKind.i64 i17]) 50) fun n22 =>
    T.chk []
    (T.run
    (biV Builtin.append (Array.mk [37, 37]) 37
    (Array.mk [Value.slice o19 n20 n21, Value.slice (some (Addr.mk n22 0 none)) 1 1]))
    fun v23 =>
    T.asS v23 fun o24 n25 n26 =>
    T.chk []
    (T.run
    (biV Builtin.append (Array.mk [37, 37]) 37
    (Array.mk
    [Value.slice o24 n25 n26,
    Value.slice (sliceBase o5 (Int.toNat i11) n7 2) (n6 - Int.toNat i11) (n7 - Int.toNat i11)]))
    fun v27 =>
    T.asS v27 fun o28 n29 n30 =>
    T.chk []
    (T.next 0 [Value.slice o28 n29 n30, Value.int IntKind.i64 (IntKind.wrap IntKind.i64 (i8 + 1))]
    ([Value.slice o0 n1 n2] = [Value.slice o0 n1 n2] ∧ ([] : List Deferred) = []))))))
    (T.new (Obj.cells (Array.mk [Value.int IntKind.i32 i16, Value.int IntKind.i64 i17]) 50) fun n31 =>
    T.chk []
    (T.run
    (biV Builtin.append (Array.mk [37, 37]) 37
    (Array.mk [Value.slice none 0 0, Value.slice (sliceBase o5 0 n7 2) (Int.toNat i11) n7]))
    fun v32 =>
    T.asS v32 fun o33 n34 n35 =>
    T.chk []
    (T.run
    (biV Builtin.append (Array.mk [37, 37]) 37
    (Array.mk [Value.slice o33 n34 n35, Value.slice (some (Addr.mk n31 0 none)) 1 1]))
    fun v36 =>
    T.asS v36 fun o37 n38 n39 =>
    T.chk []
    (T.run
    (biV Builtin.append (Array.mk [37, 37]) 37
    (Array.mk
    [Value.slice o37 n38 n39,
    Value.slice (sliceBase o5 (Int.toNat i11) n7 2) (n6 - Int.toNat i11) (n7 - Int.toNat i11)]))
    fun v40 =>
    T.asS v40 fun o41 n42 n43 =>
    T.chk []
    (T.next 0 [Value.slice o41 n42 n43, Value.int IntKind.i64 (IntKind.wrap IntKind.i64 (i8 + 1))]
    ([Value.slice o0 n1 n2] = [Value.slice o0 n1 n2] ∧ ([] : List Deferred) = [])))))))))))
    (T.drew
    (T.ite (decide (i11 < (↑n6 : Int)))
    (T.req (0 ≤ i11 ∧ i11 < (↑n6 : Int))
    (T.sm o5 fun n44 n45 =>
    T.ldI IntKind.i32 n44 (n45 + Int.toNat i11 * 2) fun i46 =>
    T.ldI IntKind.i64 n44 (n45 + Int.toNat i11 * 2 + 1) fun i47 =>
    T.req (0 ≤ i8 ∧ i8 < (↑n1 : Int))
    (T.sm o0 fun n48 n49 =>
    T.ldI IntKind.i32 n48 (n49 + Int.toNat i8 * 2) fun i50 =>
    T.ldI IntKind.i64 n48 (n49 + Int.toNat i8 * 2 + 1) fun i51 =>
    T.ite (i46 == i50 && (i47 == i51 && true))
    (T.next 0 [Value.slice o5 n6 n7, Value.int IntKind.i64 (IntKind.wrap IntKind.i64 (i8 + 1))]
    ([Value.slice o0 n1 n2] = [Value.slice o0 n1 n2] ∧ ([] : List Deferred) = []))
    (T.next 1 []
    ([Value.slice o0 n1 n2, Value.slice o5 n6 n7, Value.int IntKind.i64 i8, Value.int IntKind.i64 i11] =
    [Value.slice o0 n1 n2, Value.slice o5 n6 n7, Value.int IntKind.i64 i8, Value.int IntKind.i64 i11] ∧ ([] : List Deferred) = [])))))
    (T.next 1 []
    ([Value.slice o0 n1 n2, Value.slice o5 n6 n7, Value.int IntKind.i64 i8, Value.int IntKind.i64 i11] =
    [Value.slice o0 n1 n2, Value.slice o5 n6 n7, Value.int IntKind.i64 i8, Value.int IntKind.i64 i11] ∧ ([] : List Deferred) = [])))))
    (T.loop 2 [Value.int IntKind.i64 0] fun l52 j53 =>
    T.asI IntKind.i64 (List.headD l52 (Value.tuple (Array.mk []))) fun i54 =>
    T.drew
    (T.ite (decide (i54 < (↑n6 : Int)))
    (T.req (0 ≤ i54 ∧ i54 < (↑n6 : Int))
    (T.sm o5 fun n55 n56 =>
    T.ldI IntKind.i32 n55 (n56 + Int.toNat i54 * 2) fun i57 =>
    T.ldI IntKind.i64 n55 (n56 + Int.toNat i54 * 2 + 1) fun i58 =>
    T.req (0 ≤ i8 ∧ i8 < (↑n1 : Int))
    (T.sm o0 fun n59 n60 =>
    T.ldI IntKind.i32 n59 (n60 + Int.toNat i8 * 2) fun i61 =>
    T.ldI IntKind.i64 n59 (n60 + Int.toNat i8 * 2 + 1) fun i62 =>
    T.call 58
    [Value.agg (Array.mk [Value.int IntKind.i32 i57, Value.int IntKind.i64 i58]),
    Value.agg (Array.mk [Value.int IntKind.i32 i61, Value.int IntKind.i64 i62])]
    fun v63 =>
    T.asI IntKind.i64 v63 fun i64 =>
    T.chk []
    (T.ite (decide (i64 < 0))
    (T.next 2 [Value.int IntKind.i64 (IntKind.wrap IntKind.i64 (i54 + 1))]
    ([Value.slice o0 n1 n2, Value.slice o5 n6 n7, Value.int IntKind.i64 i8] =
    [Value.slice o0 n1 n2, Value.slice o5 n6 n7, Value.int IntKind.i64 i8] ∧ ([] : List Deferred) = []))
    (T.next 1 [Value.int IntKind.i64 i54]
    ([Value.slice o0 n1 n2, Value.slice o5 n6 n7, Value.int IntKind.i64 i8] =
    [Value.slice o0 n1 n2, Value.slice o5 n6 n7, Value.int IntKind.i64 i8] ∧ ([] : List Deferred) = []))))))
    (T.chk []
    (T.next 1 [Value.int IntKind.i64 i54]
    ([Value.slice o0 n1 n2, Value.slice o5 n6 n7, Value.int IntKind.i64 i8] =
    [Value.slice o0 n1 n2, Value.slice o5 n6 n7, Value.int IntKind.i64 i8] ∧ ([] : List Deferred) = []))))))
    (T.ret (Value.slice o5 n6 n7))
theorem e43 (o0 : Option Addr) (n1 n2 : Nat) : treeOf Try.prog Try.f43 (codeOf Try.f43) (.s .n (.s .n (.s (.s .n (.u (.l [(3, .slice), (4, .int .i64)] [0] (.s .n (.s (.u (.s .n (.c [(5, .int .i64)] [0, 3, 4] (.u (.l [(5, .int .i64)] [0, 3, 4] (.s (.s (.p [0, 1, 2, 3, 4, 5, 6, 7, 8, 9, 10, 11, 12, 13, 14, 15]) .n) .n))) (.c [] [0, 3, 4, 5] (.s (.p [0, 1, 2, 3, 4, 5, 6, 7, 8, 9, 10, 11, 12, 13, 14]) .n) (.s .n (.p [0, 1, 2, 3, 5, 6, 7, 8, 11, 12, 13, 4, 9, 10, 14, 15])))))) .n))))) .n))) [.v (.slice o0 n1 n2)] = (t43 o0 n1 n2) := by kernel_rfl
theorem c43 (o0 : Option Addr) (n1 n2 : Nat) {w : World} {R : Ending → World → Prop} (h : (t43 o0 n1 n2).sem Try.prog R ρ0 w) : Calls Try.prog 43 #[.slice o0 n1 n2] w R :=
  calls_of mixed Try.func43 rfl rfl (e43 o0 n1 n2) h
def t58 (i0 : Int) (i1 : Int) (i2 : Int) (i3 : Int) : T :=
  T.new (Obj.cells (Array.mk [Value.int IntKind.i32 i0, Value.int IntKind.i64 i1]) 50) fun n4 =>
  T.new (Obj.cells (Array.mk [Value.int IntKind.i32 i2, Value.int IntKind.i64 i3]) 50) fun n5 =>
    T.ldI IntKind.i32 n4 0 fun i6 =>
    T.ldI IntKind.i32 n5 0 fun i7 =>
    T.ite (decide (i6 < i7)) (T.ret (Value.int IntKind.i64 (-1)))
    (T.ldI IntKind.i32 n4 0 fun i8 =>
    T.ldI IntKind.i32 n5 0 fun i9 =>
    T.ite (i8 == i9)
    (T.ldI IntKind.i64 n4 1 fun i10 =>
    T.ldI IntKind.i64 n5 1 fun i11 =>
    T.ite (decide (i10 < i11)) (T.ret (Value.int IntKind.i64 (-1)))
    (T.ldI IntKind.i32 n4 0 fun i12 =>
    T.ldI IntKind.i64 n4 1 fun i13 =>
    T.ldI IntKind.i32 n5 0 fun i14 =>
    T.ldI IntKind.i64 n5 1 fun i15 =>
    T.ite (i12 == i14 && (i13 == i15 && true)) (T.ret (Value.int IntKind.i64 0)) (T.ret (Value.int IntKind.i64 1))))
    (T.ldI IntKind.i32 n4 0 fun i16 =>
    T.ldI IntKind.i64 n4 1 fun i17 =>
    T.ldI IntKind.i32 n5 0 fun i18 =>
    T.ldI IntKind.i64 n5 1 fun i19 =>
    T.ite (i16 == i18 && (i17 == i19 && true)) (T.ret (Value.int IntKind.i64 0)) (T.ret (Value.int IntKind.i64 1))))
theorem e58 (i0 : Int) (i1 : Int) (i2 : Int) (i3 : Int) : treeOf Try.prog Try.f58 (codeOf Try.f58) .n [.v (.agg #[.int .i32 i0, .int .i64 i1]), .v (.agg #[.int .i32 i2, .int .i64 i3])] = (t58 i0 i1 i2 i3) := by kernel_rfl
theorem c58 (i0 : Int) (i1 : Int) (i2 : Int) (i3 : Int) {w : World} {R : Ending → World → Prop} (h : (t58 i0 i1 i2 i3).sem Try.prog R ρ0 w) : Calls Try.prog 58 #[.agg #[.int .i32 i0, .int .i64 i1], .agg #[.int .i32 i2, .int .i64 i3]] w R :=
  calls_of mixed Try.func58 rfl rfl (e58 i0 i1 i2 i3) h
end Go.Proofs.Ytndkffhlheaepaa
