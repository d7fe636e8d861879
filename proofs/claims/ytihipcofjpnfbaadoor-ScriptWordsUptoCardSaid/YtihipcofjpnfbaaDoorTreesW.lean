/- The functions' trees, printed by a program (wip/tools/Emit.lean) and checked by the kernel against the model's own code. -/
import Derived.Test.YtihipcofjpnfbaaDoorTreesA
import Derived.Test.YtihipcofjpnfbaaDoorProg
namespace Go.Proofs.YtihipcofjpnfbaaDoor
open Go hiding Expr
open Go.Proofs.YtihipcofjpnfbaaDoor.Tr
set_option linter.unusedVariables false
set_option maxRecDepth 100000
def t14 (s0 : ByteArray) : T :=
  T.ite (ByteArray.toList s0 == ByteArray.toList (ByteArray.mk (Array.mk [OfNat.ofNat 45])))
  (T.ret (Value.tuple (Array.mk [Value.slice none 0 0, Value.bool true])))
  (T.blk 0
    (fun l1 j2 =>
    T.loop 0 [Value.string s0, Value.slice none 0 0] fun l3 j4 =>
    T.asT (List.headD l3 (Value.tuple (Array.mk []))) fun s5 =>
    T.asS (List.headD (List.tail l3) (Value.tuple (Array.mk []))) fun o6 n7 n8 =>
    T.ite (!ByteArray.toList s5 == ByteArray.toList (ByteArray.mk (Array.mk [])))
    (T.req ((0 : Int) ≤ 2 ∧ (2 : Int) ≤ (↑(ByteArray.size s5) : Int))
    (T.call 36 [Value.string (ByteArray.extract s5 0 2), Value.int IntKind.i64 16, Value.int IntKind.i64 8] fun v9 =>
    T.asU v9 fun l10 =>
    T.req (List.length l10 = 2)
    (T.asI IntKind.u64 (List.headD l10 (Value.tuple (Array.mk []))) fun i11 =>
    T.drew
    (T.req (isI (List.headD (List.tail l10) (Value.tuple (Array.mk []))))
    (T.ite (!isNilI (List.headD (List.tail l10) (Value.tuple (Array.mk []))))
    (T.chk [] (T.chk [] (T.ret (Value.tuple (Array.mk [Value.slice none 0 0, Value.bool false])))))
    (T.req ((0 : Int) ≤ 2 ∧ (2 : Int) ≤ (↑(ByteArray.size s5) : Int))
    (T.new (Obj.cells (Array.mk [Value.int IntKind.u8 (IntKind.wrap IntKind.u8 i11)]) 5) fun n12 =>
    T.chk []
    (T.call 18 [Value.slice (some (Addr.mk n12 0 none)) 1 1] fun v13 =>
    T.asT v13 fun s14 =>
    T.chk []
    (T.ite (!ByteArray.toList s14 == ByteArray.toList (ByteArray.extract s5 0 2))
    (T.ret (Value.tuple (Array.mk [Value.slice none 0 0, Value.bool false])))
    (T.new (Obj.cells (Array.mk [Value.int IntKind.u8 (IntKind.wrap IntKind.u8 i11)]) 5) fun n15 =>
    T.run
    (biV Builtin.append (Array.mk [32, 32]) 32
    (Array.mk [Value.slice o6 n7 n8, Value.slice (some (Addr.mk n15 0 none)) 1 1]))
    fun v16 =>
    T.asS v16 fun o17 n18 n19 =>
    T.req ((0 : Int) ≤ 2 ∧ (2 : Int) ≤ (↑(ByteArray.size s5) : Int))
    (T.next 0 [Value.string (ByteArray.extract s5 2 (ByteArray.size s5)), Value.slice o17 n18 n19]
    (([] : List Value) = [] ∧ ([] : List Deferred) = []))))))))))))
    (T.ret (Value.tuple (Array.mk [Value.slice o6 n7 n8, Value.bool true]))))
    (T.ite ((↑(ByteArray.size s0) : Int) == 0) (T.ret (Value.tuple (Array.mk [Value.slice none 0 0, Value.bool false])))
    (T.req ((2 : Int) ≠ 0)
    (T.ite (Int.tmod (↑(ByteArray.size s0) : Int) 2 != 0) (T.ret (Value.tuple (Array.mk [Value.slice none 0 0, Value.bool false])))
    (T.next 0 [] ([Value.string s0] = [Value.string s0] ∧ ([] : List Deferred) = []))))))
theorem e14 (s0 : ByteArray) : treeOf Tryd.prog Tryd.f14 (codeOf Tryd.f14) (.s .n (.s .n (.c [] [0] .n (.s .n (.s (.u (.l [(0, .str), (4, .slice)] [] (.s .n (.s (.u (.s .n (.s (.s (.p [0, 1, 2, 3, 4, 7, 8, 5, 6, 9, 10]) .n) .n))) .n)))) .n))))) [.v (.string s0)] = (t14 s0) := by kernel_rfl
theorem c14 (s0 : ByteArray) {w : World} {R : Ending → World → Prop} (h : (t14 s0).sem Tryd.prog R ρ0 w) : Calls Tryd.prog 14 #[.string s0] w R :=
  calls_of mixed Tryd.func14 rfl rfl (e14 s0) h
def t15 (s0 : ByteArray) : T :=
  T.ite (ByteArray.toList s0 == ByteArray.toList (ByteArray.mk (Array.mk [OfNat.ofNat 45])))
  (T.ret (Value.tuple (Array.mk [Value.slice none 0 0, Value.bool true])))
  (T.blk 0
    (fun l1 j2 =>
    T.loop 0 [Value.slice none 0 0, Value.int IntKind.i64 0] fun l3 j4 =>
    T.asS (List.headD l3 (Value.tuple (Array.mk []))) fun o5 n6 n7 =>
    T.asI IntKind.i64 (List.headD (List.tail l3) (Value.tuple (Array.mk []))) fun i8 =>
    T.ite (decide (i8 < (↑(ByteArray.size s0) : Int)))
    (T.drew
    (T.req (0 ≤ i8 ∧ i8 < (↑(ByteArray.size s0) : Int))
    (T.req (0 ≤ IntKind.wrap IntKind.i64 (i8 + 1) ∧ IntKind.wrap IntKind.i64 (i8 + 1) < (↑(ByteArray.size s0) : Int))
    (T.call 37 [Value.int IntKind.u8 (↑(UInt8.toNat (Array.getD (ByteArray.data s0) (Int.toNat i8) (OfNat.ofNat 0))) : Int)] fun v9 =>
    T.asI IntKind.u8 v9 fun i10 =>
    T.chk []
    (T.call 37
    [Value.int IntKind.u8
    (↑(UInt8.toNat (Array.getD (ByteArray.data s0) (Int.toNat (IntKind.wrap IntKind.i64 (i8 + 1))) (OfNat.ofNat 0))) : Int)]
    fun v11 =>
    T.asI IntKind.u8 v11 fun i12 =>
    T.chk []
    (T.blk 1
    (fun l13 j14 =>
    T.new (Obj.cells (Array.mk [Value.int IntKind.u8 (IntKind.wrap IntKind.u8 (IntKind.wrap IntKind.u8 (16 * i10) + i12))]) 5)
    fun n15 =>
    T.run
    (biV Builtin.append (Array.mk [32, 32]) 32
    (Array.mk [Value.slice o5 n6 n7, Value.slice (some (Addr.mk n15 0 none)) 1 1]))
    fun v16 =>
    T.asS v16 fun o17 n18 n19 =>
    T.next 0 [Value.slice o17 n18 n19, Value.int IntKind.i64 (IntKind.wrap IntKind.i64 (i8 + 2))]
    ([Value.string s0] = [Value.string s0] ∧ ([] : List Deferred) = []))
    (T.ite (decide (i10 > 15)) (T.ret (Value.tuple (Array.mk [Value.slice none 0 0, Value.bool false])))
    (T.ite (decide (i12 > 15)) (T.ret (Value.tuple (Array.mk [Value.slice none 0 0, Value.bool false])))
    (T.next 1 []
    ([Value.string s0, Value.slice o5 n6 n7, Value.int IntKind.i64 i8, Value.int IntKind.u8 i10, Value.int IntKind.u8 i12] =
    [Value.string s0, Value.slice o5 n6 n7, Value.int IntKind.i64 i8, Value.int IntKind.u8 i10,
    Value.int IntKind.u8 i12] ∧ ([] : List Deferred) = []))))))))))
    (T.ret (Value.tuple (Array.mk [Value.slice o5 n6 n7, Value.bool true]))))
    (T.ite ((↑(ByteArray.size s0) : Int) == 0) (T.ret (Value.tuple (Array.mk [Value.slice none 0 0, Value.bool false])))
    (T.req ((2 : Int) ≠ 0)
    (T.ite (Int.tmod (↑(ByteArray.size s0) : Int) 2 != 0) (T.ret (Value.tuple (Array.mk [Value.slice none 0 0, Value.bool false])))
    (T.next 0 [] ([Value.string s0] = [Value.string s0] ∧ ([] : List Deferred) = []))))))
theorem e15 (s0 : ByteArray) : treeOf Tryd.prog Tryd.f15 (codeOf Tryd.f15) (.s .n (.s .n (.c [] [0] .n (.s .n (.s (.s .n (.u (.l [(4, .slice), (5, .int .i64)] [0] (.s .n (.s (.u (.s (.p [0, 1, 2, 4, 5, 6, 7, 3, 8, 9, 10]) (.c [] [0, 4, 5, 6, 7] .n .n))) .n))))) .n))))) [.v (.string s0)] = (t15 s0) := by kernel_rfl
theorem c15 (s0 : ByteArray) {w : World} {R : Ending → World → Prop} (h : (t15 s0).sem Tryd.prog R ρ0 w) : Calls Tryd.prog 15 #[.string s0] w R :=
  calls_of mixed Tryd.func15 rfl rfl (e15 s0) h
def t37 (i0 : Int) : T :=
  T.blk 0
  (fun l1 j2 =>
    T.asB (List.headD l1 (Value.tuple (Array.mk []))) fun b3 =>
    T.ite b3 (T.ret (Value.int IntKind.u8 (IntKind.wrap IntKind.u8 (i0 - 48))))
    (T.ite (decide (i0 ≥ 97))
    (T.ite (decide (i0 ≤ 102)) (T.ret (Value.int IntKind.u8 (IntKind.wrap IntKind.u8 (IntKind.wrap IntKind.u8 (i0 - 97) + 10))))
    (T.ret (Value.int IntKind.u8 16)))
    (T.ret (Value.int IntKind.u8 16))))
  (T.ite (decide (i0 ≥ 48)) (T.next 0 [Value.bool (decide (i0 ≤ 57))] ([Value.int IntKind.u8 i0] = [Value.int IntKind.u8 i0] ∧ ([] : List Deferred) = []))
    (T.next 0 [Value.bool false] ([Value.int IntKind.u8 i0] = [Value.int IntKind.u8 i0] ∧ ([] : List Deferred) = [])))
theorem e37 (i0 : Int) : treeOf Tryd.prog Tryd.f37 (codeOf Tryd.f37) (.s .n (.s (.u (.c [(3, .bool)] [0] .n .n)) .n)) [.v (.int .u8 i0)] = (t37 i0) := by kernel_rfl
theorem c37 (i0 : Int) {w : World} {R : Ending → World → Prop} (h : (t37 i0).sem Tryd.prog R ρ0 w) : Calls Tryd.prog 37 #[.int .u8 i0] w R :=
  calls_of mixed Tryd.func37 rfl rfl (e37 i0) h
def t20 (o0 : Option Addr) (n1 n2 : Nat) (o3 : Option Addr) (n4 n5 : Nat) : T :=
  T.run (convert 32 9 (Value.slice o0 n1 n2)) fun v6 =>
  T.asT v6 fun s7 => T.run (convert 32 9 (Value.slice o3 n4 n5)) fun v8 => T.asT v8 fun s9 => T.ret (Value.bool (ByteArray.toList s7 == ByteArray.toList s9))
theorem e20 (o0 : Option Addr) (n1 n2 : Nat) (o3 : Option Addr) (n4 n5 : Nat) : treeOf Tryd.prog Tryd.f20 (codeOf Tryd.f20) .n [.v (.slice o0 n1 n2), .v (.slice o3 n4 n5)] = (t20 o0 n1 n2 o3 n4 n5) := by kernel_rfl
theorem c20 (o0 : Option Addr) (n1 n2 : Nat) (o3 : Option Addr) (n4 n5 : Nat) {w : World} {R : Ending → World → Prop} (h : (t20 o0 n1 n2 o3 n4 n5).sem Tryd.prog R ρ0 w) : Calls Tryd.prog 20 #[.slice o0 n1 n2, .slice o3 n4 n5] w R :=
  calls_of mixed Tryd.func20 rfl rfl (e20 o0 n1 n2 o3 n4 n5) h
def t36 (s0 : ByteArray) (i1 : Int) (i2 : Int) : T :=
  T.call 46 [Value.string s0, Value.int IntKind.i64 i1, Value.int IntKind.i64 i2] fun v3 =>
  T.asU v3 fun l4 =>
    T.req (List.length l4 = 2)
    (T.asI IntKind.u64 (List.headD l4 (Value.tuple (Array.mk []))) fun i5 =>
    T.req (isI (List.headD (List.tail l4) (Value.tuple (Array.mk []))))
    (T.ite (!isNilI (List.headD (List.tail l4) (Value.tuple (Array.mk []))))
    (T.call 47
    [Value.string
    (ByteArray.mk
    (Array.mk
    [OfNat.ofNat 80, OfNat.ofNat 97, OfNat.ofNat 114, OfNat.ofNat 115, OfNat.ofNat 101, OfNat.ofNat 85, OfNat.ofNat 105, OfNat.ofNat 110,
    OfNat.ofNat 116])),
    Value.string s0, Value.int IntKind.i64 i1, Value.int IntKind.i64 i2, List.headD (List.tail l4) (Value.tuple (Array.mk []))]
    fun v6 => T.ret (Value.tuple (Array.mk [Value.int IntKind.u64 i5, v6])))
    (T.ret (Value.tuple (Array.mk [Value.int IntKind.u64 i5, Value.nilIface])))))
theorem e36 (s0 : ByteArray) (i1 : Int) (i2 : Int) : treeOf Tryd.prog Tryd.f36 (codeOf Tryd.f36) .n [.v (.string s0), .v (.int .i64 i1), .v (.int .i64 i2)] = (t36 s0 i1 i2) := by kernel_rfl
theorem c36 (s0 : ByteArray) (i1 : Int) (i2 : Int) {w : World} {R : Ending → World → Prop} (h : (t36 s0 i1 i2).sem Tryd.prog R ρ0 w) : Calls Tryd.prog 36 #[.string s0, .int .i64 i1, .int .i64 i2] w R :=
  calls_of mixed Tryd.func36 rfl rfl (e36 s0 i1 i2) h
def t46 (s0 : ByteArray) (i1 : Int) (i2 : Int) : T :=
  T.ite (ByteArray.toList s0 == ByteArray.toList (ByteArray.mk (Array.mk [])))
  (T.ret (Value.tuple (Array.mk [Value.int IntKind.u64 0, Value.iface 99 (Value.int IntKind.i64 2)])))
  (T.blk 0
    (fun l3 j4 =>
    T.asT (List.headD l3 (Value.tuple (Array.mk []))) fun s5 =>
    T.asI IntKind.i64 (List.headD (List.tail l3) (Value.tuple (Array.mk []))) fun i6 =>
    T.blk 0
    (fun l7 j8 =>
    T.asI IntKind.i64 (List.headD l7 (Value.tuple (Array.mk []))) fun i9 =>
    T.blk 0
    (fun l10 j11 =>
    T.asI IntKind.u64 (List.headD l10 (Value.tuple (Array.mk []))) fun i12 =>
    T.req (0 ≤ IntKind.wrap IntKind.u64 i9)
    (T.run (convert 9 32 (Value.string s5)) fun v13 =>
    T.asS v13 fun o14 n15 n16 =>
    T.loop 0 [Value.bool false, Value.int IntKind.u64 0, Value.int IntKind.i64 0] fun l17 j18 =>
    T.asB (List.headD l17 (Value.tuple (Array.mk []))) fun b19 =>
    T.asI IntKind.u64 (List.headD (List.tail l17) (Value.tuple (Array.mk []))) fun i20 =>
    T.asI IntKind.i64 (List.headD (List.tail (List.tail l17)) (Value.tuple (Array.mk []))) fun i21 =>
    T.ite (decide (i21 < (↑n15 : Int)))
    (T.req (0 ≤ i21 ∧ i21 < (↑n15 : Int))
    (T.sm o14 fun n22 n23 =>
    T.ldI IntKind.u8 n22 (n23 + Int.toNat i21 * 1) fun i24 =>
    T.blk 1
    (fun l25 j26 =>
    T.asB (List.headD l25 (Value.tuple (Array.mk []))) fun b27 =>
    T.asI IntKind.u8 (List.headD (List.tail l25) (Value.tuple (Array.mk []))) fun i28 =>
    T.ite (decide (i28 ≥ IntKind.wrap IntKind.u8 i6))
    (T.ret (Value.tuple (Array.mk [Value.int IntKind.u64 0, Value.iface 99 (Value.int IntKind.i64 2)])))
    (T.ite (decide (i20 ≥ i12))
    (T.ret
    (Value.tuple
    (Array.mk
    [Value.int IntKind.u64
    (IntKind.wrap IntKind.u64 (shlI IntKind.u64 1 (IntKind.wrap IntKind.u64 i9) - 1)),
    Value.iface 99 (Value.int IntKind.i64 1)])))
    (T.ite
    (decide
    (IntKind.wrap IntKind.u64
    (IntKind.wrap IntKind.u64 (i20 * IntKind.wrap IntKind.u64 i6) + IntKind.wrap IntKind.u64 i28) <
    IntKind.wrap IntKind.u64 (i20 * IntKind.wrap IntKind.u64 i6)))
    (T.ret
    (Value.tuple
    (Array.mk
    [Value.int IntKind.u64
    (IntKind.wrap IntKind.u64 (shlI IntKind.u64 1 (IntKind.wrap IntKind.u64 i9) - 1)),
    Value.iface 99 (Value.int IntKind.i64 1)])))
    (T.ite
    (decide
    (IntKind.wrap IntKind.u64
    (IntKind.wrap IntKind.u64 (i20 * IntKind.wrap IntKind.u64 i6) +
    IntKind.wrap IntKind.u64 i28) >
    IntKind.wrap IntKind.u64 (shlI IntKind.u64 1 (IntKind.wrap IntKind.u64 i9) - 1)))
    (T.ret
    (Value.tuple
    (Array.mk
    [Value.int IntKind.u64
    (IntKind.wrap IntKind.u64 (shlI IntKind.u64 1 (IntKind.wrap IntKind.u64 i9) - 1)),
    Value.iface 99 (Value.int IntKind.i64 1)])))
    (T.next 0
    [Value.bool b27,
    Value.int IntKind.u64
    (IntKind.wrap IntKind.u64
    (IntKind.wrap IntKind.u64 (i20 * IntKind.wrap IntKind.u64 i6) +
    IntKind.wrap IntKind.u64 i28)),
    Value.int IntKind.i64 (IntKind.wrap IntKind.i64 (i21 + 1))]
    ([Value.int IntKind.i64 i6, Value.bool (i1 == 0), Value.string s0, Value.int IntKind.u64 i12,
    Value.int IntKind.u64
    (IntKind.wrap IntKind.u64 (shlI IntKind.u64 1 (IntKind.wrap IntKind.u64 i9) - 1)),
    Value.slice o14 n15 n16, Value.int IntKind.i64 (↑n15 : Int)] =
    [Value.int IntKind.i64 i6, Value.bool (i1 == 0), Value.string s0, Value.int IntKind.u64 i12,
    Value.int IntKind.u64
    (IntKind.wrap IntKind.u64 (shlI IntKind.u64 1 (IntKind.wrap IntKind.u64 i9) - 1)),
    Value.slice o14 n15 n16, Value.int IntKind.i64 (↑n15 : Int)] ∧ ([] : List Deferred) = []))))))
    (T.blk 2
    (fun l29 j30 =>
    T.asB (List.headD l29 (Value.tuple (Array.mk []))) fun b31 =>
    T.ite b31
    (T.next 0
    [Value.bool true, Value.int IntKind.u64 i20, Value.int IntKind.i64 (IntKind.wrap IntKind.i64 (i21 + 1))]
    ([Value.int IntKind.i64 i6, Value.bool (i1 == 0), Value.string s0, Value.int IntKind.u64 i12,
    Value.int IntKind.u64
    (IntKind.wrap IntKind.u64 (shlI IntKind.u64 1 (IntKind.wrap IntKind.u64 i9) - 1)),
    Value.slice o14 n15 n16, Value.int IntKind.i64 (↑n15 : Int)] =
    [Value.int IntKind.i64 i6, Value.bool (i1 == 0), Value.string s0, Value.int IntKind.u64 i12,
    Value.int IntKind.u64
    (IntKind.wrap IntKind.u64 (shlI IntKind.u64 1 (IntKind.wrap IntKind.u64 i9) - 1)),
    Value.slice o14 n15 n16, Value.int IntKind.i64 (↑n15 : Int)] ∧ ([] : List Deferred) = []))
    (T.blk 2
    (fun l32 j33 =>
    T.asB (List.headD l32 (Value.tuple (Array.mk []))) fun b34 =>
    T.ite b34
    (T.next 1 [Value.bool b19, Value.int IntKind.u8 (IntKind.wrap IntKind.u8 (i24 - 48))]
    ([Value.int IntKind.i64 i6, Value.bool (i1 == 0), Value.string s0, Value.int IntKind.u64 i12,
    Value.int IntKind.u64
    (IntKind.wrap IntKind.u64 (shlI IntKind.u64 1 (IntKind.wrap IntKind.u64 i9) - 1)),
    Value.int IntKind.u64 i20, Value.slice o14 n15 n16, Value.int IntKind.i64 (↑n15 : Int),
    Value.int IntKind.i64 i21] =
    [Value.int IntKind.i64 i6, Value.bool (i1 == 0), Value.string s0, Value.int IntKind.u64 i12,
    Value.int IntKind.u64
    (IntKind.wrap IntKind.u64 (shlI IntKind.u64 1 (IntKind.wrap IntKind.u64 i9) - 1)),
    Value.int IntKind.u64 i20, Value.slice o14 n15 n16, Value.int IntKind.i64 (↑n15 : Int),
    Value.int IntKind.i64 i21] ∧ ([] : List Deferred) = []))
    (T.blk 2
    (fun l35 j36 =>
    T.asB (List.headD l35 (Value.tuple (Array.mk []))) fun b37 =>
    T.ite b37
    (T.call 55 [Value.int IntKind.u8 i24] fun v38 =>
    T.asI IntKind.u8 v38 fun i39 =>
    T.next 1
    [Value.bool b19,
    Value.int IntKind.u8
    (IntKind.wrap IntKind.u8 (IntKind.wrap IntKind.u8 (i39 - 97) + 10))]
    ([Value.int IntKind.i64 i6, Value.bool (i1 == 0), Value.string s0,
    Value.int IntKind.u64 i12,
    Value.int IntKind.u64
    (IntKind.wrap IntKind.u64
    (shlI IntKind.u64 1 (IntKind.wrap IntKind.u64 i9) - 1)),
    Value.int IntKind.u64 i20, Value.slice o14 n15 n16,
    Value.int IntKind.i64 (↑n15 : Int), Value.int IntKind.i64 i21] =
    [Value.int IntKind.i64 i6, Value.bool (i1 == 0), Value.string s0,
    Value.int IntKind.u64 i12,
    Value.int IntKind.u64
    (IntKind.wrap IntKind.u64
    (shlI IntKind.u64 1 (IntKind.wrap IntKind.u64 i9) - 1)),
    Value.int IntKind.u64 i20, Value.slice o14 n15 n16,
    Value.int IntKind.i64 (↑n15 : Int), Value.int IntKind.i64 i21] ∧ ([] : List Deferred) = []))
    (T.ret
    (Value.tuple
    (Array.mk [Value.int IntKind.u64 0, Value.iface 99 (Value.int IntKind.i64 2)]))))
    (T.call 55 [Value.int IntKind.u8 i24] fun v40 =>
    T.asI IntKind.u8 v40 fun i41 =>
    T.ite (decide (97 ≤ i41))
    (T.call 55 [Value.int IntKind.u8 i24] fun v42 =>
    T.asI IntKind.u8 v42 fun i43 =>
    T.next 2 [Value.bool (decide (i43 ≤ 122))]
    ([Value.int IntKind.i64 i6, Value.bool (i1 == 0), Value.string s0,
    Value.int IntKind.u64 i12,
    Value.int IntKind.u64
    (IntKind.wrap IntKind.u64
    (shlI IntKind.u64 1 (IntKind.wrap IntKind.u64 i9) - 1)),
    Value.bool b19, Value.int IntKind.u64 i20, Value.int IntKind.u8 i24,
    Value.slice o14 n15 n16, Value.int IntKind.i64 (↑n15 : Int),
    Value.int IntKind.i64 i21] =
    [Value.int IntKind.i64 i6, Value.bool (i1 == 0), Value.string s0,
    Value.int IntKind.u64 i12,
    Value.int IntKind.u64
    (IntKind.wrap IntKind.u64
    (shlI IntKind.u64 1 (IntKind.wrap IntKind.u64 i9) - 1)),
    Value.bool b19, Value.int IntKind.u64 i20, Value.int IntKind.u8 i24,
    Value.slice o14 n15 n16, Value.int IntKind.i64 (↑n15 : Int),
    Value.int IntKind.i64 i21] ∧ ([] : List Deferred) = []))
    (T.next 2 [Value.bool false]
    ([Value.int IntKind.i64 i6, Value.bool (i1 == 0), Value.string s0,
    Value.int IntKind.u64 i12,
    Value.int IntKind.u64
    (IntKind.wrap IntKind.u64
    (shlI IntKind.u64 1 (IntKind.wrap IntKind.u64 i9) - 1)),
    Value.bool b19, Value.int IntKind.u64 i20, Value.int IntKind.u8 i24,
    Value.slice o14 n15 n16, Value.int IntKind.i64 (↑n15 : Int),
    Value.int IntKind.i64 i21] =
    [Value.int IntKind.i64 i6, Value.bool (i1 == 0), Value.string s0,
    Value.int IntKind.u64 i12,
    Value.int IntKind.u64
    (IntKind.wrap IntKind.u64
    (shlI IntKind.u64 1 (IntKind.wrap IntKind.u64 i9) - 1)),
    Value.bool b19, Value.int IntKind.u64 i20, Value.int IntKind.u8 i24,
    Value.slice o14 n15 n16, Value.int IntKind.i64 (↑n15 : Int),
    Value.int IntKind.i64 i21] ∧ ([] : List Deferred) = [])))))
    (T.ite (decide (48 ≤ i24))
    (T.next 2 [Value.bool (decide (i24 ≤ 57))]
    ([Value.int IntKind.i64 i6, Value.bool (i1 == 0), Value.string s0, Value.int IntKind.u64 i12,
    Value.int IntKind.u64
    (IntKind.wrap IntKind.u64 (shlI IntKind.u64 1 (IntKind.wrap IntKind.u64 i9) - 1)),
    Value.bool b19, Value.int IntKind.u64 i20, Value.int IntKind.u8 i24, Value.slice o14 n15 n16,
    Value.int IntKind.i64 (↑n15 : Int), Value.int IntKind.i64 i21] =
    [Value.int IntKind.i64 i6, Value.bool (i1 == 0), Value.string s0, Value.int IntKind.u64 i12,
    Value.int IntKind.u64
    (IntKind.wrap IntKind.u64 (shlI IntKind.u64 1 (IntKind.wrap IntKind.u64 i9) - 1)),
    Value.bool b19, Value.int IntKind.u64 i20, Value.int IntKind.u8 i24, Value.slice o14 n15 n16,
    Value.int IntKind.i64 (↑n15 : Int), Value.int IntKind.i64 i21] ∧ ([] : List Deferred) = []))
    (T.next 2 [Value.bool false]
    ([Value.int IntKind.i64 i6, Value.bool (i1 == 0), Value.string s0, Value.int IntKind.u64 i12,
    Value.int IntKind.u64
    (IntKind.wrap IntKind.u64 (shlI IntKind.u64 1 (IntKind.wrap IntKind.u64 i9) - 1)),
    Value.bool b19, Value.int IntKind.u64 i20, Value.int IntKind.u8 i24, Value.slice o14 n15 n16,
    Value.int IntKind.i64 (↑n15 : Int), Value.int IntKind.i64 i21] =
    [Value.int IntKind.i64 i6, Value.bool (i1 == 0), Value.string s0, Value.int IntKind.u64 i12,
    Value.int IntKind.u64
    (IntKind.wrap IntKind.u64 (shlI IntKind.u64 1 (IntKind.wrap IntKind.u64 i9) - 1)),
    Value.bool b19, Value.int IntKind.u64 i20, Value.int IntKind.u8 i24, Value.slice o14 n15 n16,
    Value.int IntKind.i64 (↑n15 : Int), Value.int IntKind.i64 i21] ∧ ([] : List Deferred) = [])))))
    (T.ite (i24 == 95)
    (T.next 2 [Value.bool (i1 == 0)]
    ([Value.int IntKind.i64 i6, Value.bool (i1 == 0), Value.string s0, Value.int IntKind.u64 i12,
    Value.int IntKind.u64
    (IntKind.wrap IntKind.u64 (shlI IntKind.u64 1 (IntKind.wrap IntKind.u64 i9) - 1)),
    Value.bool b19, Value.int IntKind.u64 i20, Value.int IntKind.u8 i24, Value.slice o14 n15 n16,
    Value.int IntKind.i64 (↑n15 : Int), Value.int IntKind.i64 i21] =
    [Value.int IntKind.i64 i6, Value.bool (i1 == 0), Value.string s0, Value.int IntKind.u64 i12,
    Value.int IntKind.u64
    (IntKind.wrap IntKind.u64 (shlI IntKind.u64 1 (IntKind.wrap IntKind.u64 i9) - 1)),
    Value.bool b19, Value.int IntKind.u64 i20, Value.int IntKind.u8 i24, Value.slice o14 n15 n16,
    Value.int IntKind.i64 (↑n15 : Int), Value.int IntKind.i64 i21] ∧ ([] : List Deferred) = []))
    (T.next 2 [Value.bool false]
    ([Value.int IntKind.i64 i6, Value.bool (i1 == 0), Value.string s0, Value.int IntKind.u64 i12,
    Value.int IntKind.u64
    (IntKind.wrap IntKind.u64 (shlI IntKind.u64 1 (IntKind.wrap IntKind.u64 i9) - 1)),
    Value.bool b19, Value.int IntKind.u64 i20, Value.int IntKind.u8 i24, Value.slice o14 n15 n16,
    Value.int IntKind.i64 (↑n15 : Int), Value.int IntKind.i64 i21] =
    [Value.int IntKind.i64 i6, Value.bool (i1 == 0), Value.string s0, Value.int IntKind.u64 i12,
    Value.int IntKind.u64
    (IntKind.wrap IntKind.u64 (shlI IntKind.u64 1 (IntKind.wrap IntKind.u64 i9) - 1)),
    Value.bool b19, Value.int IntKind.u64 i20, Value.int IntKind.u8 i24, Value.slice o14 n15 n16,
    Value.int IntKind.i64 (↑n15 : Int), Value.int IntKind.i64 i21] ∧ ([] : List Deferred) = []))))))
    (T.ite b19
    (T.call 56 [Value.string s0] fun v44 =>
    T.asB v44 fun b45 =>
    T.ite (!b45) (T.ret (Value.tuple (Array.mk [Value.int IntKind.u64 0, Value.iface 99 (Value.int IntKind.i64 2)])))
    (T.ret (Value.tuple (Array.mk [Value.int IntKind.u64 i20, Value.nilIface]))))
    (T.ret (Value.tuple (Array.mk [Value.int IntKind.u64 i20, Value.nilIface]))))))
    (T.ite (i6 == 10)
    (T.next 0 [Value.int IntKind.u64 1844674407370955162]
    ([Value.string s5, Value.int IntKind.i64 i6, Value.int IntKind.i64 i9, Value.bool (i1 == 0), Value.string s0] =
    [Value.string s5, Value.int IntKind.i64 i6, Value.int IntKind.i64 i9, Value.bool (i1 == 0), Value.string s0] ∧ ([] : List Deferred) = []))
    (T.ite (i6 == 16)
    (T.next 0 [Value.int IntKind.u64 1152921504606846976]
    ([Value.string s5, Value.int IntKind.i64 i6, Value.int IntKind.i64 i9, Value.bool (i1 == 0), Value.string s0] =
    [Value.string s5, Value.int IntKind.i64 i6, Value.int IntKind.i64 i9, Value.bool (i1 == 0), Value.string s0] ∧ ([] : List Deferred) = []))
    (T.req (IntKind.wrap IntKind.u64 i6 ≠ 0)
    (T.next 0
    [Value.int IntKind.u64
    (IntKind.wrap IntKind.u64 (IntKind.wrap IntKind.u64 (Int.tdiv 18446744073709551615 (IntKind.wrap IntKind.u64 i6)) + 1))]
    ([Value.string s5, Value.int IntKind.i64 i6, Value.int IntKind.i64 i9, Value.bool (i1 == 0), Value.string s0] =
    [Value.string s5, Value.int IntKind.i64 i6, Value.int IntKind.i64 i9, Value.bool (i1 == 0), Value.string s0] ∧ ([] : List Deferred) = []))))))
    (T.ite (i2 == 0)
    (T.next 0 [Value.int IntKind.i64 64]
    ([Value.string s5, Value.int IntKind.i64 i6, Value.bool (i1 == 0), Value.string s0] =
    [Value.string s5, Value.int IntKind.i64 i6, Value.bool (i1 == 0), Value.string s0] ∧ ([] : List Deferred) = []))
    (T.ite (decide (i2 < 0)) (T.ret (Value.tuple (Array.mk [Value.int IntKind.u64 0, Value.iface 99 (Value.int IntKind.i64 4)])))
    (T.ite (decide (i2 > 64)) (T.ret (Value.tuple (Array.mk [Value.int IntKind.u64 0, Value.iface 99 (Value.int IntKind.i64 4)])))
    (T.next 0 [Value.int IntKind.i64 i2]
    ([Value.string s5, Value.int IntKind.i64 i6, Value.bool (i1 == 0), Value.string s0] =
    [Value.string s5, Value.int IntKind.i64 i6, Value.bool (i1 == 0), Value.string s0] ∧ ([] : List Deferred) = []))))))
    (T.blk 1
    (fun l46 j47 =>
    T.asB (List.headD l46 (Value.tuple (Array.mk []))) fun b48 =>
    T.ite b48
    (T.next 0 [Value.string s0, Value.int IntKind.i64 i1]
    ([Value.int IntKind.i64 i2, Value.bool (i1 == 0), Value.string s0] = [Value.int IntKind.i64 i2, Value.bool (i1 == 0), Value.string s0] ∧ ([] : List Deferred) = []))
    (T.ite (i1 == 0)
    (T.req ((0 : Int) ≤ 0 ∧ (0 : Int) < (↑(ByteArray.size s0) : Int))
    (T.ite ((↑(UInt8.toNat (Array.getD (ByteArray.data s0) 0 (OfNat.ofNat 0))) : Int) == 48)
    (T.blk 1
    (fun l49 j50 =>
    T.asB (List.headD l49 (Value.tuple (Array.mk []))) fun b51 =>
    T.ite b51
    (T.req ((0 : Int) ≤ 2 ∧ (2 : Int) ≤ (↑(ByteArray.size s0) : Int))
    (T.next 0 [Value.string (ByteArray.extract s0 2 (ByteArray.size s0)), Value.int IntKind.i64 2]
    ([Value.int IntKind.i64 i2, Value.bool (i1 == 0), Value.string s0] =
    [Value.int IntKind.i64 i2, Value.bool (i1 == 0), Value.string s0] ∧ ([] : List Deferred) = [])))
    (T.blk 1
    (fun l52 j53 =>
    T.asB (List.headD l52 (Value.tuple (Array.mk []))) fun b54 =>
    T.ite b54
    (T.req ((0 : Int) ≤ 2 ∧ (2 : Int) ≤ (↑(ByteArray.size s0) : Int))
    (T.next 0 [Value.string (ByteArray.extract s0 2 (ByteArray.size s0)), Value.int IntKind.i64 8]
    ([Value.int IntKind.i64 i2, Value.bool (i1 == 0), Value.string s0] =
    [Value.int IntKind.i64 i2, Value.bool (i1 == 0), Value.string s0] ∧ ([] : List Deferred) = [])))
    (T.blk 1
    (fun l55 j56 =>
    T.asB (List.headD l55 (Value.tuple (Array.mk []))) fun b57 =>
    T.ite b57
    (T.req ((0 : Int) ≤ 2 ∧ (2 : Int) ≤ (↑(ByteArray.size s0) : Int))
    (T.next 0 [Value.string (ByteArray.extract s0 2 (ByteArray.size s0)), Value.int IntKind.i64 16]
    ([Value.int IntKind.i64 i2, Value.bool (i1 == 0), Value.string s0] =
    [Value.int IntKind.i64 i2, Value.bool (i1 == 0), Value.string s0] ∧ ([] : List Deferred) = [])))
    (T.req ((0 : Int) ≤ 1 ∧ (1 : Int) ≤ (↑(ByteArray.size s0) : Int))
    (T.next 0 [Value.string (ByteArray.extract s0 1 (ByteArray.size s0)), Value.int IntKind.i64 8]
    ([Value.int IntKind.i64 i2, Value.bool (i1 == 0), Value.string s0] =
    [Value.int IntKind.i64 i2, Value.bool (i1 == 0), Value.string s0] ∧ ([] : List Deferred) = []))))
    (T.ite (decide ((↑(ByteArray.size s0) : Int) ≥ 3))
    (T.req ((0 : Int) ≤ 1 ∧ (1 : Int) < (↑(ByteArray.size s0) : Int))
    (T.call 55 [Value.int IntKind.u8 (↑(UInt8.toNat (Array.getD (ByteArray.data s0) 1 (OfNat.ofNat 0))) : Int)] fun v58 =>
    T.asI IntKind.u8 v58 fun i59 =>
    T.next 1 [Value.bool (i59 == 120)]
    ([Value.string s0, Value.int IntKind.i64 i2, Value.bool (i1 == 0), Value.string s0] =
    [Value.string s0, Value.int IntKind.i64 i2, Value.bool (i1 == 0), Value.string s0] ∧ ([] : List Deferred) = [])))
    (T.next 1 [Value.bool false]
    ([Value.string s0, Value.int IntKind.i64 i2, Value.bool (i1 == 0), Value.string s0] =
    [Value.string s0, Value.int IntKind.i64 i2, Value.bool (i1 == 0), Value.string s0] ∧ ([] : List Deferred) = [])))))
    (T.ite (decide ((↑(ByteArray.size s0) : Int) ≥ 3))
    (T.req ((0 : Int) ≤ 1 ∧ (1 : Int) < (↑(ByteArray.size s0) : Int))
    (T.call 55 [Value.int IntKind.u8 (↑(UInt8.toNat (Array.getD (ByteArray.data s0) 1 (OfNat.ofNat 0))) : Int)] fun v60 =>
    T.asI IntKind.u8 v60 fun i61 =>
    T.next 1 [Value.bool (i61 == 111)]
    ([Value.string s0, Value.int IntKind.i64 i2, Value.bool (i1 == 0), Value.string s0] =
    [Value.string s0, Value.int IntKind.i64 i2, Value.bool (i1 == 0), Value.string s0] ∧ ([] : List Deferred) = [])))
    (T.next 1 [Value.bool false]
    ([Value.string s0, Value.int IntKind.i64 i2, Value.bool (i1 == 0), Value.string s0] =
    [Value.string s0, Value.int IntKind.i64 i2, Value.bool (i1 == 0), Value.string s0] ∧ ([] : List Deferred) = [])))))
    (T.ite (decide ((↑(ByteArray.size s0) : Int) ≥ 3))
    (T.req ((0 : Int) ≤ 1 ∧ (1 : Int) < (↑(ByteArray.size s0) : Int))
    (T.call 55 [Value.int IntKind.u8 (↑(UInt8.toNat (Array.getD (ByteArray.data s0) 1 (OfNat.ofNat 0))) : Int)] fun v62 =>
    T.asI IntKind.u8 v62 fun i63 =>
    T.next 1 [Value.bool (i63 == 98)]
    ([Value.string s0, Value.int IntKind.i64 i2, Value.bool (i1 == 0), Value.string s0] =
    [Value.string s0, Value.int IntKind.i64 i2, Value.bool (i1 == 0), Value.string s0] ∧ ([] : List Deferred) = [])))
    (T.next 1 [Value.bool false]
    ([Value.string s0, Value.int IntKind.i64 i2, Value.bool (i1 == 0), Value.string s0] =
    [Value.string s0, Value.int IntKind.i64 i2, Value.bool (i1 == 0), Value.string s0] ∧ ([] : List Deferred) = []))))
    (T.next 0 [Value.string s0, Value.int IntKind.i64 10]
    ([Value.int IntKind.i64 i2, Value.bool (i1 == 0), Value.string s0] = [Value.int IntKind.i64 i2, Value.bool (i1 == 0), Value.string s0] ∧ ([] : List Deferred) = []))))
    (T.ret (Value.tuple (Array.mk [Value.int IntKind.u64 0, Value.iface 99 (Value.int IntKind.i64 3)])))))
    (T.ite (decide (2 ≤ i1))
    (T.next 1 [Value.bool (decide (i1 ≤ 36))]
    ([Value.string s0, Value.int IntKind.i64 i1, Value.int IntKind.i64 i2, Value.bool (i1 == 0), Value.string s0] =
    [Value.string s0, Value.int IntKind.i64 i1, Value.int IntKind.i64 i2, Value.bool (i1 == 0), Value.string s0] ∧ ([] : List Deferred) = []))
    (T.next 1 [Value.bool false]
    ([Value.string s0, Value.int IntKind.i64 i1, Value.int IntKind.i64 i2, Value.bool (i1 == 0), Value.string s0] =
    [Value.string s0, Value.int IntKind.i64 i1, Value.int IntKind.i64 i2, Value.bool (i1 == 0), Value.string s0] ∧ ([] : List Deferred) = [])))))
theorem e46 (s0 : ByteArray) (i1 : Int) (i2 : Int) : treeOf Tryd.prog Tryd.f46 (codeOf Tryd.f46) (.s .n (.s .n (.s .n (.s .n (.c [(0, .str), (1, .int .i64)] [2, 8, 9] (.u (.c [(25, .bool)] [0, 1, 2, 8, 9] .n (.s .n (.s .n (.s (.s .n (.s .n (.s (.u (.c [(40, .bool)] [0, 2, 8, 9] .n (.s .n (.c [(52, .bool)] [0, 2, 8, 9] .n (.s .n (.c [(64, .bool)] [0, 2, 8, 9] .n .n)))))) .n))) .n))))) (.c [(2, .int .i64)] [0, 1, 8, 9] .n (.s .n (.c [(10, .int .u64)] [0, 1, 2, 8, 9] .n (.s .n (.s .n (.s .n (.s (.s .n (.u (.l [(12, .bool), (13, .int .u64), (101, .int .i64)] [1, 8, 9, 10, 11, 99, 100] (.s .n (.s .n (.s (.u (.s .n (.s .n (.c [(12, .bool), (16, .int .u8)] [1, 8, 9, 10, 11, 13, 99, 100, 101] (.u (.c [(106, .bool)] [1, 8, 9, 10, 11, 12, 13, 15, 99, 100, 101] .n (.s .n (.c [(112, .bool)] [1, 8, 9, 10, 11, 12, 13, 15, 99, 100, 101] .n (.s .n (.c [(121, .bool)] [1, 8, 9, 10, 11, 12, 13, 15, 99, 100, 101] .n .n)))))) .n)))) .n)))))) .n)))))))))))) [.v (.string s0), .v (.int .i64 i1), .v (.int .i64 i2)] = (t46 s0 i1 i2) := by kernel_rfl
theorem c46 (s0 : ByteArray) (i1 : Int) (i2 : Int) {w : World} {R : Ending → World → Prop} (h : (t46 s0 i1 i2).sem Tryd.prog R ρ0 w) : Calls Tryd.prog 46 #[.string s0, .int .i64 i1, .int .i64 i2] w R :=
  calls_of mixed Tryd.func46 rfl rfl (e46 s0 i1 i2) h
def t55 (i0 : Int) : T :=
  T.ret (Value.int IntKind.u8 (bitsI BinOp.or IntKind.u8 i0 32))
theorem e55 (i0 : Int) : treeOf Tryd.prog Tryd.f55 (codeOf Tryd.f55) .n [.v (.int .u8 i0)] = (t55 i0) := by kernel_rfl
theorem c55 (i0 : Int) {w : World} {R : Ending → World → Prop} (h : (t55 i0).sem Tryd.prog R ρ0 w) : Calls Tryd.prog 55 #[.int .u8 i0] w R :=
  calls_of mixed Tryd.func55 rfl rfl (e55 i0) h
def t5 (i0 : Int) (i1 : Int) (i2 : Int) (i3 : Int) (i4 : Int) (o5 : Option Addr) (n6 n7 : Nat) (o8 : Option Addr) (n9 n10 : Nat) (o11 : Option Addr) (n12 n13 : Nat) (o14 : Option Addr) (n15 n16 : Nat) (o17 : Option Addr) (n18 n19 : Nat) (i20 : Int) (i21 : Int) (i22 : Int) (i23 : Int) (i24 : Int) (i25 : Int) (o26 : Option Addr) (n27 n28 : Nat) (s29 : ByteArray) : T :=
  T.new
  (Obj.cells
    (Array.mk
    [Value.int IntKind.i64 i0, Value.int IntKind.i64 i1, Value.int IntKind.i64 i2, Value.int IntKind.i64 i3, Value.int IntKind.i64 i4, Value.slice o5 n6 n7,
    Value.slice o8 n9 n10, Value.slice o11 n12 n13, Value.slice o14 n15 n16, Value.slice o17 n18 n19, Value.int IntKind.i64 i20, Value.int IntKind.i64 i21,
    Value.int IntKind.i64 i22, Value.int IntKind.u8 i23, Value.int IntKind.i64 i24, Value.int IntKind.i64 i25])
    40)
  fun n30 =>
  T.ldI IntKind.i64 n30 0 fun i31 =>
    T.ldI IntKind.i64 n30 1 fun i32 =>
    T.ldI IntKind.i64 n30 2 fun i33 =>
    T.ldI IntKind.i64 n30 3 fun i34 =>
    T.ldI IntKind.i64 n30 4 fun i35 =>
    T.ldS n30 5 fun o36 n37 n38 =>
    T.ldS n30 6 fun o39 n40 n41 =>
    T.ldS n30 7 fun o42 n43 n44 =>
    T.ldS n30 8 fun o45 n46 n47 =>
    T.ldS n30 9 fun o48 n49 n50 =>
    T.ldI IntKind.i64 n30 10 fun i51 =>
    T.ldI IntKind.i64 n30 11 fun i52 =>
    T.ldI IntKind.i64 n30 12 fun i53 =>
    T.ldI IntKind.u8 n30 13 fun i54 =>
    T.ldI IntKind.i64 n30 14 fun i55 =>
    T.ldI IntKind.i64 n30 15 fun i56 =>
    T.call 9
    [Value.agg
    (Array.mk
    [Value.int IntKind.i64 i31, Value.int IntKind.i64 i32, Value.int IntKind.i64 i33, Value.int IntKind.i64 i34,
    Value.int IntKind.i64 i35, Value.slice o36 n37 n38, Value.slice o39 n40 n41, Value.slice o42 n43 n44,
    Value.slice o45 n46 n47, Value.slice o48 n49 n50, Value.int IntKind.i64 i51, Value.int IntKind.i64 i52,
    Value.int IntKind.i64 i53, Value.int IntKind.u8 i54, Value.int IntKind.i64 i55, Value.int IntKind.i64 i56])]
    fun v57 =>
    T.asU v57 fun l58 =>
    T.req (List.length l58 = 2)
    (T.asT (List.headD l58 (Value.tuple (Array.mk []))) fun s59 =>
    T.asI IntKind.i64 (List.headD (List.tail l58) (Value.tuple (Array.mk []))) fun i60 =>
    T.ldI IntKind.i64 n30 0 fun i61 =>
    T.ldI IntKind.i64 n30 1 fun i62 =>
    T.ldI IntKind.i64 n30 2 fun i63 =>
    T.ldI IntKind.i64 n30 3 fun i64 =>
    T.ldI IntKind.i64 n30 4 fun i65 =>
    T.ldS n30 5 fun o66 n67 n68 =>
    T.ldS n30 6 fun o69 n70 n71 =>
    T.ldS n30 7 fun o72 n73 n74 =>
    T.ldS n30 8 fun o75 n76 n77 =>
    T.ldS n30 9 fun o78 n79 n80 =>
    T.ldI IntKind.i64 n30 10 fun i81 =>
    T.ldI IntKind.i64 n30 11 fun i82 =>
    T.ldI IntKind.i64 n30 12 fun i83 =>
    T.ldI IntKind.u8 n30 13 fun i84 =>
    T.ldI IntKind.i64 n30 14 fun i85 =>
    T.ldI IntKind.i64 n30 15 fun i86 =>
    T.call 10
    [Value.agg
    (Array.mk
    [Value.int IntKind.i64 i61, Value.int IntKind.i64 i62,
    Value.int IntKind.i64 i63, Value.int IntKind.i64 i64,
    Value.int IntKind.i64 i65, Value.slice o66 n67 n68,
    Value.slice o69 n70 n71, Value.slice o72 n73 n74, Value.slice o75 n76 n77,
    Value.slice o78 n79 n80, Value.int IntKind.i64 i81,
    Value.int IntKind.i64 i82, Value.int IntKind.i64 i83,
    Value.int IntKind.u8 i84, Value.int IntKind.i64 i85,
    Value.int IntKind.i64 i86])]
    fun v87 =>
    T.asU v87 fun l88 =>
    T.req (List.length l88 = 2)
    (T.asT (List.headD l88 (Value.tuple (Array.mk []))) fun s89 =>
    T.asI IntKind.i64 (List.headD (List.tail l88) (Value.tuple (Array.mk [])))
    fun i90 =>
    T.ldI IntKind.i64 n30 3 fun i91 =>
    T.ldI IntKind.i64 n30 4 fun i92 =>
    T.ldS n30 5 fun o93 n94 n95 =>
    T.ldS n30 6 fun o96 n97 n98 =>
    T.ldS n30 7 fun o99 n100 n101 =>
    T.ldS n30 8 fun o102 n103 n104 =>
    T.call 12
    [Value.agg
    (Array.mk
    [Value.int IntKind.i64 i91, Value.int IntKind.i64 i92,
    Value.slice o93 n94 n95, Value.slice o96 n97 n98,
    Value.slice o99 n100 n101,
    Value.slice o102 n103 n104])]
    fun v105 =>
    T.asU v105 fun l106 =>
    T.req (List.length l106 = 2)
    (T.asT (List.headD l106 (Value.tuple (Array.mk [])))
    fun s107 =>
    T.asI IntKind.i64
    (List.headD (List.tail l106)
    (Value.tuple (Array.mk [])))
    fun i108 =>
    T.ldI IntKind.i64 n30 3 fun i109 =>
    T.ldI IntKind.i64 n30 4 fun i110 =>
    T.ldS n30 5 fun o111 n112 n113 =>
    T.ldS n30 6 fun o114 n115 n116 =>
    T.ldS n30 7 fun o117 n118 n119 =>
    T.ldS n30 8 fun o120 n121 n122 =>
    T.call 13
    [Value.agg
    (Array.mk
    [Value.int IntKind.i64 i109,
    Value.int IntKind.i64 i110,
    Value.slice o111 n112 n113,
    Value.slice o114 n115 n116,
    Value.slice o117 n118 n119,
    Value.slice o120 n121 n122])]
    fun v123 =>
    T.asU v123 fun l124 =>
    T.req (List.length l124 = 2)
    (T.asT
    (List.headD l124
    (Value.tuple (Array.mk [])))
    fun s125 =>
    T.asI IntKind.i64
    (List.headD (List.tail l124)
    (Value.tuple (Array.mk [])))
    fun i126 =>
    T.call 14 [Value.string s29]
    fun v127 =>
    T.asU v127 fun l128 =>
    T.req
    (List.length l128 = 2)
    (T.asS
    (List.headD l128
    (Value.tuple
    (Array.mk [])))
    fun o129 n130 n131 =>
    T.asB
    (List.headD
    (List.tail l128)
    (Value.tuple
    (Array.mk [])))
    fun b132 =>
    T.call 15
    [Value.string s29]
    fun v133 =>
    T.asU v133
    fun l134 =>
    T.req
    (List.length
    l134 =
    2)
    (T.asS
    (List.headD
    l134
    (Value.tuple
    (Array.mk
    [])))
    fun o135
    n136
    n137 =>
    T.asB
    (List.headD
    (List.tail
    l134)
    (Value.tuple
    (Array.mk
    [])))
    fun
    b138 =>
    T.drew
    (T.call
    8 []
    fun
    v139 =>
    T.asB
    v139
    fun
    b140 =>
    T.chk
    []
    (T.ite
    b140
    (T.ite
    (ByteArray.toList
    s59 ==
    ByteArray.toList
    s89)
    (T.ite
    (i60 ==
    i90)
    (T.ite
    (ByteArray.toList
    s107 ==
    ByteArray.toList
    s125)
    (T.ite
    (i108 ==
    i126)
    (T.ldS
    n30
    9
    fun
    o141
    n142
    n143 =>
    T.ldS
    n30
    9
    fun
    o144
    n145
    n146 =>
    T.call
    16
    [Value.slice
    o141
    n142
    n143]
    fun
    v147 =>
    T.asT
    v147
    fun
    s148 =>
    T.chk
    [(Addr.mk
    n30
    9
    none,
    Value.slice
    o144
    n145
    n146)]
    (T.call
    17
    [Value.slice
    o144
    n145
    n146]
    fun
    v149 =>
    T.asT
    v149
    fun
    s150 =>
    T.chk
    []
    (T.ite
    (ByteArray.toList
    s148 ==
    ByteArray.toList
    s150)
    (T.call
    18
    [Value.slice
    o26
    n27
    n28]
    fun
    v151 =>
    T.asT
    v151
    fun
    s152 =>
    T.chk
    []
    (T.call
    19
    [Value.slice
    o26
    n27
    n28]
    fun
    v153 =>
    T.asT
    v153
    fun
    s154 =>
    T.chk
    []
    (T.ite
    (ByteArray.toList
    s152 ==
    ByteArray.toList
    s154)
    (T.call
    20
    [Value.slice
    o129
    n130
    n131,
    Value.slice
    o135
    n136
    n137]
    fun
    v155 =>
    T.asB
    v155
    fun
    b156 =>
    T.chk
    []
    (T.ite
    b156
    (T.ret
    (Value.bool
    (b132 ==
    b138)))
    (T.ret
    (Value.bool
    false))))
    (T.chk
    []
    (T.ret
    (Value.bool
    false))))))
    (T.chk
    []
    (T.chk
    []
    (T.chk
    []
    (T.ret
    (Value.bool
    false))))))))
    (T.chk
    []
    (T.chk
    []
    (T.chk
    []
    (T.chk
    []
    (T.chk
    []
    (T.ret
    (Value.bool
    false))))))))
    (T.chk
    []
    (T.chk
    []
    (T.chk
    []
    (T.chk
    []
    (T.chk
    []
    (T.ret
    (Value.bool
    false))))))))
    (T.chk
    []
    (T.chk
    []
    (T.chk
    []
    (T.chk
    []
    (T.chk
    []
    (T.ret
    (Value.bool
    false))))))))
    (T.chk
    []
    (T.chk
    []
    (T.chk
    []
    (T.chk
    []
    (T.chk
    []
    (T.ret
    (Value.bool
    false))))))))
    (T.chk
    []
    (T.chk
    []
    (T.chk
    []
    (T.chk
    []
    (T.chk
    []
    (T.ret
    (Value.bool
    false)))))))))))))))
theorem e5 (i0 : Int) (i1 : Int) (i2 : Int) (i3 : Int) (i4 : Int) (o5 : Option Addr) (n6 n7 : Nat) (o8 : Option Addr) (n9 n10 : Nat) (o11 : Option Addr) (n12 n13 : Nat) (o14 : Option Addr) (n15 n16 : Nat) (o17 : Option Addr) (n18 n19 : Nat) (i20 : Int) (i21 : Int) (i22 : Int) (i23 : Int) (i24 : Int) (i25 : Int) (o26 : Option Addr) (n27 n28 : Nat) (s29 : ByteArray) : treeOf Tryd.prog Tryd.f5 (codeOf Tryd.f5) (.s .n (.s .n (.s .n (.s .n (.s .n (.s .n (.s .n (.s (.p [0, 1, 2, 3, 4, 5, 6, 7, 8, 9, 10, 11, 12, 13, 14, 15, 16, 17, 18, 19, 20, 21, 22, 23, 25, 26, 24, 27, 28, 29, 30, 31, 33, 32, 34, 35, 36, 37, 38, 39, 40, 41, 42, 43, 44, 45, 46, 47]) .n)))))))) [.v (.agg #[.int .i64 i0, .int .i64 i1, .int .i64 i2, .int .i64 i3, .int .i64 i4, .slice o5 n6 n7, .slice o8 n9 n10, .slice o11 n12 n13, .slice o14 n15 n16, .slice o17 n18 n19, .int .i64 i20, .int .i64 i21, .int .i64 i22, .int .u8 i23, .int .i64 i24, .int .i64 i25]), .v (.slice o26 n27 n28), .v (.string s29)] = (t5 i0 i1 i2 i3 i4 o5 n6 n7 o8 n9 n10 o11 n12 n13 o14 n15 n16 o17 n18 n19 i20 i21 i22 i23 i24 i25 o26 n27 n28 s29) := by kernel_rfl
theorem c5 (i0 : Int) (i1 : Int) (i2 : Int) (i3 : Int) (i4 : Int) (o5 : Option Addr) (n6 n7 : Nat) (o8 : Option Addr) (n9 n10 : Nat) (o11 : Option Addr) (n12 n13 : Nat) (o14 : Option Addr) (n15 n16 : Nat) (o17 : Option Addr) (n18 n19 : Nat) (i20 : Int) (i21 : Int) (i22 : Int) (i23 : Int) (i24 : Int) (i25 : Int) (o26 : Option Addr) (n27 n28 : Nat) (s29 : ByteArray) {w : World} {R : Ending → World → Prop} (h : (t5 i0 i1 i2 i3 i4 o5 n6 n7 o8 n9 n10 o11 n12 n13 o14 n15 n16 o17 n18 n19 i20 i21 i22 i23 i24 i25 o26 n27 n28 s29).sem Tryd.prog R ρ0 w) : Calls Tryd.prog 5 #[.agg #[.int .i64 i0, .int .i64 i1, .int .i64 i2, .int .i64 i3, .int .i64 i4, .slice o5 n6 n7, .slice o8 n9 n10, .slice o11 n12 n13, .slice o14 n15 n16, .slice o17 n18 n19, .int .i64 i20, .int .i64 i21, .int .i64 i22, .int .u8 i23, .int .i64 i24, .int .i64 i25], .slice o26 n27 n28, .string s29] w R :=
  calls_of mixed Tryd.func5 rfl rfl (e5 i0 i1 i2 i3 i4 o5 n6 n7 o8 n9 n10 o11 n12 n13 o14 n15 n16 o17 n18 n19 i20 i21 i22 i23 i24 i25 o26 n27 n28 s29) h
end Go.Proofs.YtihipcofjpnfbaaDoor
