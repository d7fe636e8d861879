/- The functions' trees, printed by a program (wip/tools/Emit.lean) and checked by the kernel against the model's own code. -/
import Derived.Test.YtihipcofjpnfbaaGreatDoorTreesA
import Derived.Test.YtihipcofjpnfbaaGreatDoorProg
namespace Go.Proofs.YtihipcofjpnfbaaGreatDoor
open Go hiding Expr
open Go.Proofs.YtihipcofjpnfbaaGreatDoor.Tr
set_option linter.unusedVariables false
set_option maxRecDepth 100000
def t11 (s0 : ByteArray) : T :=
  T.ite (ByteArray.toList s0 == ByteArray.toList (ByteArray.mk (Array.mk [OfNat.ofNat 45])))
  (T.ret (Value.tuple (Array.mk [Value.slice none 0 0, Value.bool true])))
  (T.blk 0
    (fun l1 j2 =>
    T.loop 0 [Value.string s0, Value.slice none 0 0] fun l3 j4 =>
    T.asT (List.headD l3 (Value.tuple (Array.mk []))) fun s5 =>
    T.asS (List.headD (List.tail l3) (Value.tuple (Array.mk []))) fun o6 n7 n8 =>
    T.ite (!ByteArray.toList s5 == ByteArray.toList (ByteArray.mk (Array.mk [])))
    (T.req ((0 : Int) ≤ 2 ∧ (2 : Int) ≤ (↑(ByteArray.size s5) : Int))
    (T.call 30 [Value.string (ByteArray.extract s5 0 2), Value.int IntKind.i64 16, Value.int IntKind.i64 8] fun v9 =>
    T.asU v9 fun l10 =>
    T.req (List.length l10 = 2)
    (T.asI IntKind.u64 (List.headD l10 (Value.tuple (Array.mk []))) fun i11 =>
    T.drew
    (T.req (isI (List.headD (List.tail l10) (Value.tuple (Array.mk []))))
    (T.ite (!isNilI (List.headD (List.tail l10) (Value.tuple (Array.mk []))))
    (T.chk [] (T.chk [] (T.ret (Value.tuple (Array.mk [Value.slice none 0 0, Value.bool false])))))
    (T.req ((0 : Int) ≤ 2 ∧ (2 : Int) ≤ (↑(ByteArray.size s5) : Int))
    (T.new (Obj.cells (Array.mk [Value.int IntKind.u8 (IntKind.wrap IntKind.u8 i11)]) 5) fun n12 =>
    T.chk []
    (T.call 12 [Value.slice (some (Addr.mk n12 0 none)) 1 1] fun v13 =>
    T.asT v13 fun s14 =>
    T.chk []
    (T.ite (!ByteArray.toList s14 == ByteArray.toList (ByteArray.extract s5 0 2))
    (T.ret (Value.tuple (Array.mk [Value.slice none 0 0, Value.bool false])))
    (T.new (Obj.cells (Array.mk [Value.int IntKind.u8 (IntKind.wrap IntKind.u8 i11)]) 5) fun n15 =>
    T.run
    (biV Builtin.append (Array.mk [35, 35]) 35
    (Array.mk [Value.slice o6 n7 n8, Value.slice (some (Addr.mk n15 0 none)) 1 1]))
    fun v16 =>
    T.asS v16 fun o17 n18 n19 =>
    T.req ((0 : Int) ≤ 2 ∧ (2 : Int) ≤ (↑(ByteArray.size s5) : Int))
    (T.next 0 [Value.string (ByteArray.extract s5 2 (ByteArray.size s5)), Value.slice o17 n18 n19]
    (([] : List Value) = [] ∧ ([] : List Deferred) = []))))))))))))
    (T.ret (Value.tuple (Array.mk [Value.slice o6 n7 n8, Value.bool true]))))
    (T.ite ((↑(ByteArray.size s0) : Int) == 0) (T.ret (Value.tuple (Array.mk [Value.slice none 0 0, Value.bool false])))
    (T.req ((2 : Int) ≠ 0)
    (T.ite (Int.tmod (↑(ByteArray.size s0) : Int) 2 != 0) (T.ret (Value.tuple (Array.mk [Value.slice none 0 0, Value.bool false])))
    (T.next 0 [] ([Value.string s0] = [Value.string s0] ∧ ([] : List Deferred) = []))))))
theorem e11 (s0 : ByteArray) : treeOf Tryz.prog Tryz.f11 (codeOf Tryz.f11) (.s .n (.s .n (.c [] [0] .n (.s .n (.s (.u (.l [(0, .str), (4, .slice)] [] (.s .n (.s (.u (.s .n (.s (.s (.p [0, 1, 2, 3, 4, 7, 8, 5, 6, 9, 10]) .n) .n))) .n)))) .n))))) [.v (.string s0)] = (t11 s0) := by kernel_rfl
theorem c11 (s0 : ByteArray) {w : World} {R : Ending → World → Prop} (h : (t11 s0).sem Tryz.prog R ρ0 w) : Calls Tryz.prog 11 #[.string s0] w R :=
  calls_of mixed Tryz.func11 rfl rfl (e11 s0) h
def t102 (s0 : ByteArray) : T :=
  T.ite (ByteArray.toList s0 == ByteArray.toList (ByteArray.mk (Array.mk [OfNat.ofNat 45])))
  (T.ret (Value.tuple (Array.mk [Value.slice none 0 0, Value.bool true])))
  (T.blk 0
    (fun l1 j2 =>
    T.loop 0 [Value.slice none 0 0, Value.int IntKind.i64 0] fun l3 j4 =>
    T.asS (List.headD l3 (Value.tuple (Array.mk []))) fun o5 n6 n7 =>
    T.asI IntKind.i64 (List.headD (List.tail l3) (Value.tuple (Array.mk []))) fun i8 =>
    T.ite (decide (i8 < (↑(ByteArray.size s0) : Int)))
    (T.drew
    (T.req (0 ≤ i8 ∧ i8 < (↑(ByteArray.size s0) : Int))
    (T.req (0 ≤ IntKind.wrap IntKind.i64 (i8 + 1) ∧ IntKind.wrap IntKind.i64 (i8 + 1) < (↑(ByteArray.size s0) : Int))
    (T.call 118 [Value.int IntKind.u8 (↑(UInt8.toNat (Array.getD (ByteArray.data s0) (Int.toNat i8) (OfNat.ofNat 0))) : Int)] fun v9 =>
    T.asI IntKind.u8 v9 fun i10 =>
    T.chk []
    (T.call 118
    [Value.int IntKind.u8
    (↑(UInt8.toNat (Array.getD (ByteArray.data s0) (Int.toNat (IntKind.wrap IntKind.i64 (i8 + 1))) (OfNat.ofNat 0))) : Int)]
    fun v11 =>
    T.asI IntKind.u8 v11 fun i12 =>
    T.chk []
    (T.blk 1
    (fun l13 j14 =>
    T.new (Obj.cells (Array.mk [Value.int IntKind.u8 (IntKind.wrap IntKind.u8 (IntKind.wrap IntKind.u8 (16 * i10) + i12))]) 5)
    fun n15 =>
    T.run
    (biV Builtin.append (Array.mk [35, 35]) 35
    (Array.mk [Value.slice o5 n6 n7, Value.slice (some (Addr.mk n15 0 none)) 1 1]))
    fun v16 =>
    T.asS v16 fun o17 n18 n19 =>
    T.next 0 [Value.slice o17 n18 n19, Value.int IntKind.i64 (IntKind.wrap IntKind.i64 (i8 + 2))]
    ([Value.string s0] = [Value.string s0] ∧ ([] : List Deferred) = []))
    (T.ite (decide (i10 > 15)) (T.ret (Value.tuple (Array.mk [Value.slice none 0 0, Value.bool false])))
    (T.ite (decide (i12 > 15)) (T.ret (Value.tuple (Array.mk [Value.slice none 0 0, Value.bool false])))
    (T.next 1 []
    ([Value.string s0, Value.slice o5 n6 n7, Value.int IntKind.i64 i8, Value.int IntKind.u8 i10, Value.int IntKind.u8 i12] =
    [Value.string s0, Value.slice o5 n6 n7, Value.int IntKind.i64 i8, Value.int IntKind.u8 i10,
    Value.int IntKind.u8 i12] ∧ ([] : List Deferred) = []))))))))))
    (T.ret (Value.tuple (Array.mk [Value.slice o5 n6 n7, Value.bool true]))))
    (T.ite ((↑(ByteArray.size s0) : Int) == 0) (T.ret (Value.tuple (Array.mk [Value.slice none 0 0, Value.bool false])))
    (T.req ((2 : Int) ≠ 0)
    (T.ite (Int.tmod (↑(ByteArray.size s0) : Int) 2 != 0) (T.ret (Value.tuple (Array.mk [Value.slice none 0 0, Value.bool false])))
    (T.next 0 [] ([Value.string s0] = [Value.string s0] ∧ ([] : List Deferred) = []))))))
theorem e102 (s0 : ByteArray) : treeOf Tryz.prog Tryz.f102 (codeOf Tryz.f102) (.s .n (.s .n (.c [] [0] .n (.s .n (.s (.s .n (.u (.l [(4, .slice), (5, .int .i64)] [0] (.s .n (.s (.u (.s (.p [0, 1, 2, 4, 5, 6, 7, 3, 8, 9, 10]) (.c [] [0, 4, 5, 6, 7] .n .n))) .n))))) .n))))) [.v (.string s0)] = (t102 s0) := by kernel_rfl
theorem c102 (s0 : ByteArray) {w : World} {R : Ending → World → Prop} (h : (t102 s0).sem Tryz.prog R ρ0 w) : Calls Tryz.prog 102 #[.string s0] w R :=
  calls_of mixed Tryz.func102 rfl rfl (e102 s0) h
def t118 (i0 : Int) : T :=
  T.blk 0
  (fun l1 j2 =>
    T.asB (List.headD l1 (Value.tuple (Array.mk []))) fun b3 =>
    T.ite b3 (T.ret (Value.int IntKind.u8 (IntKind.wrap IntKind.u8 (i0 - 48))))
    (T.ite (decide (i0 ≥ 97))
    (T.ite (decide (i0 ≤ 102)) (T.ret (Value.int IntKind.u8 (IntKind.wrap IntKind.u8 (IntKind.wrap IntKind.u8 (i0 - 97) + 10))))
    (T.ret (Value.int IntKind.u8 16)))
    (T.ret (Value.int IntKind.u8 16))))
  (T.ite (decide (i0 ≥ 48)) (T.next 0 [Value.bool (decide (i0 ≤ 57))] ([Value.int IntKind.u8 i0] = [Value.int IntKind.u8 i0] ∧ ([] : List Deferred) = []))
    (T.next 0 [Value.bool false] ([Value.int IntKind.u8 i0] = [Value.int IntKind.u8 i0] ∧ ([] : List Deferred) = [])))
theorem e118 (i0 : Int) : treeOf Tryz.prog Tryz.f118 (codeOf Tryz.f118) (.s .n (.s (.u (.c [(3, .bool)] [0] .n .n)) .n)) [.v (.int .u8 i0)] = (t118 i0) := by kernel_rfl
theorem c118 (i0 : Int) {w : World} {R : Ending → World → Prop} (h : (t118 i0).sem Tryz.prog R ρ0 w) : Calls Tryz.prog 118 #[.int .u8 i0] w R :=
  calls_of mixed Tryz.func118 rfl rfl (e118 i0) h
def t30 (s0 : ByteArray) (i1 : Int) (i2 : Int) : T :=
  T.call 58 [Value.string s0, Value.int IntKind.i64 i1, Value.int IntKind.i64 i2] fun v3 =>
  T.asU v3 fun l4 =>
    T.req (List.length l4 = 2)
    (T.asI IntKind.u64 (List.headD l4 (Value.tuple (Array.mk []))) fun i5 =>
    T.req (isI (List.headD (List.tail l4) (Value.tuple (Array.mk []))))
    (T.ite (!isNilI (List.headD (List.tail l4) (Value.tuple (Array.mk []))))
    (T.call 59
    [Value.string
    (ByteArray.mk
    (Array.mk
    [OfNat.ofNat 80, OfNat.ofNat 97, OfNat.ofNat 114, OfNat.ofNat 115, OfNat.ofNat 101, OfNat.ofNat 85, OfNat.ofNat 105, OfNat.ofNat 110,
    OfNat.ofNat 116])),
    Value.string s0, Value.int IntKind.i64 i1, Value.int IntKind.i64 i2, List.headD (List.tail l4) (Value.tuple (Array.mk []))]
    fun v6 => T.ret (Value.tuple (Array.mk [Value.int IntKind.u64 i5, v6])))
    (T.ret (Value.tuple (Array.mk [Value.int IntKind.u64 i5, Value.nilIface])))))
theorem e30 (s0 : ByteArray) (i1 : Int) (i2 : Int) : treeOf Tryz.prog Tryz.f30 (codeOf Tryz.f30) .n [.v (.string s0), .v (.int .i64 i1), .v (.int .i64 i2)] = (t30 s0 i1 i2) := by kernel_rfl
theorem c30 (s0 : ByteArray) (i1 : Int) (i2 : Int) {w : World} {R : Ending → World → Prop} (h : (t30 s0 i1 i2).sem Tryz.prog R ρ0 w) : Calls Tryz.prog 30 #[.string s0, .int .i64 i1, .int .i64 i2] w R :=
  calls_of mixed Tryz.func30 rfl rfl (e30 s0 i1 i2) h
def t58 (s0 : ByteArray) (i1 : Int) (i2 : Int) : T :=
  T.ite (ByteArray.toList s0 == ByteArray.toList (ByteArray.mk (Array.mk [])))
  (T.ret (Value.tuple (Array.mk [Value.int IntKind.u64 0, Value.iface 132 (Value.int IntKind.i64 2)])))
  (T.blk 0
    (fun l3 j4 =>
    T.asT (List.headD l3 (Value.tuple (Array.mk []))) fun s5 =>
    T.asI IntKind.i64 (List.headD (List.tail l3) (Value.tuple (Array.mk []))) fun i6 =>
    T.blk 0
    (fun l7 j8 =>
    T.asI IntKind.i64 (List.headD l7 (Value.tuple (Array.mk []))) fun i9 =>
    T.blk 0
    (fun l10 j11 =>
    T.asI IntKind.u64 (List.headD l10 (Value.tuple (Array.mk []))) fun i12 =>
    T.req (0 ≤ IntKind.wrap IntKind.u64 i9)
    (T.run (convert 9 35 (Value.string s5)) fun v13 =>
    T.asS v13 fun o14 n15 n16 =>
    T.loop 0 [Value.bool false, Value.int IntKind.u64 0, Value.int IntKind.i64 0] fun l17 j18 =>
    T.asB (List.headD l17 (Value.tuple (Array.mk []))) fun b19 =>
    T.asI IntKind.u64 (List.headD (List.tail l17) (Value.tuple (Array.mk []))) fun i20 =>
    T.asI IntKind.i64 (List.headD (List.tail (List.tail l17)) (Value.tuple (Array.mk []))) fun i21 =>
    T.ite (decide (i21 < (↑n15 : Int)))
    (T.req (0 ≤ i21 ∧ i21 < (↑n15 : Int))
    (T.sm o14 fun n22 n23 =>
    T.ldI IntKind.u8 n22 (n23 + Int.toNat i21 * 1) fun i24 =>
    T.blk 1
    (fun l25 j26 =>
    T.asB (List.headD l25 (Value.tuple (Array.mk []))) fun b27 =>
    T.asI IntKind.u8 (List.headD (List.tail l25) (Value.tuple (Array.mk []))) fun i28 =>
    T.ite (decide (i28 ≥ IntKind.wrap IntKind.u8 i6))
    (T.ret (Value.tuple (Array.mk [Value.int IntKind.u64 0, Value.iface 132 (Value.int IntKind.i64 2)])))
    (T.ite (decide (i20 ≥ i12))
    (T.ret
    (Value.tuple
    (Array.mk
    [Value.int IntKind.u64
    (IntKind.wrap IntKind.u64 (shlI IntKind.u64 1 (IntKind.wrap IntKind.u64 i9) - 1)),
    Value.iface 132 (Value.int IntKind.i64 1)])))
    (T.ite
    (decide
    (IntKind.wrap IntKind.u64
    (IntKind.wrap IntKind.u64 (i20 * IntKind.wrap IntKind.u64 i6) + IntKind.wrap IntKind.u64 i28) <
    IntKind.wrap IntKind.u64 (i20 * IntKind.wrap IntKind.u64 i6)))
    (T.ret
    (Value.tuple
    (Array.mk
    [Value.int IntKind.u64
    (IntKind.wrap IntKind.u64 (shlI IntKind.u64 1 (IntKind.wrap IntKind.u64 i9) - 1)),
    Value.iface 132 (Value.int IntKind.i64 1)])))
    (T.ite
    (decide
    (IntKind.wrap IntKind.u64
    (IntKind.wrap IntKind.u64 (i20 * IntKind.wrap IntKind.u64 i6) +
    IntKind.wrap IntKind.u64 i28) >
    IntKind.wrap IntKind.u64 (shlI IntKind.u64 1 (IntKind.wrap IntKind.u64 i9) - 1)))
    (T.ret
    (Value.tuple
    (Array.mk
    [Value.int IntKind.u64
    (IntKind.wrap IntKind.u64 (shlI IntKind.u64 1 (IntKind.wrap IntKind.u64 i9) - 1)),
    Value.iface 132 (Value.int IntKind.i64 1)])))
    (T.next 0
    [Value.bool b27,
    Value.int IntKind.u64
    (IntKind.wrap IntKind.u64
    (IntKind.wrap IntKind.u64 (i20 * IntKind.wrap IntKind.u64 i6) +
    IntKind.wrap IntKind.u64 i28)),
    Value.int IntKind.i64 (IntKind.wrap IntKind.i64 (i21 + 1))]
    ([Value.int IntKind.i64 i6, Value.bool (i1 == 0), Value.string s0, Value.int IntKind.u64 i12,
    Value.int IntKind.u64
    (IntKind.wrap IntKind.u64 (shlI IntKind.u64 1 (IntKind.wrap IntKind.u64 i9) - 1)),
    Value.slice o14 n15 n16, Value.int IntKind.i64 (↑n15 : Int)] =
    [Value.int IntKind.i64 i6, Value.bool (i1 == 0), Value.string s0, Value.int IntKind.u64 i12,
    Value.int IntKind.u64
    (IntKind.wrap IntKind.u64 (shlI IntKind.u64 1 (IntKind.wrap IntKind.u64 i9) - 1)),
    Value.slice o14 n15 n16, Value.int IntKind.i64 (↑n15 : Int)] ∧ ([] : List Deferred) = []))))))
    (T.blk 2
    (fun l29 j30 =>
    T.asB (List.headD l29 (Value.tuple (Array.mk []))) fun b31 =>
    T.ite b31
    (T.next 0
    [Value.bool true, Value.int IntKind.u64 i20, Value.int IntKind.i64 (IntKind.wrap IntKind.i64 (i21 + 1))]
    ([Value.int IntKind.i64 i6, Value.bool (i1 == 0), Value.string s0, Value.int IntKind.u64 i12,
    Value.int IntKind.u64
    (IntKind.wrap IntKind.u64 (shlI IntKind.u64 1 (IntKind.wrap IntKind.u64 i9) - 1)),
    Value.slice o14 n15 n16, Value.int IntKind.i64 (↑n15 : Int)] =
    [Value.int IntKind.i64 i6, Value.bool (i1 == 0), Value.string s0, Value.int IntKind.u64 i12,
    Value.int IntKind.u64
    (IntKind.wrap IntKind.u64 (shlI IntKind.u64 1 (IntKind.wrap IntKind.u64 i9) - 1)),
    Value.slice o14 n15 n16, Value.int IntKind.i64 (↑n15 : Int)] ∧ ([] : List Deferred) = []))
    (T.blk 2
    (fun l32 j33 =>
    T.asB (List.headD l32 (Value.tuple (Array.mk []))) fun b34 =>
    T.ite b34
    (T.next 1 [Value.bool b19, Value.int IntKind.u8 (IntKind.wrap IntKind.u8 (i24 - 48))]
    ([Value.int IntKind.i64 i6, Value.bool (i1 == 0), Value.string s0, Value.int IntKind.u64 i12,
    Value.int IntKind.u64
    (IntKind.wrap IntKind.u64 (shlI IntKind.u64 1 (IntKind.wrap IntKind.u64 i9) - 1)),
    Value.int IntKind.u64 i20, Value.slice o14 n15 n16, Value.int IntKind.i64 (↑n15 : Int),
    Value.int IntKind.i64 i21] =
    [Value.int IntKind.i64 i6, Value.bool (i1 == 0), Value.string s0, Value.int IntKind.u64 i12,
    Value.int IntKind.u64
    (IntKind.wrap IntKind.u64 (shlI IntKind.u64 1 (IntKind.wrap IntKind.u64 i9) - 1)),
    Value.int IntKind.u64 i20, Value.slice o14 n15 n16, Value.int IntKind.i64 (↑n15 : Int),
    Value.int IntKind.i64 i21] ∧ ([] : List Deferred) = []))
    (T.blk 2
    (fun l35 j36 =>
    T.asB (List.headD l35 (Value.tuple (Array.mk []))) fun b37 =>
    T.ite b37
    (T.call 85 [Value.int IntKind.u8 i24] fun v38 =>
    T.asI IntKind.u8 v38 fun i39 =>
    T.next 1
    [Value.bool b19,
    Value.int IntKind.u8
    (IntKind.wrap IntKind.u8 (IntKind.wrap IntKind.u8 (i39 - 97) + 10))]
    ([Value.int IntKind.i64 i6, Value.bool (i1 == 0), Value.string s0,
    Value.int IntKind.u64 i12,
    Value.int IntKind.u64
    (IntKind.wrap IntKind.u64
    (shlI IntKind.u64 1 (IntKind.wrap IntKind.u64 i9) - 1)),
    Value.int IntKind.u64 i20, Value.slice o14 n15 n16,
    Value.int IntKind.i64 (↑n15 : Int), Value.int IntKind.i64 i21] =
    [Value.int IntKind.i64 i6, Value.bool (i1 == 0), Value.string s0,
    Value.int IntKind.u64 i12,
    Value.int IntKind.u64
    (IntKind.wrap IntKind.u64
    (shlI IntKind.u64 1 (IntKind.wrap IntKind.u64 i9) - 1)),
    Value.int IntKind.u64 i20, Value.slice o14 n15 n16,
    Value.int IntKind.i64 (↑n15 : Int), Value.int IntKind.i64 i21] ∧ ([] : List Deferred) = []))
    (T.ret
    (Value.tuple
    (Array.mk [Value.int IntKind.u64 0, Value.iface 132 (Value.int IntKind.i64 2)]))))
    (T.call 85 [Value.int IntKind.u8 i24] fun v40 =>
    T.asI IntKind.u8 v40 fun i41 =>
    T.ite (decide (97 ≤ i41))
    (T.call 85 [Value.int IntKind.u8 i24] fun v42 =>
    T.asI IntKind.u8 v42 fun i43 =>
    T.next 2 [Value.bool (decide (i43 ≤ 122))]
    ([Value.int IntKind.i64 i6, Value.bool (i1 == 0), Value.string s0,
    Value.int IntKind.u64 i12,
    Value.int IntKind.u64
    (IntKind.wrap IntKind.u64
    (shlI IntKind.u64 1 (IntKind.wrap IntKind.u64 i9) - 1)),
    Value.bool b19, Value.int IntKind.u64 i20, Value.int IntKind.u8 i24,
    Value.slice o14 n15 n16, Value.int IntKind.i64 (↑n15 : Int),
    Value.int IntKind.i64 i21] =
    [Value.int IntKind.i64 i6, Value.bool (i1 == 0), Value.string s0,
    Value.int IntKind.u64 i12,
    Value.int IntKind.u64
    (IntKind.wrap IntKind.u64
    (shlI IntKind.u64 1 (IntKind.wrap IntKind.u64 i9) - 1)),
    Value.bool b19, Value.int IntKind.u64 i20, Value.int IntKind.u8 i24,
    Value.slice o14 n15 n16, Value.int IntKind.i64 (↑n15 : Int),
    Value.int IntKind.i64 i21] ∧ ([] : List Deferred) = []))
    (T.next 2 [Value.bool false]
    ([Value.int IntKind.i64 i6, Value.bool (i1 == 0), Value.string s0,
    Value.int IntKind.u64 i12,
    Value.int IntKind.u64
    (IntKind.wrap IntKind.u64
    (shlI IntKind.u64 1 (IntKind.wrap IntKind.u64 i9) - 1)),
    Value.bool b19, Value.int IntKind.u64 i20, Value.int IntKind.u8 i24,
    Value.slice o14 n15 n16, Value.int IntKind.i64 (↑n15 : Int),
    Value.int IntKind.i64 i21] =
    [Value.int IntKind.i64 i6, Value.bool (i1 == 0), Value.string s0,
    Value.int IntKind.u64 i12,
    Value.int IntKind.u64
    (IntKind.wrap IntKind.u64
    (shlI IntKind.u64 1 (IntKind.wrap IntKind.u64 i9) - 1)),
    Value.bool b19, Value.int IntKind.u64 i20, Value.int IntKind.u8 i24,
    Value.slice o14 n15 n16, Value.int IntKind.i64 (↑n15 : Int),
    Value.int IntKind.i64 i21] ∧ ([] : List Deferred) = [])))))
    (T.ite (decide (48 ≤ i24))
    (T.next 2 [Value.bool (decide (i24 ≤ 57))]
    ([Value.int IntKind.i64 i6, Value.bool (i1 == 0), Value.string s0, Value.int IntKind.u64 i12,
    Value.int IntKind.u64
    (IntKind.wrap IntKind.u64 (shlI IntKind.u64 1 (IntKind.wrap IntKind.u64 i9) - 1)),
    Value.bool b19, Value.int IntKind.u64 i20, Value.int IntKind.u8 i24, Value.slice o14 n15 n16,
    Value.int IntKind.i64 (↑n15 : Int), Value.int IntKind.i64 i21] =
    [Value.int IntKind.i64 i6, Value.bool (i1 == 0), Value.string s0, Value.int IntKind.u64 i12,
    Value.int IntKind.u64
    (IntKind.wrap IntKind.u64 (shlI IntKind.u64 1 (IntKind.wrap IntKind.u64 i9) - 1)),
    Value.bool b19, Value.int IntKind.u64 i20, Value.int IntKind.u8 i24, Value.slice o14 n15 n16,
    Value.int IntKind.i64 (↑n15 : Int), Value.int IntKind.i64 i21] ∧ ([] : List Deferred) = []))
    (T.next 2 [Value.bool false]
    ([Value.int IntKind.i64 i6, Value.bool (i1 == 0), Value.string s0, Value.int IntKind.u64 i12,
    Value.int IntKind.u64
    (IntKind.wrap IntKind.u64 (shlI IntKind.u64 1 (IntKind.wrap IntKind.u64 i9) - 1)),
    Value.bool b19, Value.int IntKind.u64 i20, Value.int IntKind.u8 i24, Value.slice o14 n15 n16,
    Value.int IntKind.i64 (↑n15 : Int), Value.int IntKind.i64 i21] =
    [Value.int IntKind.i64 i6, Value.bool (i1 == 0), Value.string s0, Value.int IntKind.u64 i12,
    Value.int IntKind.u64
    (IntKind.wrap IntKind.u64 (shlI IntKind.u64 1 (IntKind.wrap IntKind.u64 i9) - 1)),
    Value.bool b19, Value.int IntKind.u64 i20, Value.int IntKind.u8 i24, Value.slice o14 n15 n16,
    Value.int IntKind.i64 (↑n15 : Int), Value.int IntKind.i64 i21] ∧ ([] : List Deferred) = [])))))
    (T.ite (i24 == 95)
    (T.next 2 [Value.bool (i1 == 0)]
    ([Value.int IntKind.i64 i6, Value.bool (i1 == 0), Value.string s0, Value.int IntKind.u64 i12,
    Value.int IntKind.u64
    (IntKind.wrap IntKind.u64 (shlI IntKind.u64 1 (IntKind.wrap IntKind.u64 i9) - 1)),
    Value.bool b19, Value.int IntKind.u64 i20, Value.int IntKind.u8 i24, Value.slice o14 n15 n16,
    Value.int IntKind.i64 (↑n15 : Int), Value.int IntKind.i64 i21] =
    [Value.int IntKind.i64 i6, Value.bool (i1 == 0), Value.string s0, Value.int IntKind.u64 i12,
    Value.int IntKind.u64
    (IntKind.wrap IntKind.u64 (shlI IntKind.u64 1 (IntKind.wrap IntKind.u64 i9) - 1)),
    Value.bool b19, Value.int IntKind.u64 i20, Value.int IntKind.u8 i24, Value.slice o14 n15 n16,
    Value.int IntKind.i64 (↑n15 : Int), Value.int IntKind.i64 i21] ∧ ([] : List Deferred) = []))
    (T.next 2 [Value.bool false]
    ([Value.int IntKind.i64 i6, Value.bool (i1 == 0), Value.string s0, Value.int IntKind.u64 i12,
    Value.int IntKind.u64
    (IntKind.wrap IntKind.u64 (shlI IntKind.u64 1 (IntKind.wrap IntKind.u64 i9) - 1)),
    Value.bool b19, Value.int IntKind.u64 i20, Value.int IntKind.u8 i24, Value.slice o14 n15 n16,
    Value.int IntKind.i64 (↑n15 : Int), Value.int IntKind.i64 i21] =
    [Value.int IntKind.i64 i6, Value.bool (i1 == 0), Value.string s0, Value.int IntKind.u64 i12,
    Value.int IntKind.u64
    (IntKind.wrap IntKind.u64 (shlI IntKind.u64 1 (IntKind.wrap IntKind.u64 i9) - 1)),
    Value.bool b19, Value.int IntKind.u64 i20, Value.int IntKind.u8 i24, Value.slice o14 n15 n16,
    Value.int IntKind.i64 (↑n15 : Int), Value.int IntKind.i64 i21] ∧ ([] : List Deferred) = []))))))
    (T.ite b19
    (T.call 86 [Value.string s0] fun v44 =>
    T.asB v44 fun b45 =>
    T.ite (!b45) (T.ret (Value.tuple (Array.mk [Value.int IntKind.u64 0, Value.iface 132 (Value.int IntKind.i64 2)])))
    (T.ret (Value.tuple (Array.mk [Value.int IntKind.u64 i20, Value.nilIface]))))
    (T.ret (Value.tuple (Array.mk [Value.int IntKind.u64 i20, Value.nilIface]))))))
    (T.ite (i6 == 10)
    (T.next 0 [Value.int IntKind.u64 1844674407370955162]
    ([Value.string s5, Value.int IntKind.i64 i6, Value.int IntKind.i64 i9, Value.bool (i1 == 0), Value.string s0] =
    [Value.string s5, Value.int IntKind.i64 i6, Value.int IntKind.i64 i9, Value.bool (i1 == 0), Value.string s0] ∧ ([] : List Deferred) = []))
    (T.ite (i6 == 16)
    (T.next 0 [Value.int IntKind.u64 1152921504606846976]
    ([Value.string s5, Value.int IntKind.i64 i6, Value.int IntKind.i64 i9, Value.bool (i1 == 0), Value.string s0] =
    [Value.string s5, Value.int IntKind.i64 i6, Value.int IntKind.i64 i9, Value.bool (i1 == 0), Value.string s0] ∧ ([] : List Deferred) = []))
    (T.req (IntKind.wrap IntKind.u64 i6 ≠ 0)
    (T.next 0
    [Value.int IntKind.u64
    (IntKind.wrap IntKind.u64 (IntKind.wrap IntKind.u64 (Int.tdiv 18446744073709551615 (IntKind.wrap IntKind.u64 i6)) + 1))]
    ([Value.string s5, Value.int IntKind.i64 i6, Value.int IntKind.i64 i9, Value.bool (i1 == 0), Value.string s0] =
    [Value.string s5, Value.int IntKind.i64 i6, Value.int IntKind.i64 i9, Value.bool (i1 == 0), Value.string s0] ∧ ([] : List Deferred) = []))))))
    (T.ite (i2 == 0)
    (T.next 0 [Value.int IntKind.i64 64]
    ([Value.string s5, Value.int IntKind.i64 i6, Value.bool (i1 == 0), Value.string s0] =
    [Value.string s5, Value.int IntKind.i64 i6, Value.bool (i1 == 0), Value.string s0] ∧ ([] : List Deferred) = []))
    (T.ite (decide (i2 < 0)) (T.ret (Value.tuple (Array.mk [Value.int IntKind.u64 0, Value.iface 132 (Value.int IntKind.i64 4)])))
    (T.ite (decide (i2 > 64)) (T.ret (Value.tuple (Array.mk [Value.int IntKind.u64 0, Value.iface 132 (Value.int IntKind.i64 4)])))
    (T.next 0 [Value.int IntKind.i64 i2]
    ([Value.string s5, Value.int IntKind.i64 i6, Value.bool (i1 == 0), Value.string s0] =
    [Value.string s5, Value.int IntKind.i64 i6, Value.bool (i1 == 0), Value.string s0] ∧ ([] : List Deferred) = []))))))
    (T.blk 1
    (fun l46 j47 =>
    T.asB (List.headD l46 (Value.tuple (Array.mk []))) fun b48 =>
    T.ite b48
    (T.next 0 [Value.string s0, Value.int IntKind.i64 i1]
    ([Value.int IntKind.i64 i2, Value.bool (i1 == 0), Value.string s0] = [Value.int IntKind.i64 i2, Value.bool (i1 == 0), Value.string s0] ∧ ([] : List Deferred) = []))
    (T.ite (i1 == 0)
    (T.req ((0 : Int) ≤ 0 ∧ (0 : Int) < (↑(ByteArray.size s0) : Int))
    (T.ite ((↑(UInt8.toNat (Array.getD (ByteArray.data s0) 0 (OfNat.ofNat 0))) : Int) == 48)
    (T.blk 1
    (fun l49 j50 =>
    T.asB (List.headD l49 (Value.tuple (Array.mk []))) fun b51 =>
    T.ite b51
    (T.req ((0 : Int) ≤ 2 ∧ (2 : Int) ≤ (↑(ByteArray.size s0) : Int))
    (T.next 0 [Value.string (ByteArray.extract s0 2 (ByteArray.size s0)), Value.int IntKind.i64 2]
    ([Value.int IntKind.i64 i2, Value.bool (i1 == 0), Value.string s0] =
    [Value.int IntKind.i64 i2, Value.bool (i1 == 0), Value.string s0] ∧ ([] : List Deferred) = [])))
    (T.blk 1
    (fun l52 j53 =>
    T.asB (List.headD l52 (Value.tuple (Array.mk []))) fun b54 =>
    T.ite b54
    (T.req ((0 : Int) ≤ 2 ∧ (2 : Int) ≤ (↑(ByteArray.size s0) : Int))
    (T.next 0 [Value.string (ByteArray.extract s0 2 (ByteArray.size s0)), Value.int IntKind.i64 8]
    ([Value.int IntKind.i64 i2, Value.bool (i1 == 0), Value.string s0] =
    [Value.int IntKind.i64 i2, Value.bool (i1 == 0), Value.string s0] ∧ ([] : List Deferred) = [])))
    (T.blk 1
    (fun l55 j56 =>
    T.asB (List.headD l55 (Value.tuple (Array.mk []))) fun b57 =>
    T.ite b57
    (T.req ((0 : Int) ≤ 2 ∧ (2 : Int) ≤ (↑(ByteArray.size s0) : Int))
    (T.next 0 [Value.string (ByteArray.extract s0 2 (ByteArray.size s0)), Value.int IntKind.i64 16]
    ([Value.int IntKind.i64 i2, Value.bool (i1 == 0), Value.string s0] =
    [Value.int IntKind.i64 i2, Value.bool (i1 == 0), Value.string s0] ∧ ([] : List Deferred) = [])))
    (T.req ((0 : Int) ≤ 1 ∧ (1 : Int) ≤ (↑(ByteArray.size s0) : Int))
    (T.next 0 [Value.string (ByteArray.extract s0 1 (ByteArray.size s0)), Value.int IntKind.i64 8]
    ([Value.int IntKind.i64 i2, Value.bool (i1 == 0), Value.string s0] =
    [Value.int IntKind.i64 i2, Value.bool (i1 == 0), Value.string s0] ∧ ([] : List Deferred) = []))))
    (T.ite (decide ((↑(ByteArray.size s0) : Int) ≥ 3))
    (T.req ((0 : Int) ≤ 1 ∧ (1 : Int) < (↑(ByteArray.size s0) : Int))
    (T.call 85 [Value.int IntKind.u8 (↑(UInt8.toNat (Array.getD (ByteArray.data s0) 1 (OfNat.ofNat 0))) : Int)] fun v58 =>
    T.asI IntKind.u8 v58 fun i59 =>
    T.next 1 [Value.bool (i59 == 120)]
    ([Value.string s0, Value.int IntKind.i64 i2, Value.bool (i1 == 0), Value.string s0] =
    [Value.string s0, Value.int IntKind.i64 i2, Value.bool (i1 == 0), Value.string s0] ∧ ([] : List Deferred) = [])))
    (T.next 1 [Value.bool false]
    ([Value.string s0, Value.int IntKind.i64 i2, Value.bool (i1 == 0), Value.string s0] =
    [Value.string s0, Value.int IntKind.i64 i2, Value.bool (i1 == 0), Value.string s0] ∧ ([] : List Deferred) = [])))))
    (T.ite (decide ((↑(ByteArray.size s0) : Int) ≥ 3))
    (T.req ((0 : Int) ≤ 1 ∧ (1 : Int) < (↑(ByteArray.size s0) : Int))
    (T.call 85 [Value.int IntKind.u8 (↑(UInt8.toNat (Array.getD (ByteArray.data s0) 1 (OfNat.ofNat 0))) : Int)] fun v60 =>
    T.asI IntKind.u8 v60 fun i61 =>
    T.next 1 [Value.bool (i61 == 111)]
    ([Value.string s0, Value.int IntKind.i64 i2, Value.bool (i1 == 0), Value.string s0] =
    [Value.string s0, Value.int IntKind.i64 i2, Value.bool (i1 == 0), Value.string s0] ∧ ([] : List Deferred) = [])))
    (T.next 1 [Value.bool false]
    ([Value.string s0, Value.int IntKind.i64 i2, Value.bool (i1 == 0), Value.string s0] =
    [Value.string s0, Value.int IntKind.i64 i2, Value.bool (i1 == 0), Value.string s0] ∧ ([] : List Deferred) = [])))))
    (T.ite (decide ((↑(ByteArray.size s0) : Int) ≥ 3))
    (T.req ((0 : Int) ≤ 1 ∧ (1 : Int) < (↑(ByteArray.size s0) : Int))
    (T.call 85 [Value.int IntKind.u8 (↑(UInt8.toNat (Array.getD (ByteArray.data s0) 1 (OfNat.ofNat 0))) : Int)] fun v62 =>
    T.asI IntKind.u8 v62 fun i63 =>
    T.next 1 [Value.bool (i63 == 98)]
    ([Value.string s0, Value.int IntKind.i64 i2, Value.bool (i1 == 0), Value.string s0] =
    [Value.string s0, Value.int IntKind.i64 i2, Value.bool (i1 == 0), Value.string s0] ∧ ([] : List Deferred) = [])))
    (T.next 1 [Value.bool false]
    ([Value.string s0, Value.int IntKind.i64 i2, Value.bool (i1 == 0), Value.string s0] =
    [Value.string s0, Value.int IntKind.i64 i2, Value.bool (i1 == 0), Value.string s0] ∧ ([] : List Deferred) = []))))
    (T.next 0 [Value.string s0, Value.int IntKind.i64 10]
    ([Value.int IntKind.i64 i2, Value.bool (i1 == 0), Value.string s0] = [Value.int IntKind.i64 i2, Value.bool (i1 == 0), Value.string s0] ∧ ([] : List Deferred) = []))))
    (T.ret (Value.tuple (Array.mk [Value.int IntKind.u64 0, Value.iface 132 (Value.int IntKind.i64 3)])))))
    (T.ite (decide (2 ≤ i1))
    (T.next 1 [Value.bool (decide (i1 ≤ 36))]
    ([Value.string s0, Value.int IntKind.i64 i1, Value.int IntKind.i64 i2, Value.bool (i1 == 0), Value.string s0] =
    [Value.string s0, Value.int IntKind.i64 i1, Value.int IntKind.i64 i2, Value.bool (i1 == 0), Value.string s0] ∧ ([] : List Deferred) = []))
    (T.next 1 [Value.bool false]
    ([Value.string s0, Value.int IntKind.i64 i1, Value.int IntKind.i64 i2, Value.bool (i1 == 0), Value.string s0] =
    [Value.string s0, Value.int IntKind.i64 i1, Value.int IntKind.i64 i2, Value.bool (i1 == 0), Value.string s0] ∧ ([] : List Deferred) = [])))))
theorem e58 (s0 : ByteArray) (i1 : Int) (i2 : Int) : treeOf Tryz.prog Tryz.f58 (codeOf Tryz.f58) (.s .n (.s .n (.s .n (.s .n (.c [(0, .str), (1, .int .i64)] [2, 8, 9] (.u (.c [(25, .bool)] [0, 1, 2, 8, 9] .n (.s .n (.s .n (.s (.s .n (.s .n (.s (.u (.c [(40, .bool)] [0, 2, 8, 9] .n (.s .n (.c [(52, .bool)] [0, 2, 8, 9] .n (.s .n (.c [(64, .bool)] [0, 2, 8, 9] .n .n)))))) .n))) .n))))) (.c [(2, .int .i64)] [0, 1, 8, 9] .n (.s .n (.c [(10, .int .u64)] [0, 1, 2, 8, 9] .n (.s .n (.s .n (.s .n (.s (.s .n (.u (.l [(12, .bool), (13, .int .u64), (101, .int .i64)] [1, 8, 9, 10, 11, 99, 100] (.s .n (.s .n (.s (.u (.s .n (.s .n (.c [(12, .bool), (16, .int .u8)] [1, 8, 9, 10, 11, 13, 99, 100, 101] (.u (.c [(106, .bool)] [1, 8, 9, 10, 11, 12, 13, 15, 99, 100, 101] .n (.s .n (.c [(112, .bool)] [1, 8, 9, 10, 11, 12, 13, 15, 99, 100, 101] .n (.s .n (.c [(121, .bool)] [1, 8, 9, 10, 11, 12, 13, 15, 99, 100, 101] .n .n)))))) .n)))) .n)))))) .n)))))))))))) [.v (.string s0), .v (.int .i64 i1), .v (.int .i64 i2)] = (t58 s0 i1 i2) := by kernel_rfl
theorem c58 (s0 : ByteArray) (i1 : Int) (i2 : Int) {w : World} {R : Ending → World → Prop} (h : (t58 s0 i1 i2).sem Tryz.prog R ρ0 w) : Calls Tryz.prog 58 #[.string s0, .int .i64 i1, .int .i64 i2] w R :=
  calls_of mixed Tryz.func58 rfl rfl (e58 s0 i1 i2) h
def t85 (i0 : Int) : T :=
  T.ret (Value.int IntKind.u8 (bitsI BinOp.or IntKind.u8 i0 32))
theorem e85 (i0 : Int) : treeOf Tryz.prog Tryz.f85 (codeOf Tryz.f85) .n [.v (.int .u8 i0)] = (t85 i0) := by kernel_rfl
theorem c85 (i0 : Int) {w : World} {R : Ending → World → Prop} (h : (t85 i0).sem Tryz.prog R ρ0 w) : Calls Tryz.prog 85 #[.int .u8 i0] w R :=
  calls_of mixed Tryz.func85 rfl rfl (e85 i0) h
end Go.Proofs.YtihipcofjpnfbaaGreatDoor
