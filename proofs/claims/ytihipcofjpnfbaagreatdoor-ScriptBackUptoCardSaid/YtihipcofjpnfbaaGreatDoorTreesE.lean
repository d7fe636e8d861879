/- The functions' trees, printed by a program (wip/tools/Emit.lean) and checked by the kernel against the model's own code. -/
import Derived.Test.YtihipcofjpnfbaaGreatDoorTreesA
import Derived.Test.YtihipcofjpnfbaaGreatDoorProg
namespace Go.Proofs.YtihipcofjpnfbaaGreatDoor
open Go hiding Expr
open Go.Proofs.YtihipcofjpnfbaaGreatDoor.Tr
set_option linter.unusedVariables false
set_option maxRecDepth 100000
def t9 (i0 : Int) (i1 : Int) (i2 : Int) (i3 : Int) (i4 : Int) (o5 : Option Addr) (n6 n7 : Nat) : T :=
  T.new
  (Obj.cells (Array.mk [Value.int IntKind.i64 i0, Value.int IntKind.i64 i1, Value.int IntKind.i64 i2, Value.int IntKind.i64 i3, Value.int IntKind.u64 i4]) 24)
  fun n8 =>
  T.ite (decide ((↑n6 : Int) > 16384)) (T.ret (Value.tuple (Array.mk [Value.string (ByteArray.mk (Array.mk [])), Value.int IntKind.i64 3])))
    (T.new (Obj.cells (Array.mk [Value.pointer none, Value.slice none 0 0]) 67) fun n9 =>
    T.drew
    (T.ldI IntKind.i64 n8 0 fun i10 =>
    T.ldI IntKind.i64 n8 1 fun i11 =>
    T.ldI IntKind.i64 n8 2 fun i12 =>
    T.ldI IntKind.i64 n8 3 fun i13 =>
    T.ldI IntKind.u64 n8 4 fun i14 =>
    T.call 24 [Value.int IntKind.i64 i10] fun v15 =>
    T.asT v15 fun s16 =>
    T.chk
    [(Addr.mk n8 4 none, Value.int IntKind.u64 i14), (Addr.mk n8 3 none, Value.int IntKind.i64 i13),
    (Addr.mk n8 2 none, Value.int IntKind.i64 i12), (Addr.mk n8 1 none, Value.int IntKind.i64 i11)]
    (T.call 24 [Value.int IntKind.i64 i11] fun v17 =>
    T.asT v17 fun s18 =>
    T.chk
    [(Addr.mk n8 4 none, Value.int IntKind.u64 i14), (Addr.mk n8 3 none, Value.int IntKind.i64 i13),
    (Addr.mk n8 2 none, Value.int IntKind.i64 i12)]
    (T.call 24 [Value.int IntKind.i64 i12] fun v19 =>
    T.asT v19 fun s20 =>
    T.chk [(Addr.mk n8 4 none, Value.int IntKind.u64 i14), (Addr.mk n8 3 none, Value.int IntKind.i64 i13)]
    (T.call 24 [Value.int IntKind.i64 i13] fun v21 =>
    T.asT v21 fun s22 =>
    T.chk [(Addr.mk n8 4 none, Value.int IntKind.u64 i14)]
    (T.call 25 [Value.int IntKind.u64 i14, Value.int IntKind.i64 10] fun v23 =>
    T.asT v23 fun s24 =>
    T.chk []
    (T.new
    (Obj.cells
    (Array.mk
    [Value.string
    (ByteArray.mk
    (Array.mk [OfNat.ofNat 119, OfNat.ofNat 111, OfNat.ofNat 114, OfNat.ofNat 108, OfNat.ofNat 100])),
    Value.string s16, Value.string s18, Value.string s20, Value.string s22, Value.string s24])
    9)
    fun n25 =>
    T.chk []
    (T.call 23 [Value.slice (some (Addr.mk n25 0 none)) 6 6] fun v26 =>
    T.asT v26 fun s27 =>
    T.chk []
    (T.req (ByteArray.size s27 + 1 ≤ 9223372036854775807)
    (T.call 22
    [Value.pointer (some (Addr.mk n9 0 none)),
    Value.string (s27 ++ ByteArray.mk (Array.mk [OfNat.ofNat 10]))]
    fun v28 =>
    T.asU v28 fun l29 =>
    T.req (List.length l29 = 2)
    (T.asI IntKind.i64 (List.headD l29 (Value.tuple (Array.mk []))) fun i30 =>
    T.chk []
    (T.loop 0 [Value.int IntKind.i64 0] fun l31 j32 =>
    T.asI IntKind.i64 (List.headD l31 (Value.tuple (Array.mk []))) fun i33 =>
    T.ite (decide (i33 < (↑n6 : Int)))
    (T.req (0 ≤ i33 ∧ i33 < (↑n6 : Int))
    (T.sm o5 fun n34 n35 =>
    T.ldI IntKind.i64 n34 (n35 + Int.toNat i33 * 16) fun i36 =>
    T.ldI IntKind.i64 n34 (n35 + Int.toNat i33 * 16 + 1) fun i37 =>
    T.ldI IntKind.i64 n34 (n35 + Int.toNat i33 * 16 + 2) fun i38 =>
    T.ldI IntKind.i64 n34 (n35 + Int.toNat i33 * 16 + 3) fun i39 =>
    T.ldI IntKind.i64 n34 (n35 + Int.toNat i33 * 16 + 4) fun i40 =>
    T.ldS n34 (n35 + Int.toNat i33 * 16 + 5) fun o41 n42 n43 =>
    T.ldS n34 (n35 + Int.toNat i33 * 16 + 6) fun o44 n45 n46 =>
    T.ldS n34 (n35 + Int.toNat i33 * 16 + 7) fun o47 n48 n49 =>
    T.ldS n34 (n35 + Int.toNat i33 * 16 + 8) fun o50 n51 n52 =>
    T.ldS n34 (n35 + Int.toNat i33 * 16 + 9) fun o53 n54 n55 =>
    T.ldI IntKind.i64 n34 (n35 + Int.toNat i33 * 16 + 10)
    fun i56 =>
    T.ldI IntKind.i64 n34 (n35 + Int.toNat i33 * 16 + 11)
    fun i57 =>
    T.ldI IntKind.i64 n34 (n35 + Int.toNat i33 * 16 + 12)
    fun i58 =>
    T.ldI IntKind.u8 n34 (n35 + Int.toNat i33 * 16 + 13)
    fun i59 =>
    T.ldI IntKind.i64 n34
    (n35 + Int.toNat i33 * 16 + 14) fun i60 =>
    T.ldI IntKind.i64 n34
    (n35 + Int.toNat i33 * 16 + 15) fun i61 =>
    T.new
    (Obj.cells
    (Array.mk
    [Value.int IntKind.i64 0,
    Value.int IntKind.i64 0,
    Value.int IntKind.i64 0,
    Value.int IntKind.i64 0,
    Value.int IntKind.i64 0,
    Value.slice none 0 0,
    Value.slice none 0 0,
    Value.slice none 0 0,
    Value.slice none 0 0,
    Value.slice none 0 0,
    Value.int IntKind.i64 0,
    Value.int IntKind.i64 0,
    Value.int IntKind.i64 0,
    Value.int IntKind.u8 0,
    Value.int IntKind.i64 0,
    Value.int IntKind.i64 0])
    56)
    fun n62 =>
    T.st n62 0 (Value.int IntKind.i64 i36)
    (T.st n62 1 (Value.int IntKind.i64 i37)
    (T.st n62 2 (Value.int IntKind.i64 i38)
    (T.st n62 3 (Value.int IntKind.i64 i39)
    (T.st n62 4
    (Value.int IntKind.i64 i40)
    (T.st n62 5
    (Value.slice o41 n42 n43)
    (T.st n62 6
    (Value.slice o44 n45 n46)
    (T.st n62 7
    (Value.slice o47 n48 n49)
    (T.st n62 8
    (Value.slice o50 n51 n52)
    (T.st n62 9
    (Value.slice o53 n54 n55)
    (T.st n62 10
    (Value.int IntKind.i64
    i56)
    (T.st n62 11
    (Value.int IntKind.i64
    i57)
    (T.st n62 12
    (Value.int
    IntKind.i64 i58)
    (T.st n62 13
    (Value.int
    IntKind.u8 i59)
    (T.st n62 14
    (Value.int
    IntKind.i64
    i60)
    (T.st n62 15
    (Value.int
    IntKind.i64
    i61)
    (T.ldI
    IntKind.i64
    n62 0
    fun i63 =>
    T.ldI
    IntKind.i64
    n62 1
    fun i64 =>
    T.ldI
    IntKind.i64
    n62 2
    fun
    i65 =>
    T.ldI
    IntKind.i64
    n62 3
    fun
    i66 =>
    T.ldI
    IntKind.i64
    n62
    4
    fun
    i67 =>
    T.ldS
    n62
    5
    fun
    o68
    n69
    n70 =>
    T.ldS
    n62
    6
    fun
    o71
    n72
    n73 =>
    T.ldS
    n62
    7
    fun
    o74
    n75
    n76 =>
    T.ldS
    n62
    8
    fun
    o77
    n78
    n79 =>
    T.ldS
    n62
    9
    fun
    o80
    n81
    n82 =>
    T.ldI
    IntKind.i64
    n62
    10
    fun
    i83 =>
    T.ldI
    IntKind.i64
    n62
    11
    fun
    i84 =>
    T.ldI
    IntKind.i64
    n62
    12
    fun
    i85 =>
    T.ldI
    IntKind.u8
    n62
    13
    fun
    i86 =>
    T.ldI
    IntKind.i64
    n62
    14
    fun
    i87 =>
    T.ldI
    IntKind.i64
    n62
    15
    fun
    i88 =>
    T.call
    26
    [Value.agg
    (Array.mk
    [Value.int
    IntKind.i64
    i63,
    Value.int
    IntKind.i64
    i64,
    Value.int
    IntKind.i64
    i65,
    Value.int
    IntKind.i64
    i66,
    Value.int
    IntKind.i64
    i67,
    Value.slice
    o68
    n69
    n70,
    Value.slice
    o71
    n72
    n73,
    Value.slice
    o74
    n75
    n76,
    Value.slice
    o77
    n78
    n79,
    Value.slice
    o80
    n81
    n82,
    Value.int
    IntKind.i64
    i83,
    Value.int
    IntKind.i64
    i84,
    Value.int
    IntKind.i64
    i85,
    Value.int
    IntKind.u8
    i86,
    Value.int
    IntKind.i64
    i87,
    Value.int
    IntKind.i64
    i88])]
    fun
    v89 =>
    T.asU
    v89
    fun
    l90 =>
    T.req
    (List.length
    l90 =
    2)
    (T.asT
    (List.headD
    l90
    (Value.tuple
    (Array.mk
    [])))
    fun
    s91 =>
    T.asI
    IntKind.i64
    (List.headD
    (List.tail
    l90)
    (Value.tuple
    (Array.mk
    [])))
    fun
    i92 =>
    T.ite
    (i92 !=
    0)
    (T.ret
    (Value.tuple
    (Array.mk
    [Value.string
    (ByteArray.mk
    (Array.mk
    [])),
    Value.int
    IntKind.i64
    i92])))
    (T.req
    (ByteArray.size
    s91 +
    1 ≤
    9223372036854775807)
    (T.call
    22
    [Value.pointer
    (some
    (Addr.mk
    n9
    0
    none)),
    Value.string
    (s91 ++
    ByteArray.mk
    (Array.mk
    [OfNat.ofNat
    10]))]
    fun
    v93 =>
    T.asU
    v93
    fun
    l94 =>
    T.req
    (List.length
    l94 =
    2)
    (T.asI
    IntKind.i64
    (List.headD
    l94
    (Value.tuple
    (Array.mk
    [])))
    fun
    i95 =>
    T.next
    0
    [Value.int
    IntKind.i64
    (IntKind.wrap
    IntKind.i64
    (i33 +
    1))]
    ([Value.pointer
    (some
    (Addr.mk
    n9
    0
    none)),
    Value.slice
    o5
    n6
    n7,
    Value.int
    IntKind.i64
    (↑n6 :
    Int)] =
    [Value.pointer
    (some
    (Addr.mk
    n9
    0
    none)),
    Value.slice
    o5
    n6
    n7,
    Value.int
    IntKind.i64
    (↑n6 :
    Int)] ∧ ([] : List Deferred) = [])))))))))))))))))))))))
    (T.call 27 [Value.pointer (some (Addr.mk n9 0 none))] fun v96 =>
    T.asT v96 fun s97 =>
    T.ret
    (Value.tuple
    (Array.mk [Value.string s97, Value.int IntKind.i64 0])))))))))))))))
theorem e9 (i0 : Int) (i1 : Int) (i2 : Int) (i3 : Int) (i4 : Int) (o5 : Option Addr) (n6 n7 : Nat) : treeOf Tryz.prog Tryz.f9 (codeOf Tryz.f9) (.s .n (.s .n (.s .n (.s (.p [0, 1, 3, 4, 6, 7, 9, 10, 12, 13, 2, 5, 8, 11, 14, 15, 16, 17, 18]) (.s (.s .n (.u (.l [(35, .int .i64)] [6, 33, 34] .n))) .n))))) [.v (.agg #[.int .i64 i0, .int .i64 i1, .int .i64 i2, .int .i64 i3, .int .u64 i4]), .v (.slice o5 n6 n7)] = (t9 i0 i1 i2 i3 i4 o5 n6 n7) := by kernel_rfl
theorem c9 (i0 : Int) (i1 : Int) (i2 : Int) (i3 : Int) (i4 : Int) (o5 : Option Addr) (n6 n7 : Nat) {w : World} {R : Ending → World → Prop} (h : (t9 i0 i1 i2 i3 i4 o5 n6 n7).sem Tryz.prog R ρ0 w) : Calls Tryz.prog 9 #[.agg #[.int .i64 i0, .int .i64 i1, .int .i64 i2, .int .i64 i3, .int .u64 i4], .slice o5 n6 n7] w R :=
  calls_of mixed Tryz.func9 rfl rfl (e9 i0 i1 i2 i3 i4 o5 n6 n7) h
def t10 (i0 : Int) (i1 : Int) (i2 : Int) (i3 : Int) (i4 : Int) (o5 : Option Addr) (n6 n7 : Nat) : T :=
  T.new
  (Obj.cells (Array.mk [Value.int IntKind.i64 i0, Value.int IntKind.i64 i1, Value.int IntKind.i64 i2, Value.int IntKind.i64 i3, Value.int IntKind.u64 i4]) 24)
  fun n8 =>
  T.ite (decide ((↑n6 : Int) > 16384)) (T.ret (Value.tuple (Array.mk [Value.string (ByteArray.mk (Array.mk [])), Value.int IntKind.i64 3])))
    (T.ldI IntKind.i64 n8 0 fun i9 =>
    T.ldI IntKind.i64 n8 1 fun i10 =>
    T.ldI IntKind.i64 n8 2 fun i11 =>
    T.ldI IntKind.i64 n8 3 fun i12 =>
    T.ldI IntKind.u64 n8 4 fun i13 =>
    T.call 28
    [Value.agg
    (Array.mk
    [Value.int IntKind.i64 i9, Value.int IntKind.i64 i10, Value.int IntKind.i64 i11, Value.int IntKind.i64 i12, Value.int IntKind.u64 i13])]
    fun v14 =>
    T.asT v14 fun s15 =>
    T.req (ByteArray.size s15 + 1 ≤ 9223372036854775807)
    (T.run (convert 9 35 (Value.string (s15 ++ ByteArray.mk (Array.mk [OfNat.ofNat 10])))) fun v16 =>
    T.asS v16 fun o17 n18 n19 =>
    T.loop 0 [Value.slice o17 n18 n19, Value.int IntKind.i64 0] fun l20 j21 =>
    T.asS (List.headD l20 (Value.tuple (Array.mk []))) fun o22 n23 n24 =>
    T.asI IntKind.i64 (List.headD (List.tail l20) (Value.tuple (Array.mk []))) fun i25 =>
    T.ite (decide (i25 < (↑n6 : Int)))
    (T.req (0 ≤ i25 ∧ i25 < (↑n6 : Int))
    (T.sm o5 fun n26 n27 =>
    T.ldI IntKind.i64 n26 (n27 + Int.toNat i25 * 16) fun i28 =>
    T.ldI IntKind.i64 n26 (n27 + Int.toNat i25 * 16 + 1) fun i29 =>
    T.ldI IntKind.i64 n26 (n27 + Int.toNat i25 * 16 + 2) fun i30 =>
    T.ldI IntKind.i64 n26 (n27 + Int.toNat i25 * 16 + 3) fun i31 =>
    T.ldI IntKind.i64 n26 (n27 + Int.toNat i25 * 16 + 4) fun i32 =>
    T.ldS n26 (n27 + Int.toNat i25 * 16 + 5) fun o33 n34 n35 =>
    T.ldS n26 (n27 + Int.toNat i25 * 16 + 6) fun o36 n37 n38 =>
    T.ldS n26 (n27 + Int.toNat i25 * 16 + 7) fun o39 n40 n41 =>
    T.ldS n26 (n27 + Int.toNat i25 * 16 + 8) fun o42 n43 n44 =>
    T.ldS n26 (n27 + Int.toNat i25 * 16 + 9) fun o45 n46 n47 =>
    T.ldI IntKind.i64 n26 (n27 + Int.toNat i25 * 16 + 10) fun i48 =>
    T.ldI IntKind.i64 n26 (n27 + Int.toNat i25 * 16 + 11) fun i49 =>
    T.ldI IntKind.i64 n26 (n27 + Int.toNat i25 * 16 + 12) fun i50 =>
    T.ldI IntKind.u8 n26 (n27 + Int.toNat i25 * 16 + 13) fun i51 =>
    T.ldI IntKind.i64 n26 (n27 + Int.toNat i25 * 16 + 14) fun i52 =>
    T.ldI IntKind.i64 n26 (n27 + Int.toNat i25 * 16 + 15) fun i53 =>
    T.call 29
    [Value.agg
    (Array.mk
    [Value.int IntKind.i64 i28, Value.int IntKind.i64 i29, Value.int IntKind.i64 i30,
    Value.int IntKind.i64 i31, Value.int IntKind.i64 i32, Value.slice o33 n34 n35,
    Value.slice o36 n37 n38, Value.slice o39 n40 n41, Value.slice o42 n43 n44,
    Value.slice o45 n46 n47, Value.int IntKind.i64 i48, Value.int IntKind.i64 i49,
    Value.int IntKind.i64 i50, Value.int IntKind.u8 i51, Value.int IntKind.i64 i52,
    Value.int IntKind.i64 i53])]
    fun v54 =>
    T.asU v54 fun l55 =>
    T.req (List.length l55 = 2)
    (T.asT (List.headD l55 (Value.tuple (Array.mk []))) fun s56 =>
    T.asI IntKind.i64 (List.headD (List.tail l55) (Value.tuple (Array.mk [])))
    fun i57 =>
    T.ite (i57 != 0)
    (T.ret
    (Value.tuple
    (Array.mk
    [Value.string (ByteArray.mk (Array.mk [])), Value.int IntKind.i64 i57])))
    (T.run
    (biV Builtin.append (Array.mk [35, 9]) 35
    (Array.mk [Value.slice o22 n23 n24, Value.string s56]))
    fun v58 =>
    T.asS v58 fun o59 n60 n61 =>
    T.new (Obj.cells (Array.mk [Value.int IntKind.u8 10]) 5) fun n62 =>
    T.run
    (biV Builtin.append (Array.mk [35, 35]) 35
    (Array.mk
    [Value.slice o59 n60 n61,
    Value.slice (some (Addr.mk n62 0 none)) 1 1]))
    fun v63 =>
    T.asS v63 fun o64 n65 n66 =>
    T.next 0
    [Value.slice o64 n65 n66,
    Value.int IntKind.i64 (IntKind.wrap IntKind.i64 (i25 + 1))]
    ([Value.slice o5 n6 n7] = [Value.slice o5 n6 n7] ∧ ([] : List Deferred) = [])))))
    (T.run (convert 35 9 (Value.slice o22 n23 n24)) fun v67 =>
    T.asT v67 fun s68 => T.ret (Value.tuple (Array.mk [Value.string s68, Value.int IntKind.i64 0])))))
theorem e10 (i0 : Int) (i1 : Int) (i2 : Int) (i3 : Int) (i4 : Int) (o5 : Option Addr) (n6 n7 : Nat) : treeOf Tryz.prog Tryz.f10 (codeOf Tryz.f10) (.s .n (.s .n (.s .n (.s (.s .n (.u (.l [(6, .slice), (7, .int .i64)] [1] .n))) .n)))) [.v (.agg #[.int .i64 i0, .int .i64 i1, .int .i64 i2, .int .i64 i3, .int .u64 i4]), .v (.slice o5 n6 n7)] = (t10 i0 i1 i2 i3 i4 o5 n6 n7) := by kernel_rfl
theorem c10 (i0 : Int) (i1 : Int) (i2 : Int) (i3 : Int) (i4 : Int) (o5 : Option Addr) (n6 n7 : Nat) {w : World} {R : Ending → World → Prop} (h : (t10 i0 i1 i2 i3 i4 o5 n6 n7).sem Tryz.prog R ρ0 w) : Calls Tryz.prog 10 #[.agg #[.int .i64 i0, .int .i64 i1, .int .i64 i2, .int .i64 i3, .int .u64 i4], .slice o5 n6 n7] w R :=
  calls_of mixed Tryz.func10 rfl rfl (e10 i0 i1 i2 i3 i4 o5 n6 n7) h
def t7  : T :=
  T.new (Obj.cells (Array.mk [Value.int IntKind.i32 0, Value.int IntKind.i64 5]) 63) fun n0 =>
  T.new
    (Obj.cells
    (Array.mk
    [Value.int IntKind.i64 14, Value.int IntKind.i64 0, Value.int IntKind.i64 0, Value.int IntKind.i64 0, Value.int IntKind.i64 0, Value.slice none 0 0,
    Value.slice none 0 0, Value.slice none 0 0, Value.slice none 0 0, Value.slice none 0 0, Value.int IntKind.i64 0, Value.int IntKind.i64 0,
    Value.int IntKind.i64 0, Value.int IntKind.u8 0, Value.int IntKind.i64 0, Value.int IntKind.i64 0, Value.int IntKind.i64 4, Value.int IntKind.i64 0,
    Value.int IntKind.i64 1, Value.int IntKind.i64 0, Value.int IntKind.i64 0, Value.slice none 0 0, Value.slice none 0 0, Value.slice none 0 0,
    Value.slice none 0 0, Value.slice (some (Addr.mk n0 0 none)) 1 1, Value.int IntKind.i64 0, Value.int IntKind.i64 0, Value.int IntKind.i64 0,
    Value.int IntKind.u8 0, Value.int IntKind.i64 0, Value.int IntKind.i64 0])
    56)
    fun n1 =>
    T.call 9
    [Value.agg
    (Array.mk
    [Value.int IntKind.i64 1, Value.int IntKind.i64 2, Value.int IntKind.i64 9, Value.int IntKind.i64 0, Value.int IntKind.u64 18446744073709551615]),
    Value.slice (some (Addr.mk n1 0 none)) 2 2]
    fun v2 =>
    T.asU v2 fun l3 =>
    T.req (List.length l3 = 2)
    (T.asT (List.headD l3 (Value.tuple (Array.mk []))) fun s4 =>
    T.asI IntKind.i64 (List.headD (List.tail l3) (Value.tuple (Array.mk []))) fun i5 =>
    T.ite (i5 == 0)
    (T.ite
    (ByteArray.toList s4 ==
    ByteArray.toList
    (ByteArray.mk
    (Array.mk
    [OfNat.ofNat 119, OfNat.ofNat 111, OfNat.ofNat 114, OfNat.ofNat 108, OfNat.ofNat 100, OfNat.ofNat 32, OfNat.ofNat 49, OfNat.ofNat 32,
    OfNat.ofNat 50, OfNat.ofNat 32, OfNat.ofNat 57, OfNat.ofNat 32, OfNat.ofNat 48, OfNat.ofNat 32, OfNat.ofNat 49, OfNat.ofNat 56,
    OfNat.ofNat 52, OfNat.ofNat 52, OfNat.ofNat 54, OfNat.ofNat 55, OfNat.ofNat 52, OfNat.ofNat 52, OfNat.ofNat 48, OfNat.ofNat 55,
    OfNat.ofNat 51, OfNat.ofNat 55, OfNat.ofNat 48, OfNat.ofNat 57, OfNat.ofNat 53, OfNat.ofNat 53, OfNat.ofNat 49, OfNat.ofNat 54,
    OfNat.ofNat 49, OfNat.ofNat 53, OfNat.ofNat 10, OfNat.ofNat 97, OfNat.ofNat 108, OfNat.ofNat 108, OfNat.ofNat 10, OfNat.ofNat 113,
    OfNat.ofNat 117, OfNat.ofNat 101, OfNat.ofNat 114, OfNat.ofNat 121, OfNat.ofNat 32, OfNat.ofNat 49, OfNat.ofNat 32, OfNat.ofNat 48,
    OfNat.ofNat 32, OfNat.ofNat 49, OfNat.ofNat 32, OfNat.ofNat 48, OfNat.ofNat 32, OfNat.ofNat 53, OfNat.ofNat 10])))
    (T.new (Obj.cells (Array.mk [Value.int IntKind.u8 1, Value.int IntKind.u8 255]) 5) fun n6 =>
    T.call 12 [Value.slice (some (Addr.mk n6 0 none)) 2 2] fun v7 =>
    T.asT v7 fun s8 =>
    T.ret
    (Value.bool
    (ByteArray.toList s8 ==
    ByteArray.toList (ByteArray.mk (Array.mk [OfNat.ofNat 48, OfNat.ofNat 49, OfNat.ofNat 102, OfNat.ofNat 102])))))
    (T.ret (Value.bool false)))
    (T.ret (Value.bool false)))
theorem e7  : treeOf Tryz.prog Tryz.f7 (codeOf Tryz.f7) .n [] = t7 := by kernel_rfl
theorem c7  {w : World} {R : Ending → World → Prop} (h : t7.sem Tryz.prog R ρ0 w) : Calls Tryz.prog 7 #[] w R :=
  calls_of mixed Tryz.func7 rfl rfl (e7 ) h
end Go.Proofs.YtihipcofjpnfbaaGreatDoor
