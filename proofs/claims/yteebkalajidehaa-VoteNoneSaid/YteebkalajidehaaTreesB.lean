/- The functions' trees, printed by a program (wip/tools/Emit.lean) and checked by the kernel against the model's own code. -/
import Derived.Test.YteebkalajidehaaTrees
import Derived.Test.YteebkalajidehaaProg
namespace Go.Proofs.Yteebkalajidehaa
open Go hiding Expr
open Go.Proofs.Yteebkalajidehaa.Tr
set_option linter.unusedVariables false
set_option maxRecDepth 100000
def t4 (i0 : Int) (i1 : Int) (i2 : Int) (i3 : Int) (o4 : Option Addr) (n5 n6 : Nat) : T :=
  T.new (Obj.cells (Array.mk [Value.int IntKind.i64 i0, Value.int IntKind.i64 i1, Value.int IntKind.i64 i2, Value.int IntKind.i64 i3]) 46) fun n7 =>
  T.ldI IntKind.i64 n7 0 fun i8 =>
    T.ldI IntKind.i64 n7 1 fun i9 =>
    T.ldI IntKind.i64 n7 2 fun i10 =>
    T.ldI IntKind.i64 n7 3 fun i11 =>
    T.call 6 [Value.agg (Array.mk [Value.int IntKind.i64 i8, Value.int IntKind.i64 i9]), Value.int IntKind.i64 i10, Value.int IntKind.i64 i11] fun v12 =>
    T.asU v12 fun l13 =>
    T.req (List.length l13 = 2)
    (T.asP (List.headD l13 (Value.tuple (Array.mk []))) fun o14 =>
    T.asI IntKind.i64 (List.headD (List.tail l13) (Value.tuple (Array.mk []))) fun i15 =>
    T.ldI IntKind.i64 n7 0 fun i16 =>
    T.ldI IntKind.i64 n7 1 fun i17 =>
    T.ldI IntKind.i64 n7 2 fun i18 =>
    T.ldI IntKind.i64 n7 3 fun i19 =>
    T.call 15
    [Value.agg (Array.mk [Value.int IntKind.i64 i16, Value.int IntKind.i64 i17]), Value.int IntKind.i64 i18,
    Value.int IntKind.i64 i19]
    fun v20 =>
    T.asU v20 fun l21 =>
    T.req (List.length l21 = 2)
    (T.asP (List.headD l21 (Value.tuple (Array.mk []))) fun o22 =>
    T.asI IntKind.i64 (List.headD (List.tail l21) (Value.tuple (Array.mk []))) fun i23 =>
    T.call 14 [] fun v24 =>
    T.asB v24 fun b25 =>
    T.ite (!b25) (T.ret (Value.bool false))
    (T.ite (i15 != i23) (T.ret (Value.bool false))
    (T.ite (!(!Option.isNone o14) == (i15 == 0)) (T.ret (Value.bool false))
    (T.ite (i15 != 0) (T.ret (Value.bool true))
    (T.loop 0 [Value.int IntKind.i64 0] fun l26 j27 =>
    T.asI IntKind.i64 (List.headD l26 (Value.tuple (Array.mk []))) fun i28 =>
    T.ite (decide (i28 < (↑n5 : Int)))
    (T.req (0 ≤ i28 ∧ i28 < (↑n5 : Int))
    (T.sm o4 fun n29 n30 =>
    T.ldI IntKind.i64 n29 (n30 + Int.toNat i28 * 10) fun i31 =>
    T.ldI IntKind.i64 n29 (n30 + Int.toNat i28 * 10 + 1) fun i32 =>
    T.ldI IntKind.i64 n29 (n30 + Int.toNat i28 * 10 + 2) fun i33 =>
    T.ldI IntKind.i64 n29 (n30 + Int.toNat i28 * 10 + 3) fun i34 =>
    T.ldI IntKind.i64 n29 (n30 + Int.toNat i28 * 10 + 4) fun i35 =>
    T.ldI IntKind.i64 n29 (n30 + Int.toNat i28 * 10 + 5) fun i36 =>
    T.ldI IntKind.i64 n29 (n30 + Int.toNat i28 * 10 + 6) fun i37 =>
    T.ldI IntKind.i64 n29 (n30 + Int.toNat i28 * 10 + 7) fun i38 =>
    T.ldI IntKind.i64 n29 (n30 + Int.toNat i28 * 10 + 8) fun i39 =>
    T.ldB n29 (n30 + Int.toNat i28 * 10 + 9) fun b40 =>
    T.new
    (Obj.cells
    (Array.mk
    [Value.int IntKind.i64 0, Value.int IntKind.i64 0,
    Value.int IntKind.i64 0, Value.int IntKind.i64 0,
    Value.int IntKind.i64 0, Value.int IntKind.i64 0,
    Value.int IntKind.i64 0, Value.int IntKind.i64 0,
    Value.int IntKind.i64 0, Value.bool false])
    52)
    fun n41 =>
    T.st n41 0 (Value.int IntKind.i64 i31)
    (T.st n41 1 (Value.int IntKind.i64 i32)
    (T.st n41 2 (Value.int IntKind.i64 i33)
    (T.st n41 3 (Value.int IntKind.i64 i34)
    (T.st n41 4 (Value.int IntKind.i64 i35)
    (T.st n41 5 (Value.int IntKind.i64 i36)
    (T.st n41 6 (Value.int IntKind.i64 i37)
    (T.st n41 7 (Value.int IntKind.i64 i38)
    (T.st n41 8 (Value.int IntKind.i64 i39)
    (T.st n41 9 (Value.bool b40)
    (T.drew
    (T.ldI IntKind.i64 n41 0 fun i42 =>
    T.ldI IntKind.i64 n41 1 fun i43 =>
    T.ldI IntKind.i64 n41 2 fun i44 =>
    T.ldI IntKind.i64 n41 3 fun i45 =>
    T.ldI IntKind.i64 n41 4 fun i46 =>
    T.ldI IntKind.i64 n41 5 fun i47 =>
    T.ldI IntKind.i64 n41 6 fun i48 =>
    T.ldI IntKind.i64 n41 7 fun i49 =>
    T.ldI IntKind.i64 n41 8 fun i50 =>
    T.ldB n41 9 fun b51 =>
    T.call 16
    [Value.pointer o14,
    Value.pointer o22,
    Value.agg
    (Array.mk
    [Value.int IntKind.i64 i42,
    Value.int IntKind.i64 i43,
    Value.int IntKind.i64 i44,
    Value.int IntKind.i64 i45,
    Value.int IntKind.i64 i46,
    Value.int IntKind.i64 i47,
    Value.int IntKind.i64 i48,
    Value.int IntKind.i64 i49,
    Value.int IntKind.i64 i50,
    Value.bool b51])]
    fun v52 =>
    T.asB v52 fun b53 =>
    T.chk []
    (T.ite (!b53)
    (T.chk []
    (T.chk []
    (T.chk []
    (T.ret
    (Value.bool
    false)))))
    (T.call 17
    [Value.pointer o14,
    Value.pointer o22]
    fun v54 =>
    T.asB v54 fun b55 =>
    T.chk []
    (T.ite (!b55)
    (T.chk []
    (T.chk []
    (T.ret
    (Value.bool
    false))))
    (T.ldI IntKind.i64
    n41 2 fun i56 =>
    T.ldI IntKind.i64
    n41 3 fun i57 =>
    T.ldI
    IntKind.i64
    n41 4
    fun i58 =>
    T.ldI
    IntKind.i64
    n41 5
    fun i59 =>
    T.ldI
    IntKind.i64
    n41 6
    fun i60 =>
    T.ldI
    IntKind.i64
    n41 7
    fun
    i61 =>
    T.ldI
    IntKind.i64
    n41 2
    fun
    i62 =>
    T.ldI
    IntKind.i64
    n41
    3
    fun
    i63 =>
    T.ldI
    IntKind.i64
    n41
    4
    fun
    i64 =>
    T.ldI
    IntKind.i64
    n41
    5
    fun
    i65 =>
    T.ldI
    IntKind.i64
    n41
    6
    fun
    i66 =>
    T.ldI
    IntKind.i64
    n41
    7
    fun
    i67 =>
    T.call
    11
    [Value.agg
    (Array.mk
    [Value.int
    IntKind.i64
    i56,
    Value.int
    IntKind.i64
    i57,
    Value.int
    IntKind.i64
    i58,
    Value.int
    IntKind.i64
    i59]),
    Value.agg
    (Array.mk
    [Value.int
    IntKind.i64
    0,
    Value.int
    IntKind.i64
    0,
    Value.int
    IntKind.i64
    i60,
    Value.int
    IntKind.i64
    i61])]
    fun
    v68 =>
    T.asB
    v68
    fun
    b69 =>
    T.chk
    [(Addr.mk
    n41
    7
    none,
    Value.int
    IntKind.i64
    i67),
    (Addr.mk
    n41
    6
    none,
    Value.int
    IntKind.i64
    i66),
    (Addr.mk
    n41
    2
    none,
    Value.int
    IntKind.i64
    i62),
    (Addr.mk
    n41
    3
    none,
    Value.int
    IntKind.i64
    i63),
    (Addr.mk
    n41
    4
    none,
    Value.int
    IntKind.i64
    i64),
    (Addr.mk
    n41
    5
    none,
    Value.int
    IntKind.i64
    i65),
    (Addr.mk
    n41
    7
    none,
    Value.int
    IntKind.i64
    i61),
    (Addr.mk
    n41
    6
    none,
    Value.int
    IntKind.i64
    i60)]
    (T.call
    18
    [Value.agg
    (Array.mk
    [Value.int
    IntKind.i64
    i62,
    Value.int
    IntKind.i64
    i63,
    Value.int
    IntKind.i64
    i64,
    Value.int
    IntKind.i64
    i65]),
    Value.agg
    (Array.mk
    [Value.int
    IntKind.i64
    0,
    Value.int
    IntKind.i64
    0,
    Value.int
    IntKind.i64
    i66,
    Value.int
    IntKind.i64
    i67])]
    fun
    v70 =>
    T.asB
    v70
    fun
    b71 =>
    T.chk
    [(Addr.mk
    n41
    7
    none,
    Value.int
    IntKind.i64
    i67),
    (Addr.mk
    n41
    6
    none,
    Value.int
    IntKind.i64
    i66),
    (Addr.mk
    n41
    7
    none,
    Value.int
    IntKind.i64
    i61),
    (Addr.mk
    n41
    6
    none,
    Value.int
    IntKind.i64
    i60)]
    (T.ite
    (!b69 ==
    b71)
    (T.ret
    (Value.bool
    false))
    (T.next
    0
    [Value.int
    IntKind.i64
    (IntKind.wrap
    IntKind.i64
    (i28 +
    1))]
    ([Value.pointer
    o14,
    Value.pointer
    o22,
    Value.slice
    o4
    n5
    n6,
    Value.int
    IntKind.i64
    (↑n5 :
    Int)] =
    [Value.pointer
    o14,
    Value.pointer
    o22,
    Value.slice
    o4
    n5
    n6,
    Value.int
    IntKind.i64
    (↑n5 :
    Int)] ∧ ([] : List Deferred) = [])))))))))))))))))))))
    (T.call 17 [Value.pointer o14, Value.pointer o22] fun v72 =>
    T.asB v72 fun b73 => T.ret (Value.bool b73))))))))
theorem e4 (i0 : Int) (i1 : Int) (i2 : Int) (i3 : Int) (o4 : Option Addr) (n5 n6 : Nat) : treeOf Try.prog Try.f4 (codeOf Try.f4) (.s .n (.s .n (.s .n (.s .n (.s .n (.s (.s .n (.u (.l [(49, .int .i64)] [5, 7, 47, 48] (.s .n (.s .n (.s (.u (.s .n (.s (.p [0, 1, 2, 3, 4, 5, 6, 7, 8, 9, 10, 11, 12, 13, 14, 15, 16, 17, 18, 20, 21, 22, 23, 24, 25, 26, 19, 27, 28, 29]) .n))) .n)))))) .n)))))) [.v (.agg #[.int .i64 i0, .int .i64 i1, .int .i64 i2, .int .i64 i3]), .v (.slice o4 n5 n6)] = (t4 i0 i1 i2 i3 o4 n5 n6) := by kernel_rfl
theorem c4 (i0 : Int) (i1 : Int) (i2 : Int) (i3 : Int) (o4 : Option Addr) (n5 n6 : Nat) {w : World} {R : Ending → World → Prop} (h : (t4 i0 i1 i2 i3 o4 n5 n6).sem Try.prog R ρ0 w) : Calls Try.prog 4 #[.agg #[.int .i64 i0, .int .i64 i1, .int .i64 i2, .int .i64 i3], .slice o4 n5 n6] w R :=
  calls_of mixed Try.func4 rfl rfl (e4 i0 i1 i2 i3 o4 n5 n6) h
def t5 (i0 : Int) (i1 : Int) (i2 : Int) (i3 : Int) (o4 : Option Addr) (n5 n6 : Nat) : T :=
  T.new (Obj.cells (Array.mk [Value.int IntKind.i64 i0, Value.int IntKind.i64 i1, Value.int IntKind.i64 i2, Value.int IntKind.i64 i3]) 46) fun n7 =>
  T.call 14 [] fun v8 =>
    T.asB v8 fun b9 =>
    T.ite (!b9) (T.ret (Value.bool false))
    (T.new
    (Obj.cells (Array.mk [Value.int IntKind.i64 0, Value.int IntKind.i64 0, Value.int IntKind.i64 0, Value.int IntKind.i64 0, Value.int IntKind.u8 0]) 57)
    fun n10 =>
    T.new (Obj.cells (Array.mk [Value.pointer none, Value.pointer (some (Addr.mk n10 0 none))]) 24) fun n11 =>
    T.loop 0 [Value.int IntKind.i64 0] fun l12 j13 =>
    T.asI IntKind.i64 (List.headD l12 (Value.tuple (Array.mk []))) fun i14 =>
    T.ite (decide (i14 < 2))
    (T.req (0 ≤ i14 ∧ i14 < 2)
    (T.sm (some (Addr.mk n11 0 none)) fun n15 n16 =>
    T.ldP n15 (n16 + Int.toNat i14 * 1) fun o17 =>
    T.call 19 [Value.pointer o17] fun v18 =>
    T.asU v18 fun l19 =>
    T.req (List.length l19 = 2)
    (T.asI IntKind.i64 (List.headD l19 (Value.tuple (Array.mk []))) fun i20 =>
    T.asB (List.headD (List.tail l19) (Value.tuple (Array.mk []))) fun b21 =>
    T.call 7 [Value.pointer o17] fun v22 =>
    T.asI IntKind.i64 v22 fun i23 =>
    T.ite (i23 != 0) (T.ret (Value.bool false))
    (T.ite b21 (T.ret (Value.bool false))
    (T.call 20 [Value.pointer o17, Value.int IntKind.i64 5] fun v24 =>
    T.asB v24 fun b25 =>
    T.ite b25 (T.ret (Value.bool false))
    (T.call 10
    [Value.pointer o17,
    Value.agg
    (Array.mk
    [Value.int IntKind.i64 1, Value.int IntKind.i64 5, Value.int IntKind.i64 0, Value.int IntKind.i64 0]),
    Value.int IntKind.i64 0, Value.int IntKind.i64 0]
    fun v26 =>
    T.asB v26 fun b27 =>
    T.ite b27 (T.ret (Value.bool false))
    (T.call 8 [Value.pointer o17] fun v28 =>
    T.asI IntKind.i64 v28 fun i29 =>
    T.ite (i29 != 2) (T.ret (Value.bool false))
    (T.call 9 [Value.pointer o17] fun v30 =>
    T.asB v30 fun b31 =>
    T.ite b31 (T.ret (Value.bool false))
    (T.call 12
    [Value.pointer o17, Value.int IntKind.i64 1, Value.int IntKind.i64 0, Value.bool true]
    fun v32 =>
    T.asB v32 fun b33 =>
    T.ite b33 (T.ret (Value.bool false))
    (T.call 13 [Value.pointer o17] fun v34 =>
    T.asB v34 fun b35 =>
    T.ite b35 (T.ret (Value.bool false))
    (T.call 22 [Value.pointer o17] fun v36 =>
    T.call 21 [v36, Value.slice none 0 0, Value.int IntKind.i64 0] fun v37 =>
    T.asB v37 fun b38 =>
    T.ite (!b38) (T.ret (Value.bool false))
    (T.call 23 [Value.pointer o17] fun v39 =>
    T.asP v39 fun o40 =>
    T.ite (!Option.isNone o40) (T.ret (Value.bool false))
    (T.next 0
    [Value.int IntKind.i64 (IntKind.wrap IntKind.i64 (i14 + 1))]
    ([Value.slice o4 n5 n6, Value.pointer (some (Addr.mk n7 0 none)),
    Value.slice (some (Addr.mk n11 0 none)) 2 2,
    Value.int IntKind.i64 2] =
    [Value.slice o4 n5 n6,
    Value.pointer (some (Addr.mk n7 0 none)),
    Value.slice (some (Addr.mk n11 0 none)) 2 2,
    Value.int IntKind.i64 2] ∧ ([] : List Deferred) = []))))))))))))))
    (T.ldI IntKind.i64 n7 0 fun i41 =>
    T.ldI IntKind.i64 n7 1 fun i42 =>
    T.ldI IntKind.i64 n7 2 fun i43 =>
    T.ldI IntKind.i64 n7 3 fun i44 =>
    T.call 6
    [Value.agg (Array.mk [Value.int IntKind.i64 i41, Value.int IntKind.i64 i42]), Value.int IntKind.i64 i43, Value.int IntKind.i64 i44]
    fun v45 =>
    T.asU v45 fun l46 =>
    T.req (List.length l46 = 2)
    (T.asP (List.headD l46 (Value.tuple (Array.mk []))) fun o47 =>
    T.asI IntKind.i64 (List.headD (List.tail l46) (Value.tuple (Array.mk []))) fun i48 =>
    T.ldI IntKind.i64 n7 0 fun i49 =>
    T.ldI IntKind.i64 n7 1 fun i50 =>
    T.ldI IntKind.i64 n7 2 fun i51 =>
    T.ldI IntKind.i64 n7 3 fun i52 =>
    T.call 15
    [Value.agg (Array.mk [Value.int IntKind.i64 i49, Value.int IntKind.i64 i50]), Value.int IntKind.i64 i51,
    Value.int IntKind.i64 i52]
    fun v53 =>
    T.asU v53 fun l54 =>
    T.req (List.length l54 = 2)
    (T.asP (List.headD l54 (Value.tuple (Array.mk []))) fun o55 =>
    T.asI IntKind.i64 (List.headD (List.tail l54) (Value.tuple (Array.mk []))) fun i56 =>
    T.ite (i48 != 0) (T.ret (Value.bool (i48 == i56)))
    (T.call 23 [Value.pointer o47] fun v57 =>
    T.asP v57 fun o58 =>
    T.call 24 [Value.pointer o55] fun v59 =>
    T.asP v59 fun o60 =>
    T.loop 0 [Value.int IntKind.i64 0] fun l61 j62 =>
    T.asI IntKind.i64 (List.headD l61 (Value.tuple (Array.mk []))) fun i63 =>
    T.ite (decide (i63 < (↑n5 : Int)))
    (T.req (0 ≤ i63 ∧ i63 < (↑n5 : Int))
    (T.sm o4 fun n64 n65 =>
    T.ldI IntKind.i64 n64 (n65 + Int.toNat i63 * 10) fun i66 =>
    T.ldI IntKind.i64 n64 (n65 + Int.toNat i63 * 10 + 1) fun i67 =>
    T.ldI IntKind.i64 n64 (n65 + Int.toNat i63 * 10 + 2) fun i68 =>
    T.ldI IntKind.i64 n64 (n65 + Int.toNat i63 * 10 + 3) fun i69 =>
    T.ldI IntKind.i64 n64 (n65 + Int.toNat i63 * 10 + 4) fun i70 =>
    T.ldI IntKind.i64 n64 (n65 + Int.toNat i63 * 10 + 5) fun i71 =>
    T.ldI IntKind.i64 n64 (n65 + Int.toNat i63 * 10 + 6) fun i72 =>
    T.ldI IntKind.i64 n64 (n65 + Int.toNat i63 * 10 + 7) fun i73 =>
    T.ldI IntKind.i64 n64 (n65 + Int.toNat i63 * 10 + 8) fun i74 =>
    T.ldB n64 (n65 + Int.toNat i63 * 10 + 9) fun b75 =>
    T.new
    (Obj.cells
    (Array.mk
    [Value.int IntKind.i64 0, Value.int IntKind.i64 0,
    Value.int IntKind.i64 0, Value.int IntKind.i64 0,
    Value.int IntKind.i64 0, Value.int IntKind.i64 0,
    Value.int IntKind.i64 0, Value.int IntKind.i64 0,
    Value.int IntKind.i64 0, Value.bool false])
    52)
    fun n76 =>
    T.st n76 0 (Value.int IntKind.i64 i66)
    (T.st n76 1 (Value.int IntKind.i64 i67)
    (T.st n76 2 (Value.int IntKind.i64 i68)
    (T.st n76 3 (Value.int IntKind.i64 i69)
    (T.st n76 4 (Value.int IntKind.i64 i70)
    (T.st n76 5 (Value.int IntKind.i64 i71)
    (T.st n76 6 (Value.int IntKind.i64 i72)
    (T.st n76 7 (Value.int IntKind.i64 i73)
    (T.st n76 8 (Value.int IntKind.i64 i74)
    (T.st n76 9 (Value.bool b75)
    (T.ldI IntKind.i64 n76 0 fun i77 =>
    T.ldI IntKind.i64 n76 1 fun i78 =>
    T.ldI IntKind.i64 n76 2 fun i79 =>
    T.ldI IntKind.i64 n76 3 fun i80 =>
    T.ldI IntKind.i64 n76 4 fun i81 =>
    T.ldI IntKind.i64 n76 5 fun i82 =>
    T.ldI IntKind.i64 n76 6
    fun i83 =>
    T.ldI IntKind.i64 n76 7
    fun i84 =>
    T.ldI IntKind.i64 n76 8
    fun i85 =>
    T.ldB n76 9 fun b86 =>
    T.call 16
    [Value.pointer o58,
    Value.pointer o60,
    Value.agg
    (Array.mk
    [Value.int
    IntKind.i64
    i77,
    Value.int
    IntKind.i64
    i78,
    Value.int
    IntKind.i64
    i79,
    Value.int
    IntKind.i64
    i80,
    Value.int
    IntKind.i64
    i81,
    Value.int
    IntKind.i64
    i82,
    Value.int
    IntKind.i64
    i83,
    Value.int
    IntKind.i64
    i84,
    Value.int
    IntKind.i64
    i85,
    Value.bool
    b86])]
    fun v87 =>
    T.asB v87 fun b88 =>
    T.ite (!b88)
    (T.ret
    (Value.bool
    false))
    (T.next 0
    [Value.int
    IntKind.i64
    (IntKind.wrap
    IntKind.i64
    (i63 +
    1))]
    ([Value.pointer
    o47,
    Value.pointer
    o55,
    Value.pointer
    o58,
    Value.pointer
    o60,
    Value.slice
    o4 n5
    n6,
    Value.int
    IntKind.i64
    (↑n5 :
    Int)] =
    [Value.pointer
    o47,
    Value.pointer
    o55,
    Value.pointer
    o58,
    Value.pointer
    o60,
    Value.slice
    o4 n5
    n6,
    Value.int
    IntKind.i64
    (↑n5 :
    Int)] ∧ ([] : List Deferred) = []))))))))))))))
    (T.call 17 [Value.pointer o47, Value.pointer o55] fun v89 =>
    T.asB v89 fun b90 =>
    T.ite b90
    (T.call 17 [Value.pointer o58, Value.pointer o60] fun v91 =>
    T.asB v91 fun b92 => T.ret (Value.bool b92))
    (T.ret (Value.bool false))))))))
theorem e5 (i0 : Int) (i1 : Int) (i2 : Int) (i3 : Int) (o4 : Option Addr) (n5 n6 : Nat) : treeOf Try.prog Try.f5 (codeOf Try.f5) (.s .n (.s .n (.s (.s .n (.u (.l [(23, .int .i64)] [1, 2, 21, 22] .n))) (.s .n (.s .n (.s .n (.s .n (.s (.s .n (.u (.l [(107, .int .i64)] [9, 11, 13, 14, 105, 106] .n))) .n)))))))) [.v (.agg #[.int .i64 i0, .int .i64 i1, .int .i64 i2, .int .i64 i3]), .v (.slice o4 n5 n6)] = (t5 i0 i1 i2 i3 o4 n5 n6) := by kernel_rfl
theorem c5 (i0 : Int) (i1 : Int) (i2 : Int) (i3 : Int) (o4 : Option Addr) (n5 n6 : Nat) {w : World} {R : Ending → World → Prop} (h : (t5 i0 i1 i2 i3 o4 n5 n6).sem Try.prog R ρ0 w) : Calls Try.prog 5 #[.agg #[.int .i64 i0, .int .i64 i1, .int .i64 i2, .int .i64 i3], .slice o4 n5 n6] w R :=
  calls_of mixed Try.func5 rfl rfl (e5 i0 i1 i2 i3 o4 n5 n6) h
end Go.Proofs.Yteebkalajidehaa
