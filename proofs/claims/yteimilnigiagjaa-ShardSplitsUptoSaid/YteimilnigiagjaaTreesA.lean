/- The functions' trees, printed by a program (wip/tools/Emit.lean) and checked by the kernel against the model's own code. -/
import Derived.Test.YteimilnigiagjaaTreesS
import Derived.Test.YteimilnigiagjaaProg
namespace Go.Proofs.Yteimilnigiagjaa
open Go hiding Expr
open Go.Proofs.Yteimilnigiagjaa.Tr
set_option linter.unusedVariables false
set_option maxRecDepth 100000
def t3 (i0 : Int) (i1 : Int) (i2 : Int) (i3 : Int) (i4 : Int) (i5 : Int) : T :=
  T.new (Obj.cells (Array.mk [Value.int IntKind.i32 i0, Value.int IntKind.i64 i1]) 23) fun n6 =>
  T.new (Obj.cells (Array.mk [Value.int IntKind.i32 i2, Value.int IntKind.i64 i3]) 23) fun n7 =>
    T.new (Obj.cells (Array.mk [Value.int IntKind.i32 i4, Value.int IntKind.i64 i5]) 23) fun n8 =>
    T.blk 0
    (fun l9 j10 =>
    T.call 11 [] fun v11 =>
    T.asB v11 fun b12 =>
    T.ite b12
    (T.ldI IntKind.i32 n6 0 fun i13 =>
    T.ldI IntKind.i64 n6 1 fun i14 =>
    T.ldI IntKind.i32 n7 0 fun i15 =>
    T.ldI IntKind.i64 n7 1 fun i16 =>
    T.call 10
    [Value.agg (Array.mk [Value.int IntKind.i32 i13, Value.int IntKind.i64 i14]),
    Value.agg (Array.mk [Value.int IntKind.i32 i15, Value.int IntKind.i64 i16])]
    fun v17 =>
    T.asI IntKind.i64 v17 fun i18 =>
    T.ite (decide (i18 > 0)) (T.ret (Value.bool true))
    (T.ldI IntKind.i32 n7 0 fun i19 =>
    T.ldI IntKind.i64 n7 1 fun i20 =>
    T.ldI IntKind.i32 n8 0 fun i21 =>
    T.ldI IntKind.i64 n8 1 fun i22 =>
    T.call 10
    [Value.agg (Array.mk [Value.int IntKind.i32 i19, Value.int IntKind.i64 i20]),
    Value.agg (Array.mk [Value.int IntKind.i32 i21, Value.int IntKind.i64 i22])]
    fun v23 =>
    T.asI IntKind.i64 v23 fun i24 =>
    T.ite (decide (i24 > 0)) (T.ret (Value.bool true))
    (T.ldI IntKind.i32 n6 0 fun i25 =>
    T.ldI IntKind.i64 n6 1 fun i26 =>
    T.ldI IntKind.i32 n8 0 fun i27 =>
    T.ldI IntKind.i64 n8 1 fun i28 =>
    T.call 10
    [Value.agg (Array.mk [Value.int IntKind.i32 i25, Value.int IntKind.i64 i26]),
    Value.agg (Array.mk [Value.int IntKind.i32 i27, Value.int IntKind.i64 i28])]
    fun v29 => T.asI IntKind.i64 v29 fun i30 => T.ret (Value.bool (decide (i30 ≤ 0))))))
    (T.ret (Value.bool false)))
    (T.drew
    (T.ldI IntKind.i32 n6 0 fun i31 =>
    T.ldI IntKind.i64 n6 1 fun i32 =>
    T.ldI IntKind.i32 n7 0 fun i33 =>
    T.ldI IntKind.i64 n7 1 fun i34 =>
    T.ldI IntKind.i32 n7 0 fun i35 =>
    T.ldI IntKind.i64 n7 1 fun i36 =>
    T.ldI IntKind.i32 n6 0 fun i37 =>
    T.ldI IntKind.i64 n6 1 fun i38 =>
    T.call 10
    [Value.agg (Array.mk [Value.int IntKind.i32 i31, Value.int IntKind.i64 i32]),
    Value.agg (Array.mk [Value.int IntKind.i32 i33, Value.int IntKind.i64 i34])]
    fun v39 =>
    T.asI IntKind.i64 v39 fun i40 =>
    T.chk
    [(Addr.mk n6 0 none, Value.int IntKind.i32 i37), (Addr.mk n6 1 none, Value.int IntKind.i64 i38),
    (Addr.mk n7 0 none, Value.int IntKind.i32 i35), (Addr.mk n7 1 none, Value.int IntKind.i64 i36)]
    (T.call 10
    [Value.agg (Array.mk [Value.int IntKind.i32 i35, Value.int IntKind.i64 i36]),
    Value.agg (Array.mk [Value.int IntKind.i32 i37, Value.int IntKind.i64 i38])]
    fun v41 =>
    T.asI IntKind.i64 v41 fun i42 =>
    T.chk []
    (T.ite (i40 != IntKind.wrap IntKind.i64 (0 - i42)) (T.chk [] (T.ret (Value.bool false)))
    (T.ldI IntKind.i32 n6 0 fun i43 =>
    T.ldI IntKind.i64 n6 1 fun i44 =>
    T.ldI IntKind.i32 n7 0 fun i45 =>
    T.ldI IntKind.i64 n7 1 fun i46 =>
    T.ldI IntKind.i32 n6 0 fun i47 =>
    T.ldI IntKind.i64 n6 1 fun i48 =>
    T.ldI IntKind.i32 n7 0 fun i49 =>
    T.ldI IntKind.i64 n7 1 fun i50 =>
    T.call 10
    [Value.agg (Array.mk [Value.int IntKind.i32 i43, Value.int IntKind.i64 i44]),
    Value.agg (Array.mk [Value.int IntKind.i32 i45, Value.int IntKind.i64 i46])]
    fun v51 =>
    T.asI IntKind.i64 v51 fun i52 =>
    T.chk
    [(Addr.mk n7 0 none, Value.int IntKind.i32 i49), (Addr.mk n7 1 none, Value.int IntKind.i64 i50),
    (Addr.mk n6 0 none, Value.int IntKind.i32 i47), (Addr.mk n6 1 none, Value.int IntKind.i64 i48)]
    (T.ite (!(i52 == 0) == (i47 == i49 && (i48 == i50 && true))) (T.ret (Value.bool false))
    (T.next 0 []
    ([Value.pointer (some (Addr.mk n6 0 none)), Value.pointer (some (Addr.mk n7 0 none)),
    Value.pointer (some (Addr.mk n8 0 none))] =
    [Value.pointer (some (Addr.mk n6 0 none)), Value.pointer (some (Addr.mk n7 0 none)),
    Value.pointer (some (Addr.mk n8 0 none))] ∧ ([] : List Deferred) = []))))))))
theorem e3 (i0 : Int) (i1 : Int) (i2 : Int) (i3 : Int) (i4 : Int) (i5 : Int) : treeOf Try.prog Try.f3 (codeOf Try.f3) (.s .n (.c [] [3, 4, 5] (.s (.p [0, 1, 3, 4, 2, 5, 6, 7, 8, 9, 10, 13, 14, 15, 11, 12, 16, 17]) .n) .n)) [.v (.agg #[.int .i32 i0, .int .i64 i1]), .v (.agg #[.int .i32 i2, .int .i64 i3]), .v (.agg #[.int .i32 i4, .int .i64 i5])] = (t3 i0 i1 i2 i3 i4 i5) := by kernel_rfl
theorem c3 (i0 : Int) (i1 : Int) (i2 : Int) (i3 : Int) (i4 : Int) (i5 : Int) {w : World} {R : Ending → World → Prop} (h : (t3 i0 i1 i2 i3 i4 i5).sem Try.prog R ρ0 w) : Calls Try.prog 3 #[.agg #[.int .i32 i0, .int .i64 i1], .agg #[.int .i32 i2, .int .i64 i3], .agg #[.int .i32 i4, .int .i64 i5]] w R :=
  calls_of mixed Try.func3 rfl rfl (e3 i0 i1 i2 i3 i4 i5) h
def t5 (i0 : Int) (i1 : Int) (i2 : Int) (i3 : Int) (i4 : Int) : T :=
  T.new (Obj.cells (Array.mk [Value.int IntKind.i32 i0, Value.int IntKind.i64 i1]) 23) fun n5 =>
  T.new (Obj.cells (Array.mk [Value.int IntKind.i32 i2, Value.int IntKind.i64 i3]) 23) fun n6 =>
    T.drew
    (T.call 11 [] fun v7 =>
    T.asB v7 fun b8 =>
    T.chk []
    (T.ite b8
    (T.ldI IntKind.i32 n5 0 fun i9 =>
    T.ldI IntKind.i64 n5 1 fun i10 =>
    T.ldI IntKind.i32 n6 0 fun i11 =>
    T.ldI IntKind.i64 n6 1 fun i12 =>
    T.ldI IntKind.i32 n5 0 fun i13 =>
    T.ldI IntKind.i64 n5 1 fun i14 =>
    T.ldI IntKind.i32 n6 0 fun i15 =>
    T.ldI IntKind.i64 n6 1 fun i16 =>
    T.call 10
    [Value.agg (Array.mk [Value.int IntKind.i32 i9, Value.int IntKind.i64 i10]),
    Value.agg (Array.mk [Value.int IntKind.i32 i11, Value.int IntKind.i64 i12])]
    fun v17 =>
    T.asI IntKind.i64 v17 fun i18 =>
    T.chk
    [(Addr.mk n6 0 none, Value.int IntKind.i32 i15), (Addr.mk n6 1 none, Value.int IntKind.i64 i16),
    (Addr.mk n5 0 none, Value.int IntKind.i32 i13), (Addr.mk n5 1 none, Value.int IntKind.i64 i14)]
    (T.call 14
    [Value.agg (Array.mk [Value.int IntKind.i32 i13, Value.int IntKind.i64 i14]),
    Value.agg (Array.mk [Value.int IntKind.i32 i15, Value.int IntKind.i64 i16])]
    fun v19 =>
    T.asI IntKind.i64 v19 fun i20 =>
    T.chk []
    (T.ite (i18 == i20)
    (T.ldI IntKind.i32 n5 0 fun i21 =>
    T.ldI IntKind.i64 n5 1 fun i22 =>
    T.ldI IntKind.i32 n5 0 fun i23 =>
    T.ldI IntKind.i64 n5 1 fun i24 =>
    T.call 12 [Value.agg (Array.mk [Value.int IntKind.i32 i21, Value.int IntKind.i64 i22])] fun v25 =>
    T.asA v25 fun l26 =>
    T.req (List.length l26 = 12)
    (T.asI IntKind.u8 (List.headD l26 (Value.tuple (Array.mk []))) fun i27 =>
    T.asI IntKind.u8 (List.headD (List.tail l26) (Value.tuple (Array.mk []))) fun i28 =>
    T.asI IntKind.u8 (List.headD (List.tail (List.tail l26)) (Value.tuple (Array.mk []))) fun i29 =>
    T.asI IntKind.u8
    (List.headD (List.tail (List.tail (List.tail l26))) (Value.tuple (Array.mk []))) fun i30 =>
    T.asI IntKind.u8
    (List.headD (List.tail (List.tail (List.tail (List.tail l26)))) (Value.tuple (Array.mk [])))
    fun i31 =>
    T.asI IntKind.u8
    (List.headD (List.tail (List.tail (List.tail (List.tail (List.tail l26)))))
    (Value.tuple (Array.mk [])))
    fun i32 =>
    T.asI IntKind.u8
    (List.headD (List.tail (List.tail (List.tail (List.tail (List.tail (List.tail l26))))))
    (Value.tuple (Array.mk [])))
    fun i33 =>
    T.asI IntKind.u8
    (List.headD
    (List.tail
    (List.tail (List.tail (List.tail (List.tail (List.tail (List.tail l26)))))))
    (Value.tuple (Array.mk [])))
    fun i34 =>
    T.asI IntKind.u8
    (List.headD
    (List.tail
    (List.tail
    (List.tail (List.tail (List.tail (List.tail (List.tail (List.tail l26))))))))
    (Value.tuple (Array.mk [])))
    fun i35 =>
    T.asI IntKind.u8
    (List.headD
    (List.tail
    (List.tail
    (List.tail
    (List.tail
    (List.tail (List.tail (List.tail (List.tail (List.tail l26)))))))))
    (Value.tuple (Array.mk [])))
    fun i36 =>
    T.asI IntKind.u8
    (List.headD
    (List.tail
    (List.tail
    (List.tail
    (List.tail
    (List.tail
    (List.tail (List.tail (List.tail (List.tail (List.tail l26))))))))))
    (Value.tuple (Array.mk [])))
    fun i37 =>
    T.asI IntKind.u8
    (List.headD
    (List.tail
    (List.tail
    (List.tail
    (List.tail
    (List.tail
    (List.tail
    (List.tail
    (List.tail (List.tail (List.tail (List.tail l26)))))))))))
    (Value.tuple (Array.mk [])))
    fun i38 =>
    T.chk
    [(Addr.mk n5 0 none, Value.int IntKind.i32 i23),
    (Addr.mk n5 1 none, Value.int IntKind.i64 i24)]
    (T.call 15
    [Value.agg
    (Array.mk [Value.int IntKind.i32 i23, Value.int IntKind.i64 i24])]
    fun v39 =>
    T.asA v39 fun l40 =>
    T.req (List.length l40 = 12)
    (T.asI IntKind.u8 (List.headD l40 (Value.tuple (Array.mk [])))
    fun i41 =>
    T.asI IntKind.u8
    (List.headD (List.tail l40) (Value.tuple (Array.mk [])))
    fun i42 =>
    T.asI IntKind.u8
    (List.headD (List.tail (List.tail l40))
    (Value.tuple (Array.mk [])))
    fun i43 =>
    T.asI IntKind.u8
    (List.headD (List.tail (List.tail (List.tail l40)))
    (Value.tuple (Array.mk [])))
    fun i44 =>
    T.asI IntKind.u8
    (List.headD
    (List.tail (List.tail (List.tail (List.tail l40))))
    (Value.tuple (Array.mk [])))
    fun i45 =>
    T.asI IntKind.u8
    (List.headD
    (List.tail
    (List.tail (List.tail (List.tail (List.tail l40)))))
    (Value.tuple (Array.mk [])))
    fun i46 =>
    T.asI IntKind.u8
    (List.headD
    (List.tail
    (List.tail
    (List.tail
    (List.tail (List.tail (List.tail l40))))))
    (Value.tuple (Array.mk [])))
    fun i47 =>
    T.asI IntKind.u8
    (List.headD
    (List.tail
    (List.tail
    (List.tail
    (List.tail
    (List.tail (List.tail (List.tail l40)))))))
    (Value.tuple (Array.mk [])))
    fun i48 =>
    T.asI IntKind.u8
    (List.headD
    (List.tail
    (List.tail
    (List.tail
    (List.tail
    (List.tail
    (List.tail
    (List.tail (List.tail l40))))))))
    (Value.tuple (Array.mk [])))
    fun i49 =>
    T.asI IntKind.u8
    (List.headD
    (List.tail
    (List.tail
    (List.tail
    (List.tail
    (List.tail
    (List.tail
    (List.tail
    (List.tail (List.tail l40)))))))))
    (Value.tuple (Array.mk [])))
    fun i50 =>
    T.asI IntKind.u8
    (List.headD
    (List.tail
    (List.tail
    (List.tail
    (List.tail
    (List.tail
    (List.tail
    (List.tail
    (List.tail
    (List.tail
    (List.tail l40))))))))))
    (Value.tuple (Array.mk [])))
    fun i51 =>
    T.asI IntKind.u8
    (List.headD
    (List.tail
    (List.tail
    (List.tail
    (List.tail
    (List.tail
    (List.tail
    (List.tail
    (List.tail
    (List.tail
    (List.tail
    (List.tail
    l40)))))))))))
    (Value.tuple (Array.mk [])))
    fun i52 =>
    T.chk []
    (T.ite
    (i27 == i41 &&
    (i28 == i42 &&
    (i29 == i43 &&
    (i30 == i44 &&
    (i31 == i45 &&
    (i32 == i46 &&
    (i33 == i47 &&
    (i34 == i48 &&
    (i35 == i49 &&
    (i36 == i50 &&
    (i37 == i51 &&
    (i38 == i52 &&
    true))))))))))))
    (T.ldI IntKind.i32 n5 0 fun i53 =>
    T.ldI IntKind.i64 n5 1 fun i54 =>
    T.ldI IntKind.i32 n5 0 fun i55 =>
    T.ldI IntKind.i64 n5 1 fun i56 =>
    T.call 16
    [Value.agg
    (Array.mk
    [Value.int IntKind.i32
    i53,
    Value.int IntKind.i64
    i54])]
    fun v57 =>
    T.asI IntKind.u64 v57 fun i58 =>
    T.chk
    [(Addr.mk n5 0 none,
    Value.int IntKind.i32
    i55),
    (Addr.mk n5 1 none,
    Value.int IntKind.i64
    i56)]
    (T.call 17
    [Value.agg
    (Array.mk
    [Value.int
    IntKind.i32 i55,
    Value.int
    IntKind.i64
    i56])]
    fun v59 =>
    T.asI IntKind.u64 v59
    fun i60 =>
    T.chk []
    (T.ite (i58 == i60)
    (T.ldI IntKind.i32
    n5 0 fun i61 =>
    T.ldI IntKind.i64
    n5 1 fun i62 =>
    T.ldI
    IntKind.i32 n5
    0 fun i63 =>
    T.ldI
    IntKind.i64
    n5 1
    fun i64 =>
    T.call 18
    [Value.agg
    (Array.mk
    [Value.int
    IntKind.i32
    i61,
    Value.int
    IntKind.i64
    i62]),
    Value.int
    IntKind.i64
    i4]
    fun v65 =>
    T.asI
    IntKind.i64
    v65
    fun
    i66 =>
    T.chk
    [(Addr.mk
    n5
    0
    none,
    Value.int
    IntKind.i32
    i63),
    (Addr.mk
    n5
    1
    none,
    Value.int
    IntKind.i64
    i64)]
    (T.call
    19
    [Value.agg
    (Array.mk
    [Value.int
    IntKind.i32
    i63,
    Value.int
    IntKind.i64
    i64]),
    Value.int
    IntKind.i64
    i4]
    fun
    v67 =>
    T.asI
    IntKind.i64
    v67
    fun
    i68 =>
    T.chk
    []
    (T.ret
    (Value.bool
    (i66 ==
    i68)))))
    (T.chk []
    (T.chk []
    (T.ret
    (Value.bool
    false)))))))
    (T.chk []
    (T.chk []
    (T.chk []
    (T.chk []
    (T.ret
    (Value.bool false)))))))))))
    (T.chk [] (T.chk [] (T.chk [] (T.chk [] (T.chk [] (T.chk [] (T.ret (Value.bool false)))))))))))
    (T.chk [] (T.chk [] (T.chk [] (T.chk [] (T.chk [] (T.chk [] (T.chk [] (T.chk [] (T.ret (Value.bool false))))))))))))
theorem e5 (i0 : Int) (i1 : Int) (i2 : Int) (i3 : Int) (i4 : Int) : treeOf Try.prog Try.f5 (codeOf Try.f5) (.s .n (.s (.p [0, 1, 2, 3, 5, 6, 4, 7, 8, 9, 10, 11, 13, 12, 14, 15, 16, 17, 18, 20, 19, 21, 22, 23, 24, 25, 26, 28, 29, 27, 30, 31, 32, 33]) .n)) [.v (.agg #[.int .i32 i0, .int .i64 i1]), .v (.agg #[.int .i32 i2, .int .i64 i3]), .v (.int .i64 i4)] = (t5 i0 i1 i2 i3 i4) := by kernel_rfl
theorem c5 (i0 : Int) (i1 : Int) (i2 : Int) (i3 : Int) (i4 : Int) {w : World} {R : Ending → World → Prop} (h : (t5 i0 i1 i2 i3 i4).sem Try.prog R ρ0 w) : Calls Try.prog 5 #[.agg #[.int .i32 i0, .int .i64 i1], .agg #[.int .i32 i2, .int .i64 i3], .int .i64 i4] w R :=
  calls_of mixed Try.func5 rfl rfl (e5 i0 i1 i2 i3 i4) h
def t11  : T :=
  T.call 12 [Value.agg (Array.mk [Value.int IntKind.i32 0, Value.int IntKind.i64 0])] fun v0 =>
  T.asA v0 fun l1 =>
    T.req (List.length l1 = 12)
    (T.asI IntKind.u8 (List.headD l1 (Value.tuple (Array.mk []))) fun i2 =>
    T.asI IntKind.u8 (List.headD (List.tail l1) (Value.tuple (Array.mk []))) fun i3 =>
    T.asI IntKind.u8 (List.headD (List.tail (List.tail l1)) (Value.tuple (Array.mk []))) fun i4 =>
    T.asI IntKind.u8 (List.headD (List.tail (List.tail (List.tail l1))) (Value.tuple (Array.mk []))) fun i5 =>
    T.asI IntKind.u8 (List.headD (List.tail (List.tail (List.tail (List.tail l1)))) (Value.tuple (Array.mk []))) fun i6 =>
    T.asI IntKind.u8 (List.headD (List.tail (List.tail (List.tail (List.tail (List.tail l1))))) (Value.tuple (Array.mk []))) fun i7 =>
    T.asI IntKind.u8 (List.headD (List.tail (List.tail (List.tail (List.tail (List.tail (List.tail l1)))))) (Value.tuple (Array.mk []))) fun i8 =>
    T.asI IntKind.u8
    (List.headD (List.tail (List.tail (List.tail (List.tail (List.tail (List.tail (List.tail l1))))))) (Value.tuple (Array.mk []))) fun i9 =>
    T.asI IntKind.u8
    (List.headD (List.tail (List.tail (List.tail (List.tail (List.tail (List.tail (List.tail (List.tail l1))))))))
    (Value.tuple (Array.mk [])))
    fun i10 =>
    T.asI IntKind.u8
    (List.headD (List.tail (List.tail (List.tail (List.tail (List.tail (List.tail (List.tail (List.tail (List.tail l1)))))))))
    (Value.tuple (Array.mk [])))
    fun i11 =>
    T.asI IntKind.u8
    (List.headD
    (List.tail (List.tail (List.tail (List.tail (List.tail (List.tail (List.tail (List.tail (List.tail (List.tail l1))))))))))
    (Value.tuple (Array.mk [])))
    fun i12 =>
    T.asI IntKind.u8
    (List.headD
    (List.tail
    (List.tail (List.tail (List.tail (List.tail (List.tail (List.tail (List.tail (List.tail (List.tail (List.tail l1)))))))))))
    (Value.tuple (Array.mk [])))
    fun i13 =>
    T.new
    (Obj.cells
    (Array.mk
    [Value.int IntKind.u8 0, Value.int IntKind.u8 0, Value.int IntKind.u8 0, Value.int IntKind.u8 0, Value.int IntKind.u8 0,
    Value.int IntKind.u8 0, Value.int IntKind.u8 0, Value.int IntKind.u8 0, Value.int IntKind.u8 0, Value.int IntKind.u8 0,
    Value.int IntKind.u8 0, Value.int IntKind.u8 0])
    27)
    fun n14 =>
    T.st n14 0 (Value.int IntKind.u8 i2)
    (T.st n14 1 (Value.int IntKind.u8 i3)
    (T.st n14 2 (Value.int IntKind.u8 i4)
    (T.st n14 3 (Value.int IntKind.u8 i5)
    (T.st n14 4 (Value.int IntKind.u8 i6)
    (T.st n14 5 (Value.int IntKind.u8 i7)
    (T.st n14 6 (Value.int IntKind.u8 i8)
    (T.st n14 7 (Value.int IntKind.u8 i9)
    (T.st n14 8 (Value.int IntKind.u8 i10)
    (T.st n14 9 (Value.int IntKind.u8 i11)
    (T.st n14 10 (Value.int IntKind.u8 i12)
    (T.st n14 11 (Value.int IntKind.u8 i13)
    (T.new
    (Obj.cells
    (Array.mk
    [Value.int IntKind.i32 0, Value.int IntKind.i64 2, Value.int IntKind.i32 0,
    Value.int IntKind.i64 1, Value.int IntKind.i32 0, Value.int IntKind.i64 2])
    23)
    fun n15 =>
    T.call 23 [Value.slice (some (Addr.mk n15 0 none)) 3 3] fun v16 =>
    T.asS v16 fun o17 n18 n19 =>
    T.req ((0 : Int) ≤ 0 ∧ (0 : Int) < 12)
    (T.ldI IntKind.u8 n14 0 fun i20 =>
    T.ite (i20 == 128)
    (T.req ((0 : Int) ≤ 4 ∧ (4 : Int) < 12)
    (T.ldI IntKind.u8 n14 4 fun i21 =>
    T.ite (i21 == 128)
    (T.req ((0 : Int) ≤ 11 ∧ (11 : Int) < 12)
    (T.ldI IntKind.u8 n14 11 fun i22 =>
    T.ite (i22 == 0)
    (T.ite ((↑n18 : Int) == 2)
    (T.req ((0 : Int) ≤ 0 ∧ (0 : Int) < (↑n18 : Int))
    (T.sm o17 fun n23 n24 =>
    T.ldI IntKind.i64 n23 (n24 + 1) fun i25 =>
    T.ite (i25 == 1)
    (T.call 21
    [Value.slice o17 n18 n19,
    Value.agg
    (Array.mk [Value.int IntKind.i32 0, Value.int IntKind.i64 2])]
    fun v26 => T.asB v26 fun b27 => T.ret (Value.bool b27))
    (T.ret (Value.bool false))))
    (T.ret (Value.bool false)))
    (T.ret (Value.bool false))))
    (T.ret (Value.bool false))))
    (T.ret (Value.bool false))))))))))))))))
theorem e11  : treeOf Try.prog Try.f11 (codeOf Try.f11) .n [] = t11 := by kernel_rfl
theorem c11  {w : World} {R : Ending → World → Prop} (h : t11.sem Try.prog R ρ0 w) : Calls Try.prog 11 #[] w R :=
  calls_of mixed Try.func11 rfl rfl (e11 ) h
def t12 (i0 : Int) (i1 : Int) : T :=
  T.new (Obj.cells (Array.mk [Value.int IntKind.i32 i0, Value.int IntKind.i64 i1]) 23) fun n2 =>
  T.new
    (Obj.cells
    (Array.mk
    [Value.int IntKind.u8 0, Value.int IntKind.u8 0, Value.int IntKind.u8 0, Value.int IntKind.u8 0, Value.int IntKind.u8 0, Value.int IntKind.u8 0,
    Value.int IntKind.u8 0, Value.int IntKind.u8 0, Value.int IntKind.u8 0, Value.int IntKind.u8 0, Value.int IntKind.u8 0, Value.int IntKind.u8 0])
    27)
    fun n3 =>
    T.new
    (Obj.cells
    (Array.mk
    [Value.int IntKind.u8 0, Value.int IntKind.u8 0, Value.int IntKind.u8 0, Value.int IntKind.u8 0, Value.int IntKind.u8 0, Value.int IntKind.u8 0,
    Value.int IntKind.u8 0, Value.int IntKind.u8 0, Value.int IntKind.u8 0, Value.int IntKind.u8 0, Value.int IntKind.u8 0, Value.int IntKind.u8 0])
    27)
    fun n4 =>
    T.drew
    (T.ldI IntKind.i32 n2 0 fun i5 =>
    T.ldI IntKind.i64 n2 1 fun i6 =>
    T.loop 0 [Value.int IntKind.i64 0] fun l7 j8 =>
    T.asI IntKind.i64 (List.headD l7 (Value.tuple (Array.mk []))) fun i9 =>
    T.ite (decide (i9 < 4))
    (T.req (0 ≤ IntKind.wrap IntKind.i64 (24 - IntKind.wrap IntKind.i64 (8 * i9)))
    (T.req (0 ≤ i9 ∧ i9 < 12)
    (T.st n4 (0 + Int.toNat i9 * 1)
    (Value.int IntKind.u8
    (IntKind.wrap IntKind.u8
    (shrI IntKind.u32 (bitsI BinOp.xor IntKind.u32 (IntKind.wrap IntKind.u32 i5) 2147483648)
    (IntKind.wrap IntKind.i64 (24 - IntKind.wrap IntKind.i64 (8 * i9))))))
    (T.next 0 [Value.int IntKind.i64 (IntKind.wrap IntKind.i64 (i9 + 1))]
    ([Value.pointer (some (Addr.mk n3 0 none)), Value.pointer (some (Addr.mk n4 0 none)),
    Value.int IntKind.u32 (bitsI BinOp.xor IntKind.u32 (IntKind.wrap IntKind.u32 i5) 2147483648),
    Value.int IntKind.u64 (bitsI BinOp.xor IntKind.u64 (IntKind.wrap IntKind.u64 i6) 9223372036854775808)] =
    [Value.pointer (some (Addr.mk n3 0 none)), Value.pointer (some (Addr.mk n4 0 none)),
    Value.int IntKind.u32 (bitsI BinOp.xor IntKind.u32 (IntKind.wrap IntKind.u32 i5) 2147483648),
    Value.int IntKind.u64 (bitsI BinOp.xor IntKind.u64 (IntKind.wrap IntKind.u64 i6) 9223372036854775808)] ∧ ([] : List Deferred) = [])))))
    (T.loop 0 [Value.int IntKind.i64 0] fun l10 j11 =>
    T.asI IntKind.i64 (List.headD l10 (Value.tuple (Array.mk []))) fun i12 =>
    T.ite (decide (i12 < 8))
    (T.req (0 ≤ IntKind.wrap IntKind.i64 (56 - IntKind.wrap IntKind.i64 (8 * i12)))
    (T.req (0 ≤ IntKind.wrap IntKind.i64 (4 + i12) ∧ IntKind.wrap IntKind.i64 (4 + i12) < 12)
    (T.st n4 (0 + Int.toNat (IntKind.wrap IntKind.i64 (4 + i12)) * 1)
    (Value.int IntKind.u8
    (IntKind.wrap IntKind.u8
    (shrI IntKind.u64 (bitsI BinOp.xor IntKind.u64 (IntKind.wrap IntKind.u64 i6) 9223372036854775808)
    (IntKind.wrap IntKind.i64 (56 - IntKind.wrap IntKind.i64 (8 * i12))))))
    (T.next 0 [Value.int IntKind.i64 (IntKind.wrap IntKind.i64 (i12 + 1))]
    ([Value.pointer (some (Addr.mk n3 0 none)), Value.pointer (some (Addr.mk n4 0 none)),
    Value.int IntKind.u64 (bitsI BinOp.xor IntKind.u64 (IntKind.wrap IntKind.u64 i6) 9223372036854775808)] =
    [Value.pointer (some (Addr.mk n3 0 none)), Value.pointer (some (Addr.mk n4 0 none)),
    Value.int IntKind.u64 (bitsI BinOp.xor IntKind.u64 (IntKind.wrap IntKind.u64 i6) 9223372036854775808)] ∧ ([] : List Deferred) = [])))))
    (T.ldI IntKind.u8 n4 0 fun i13 =>
    T.ldI IntKind.u8 n4 1 fun i14 =>
    T.ldI IntKind.u8 n4 2 fun i15 =>
    T.ldI IntKind.u8 n4 3 fun i16 =>
    T.ldI IntKind.u8 n4 4 fun i17 =>
    T.ldI IntKind.u8 n4 5 fun i18 =>
    T.ldI IntKind.u8 n4 6 fun i19 =>
    T.ldI IntKind.u8 n4 7 fun i20 =>
    T.ldI IntKind.u8 n4 8 fun i21 =>
    T.ldI IntKind.u8 n4 9 fun i22 =>
    T.ldI IntKind.u8 n4 10 fun i23 =>
    T.ldI IntKind.u8 n4 11 fun i24 =>
    T.st n3 0 (Value.int IntKind.u8 i13)
    (T.st n3 1 (Value.int IntKind.u8 i14)
    (T.st n3 2 (Value.int IntKind.u8 i15)
    (T.st n3 3 (Value.int IntKind.u8 i16)
    (T.st n3 4 (Value.int IntKind.u8 i17)
    (T.st n3 5 (Value.int IntKind.u8 i18)
    (T.st n3 6 (Value.int IntKind.u8 i19)
    (T.st n3 7 (Value.int IntKind.u8 i20)
    (T.st n3 8 (Value.int IntKind.u8 i21)
    (T.st n3 9 (Value.int IntKind.u8 i22)
    (T.st n3 10 (Value.int IntKind.u8 i23)
    (T.st n3 11 (Value.int IntKind.u8 i24)
    (T.ldI IntKind.u8 n3 0 fun i25 =>
    T.ldI IntKind.u8 n3 1 fun i26 =>
    T.ldI IntKind.u8 n3 2 fun i27 =>
    T.ldI IntKind.u8 n3 3 fun i28 =>
    T.ldI IntKind.u8 n3 4 fun i29 =>
    T.ldI IntKind.u8 n3 5 fun i30 =>
    T.ldI IntKind.u8 n3 6 fun i31 =>
    T.ldI IntKind.u8 n3 7 fun i32 =>
    T.ldI IntKind.u8 n3 8 fun i33 =>
    T.ldI IntKind.u8 n3 9 fun i34 =>
    T.ldI IntKind.u8 n3 10 fun i35 =>
    T.ldI IntKind.u8 n3 11 fun i36 =>
    T.ret
    (Value.agg
    (Array.mk
    [Value.int IntKind.u8 i25, Value.int IntKind.u8 i26,
    Value.int IntKind.u8 i27, Value.int IntKind.u8 i28,
    Value.int IntKind.u8 i29, Value.int IntKind.u8 i30,
    Value.int IntKind.u8 i31, Value.int IntKind.u8 i32,
    Value.int IntKind.u8 i33, Value.int IntKind.u8 i34,
    Value.int IntKind.u8 i35,
    Value.int IntKind.u8 i36])))))))))))))))))
theorem e12 (i0 : Int) (i1 : Int) : treeOf Try.prog Try.f12 (codeOf Try.f12) (.s .n (.s .n (.s (.p [0, 1, 2, 3, 4, 5, 6, 7, 8, 9]) (.s (.s .n (.u (.l [(16, .int .i64)] [2, 3, 4, 5] .n))) (.s (.s .n (.u (.l [(28, .int .i64)] [2, 3, 5] .n))) .n))))) [.v (.agg #[.int .i32 i0, .int .i64 i1])] = (t12 i0 i1) := by kernel_rfl
theorem c12 (i0 : Int) (i1 : Int) {w : World} {R : Ending → World → Prop} (h : (t12 i0 i1).sem Try.prog R ρ0 w) : Calls Try.prog 12 #[.agg #[.int .i32 i0, .int .i64 i1]] w R :=
  calls_of mixed Try.func12 rfl rfl (e12 i0 i1) h
def t13 (i0 : Int) (i1 : Int) (i2 : Int) (i3 : Int) (i4 : Int) (i5 : Int) (i6 : Int) (i7 : Int) (i8 : Int) (i9 : Int) (i10 : Int) (i11 : Int) : T :=
  T.new
  (Obj.cells
    (Array.mk
    [Value.int IntKind.u8 i0, Value.int IntKind.u8 i1, Value.int IntKind.u8 i2, Value.int IntKind.u8 i3, Value.int IntKind.u8 i4, Value.int IntKind.u8 i5,
    Value.int IntKind.u8 i6, Value.int IntKind.u8 i7, Value.int IntKind.u8 i8, Value.int IntKind.u8 i9, Value.int IntKind.u8 i10, Value.int IntKind.u8 i11])
    27)
  fun n12 =>
  T.new (Obj.cells (Array.mk [Value.int IntKind.i32 0, Value.int IntKind.i64 0]) 23) fun n13 =>
    T.ldI IntKind.u8 n12 0 fun i14 =>
    T.ldI IntKind.u8 n12 1 fun i15 =>
    T.ldI IntKind.u8 n12 2 fun i16 =>
    T.ldI IntKind.u8 n12 3 fun i17 =>
    T.ldI IntKind.u8 n12 4 fun i18 =>
    T.ldI IntKind.u8 n12 5 fun i19 =>
    T.ldI IntKind.u8 n12 6 fun i20 =>
    T.ldI IntKind.u8 n12 7 fun i21 =>
    T.ldI IntKind.u8 n12 8 fun i22 =>
    T.ldI IntKind.u8 n12 9 fun i23 =>
    T.ldI IntKind.u8 n12 10 fun i24 =>
    T.ldI IntKind.u8 n12 11 fun i25 =>
    T.loop 0 [Value.int IntKind.u32 0, Value.int IntKind.u64 0, Value.int IntKind.i64 0] fun l26 j27 =>
    T.asI IntKind.u32 (List.headD l26 (Value.tuple (Array.mk []))) fun i28 =>
    T.asI IntKind.u64 (List.headD (List.tail l26) (Value.tuple (Array.mk []))) fun i29 =>
    T.asI IntKind.i64 (List.headD (List.tail (List.tail l26)) (Value.tuple (Array.mk []))) fun i30 =>
    T.ite (decide (i30 < 12))
    (T.req
    (0 ≤ i30 ∧
    i30 < 12 ∧
    Int.toNat i30 <
    Array.size
    (Array.mk
    [Value.int IntKind.u8 i14, Value.int IntKind.u8 i15, Value.int IntKind.u8 i16, Value.int IntKind.u8 i17,
    Value.int IntKind.u8 i18, Value.int IntKind.u8 i19, Value.int IntKind.u8 i20, Value.int IntKind.u8 i21,
    Value.int IntKind.u8 i22, Value.int IntKind.u8 i23, Value.int IntKind.u8 i24, Value.int IntKind.u8 i25]))
    (T.asI IntKind.u8
    (Array.getD
    (Array.mk
    [Value.int IntKind.u8 i14, Value.int IntKind.u8 i15, Value.int IntKind.u8 i16, Value.int IntKind.u8 i17,
    Value.int IntKind.u8 i18, Value.int IntKind.u8 i19, Value.int IntKind.u8 i20, Value.int IntKind.u8 i21,
    Value.int IntKind.u8 i22, Value.int IntKind.u8 i23, Value.int IntKind.u8 i24, Value.int IntKind.u8 i25])
    (Int.toNat i30) (Value.tuple (Array.mk [])))
    fun i31 =>
    T.ite (decide (i30 < 4))
    (T.req ((0 : Int) ≤ 8)
    (T.next 0
    [Value.int IntKind.u32 (bitsI BinOp.or IntKind.u32 (shlI IntKind.u32 i28 8) (IntKind.wrap IntKind.u32 i31)),
    Value.int IntKind.u64 i29, Value.int IntKind.i64 (IntKind.wrap IntKind.i64 (i30 + 1))]
    ([Value.pointer (some (Addr.mk n13 0 none)),
    Value.agg
    (Array.mk
    [Value.int IntKind.u8 i14, Value.int IntKind.u8 i15, Value.int IntKind.u8 i16,
    Value.int IntKind.u8 i17, Value.int IntKind.u8 i18, Value.int IntKind.u8 i19,
    Value.int IntKind.u8 i20, Value.int IntKind.u8 i21, Value.int IntKind.u8 i22,
    Value.int IntKind.u8 i23, Value.int IntKind.u8 i24, Value.int IntKind.u8 i25])] =
    [Value.pointer (some (Addr.mk n13 0 none)),
    Value.agg
    (Array.mk
    [Value.int IntKind.u8 i14, Value.int IntKind.u8 i15, Value.int IntKind.u8 i16,
    Value.int IntKind.u8 i17, Value.int IntKind.u8 i18, Value.int IntKind.u8 i19,
    Value.int IntKind.u8 i20, Value.int IntKind.u8 i21, Value.int IntKind.u8 i22,
    Value.int IntKind.u8 i23, Value.int IntKind.u8 i24, Value.int IntKind.u8 i25])] ∧ ([] : List Deferred) = [])))
    (T.req ((0 : Int) ≤ 8)
    (T.next 0
    [Value.int IntKind.u32 i28,
    Value.int IntKind.u64 (bitsI BinOp.or IntKind.u64 (shlI IntKind.u64 i29 8) (IntKind.wrap IntKind.u64 i31)),
    Value.int IntKind.i64 (IntKind.wrap IntKind.i64 (i30 + 1))]
    ([Value.pointer (some (Addr.mk n13 0 none)),
    Value.agg
    (Array.mk
    [Value.int IntKind.u8 i14, Value.int IntKind.u8 i15, Value.int IntKind.u8 i16,
    Value.int IntKind.u8 i17, Value.int IntKind.u8 i18, Value.int IntKind.u8 i19,
    Value.int IntKind.u8 i20, Value.int IntKind.u8 i21, Value.int IntKind.u8 i22,
    Value.int IntKind.u8 i23, Value.int IntKind.u8 i24, Value.int IntKind.u8 i25])] =
    [Value.pointer (some (Addr.mk n13 0 none)),
    Value.agg
    (Array.mk
    [Value.int IntKind.u8 i14, Value.int IntKind.u8 i15, Value.int IntKind.u8 i16,
    Value.int IntKind.u8 i17, Value.int IntKind.u8 i18, Value.int IntKind.u8 i19,
    Value.int IntKind.u8 i20, Value.int IntKind.u8 i21, Value.int IntKind.u8 i22,
    Value.int IntKind.u8 i23, Value.int IntKind.u8 i24, Value.int IntKind.u8 i25])] ∧ ([] : List Deferred) = [])))))
    (T.st n13 0 (Value.int IntKind.i32 (IntKind.wrap IntKind.i32 (bitsI BinOp.xor IntKind.u32 i28 2147483648)))
    (T.st n13 1 (Value.int IntKind.i64 (IntKind.wrap IntKind.i64 (bitsI BinOp.xor IntKind.u64 i29 9223372036854775808)))
    (T.ldI IntKind.i32 n13 0 fun i32 =>
    T.ldI IntKind.i64 n13 1 fun i33 =>
    T.ret (Value.agg (Array.mk [Value.int IntKind.i32 i32, Value.int IntKind.i64 i33])))))
theorem e13 (i0 : Int) (i1 : Int) (i2 : Int) (i3 : Int) (i4 : Int) (i5 : Int) (i6 : Int) (i7 : Int) (i8 : Int) (i9 : Int) (i10 : Int) (i11 : Int) : treeOf Try.prog Try.f13 (codeOf Try.f13) (.s .n (.s .n (.s .n (.s (.s .n (.u (.l [(3, .int .u32), (4, .int .u64), (8, .int .i64)] [2, 7] .n))) .n)))) [.v (.agg #[.int .u8 i0, .int .u8 i1, .int .u8 i2, .int .u8 i3, .int .u8 i4, .int .u8 i5, .int .u8 i6, .int .u8 i7, .int .u8 i8, .int .u8 i9, .int .u8 i10, .int .u8 i11])] = (t13 i0 i1 i2 i3 i4 i5 i6 i7 i8 i9 i10 i11) := by kernel_rfl
theorem c13 (i0 : Int) (i1 : Int) (i2 : Int) (i3 : Int) (i4 : Int) (i5 : Int) (i6 : Int) (i7 : Int) (i8 : Int) (i9 : Int) (i10 : Int) (i11 : Int) {w : World} {R : Ending → World → Prop} (h : (t13 i0 i1 i2 i3 i4 i5 i6 i7 i8 i9 i10 i11).sem Try.prog R ρ0 w) : Calls Try.prog 13 #[.agg #[.int .u8 i0, .int .u8 i1, .int .u8 i2, .int .u8 i3, .int .u8 i4, .int .u8 i5, .int .u8 i6, .int .u8 i7, .int .u8 i8, .int .u8 i9, .int .u8 i10, .int .u8 i11]] w R :=
  calls_of mixed Try.func13 rfl rfl (e13 i0 i1 i2 i3 i4 i5 i6 i7 i8 i9 i10 i11) h
def t14 (i0 : Int) (i1 : Int) (i2 : Int) (i3 : Int) : T :=
  T.new (Obj.cells (Array.mk [Value.int IntKind.i32 i0, Value.int IntKind.i64 i1]) 23) fun n4 =>
  T.new (Obj.cells (Array.mk [Value.int IntKind.i32 i2, Value.int IntKind.i64 i3]) 23) fun n5 =>
    T.ldI IntKind.i32 n4 0 fun i6 =>
    T.ldI IntKind.i32 n5 0 fun i7 =>
    T.ite (decide (i6 < i7)) (T.ret (Value.int IntKind.i64 (-1)))
    (T.ldI IntKind.i32 n4 0 fun i8 =>
    T.ldI IntKind.i32 n5 0 fun i9 =>
    T.ite (i8 == i9)
    (T.ldI IntKind.i64 n4 1 fun i10 =>
    T.ldI IntKind.i64 n5 1 fun i11 =>
    T.ite (decide (i10 < i11)) (T.ret (Value.int IntKind.i64 (-1)))
    (T.ldI IntKind.i32 n4 0 fun i12 =>
    T.ldI IntKind.i64 n4 1 fun i13 =>
    T.ldI IntKind.i32 n5 0 fun i14 =>
    T.ldI IntKind.i64 n5 1 fun i15 =>
    T.ite (i12 == i14 && (i13 == i15 && true)) (T.ret (Value.int IntKind.i64 0)) (T.ret (Value.int IntKind.i64 1))))
    (T.ldI IntKind.i32 n4 0 fun i16 =>
    T.ldI IntKind.i64 n4 1 fun i17 =>
    T.ldI IntKind.i32 n5 0 fun i18 =>
    T.ldI IntKind.i64 n5 1 fun i19 =>
    T.ite (i16 == i18 && (i17 == i19 && true)) (T.ret (Value.int IntKind.i64 0)) (T.ret (Value.int IntKind.i64 1))))
theorem e14 (i0 : Int) (i1 : Int) (i2 : Int) (i3 : Int) : treeOf Try.prog Try.f14 (codeOf Try.f14) .n [.v (.agg #[.int .i32 i0, .int .i64 i1]), .v (.agg #[.int .i32 i2, .int .i64 i3])] = (t14 i0 i1 i2 i3) := by kernel_rfl
theorem c14 (i0 : Int) (i1 : Int) (i2 : Int) (i3 : Int) {w : World} {R : Ending → World → Prop} (h : (t14 i0 i1 i2 i3).sem Try.prog R ρ0 w) : Calls Try.prog 14 #[.agg #[.int .i32 i0, .int .i64 i1], .agg #[.int .i32 i2, .int .i64 i3]] w R :=
  calls_of mixed Try.func14 rfl rfl (e14 i0 i1 i2 i3) h
def t15 (i0 : Int) (i1 : Int) : T :=
  T.new (Obj.cells (Array.mk [Value.int IntKind.i32 i0, Value.int IntKind.i64 i1]) 23) fun n2 =>
  T.new
    (Obj.cells
    (Array.mk
    [Value.int IntKind.u8 0, Value.int IntKind.u8 0, Value.int IntKind.u8 0, Value.int IntKind.u8 0, Value.int IntKind.u8 0, Value.int IntKind.u8 0,
    Value.int IntKind.u8 0, Value.int IntKind.u8 0, Value.int IntKind.u8 0, Value.int IntKind.u8 0, Value.int IntKind.u8 0, Value.int IntKind.u8 0])
    27)
    fun n3 =>
    T.new
    (Obj.cells
    (Array.mk
    [Value.int IntKind.u8 0, Value.int IntKind.u8 0, Value.int IntKind.u8 0, Value.int IntKind.u8 0, Value.int IntKind.u8 0, Value.int IntKind.u8 0,
    Value.int IntKind.u8 0, Value.int IntKind.u8 0, Value.int IntKind.u8 0, Value.int IntKind.u8 0, Value.int IntKind.u8 0, Value.int IntKind.u8 0])
    27)
    fun n4 =>
    T.drew
    (T.ldI IntKind.i32 n2 0 fun i5 =>
    T.ldI IntKind.i64 n2 1 fun i6 =>
    T.loop 0 [Value.int IntKind.u32 (bitsI BinOp.xor IntKind.u32 (IntKind.wrap IntKind.u32 i5) 2147483648), Value.int IntKind.i64 3] fun l7 j8 =>
    T.asI IntKind.u32 (List.headD l7 (Value.tuple (Array.mk []))) fun i9 =>
    T.asI IntKind.i64 (List.headD (List.tail l7) (Value.tuple (Array.mk []))) fun i10 =>
    T.ite (decide (i10 ≥ 0))
    (T.req (0 ≤ i10 ∧ i10 < 12)
    (T.st n4 (0 + Int.toNat i10 * 1) (Value.int IntKind.u8 (IntKind.wrap IntKind.u8 i9))
    (T.req ((0 : Int) ≤ 8)
    (T.next 0 [Value.int IntKind.u32 (shrI IntKind.u32 i9 8), Value.int IntKind.i64 (IntKind.wrap IntKind.i64 (i10 - 1))]
    ([Value.pointer (some (Addr.mk n3 0 none)), Value.pointer (some (Addr.mk n4 0 none)),
    Value.int IntKind.u64 (bitsI BinOp.xor IntKind.u64 (IntKind.wrap IntKind.u64 i6) 9223372036854775808)] =
    [Value.pointer (some (Addr.mk n3 0 none)), Value.pointer (some (Addr.mk n4 0 none)),
    Value.int IntKind.u64 (bitsI BinOp.xor IntKind.u64 (IntKind.wrap IntKind.u64 i6) 9223372036854775808)] ∧ ([] : List Deferred) = [])))))
    (T.loop 0 [Value.int IntKind.u64 (bitsI BinOp.xor IntKind.u64 (IntKind.wrap IntKind.u64 i6) 9223372036854775808), Value.int IntKind.i64 11]
    fun l11 j12 =>
    T.asI IntKind.u64 (List.headD l11 (Value.tuple (Array.mk []))) fun i13 =>
    T.asI IntKind.i64 (List.headD (List.tail l11) (Value.tuple (Array.mk []))) fun i14 =>
    T.ite (decide (i14 ≥ 4))
    (T.req (0 ≤ i14 ∧ i14 < 12)
    (T.st n4 (0 + Int.toNat i14 * 1) (Value.int IntKind.u8 (IntKind.wrap IntKind.u8 i13))
    (T.req ((0 : Int) ≤ 8)
    (T.next 0 [Value.int IntKind.u64 (shrI IntKind.u64 i13 8), Value.int IntKind.i64 (IntKind.wrap IntKind.i64 (i14 - 1))]
    ([Value.pointer (some (Addr.mk n3 0 none)), Value.pointer (some (Addr.mk n4 0 none))] =
    [Value.pointer (some (Addr.mk n3 0 none)), Value.pointer (some (Addr.mk n4 0 none))] ∧ ([] : List Deferred) = [])))))
    (T.ldI IntKind.u8 n4 0 fun i15 =>
    T.ldI IntKind.u8 n4 1 fun i16 =>
    T.ldI IntKind.u8 n4 2 fun i17 =>
    T.ldI IntKind.u8 n4 3 fun i18 =>
    T.ldI IntKind.u8 n4 4 fun i19 =>
    T.ldI IntKind.u8 n4 5 fun i20 =>
    T.ldI IntKind.u8 n4 6 fun i21 =>
    T.ldI IntKind.u8 n4 7 fun i22 =>
    T.ldI IntKind.u8 n4 8 fun i23 =>
    T.ldI IntKind.u8 n4 9 fun i24 =>
    T.ldI IntKind.u8 n4 10 fun i25 =>
    T.ldI IntKind.u8 n4 11 fun i26 =>
    T.st n3 0 (Value.int IntKind.u8 i15)
    (T.st n3 1 (Value.int IntKind.u8 i16)
    (T.st n3 2 (Value.int IntKind.u8 i17)
    (T.st n3 3 (Value.int IntKind.u8 i18)
    (T.st n3 4 (Value.int IntKind.u8 i19)
    (T.st n3 5 (Value.int IntKind.u8 i20)
    (T.st n3 6 (Value.int IntKind.u8 i21)
    (T.st n3 7 (Value.int IntKind.u8 i22)
    (T.st n3 8 (Value.int IntKind.u8 i23)
    (T.st n3 9 (Value.int IntKind.u8 i24)
    (T.st n3 10 (Value.int IntKind.u8 i25)
    (T.st n3 11 (Value.int IntKind.u8 i26)
    (T.ldI IntKind.u8 n3 0 fun i27 =>
    T.ldI IntKind.u8 n3 1 fun i28 =>
    T.ldI IntKind.u8 n3 2 fun i29 =>
    T.ldI IntKind.u8 n3 3 fun i30 =>
    T.ldI IntKind.u8 n3 4 fun i31 =>
    T.ldI IntKind.u8 n3 5 fun i32 =>
    T.ldI IntKind.u8 n3 6 fun i33 =>
    T.ldI IntKind.u8 n3 7 fun i34 =>
    T.ldI IntKind.u8 n3 8 fun i35 =>
    T.ldI IntKind.u8 n3 9 fun i36 =>
    T.ldI IntKind.u8 n3 10 fun i37 =>
    T.ldI IntKind.u8 n3 11 fun i38 =>
    T.ret
    (Value.agg
    (Array.mk
    [Value.int IntKind.u8 i27, Value.int IntKind.u8 i28,
    Value.int IntKind.u8 i29, Value.int IntKind.u8 i30,
    Value.int IntKind.u8 i31, Value.int IntKind.u8 i32,
    Value.int IntKind.u8 i33, Value.int IntKind.u8 i34,
    Value.int IntKind.u8 i35, Value.int IntKind.u8 i36,
    Value.int IntKind.u8 i37,
    Value.int IntKind.u8 i38])))))))))))))))))
theorem e15 (i0 : Int) (i1 : Int) : treeOf Try.prog Try.f15 (codeOf Try.f15) (.s .n (.s .n (.s (.p [0, 1, 2, 3, 4, 5, 6, 7, 8, 9]) (.s (.s .n (.u (.l [(4, .int .u32), (6, .int .i64)] [2, 3, 5] .n))) (.s (.s .n (.u (.l [(5, .int .u64), (7, .int .i64)] [2, 3] .n))) .n))))) [.v (.agg #[.int .i32 i0, .int .i64 i1])] = (t15 i0 i1) := by kernel_rfl
theorem c15 (i0 : Int) (i1 : Int) {w : World} {R : Ending → World → Prop} (h : (t15 i0 i1).sem Try.prog R ρ0 w) : Calls Try.prog 15 #[.agg #[.int .i32 i0, .int .i64 i1]] w R :=
  calls_of mixed Try.func15 rfl rfl (e15 i0 i1) h
def t16 (i0 : Int) (i1 : Int) : T :=
  T.new (Obj.cells (Array.mk [Value.int IntKind.i32 i0, Value.int IntKind.i64 i1]) 23) fun n2 =>
  T.drew
    (T.ldI IntKind.i32 n2 0 fun i3 =>
    T.ldI IntKind.i64 n2 1 fun i4 =>
    T.call 36 [Value.int IntKind.u64 (IntKind.wrap IntKind.u64 (IntKind.wrap IntKind.u64 i4 + 11400714819323198485))] fun v5 =>
    T.asI IntKind.u64 v5 fun i6 =>
    T.call 36 [Value.int IntKind.u64 (IntKind.wrap IntKind.u64 (i6 + IntKind.wrap IntKind.u64 (IntKind.wrap IntKind.u32 i3)))] fun v7 =>
    T.asI IntKind.u64 v7 fun i8 =>
    T.req ((0 : Int) ≤ 32)
    (T.req ((0 : Int) ≤ 32)
    (T.call 36
    [Value.int IntKind.u64
    (IntKind.wrap IntKind.u64
    (IntKind.wrap IntKind.u64 (i8 + shrI IntKind.u64 (IntKind.wrap IntKind.u64 i4) 32) +
    shlI IntKind.u64 (IntKind.wrap IntKind.u64 (IntKind.wrap IntKind.u32 i3)) 32))]
    fun v9 => T.asI IntKind.u64 v9 fun i10 => T.ret (Value.int IntKind.u64 i10))))
theorem e16 (i0 : Int) (i1 : Int) : treeOf Try.prog Try.f16 (codeOf Try.f16) (.s .n (.s (.p [0, 1, 2, 3, 4, 5, 6, 7, 8]) .n)) [.v (.agg #[.int .i32 i0, .int .i64 i1])] = (t16 i0 i1) := by kernel_rfl
theorem c16 (i0 : Int) (i1 : Int) {w : World} {R : Ending → World → Prop} (h : (t16 i0 i1).sem Try.prog R ρ0 w) : Calls Try.prog 16 #[.agg #[.int .i32 i0, .int .i64 i1]] w R :=
  calls_of mixed Try.func16 rfl rfl (e16 i0 i1) h
def t17 (i0 : Int) (i1 : Int) : T :=
  T.new (Obj.cells (Array.mk [Value.int IntKind.i32 i0, Value.int IntKind.i64 i1]) 23) fun n2 =>
  T.drew
    (T.ldI IntKind.i32 n2 0 fun i3 =>
    T.ldI IntKind.i64 n2 1 fun i4 =>
    T.call 37 [Value.int IntKind.u64 (IntKind.wrap IntKind.u64 (IntKind.wrap IntKind.u64 i4 + 11400714819323198485))] fun v5 =>
    T.asI IntKind.u64 v5 fun i6 =>
    T.call 37 [Value.int IntKind.u64 (IntKind.wrap IntKind.u64 (i6 + IntKind.wrap IntKind.u64 (IntKind.wrap IntKind.u32 i3)))] fun v7 =>
    T.asI IntKind.u64 v7 fun i8 =>
    T.req ((0 : Int) ≤ 32)
    (T.req ((0 : Int) ≤ 32)
    (T.call 37
    [Value.int IntKind.u64
    (IntKind.wrap IntKind.u64
    (IntKind.wrap IntKind.u64 (i8 + shrI IntKind.u64 (IntKind.wrap IntKind.u64 i4) 32) +
    shlI IntKind.u64 (IntKind.wrap IntKind.u64 (IntKind.wrap IntKind.u32 i3)) 32))]
    fun v9 => T.asI IntKind.u64 v9 fun i10 => T.ret (Value.int IntKind.u64 i10))))
theorem e17 (i0 : Int) (i1 : Int) : treeOf Try.prog Try.f17 (codeOf Try.f17) (.s .n (.s (.p [0, 1, 2, 3, 4, 5, 6, 7, 8]) .n)) [.v (.agg #[.int .i32 i0, .int .i64 i1])] = (t17 i0 i1) := by kernel_rfl
theorem c17 (i0 : Int) (i1 : Int) {w : World} {R : Ending → World → Prop} (h : (t17 i0 i1).sem Try.prog R ρ0 w) : Calls Try.prog 17 #[.agg #[.int .i32 i0, .int .i64 i1]] w R :=
  calls_of mixed Try.func17 rfl rfl (e17 i0 i1) h
def t18 (i0 : Int) (i1 : Int) (i2 : Int) : T :=
  T.new (Obj.cells (Array.mk [Value.int IntKind.i32 i0, Value.int IntKind.i64 i1]) 23) fun n3 =>
  T.ldI IntKind.i32 n3 0 fun i4 =>
    T.ldI IntKind.i64 n3 1 fun i5 =>
    T.call 16 [Value.agg (Array.mk [Value.int IntKind.i32 i4, Value.int IntKind.i64 i5])] fun v6 =>
    T.asI IntKind.u64 v6 fun i7 =>
    T.req ((0 : Int) ≤ 32)
    (T.call 38 [Value.int IntKind.i64 i2] fun v8 =>
    T.asI IntKind.i64 v8 fun i9 =>
    T.req ((0 : Int) ≤ 32)
    (T.ret
    (Value.int IntKind.i64
    (IntKind.wrap IntKind.i64 (shrI IntKind.u64 (IntKind.wrap IntKind.u64 (shrI IntKind.u64 i7 32 * IntKind.wrap IntKind.u64 i9)) 32)))))
theorem e18 (i0 : Int) (i1 : Int) (i2 : Int) : treeOf Try.prog Try.f18 (codeOf Try.f18) .n [.v (.agg #[.int .i32 i0, .int .i64 i1]), .v (.int .i64 i2)] = (t18 i0 i1 i2) := by kernel_rfl
theorem c18 (i0 : Int) (i1 : Int) (i2 : Int) {w : World} {R : Ending → World → Prop} (h : (t18 i0 i1 i2).sem Try.prog R ρ0 w) : Calls Try.prog 18 #[.agg #[.int .i32 i0, .int .i64 i1], .int .i64 i2] w R :=
  calls_of mixed Try.func18 rfl rfl (e18 i0 i1 i2) h
def t19 (i0 : Int) (i1 : Int) (i2 : Int) : T :=
  T.new (Obj.cells (Array.mk [Value.int IntKind.i32 i0, Value.int IntKind.i64 i1]) 23) fun n3 =>
  T.ldI IntKind.i32 n3 0 fun i4 =>
    T.ldI IntKind.i64 n3 1 fun i5 =>
    T.call 17 [Value.agg (Array.mk [Value.int IntKind.i32 i4, Value.int IntKind.i64 i5])] fun v6 =>
    T.asI IntKind.u64 v6 fun i7 =>
    T.req ((0 : Int) ≤ 32)
    (T.call 39 [Value.int IntKind.i64 i2] fun v8 =>
    T.asI IntKind.i64 v8 fun i9 =>
    T.req ((0 : Int) ≤ 32)
    (T.ret
    (Value.int IntKind.i64
    (IntKind.wrap IntKind.i64 (shrI IntKind.u64 (IntKind.wrap IntKind.u64 (shrI IntKind.u64 i7 32 * IntKind.wrap IntKind.u64 i9)) 32)))))
theorem e19 (i0 : Int) (i1 : Int) (i2 : Int) : treeOf Try.prog Try.f19 (codeOf Try.f19) .n [.v (.agg #[.int .i32 i0, .int .i64 i1]), .v (.int .i64 i2)] = (t19 i0 i1 i2) := by kernel_rfl
theorem c19 (i0 : Int) (i1 : Int) (i2 : Int) {w : World} {R : Ending → World → Prop} (h : (t19 i0 i1 i2).sem Try.prog R ρ0 w) : Calls Try.prog 19 #[.agg #[.int .i32 i0, .int .i64 i1], .int .i64 i2] w R :=
  calls_of mixed Try.func19 rfl rfl (e19 i0 i1 i2) h
def t21 (o0 : Option Addr) (n1 n2 : Nat) (i3 : Int) (i4 : Int) : T :=
  T.new (Obj.cells (Array.mk [Value.int IntKind.i32 i3, Value.int IntKind.i64 i4]) 23) fun n5 =>
  T.ldI IntKind.i32 n5 0 fun i6 =>
    T.ldI IntKind.i64 n5 1 fun i7 =>
    T.call 40 [Value.slice o0 n1 n2, Value.agg (Array.mk [Value.int IntKind.i32 i6, Value.int IntKind.i64 i7])] fun v8 =>
    T.asB v8 fun b9 => T.ret (Value.bool b9)
theorem e21 (o0 : Option Addr) (n1 n2 : Nat) (i3 : Int) (i4 : Int) : treeOf Try.prog Try.f21 (codeOf Try.f21) .n [.v (.slice o0 n1 n2), .v (.agg #[.int .i32 i3, .int .i64 i4])] = (t21 o0 n1 n2 i3 i4) := by kernel_rfl
theorem c21 (o0 : Option Addr) (n1 n2 : Nat) (i3 : Int) (i4 : Int) {w : World} {R : Ending → World → Prop} (h : (t21 o0 n1 n2 i3 i4).sem Try.prog R ρ0 w) : Calls Try.prog 21 #[.slice o0 n1 n2, .agg #[.int .i32 i3, .int .i64 i4]] w R :=
  calls_of mixed Try.func21 rfl rfl (e21 o0 n1 n2 i3 i4) h
def t22 (o0 : Option Addr) (n1 n2 : Nat) (o3 : Option Addr) (n4 n5 : Nat) : T :=
  T.ite ((↑n1 : Int) != (↑n4 : Int)) (T.ret (Value.bool false))
  (T.loop 0 [Value.int IntKind.i64 0] fun l6 j7 =>
    T.asI IntKind.i64 (List.headD l6 (Value.tuple (Array.mk []))) fun i8 =>
    T.ite (decide (i8 < (↑n1 : Int)))
    (T.drew
    (T.req (0 ≤ i8 ∧ i8 < (↑n1 : Int))
    (T.sm o0 fun n9 n10 =>
    T.ldI IntKind.i32 n9 (n10 + Int.toNat i8 * 2) fun i11 =>
    T.ldI IntKind.i64 n9 (n10 + Int.toNat i8 * 2 + 1) fun i12 =>
    T.req (0 ≤ i8 ∧ i8 < (↑n4 : Int))
    (T.sm o3 fun n13 n14 =>
    T.ldI IntKind.i32 n13 (n14 + Int.toNat i8 * 2) fun i15 =>
    T.ldI IntKind.i64 n13 (n14 + Int.toNat i8 * 2 + 1) fun i16 =>
    T.ite (!(i11 == i15 && (i12 == i16 && true))) (T.ret (Value.bool false))
    (T.next 0 [Value.int IntKind.i64 (IntKind.wrap IntKind.i64 (i8 + 1))]
    ([Value.slice o0 n1 n2, Value.slice o3 n4 n5] = [Value.slice o0 n1 n2, Value.slice o3 n4 n5] ∧ ([] : List Deferred) = []))))))
    (T.ret (Value.bool true)))
theorem e22 (o0 : Option Addr) (n1 n2 : Nat) (o3 : Option Addr) (n4 n5 : Nat) : treeOf Try.prog Try.f22 (codeOf Try.f22) (.s .n (.s .n (.s (.s .n (.u (.l [(5, .int .i64)] [0, 1] (.s .n (.s (.u (.s (.p [0, 1, 2, 3, 4, 5, 6, 7, 8]) .n)) .n))))) .n))) [.v (.slice o0 n1 n2), .v (.slice o3 n4 n5)] = (t22 o0 n1 n2 o3 n4 n5) := by kernel_rfl
theorem c22 (o0 : Option Addr) (n1 n2 : Nat) (o3 : Option Addr) (n4 n5 : Nat) {w : World} {R : Ending → World → Prop} (h : (t22 o0 n1 n2 o3 n4 n5).sem Try.prog R ρ0 w) : Calls Try.prog 22 #[.slice o0 n1 n2, .slice o3 n4 n5] w R :=
  calls_of mixed Try.func22 rfl rfl (e22 o0 n1 n2 o3 n4 n5) h
def t23 (o0 : Option Addr) (n1 n2 : Nat) : T :=
  T.call 41 [Value.slice o0 n1 n2] fun v3 =>
  T.asS v3 fun o4 n5 n6 =>
    T.call 42 [Value.slice o4 n5 n6, Value.func (Fn.func 10) (Array.mk []) (Array.mk [])] fun v7 =>
    T.call 43 [Value.slice o4 n5 n6] fun v8 => T.asS v8 fun o9 n10 n11 => T.ret (Value.slice o9 n10 n11)
theorem e23 (o0 : Option Addr) (n1 n2 : Nat) : treeOf Try.prog Try.f23 (codeOf Try.f23) .n [.v (.slice o0 n1 n2)] = (t23 o0 n1 n2) := by kernel_rfl
theorem c23 (o0 : Option Addr) (n1 n2 : Nat) {w : World} {R : Ending → World → Prop} (h : (t23 o0 n1 n2).sem Try.prog R ρ0 w) : Calls Try.prog 23 #[.slice o0 n1 n2] w R :=
  calls_of mixed Try.func23 rfl rfl (e23 o0 n1 n2) h
def t36 (i0 : Int) : T :=
  T.req ((0 : Int) ≤ 13)
  (T.req ((0 : Int) ≤ 7)
    (T.req ((0 : Int) ≤ 17)
    (T.ret
    (Value.int IntKind.u64
    (bitsI BinOp.xor IntKind.u64
    (bitsI BinOp.xor IntKind.u64 (bitsI BinOp.xor IntKind.u64 i0 (shlI IntKind.u64 i0 13))
    (shrI IntKind.u64 (bitsI BinOp.xor IntKind.u64 i0 (shlI IntKind.u64 i0 13)) 7))
    (shlI IntKind.u64
    (bitsI BinOp.xor IntKind.u64 (bitsI BinOp.xor IntKind.u64 i0 (shlI IntKind.u64 i0 13))
    (shrI IntKind.u64 (bitsI BinOp.xor IntKind.u64 i0 (shlI IntKind.u64 i0 13)) 7))
    17))))))
theorem e36 (i0 : Int) : treeOf Try.prog Try.f36 (codeOf Try.f36) .n [.v (.int .u64 i0)] = (t36 i0) := by kernel_rfl
theorem c36 (i0 : Int) {w : World} {R : Ending → World → Prop} (h : (t36 i0).sem Try.prog R ρ0 w) : Calls Try.prog 36 #[.int .u64 i0] w R :=
  calls_of mixed Try.func36 rfl rfl (e36 i0) h
def t37 (i0 : Int) : T :=
  T.req ((0 : Int) ≤ 13)
  (T.req ((0 : Int) ≤ 7)
    (T.req ((0 : Int) ≤ 17)
    (T.ret
    (Value.int IntKind.u64
    (bitsI BinOp.xor IntKind.u64
    (bitsI BinOp.xor IntKind.u64 (bitsI BinOp.xor IntKind.u64 i0 (shlI IntKind.u64 i0 13))
    (shrI IntKind.u64 (bitsI BinOp.xor IntKind.u64 i0 (shlI IntKind.u64 i0 13)) 7))
    (shlI IntKind.u64
    (bitsI BinOp.xor IntKind.u64 (bitsI BinOp.xor IntKind.u64 i0 (shlI IntKind.u64 i0 13))
    (shrI IntKind.u64 (bitsI BinOp.xor IntKind.u64 i0 (shlI IntKind.u64 i0 13)) 7))
    17))))))
theorem e37 (i0 : Int) : treeOf Try.prog Try.f37 (codeOf Try.f37) .n [.v (.int .u64 i0)] = (t37 i0) := by kernel_rfl
theorem c37 (i0 : Int) {w : World} {R : Ending → World → Prop} (h : (t37 i0).sem Try.prog R ρ0 w) : Calls Try.prog 37 #[.int .u64 i0] w R :=
  calls_of mixed Try.func37 rfl rfl (e37 i0) h
def t38 (i0 : Int) : T :=
  T.run (biV Builtin.max (Array.mk [3, 3]) 3 (Array.mk [Value.int IntKind.i64 i0, Value.int IntKind.i64 1])) fun v1 =>
  T.asI IntKind.i64 v1 fun i2 =>
    T.run (biV Builtin.min (Array.mk [3, 3]) 3 (Array.mk [Value.int IntKind.i64 i2, Value.int IntKind.i64 8])) fun v3 =>
    T.asI IntKind.i64 v3 fun i4 => T.ret (Value.int IntKind.i64 i4)
theorem e38 (i0 : Int) : treeOf Try.prog Try.f38 (codeOf Try.f38) .n [.v (.int .i64 i0)] = (t38 i0) := by kernel_rfl
theorem c38 (i0 : Int) {w : World} {R : Ending → World → Prop} (h : (t38 i0).sem Try.prog R ρ0 w) : Calls Try.prog 38 #[.int .i64 i0] w R :=
  calls_of mixed Try.func38 rfl rfl (e38 i0) h
def t39 (i0 : Int) : T :=
  T.run (biV Builtin.max (Array.mk [3, 3]) 3 (Array.mk [Value.int IntKind.i64 i0, Value.int IntKind.i64 1])) fun v1 =>
  T.asI IntKind.i64 v1 fun i2 =>
    T.run (biV Builtin.min (Array.mk [3, 3]) 3 (Array.mk [Value.int IntKind.i64 i2, Value.int IntKind.i64 8])) fun v3 =>
    T.asI IntKind.i64 v3 fun i4 => T.ret (Value.int IntKind.i64 i4)
theorem e39 (i0 : Int) : treeOf Try.prog Try.f39 (codeOf Try.f39) .n [.v (.int .i64 i0)] = (t39 i0) := by kernel_rfl
theorem c39 (i0 : Int) {w : World} {R : Ending → World → Prop} (h : (t39 i0).sem Try.prog R ρ0 w) : Calls Try.prog 39 #[.int .i64 i0] w R :=
  calls_of mixed Try.func39 rfl rfl (e39 i0) h
def t40 (o0 : Option Addr) (n1 n2 : Nat) (i3 : Int) (i4 : Int) : T :=
  T.new (Obj.cells (Array.mk [Value.int IntKind.i32 i3, Value.int IntKind.i64 i4]) 23) fun n5 =>
  T.ldI IntKind.i32 n5 0 fun i6 =>
    T.ldI IntKind.i64 n5 1 fun i7 =>
    T.call 49 [Value.slice o0 n1 n2, Value.agg (Array.mk [Value.int IntKind.i32 i6, Value.int IntKind.i64 i7])] fun v8 =>
    T.asI IntKind.i64 v8 fun i9 => T.ret (Value.bool (decide (i9 ≥ 0)))
theorem e40 (o0 : Option Addr) (n1 n2 : Nat) (i3 : Int) (i4 : Int) : treeOf Try.prog Try.f40 (codeOf Try.f40) .n [.v (.slice o0 n1 n2), .v (.agg #[.int .i32 i3, .int .i64 i4])] = (t40 o0 n1 n2 i3 i4) := by kernel_rfl
theorem c40 (o0 : Option Addr) (n1 n2 : Nat) (i3 : Int) (i4 : Int) {w : World} {R : Ending → World → Prop} (h : (t40 o0 n1 n2 i3 i4).sem Try.prog R ρ0 w) : Calls Try.prog 40 #[.slice o0 n1 n2, .agg #[.int .i32 i3, .int .i64 i4]] w R :=
  calls_of mixed Try.func40 rfl rfl (e40 o0 n1 n2 i3 i4) h
def t41 (o0 : Option Addr) (n1 n2 : Nat) : T :=
  T.ite (Option.isNone o0) (T.ret (Value.slice none 0 0))
  (T.new (Obj.cells (Array.mk []) 23) fun n3 =>
    T.run (biV Builtin.append (Array.mk [35, 35]) 35 (Array.mk [Value.slice (some (Addr.mk n3 0 none)) 0 0, Value.slice o0 n1 n2])) fun v4 =>
    T.asS v4 fun o5 n6 n7 => T.ret (Value.slice o5 n6 n7))
theorem e41 (o0 : Option Addr) (n1 n2 : Nat) : treeOf Try.prog Try.f41 (codeOf Try.f41) .n [.v (.slice o0 n1 n2)] = (t41 o0 n1 n2) := by kernel_rfl
theorem c41 (o0 : Option Addr) (n1 n2 : Nat) {w : World} {R : Ending → World → Prop} (h : (t41 o0 n1 n2).sem Try.prog R ρ0 w) : Calls Try.prog 41 #[.slice o0 n1 n2] w R :=
  calls_of mixed Try.func41 rfl rfl (e41 o0 n1 n2) h
def t43 (o0 : Option Addr) (n1 n2 : Nat) : T :=
  T.ite (decide ((↑n1 : Int) < 2)) (T.ret (Value.slice o0 n1 n2))
  (T.loop 0 [Value.int IntKind.i64 1] fun l3 j4 =>
    T.asI IntKind.i64 (List.headD l3 (Value.tuple (Array.mk []))) fun i5 =>
    T.ite (decide (i5 < (↑n1 : Int)))
    (T.drew
    (T.req (0 ≤ i5 ∧ i5 < (↑n1 : Int))
    (T.sm o0 fun n6 n7 =>
    T.ldI IntKind.i32 n6 (n7 + Int.toNat i5 * 2) fun i8 =>
    T.ldI IntKind.i64 n6 (n7 + Int.toNat i5 * 2 + 1) fun i9 =>
    T.req (0 ≤ IntKind.wrap IntKind.i64 (i5 - 1) ∧ IntKind.wrap IntKind.i64 (i5 - 1) < (↑n1 : Int))
    (T.sm o0 fun n10 n11 =>
    T.ldI IntKind.i32 n10 (n11 + Int.toNat (IntKind.wrap IntKind.i64 (i5 - 1)) * 2) fun i12 =>
    T.ldI IntKind.i64 n10 (n11 + Int.toNat (IntKind.wrap IntKind.i64 (i5 - 1)) * 2 + 1) fun i13 =>
    T.ite (i8 == i12 && (i9 == i13 && true))
    (T.req (0 ≤ i5 ∧ i5 ≤ (↑n1 : Int))
    (T.loop 1 [Value.int IntKind.i64 i5, Value.int IntKind.i64 1] fun l14 j15 =>
    T.asI IntKind.i64 (List.headD l14 (Value.tuple (Array.mk []))) fun i16 =>
    T.asI IntKind.i64 (List.headD (List.tail l14) (Value.tuple (Array.mk []))) fun i17 =>
    T.ite (decide (i17 < (↑(n1 - Int.toNat i5) : Int)))
    (T.drew
    (T.req (0 ≤ i17 ∧ i17 < (↑(n1 - Int.toNat i5) : Int))
    (T.sm (sliceBase o0 (Int.toNat i5) n2 2) fun n18 n19 =>
    T.ldI IntKind.i32 n18 (n19 + Int.toNat i17 * 2) fun i20 =>
    T.ldI IntKind.i64 n18 (n19 + Int.toNat i17 * 2 + 1) fun i21 =>
    T.req
    (0 ≤ IntKind.wrap IntKind.i64 (i17 - 1) ∧ IntKind.wrap IntKind.i64 (i17 - 1) < (↑(n1 - Int.toNat i5) : Int))
    (T.sm (sliceBase o0 (Int.toNat i5) n2 2) fun n22 n23 =>
    T.ldI IntKind.i32 n22 (n23 + Int.toNat (IntKind.wrap IntKind.i64 (i17 - 1)) * 2) fun i24 =>
    T.ldI IntKind.i64 n22 (n23 + Int.toNat (IntKind.wrap IntKind.i64 (i17 - 1)) * 2 + 1) fun i25 =>
    T.ite (!(i20 == i24 && (i21 == i25 && true)))
    (T.req (0 ≤ i17 ∧ i17 < (↑(n1 - Int.toNat i5) : Int))
    (T.sm (sliceBase o0 (Int.toNat i5) n2 2) fun n26 n27 =>
    T.ldI IntKind.i32 n26 (n27 + Int.toNat i17 * 2) fun i28 =>
    T.ldI IntKind.i64 n26 (n27 + Int.toNat i17 * 2 + 1) fun i29 =>
    T.req (0 ≤ i16 ∧ i16 < (↑n1 : Int))
    (T.sm o0 fun n30 n31 =>
    T.st n30 (n31 + Int.toNat i16 * 2) (Value.int IntKind.i32 i28)
    (T.st n30 (n31 + Int.toNat i16 * 2 + 1) (Value.int IntKind.i64 i29)
    (T.next 1
    [Value.int IntKind.i64 (IntKind.wrap IntKind.i64 (i16 + 1)),
    Value.int IntKind.i64 (IntKind.wrap IntKind.i64 (i17 + 1))]
    ([Value.slice o0 n1 n2,
    Value.slice (sliceBase o0 (Int.toNat i5) n2 2) (n1 - Int.toNat i5)
    (n2 - Int.toNat i5)] =
    [Value.slice o0 n1 n2,
    Value.slice (sliceBase o0 (Int.toNat i5) n2 2) (n1 - Int.toNat i5)
    (n2 - Int.toNat i5)] ∧ ([] : List Deferred) = []))))))
    (T.next 1 [Value.int IntKind.i64 i16, Value.int IntKind.i64 (IntKind.wrap IntKind.i64 (i17 + 1))]
    ([Value.slice o0 n1 n2,
    Value.slice (sliceBase o0 (Int.toNat i5) n2 2) (n1 - Int.toNat i5) (n2 - Int.toNat i5)] =
    [Value.slice o0 n1 n2,
    Value.slice (sliceBase o0 (Int.toNat i5) n2 2) (n1 - Int.toNat i5) (n2 - Int.toNat i5)] ∧ ([] : List Deferred) = []))))))
    (T.req (0 ≤ i16 ∧ i16 ≤ (↑n1 : Int))
    (T.run
    (biV Builtin.clear (Array.mk [35]) 0
    (Array.mk [Value.slice (sliceBase o0 (Int.toNat i16) n2 2) (n1 - Int.toNat i16) (n2 - Int.toNat i16)]))
    fun v32 => T.req (0 ≤ i16 ∧ i16 ≤ (↑n2 : Int)) (T.ret (Value.slice (sliceBase o0 0 n2 2) (Int.toNat i16) n2))))))
    (T.next 0 [Value.int IntKind.i64 (IntKind.wrap IntKind.i64 (i5 + 1))]
    ([Value.slice o0 n1 n2] = [Value.slice o0 n1 n2] ∧ ([] : List Deferred) = []))))))
    (T.ret (Value.slice o0 n1 n2)))
theorem e43 (o0 : Option Addr) (n1 n2 : Nat) : treeOf Try.prog Try.f43 (codeOf Try.f43) (.s .n (.s .n (.s (.s .n (.u (.l [(3, .int .i64)] [0] (.s .n (.s (.u (.s (.p [0, 1, 2, 3, 4, 5, 6, 7, 8, 9]) (.s (.s .n (.s (.s .n (.u (.l [(3, .int .i64), (5, .int .i64)] [0, 4] (.s .n (.s (.u (.s (.p [0, 1, 2, 3, 4, 5, 6, 7, 8, 9]) .n)) .n))))) .n)) .n))) .n))))) .n))) [.v (.slice o0 n1 n2)] = (t43 o0 n1 n2) := by kernel_rfl
theorem c43 (o0 : Option Addr) (n1 n2 : Nat) {w : World} {R : Ending → World → Prop} (h : (t43 o0 n1 n2).sem Try.prog R ρ0 w) : Calls Try.prog 43 #[.slice o0 n1 n2] w R :=
  calls_of mixed Try.func43 rfl rfl (e43 o0 n1 n2) h
def t49 (o0 : Option Addr) (n1 n2 : Nat) (i3 : Int) (i4 : Int) : T :=
  T.new (Obj.cells (Array.mk [Value.int IntKind.i32 i3, Value.int IntKind.i64 i4]) 23) fun n5 =>
  T.loop 0 [Value.int IntKind.i64 0] fun l6 j7 =>
    T.asI IntKind.i64 (List.headD l6 (Value.tuple (Array.mk []))) fun i8 =>
    T.ite (decide (i8 < (↑n1 : Int)))
    (T.drew
    (T.ldI IntKind.i32 n5 0 fun i9 =>
    T.ldI IntKind.i64 n5 1 fun i10 =>
    T.req (0 ≤ i8 ∧ i8 < (↑n1 : Int))
    (T.sm o0 fun n11 n12 =>
    T.ldI IntKind.i32 n11 (n12 + Int.toNat i8 * 2) fun i13 =>
    T.ldI IntKind.i64 n11 (n12 + Int.toNat i8 * 2 + 1) fun i14 =>
    T.ite (i9 == i13 && (i10 == i14 && true)) (T.ret (Value.int IntKind.i64 i8))
    (T.next 0 [Value.int IntKind.i64 (IntKind.wrap IntKind.i64 (i8 + 1))]
    ([Value.slice o0 n1 n2, Value.pointer (some (Addr.mk n5 0 none)), Value.int IntKind.i64 (↑n1 : Int)] =
    [Value.slice o0 n1 n2, Value.pointer (some (Addr.mk n5 0 none)), Value.int IntKind.i64 (↑n1 : Int)] ∧ ([] : List Deferred) = [])))))
    (T.ret (Value.int IntKind.i64 (-1)))
theorem e49 (o0 : Option Addr) (n1 n2 : Nat) (i3 : Int) (i4 : Int) : treeOf Try.prog Try.f49 (codeOf Try.f49) (.s .n (.s (.s .n (.u (.l [(8, .int .i64)] [0, 3, 7] (.s .n (.s .n (.s (.u (.s .n (.s (.p [0, 1, 2, 3, 4, 5]) .n))) .n)))))) .n)) [.v (.slice o0 n1 n2), .v (.agg #[.int .i32 i3, .int .i64 i4])] = (t49 o0 n1 n2 i3 i4) := by kernel_rfl
theorem c49 (o0 : Option Addr) (n1 n2 : Nat) (i3 : Int) (i4 : Int) {w : World} {R : Ending → World → Prop} (h : (t49 o0 n1 n2 i3 i4).sem Try.prog R ρ0 w) : Calls Try.prog 49 #[.slice o0 n1 n2, .agg #[.int .i32 i3, .int .i64 i4]] w R :=
  calls_of mixed Try.func49 rfl rfl (e49 o0 n1 n2 i3 i4) h
end Go.Proofs.Yteimilnigiagjaa
