/- The functions' trees, printed by a program (wip/tools/Emit.lean) and checked by the kernel against the model's own code. -/
import Derived.Test.YteimilnigiagjaaTreesA
import Derived.Test.YteimilnigiagjaaProg
namespace Go.Proofs.Yteimilnigiagjaa
open Go hiding Expr
open Go.Proofs.Yteimilnigiagjaa.Tr
set_option linter.unusedVariables false
set_option maxRecDepth 100000
def t4 (i0 : Int) (i1 : Int) (i2 : Int) (i3 : Int) (i4 : Int) (i5 : Int) (i6 : Int) (i7 : Int) (i8 : Int) (i9 : Int) (i10 : Int) (i11 : Int) (i12 : Int) (i13 : Int) (i14 : Int) (i15 : Int) : T :=
  T.new (Obj.cells (Array.mk [Value.int IntKind.i32 i0, Value.int IntKind.i64 i1]) 23) fun n16 =>
  T.new (Obj.cells (Array.mk [Value.int IntKind.i32 i2, Value.int IntKind.i64 i3]) 23) fun n17 =>
    T.new
    (Obj.cells
    (Array.mk
    [Value.int IntKind.u8 i4, Value.int IntKind.u8 i5, Value.int IntKind.u8 i6, Value.int IntKind.u8 i7, Value.int IntKind.u8 i8, Value.int IntKind.u8 i9,
    Value.int IntKind.u8 i10, Value.int IntKind.u8 i11, Value.int IntKind.u8 i12, Value.int IntKind.u8 i13, Value.int IntKind.u8 i14,
    Value.int IntKind.u8 i15])
    27)
    fun n18 =>
    T.drew
    (T.ldI IntKind.i32 n16 0 fun i19 =>
    T.ldI IntKind.i64 n16 1 fun i20 =>
    T.ldI IntKind.i32 n17 0 fun i21 =>
    T.ldI IntKind.i64 n17 1 fun i22 =>
    T.both
    (T.call 12 [Value.agg (Array.mk [Value.int IntKind.i32 i19, Value.int IntKind.i64 i20])] fun v23 =>
    T.asA v23 fun l24 =>
    T.req (List.length l24 = 12)
    (T.asI IntKind.u8 (List.headD l24 (Value.tuple (Array.mk []))) fun i25 =>
    T.asI IntKind.u8 (List.headD (List.tail l24) (Value.tuple (Array.mk []))) fun i26 =>
    T.asI IntKind.u8 (List.headD (List.tail (List.tail l24)) (Value.tuple (Array.mk []))) fun i27 =>
    T.asI IntKind.u8 (List.headD (List.tail (List.tail (List.tail l24))) (Value.tuple (Array.mk []))) fun i28 =>
    T.asI IntKind.u8 (List.headD (List.tail (List.tail (List.tail (List.tail l24)))) (Value.tuple (Array.mk []))) fun i29 =>
    T.asI IntKind.u8 (List.headD (List.tail (List.tail (List.tail (List.tail (List.tail l24))))) (Value.tuple (Array.mk [])))
    fun i30 =>
    T.asI IntKind.u8
    (List.headD (List.tail (List.tail (List.tail (List.tail (List.tail (List.tail l24)))))) (Value.tuple (Array.mk [])))
    fun i31 =>
    T.asI IntKind.u8
    (List.headD (List.tail (List.tail (List.tail (List.tail (List.tail (List.tail (List.tail l24)))))))
    (Value.tuple (Array.mk [])))
    fun i32 =>
    T.asI IntKind.u8
    (List.headD (List.tail (List.tail (List.tail (List.tail (List.tail (List.tail (List.tail (List.tail l24))))))))
    (Value.tuple (Array.mk [])))
    fun i33 =>
    T.asI IntKind.u8
    (List.headD
    (List.tail (List.tail (List.tail (List.tail (List.tail (List.tail (List.tail (List.tail (List.tail l24)))))))))
    (Value.tuple (Array.mk [])))
    fun i34 =>
    T.asI IntKind.u8
    (List.headD
    (List.tail
    (List.tail
    (List.tail (List.tail (List.tail (List.tail (List.tail (List.tail (List.tail (List.tail l24))))))))))
    (Value.tuple (Array.mk [])))
    fun i35 =>
    T.asI IntKind.u8
    (List.headD
    (List.tail
    (List.tail
    (List.tail
    (List.tail (List.tail (List.tail (List.tail (List.tail (List.tail (List.tail (List.tail l24)))))))))))
    (Value.tuple (Array.mk [])))
    fun i36 =>
    T.chk [(Addr.mk n17 0 none, Value.int IntKind.i32 i21), (Addr.mk n17 1 none, Value.int IntKind.i64 i22)]
    (T.both
    (T.call 12 [Value.agg (Array.mk [Value.int IntKind.i32 i21, Value.int IntKind.i64 i22])] fun v37 =>
    T.asA v37 fun l38 =>
    T.req (List.length l38 = 12)
    (T.asI IntKind.u8 (List.headD l38 (Value.tuple (Array.mk []))) fun i39 =>
    T.asI IntKind.u8 (List.headD (List.tail l38) (Value.tuple (Array.mk []))) fun i40 =>
    T.asI IntKind.u8 (List.headD (List.tail (List.tail l38)) (Value.tuple (Array.mk []))) fun i41 =>
    T.asI IntKind.u8
    (List.headD (List.tail (List.tail (List.tail l38))) (Value.tuple (Array.mk []))) fun i42 =>
    T.asI IntKind.u8
    (List.headD (List.tail (List.tail (List.tail (List.tail l38)))) (Value.tuple (Array.mk [])))
    fun i43 =>
    T.asI IntKind.u8
    (List.headD (List.tail (List.tail (List.tail (List.tail (List.tail l38)))))
    (Value.tuple (Array.mk [])))
    fun i44 =>
    T.asI IntKind.u8
    (List.headD (List.tail (List.tail (List.tail (List.tail (List.tail (List.tail l38))))))
    (Value.tuple (Array.mk [])))
    fun i45 =>
    T.asI IntKind.u8
    (List.headD
    (List.tail
    (List.tail (List.tail (List.tail (List.tail (List.tail (List.tail l38)))))))
    (Value.tuple (Array.mk [])))
    fun i46 =>
    T.asI IntKind.u8
    (List.headD
    (List.tail
    (List.tail
    (List.tail (List.tail (List.tail (List.tail (List.tail (List.tail l38))))))))
    (Value.tuple (Array.mk [])))
    fun i47 =>
    T.asI IntKind.u8
    (List.headD
    (List.tail
    (List.tail
    (List.tail
    (List.tail
    (List.tail (List.tail (List.tail (List.tail (List.tail l38)))))))))
    (Value.tuple (Array.mk [])))
    fun i48 =>
    T.asI IntKind.u8
    (List.headD
    (List.tail
    (List.tail
    (List.tail
    (List.tail
    (List.tail
    (List.tail (List.tail (List.tail (List.tail (List.tail l38))))))))))
    (Value.tuple (Array.mk [])))
    fun i49 =>
    T.asI IntKind.u8
    (List.headD
    (List.tail
    (List.tail
    (List.tail
    (List.tail
    (List.tail
    (List.tail
    (List.tail
    (List.tail (List.tail (List.tail (List.tail l38)))))))))))
    (Value.tuple (Array.mk [])))
    fun i50 =>
    T.chk []
    (T.both
    (T.new
    (Obj.cells
    (Array.mk
    [Value.int IntKind.u8 0, Value.int IntKind.u8 0,
    Value.int IntKind.u8 0, Value.int IntKind.u8 0,
    Value.int IntKind.u8 0, Value.int IntKind.u8 0,
    Value.int IntKind.u8 0, Value.int IntKind.u8 0,
    Value.int IntKind.u8 0, Value.int IntKind.u8 0,
    Value.int IntKind.u8 0, Value.int IntKind.u8 0])
    27)
    fun n51 =>
    T.chk []
    (T.new
    (Obj.cells
    (Array.mk
    [Value.int IntKind.u8 0, Value.int IntKind.u8 0,
    Value.int IntKind.u8 0, Value.int IntKind.u8 0,
    Value.int IntKind.u8 0, Value.int IntKind.u8 0,
    Value.int IntKind.u8 0, Value.int IntKind.u8 0,
    Value.int IntKind.u8 0, Value.int IntKind.u8 0,
    Value.int IntKind.u8 0, Value.int IntKind.u8 0])
    27)
    fun n52 =>
    T.chk []
    (T.st n51 0 (Value.int IntKind.u8 i25)
    (T.st n51 1 (Value.int IntKind.u8 i26)
    (T.st n51 2 (Value.int IntKind.u8 i27)
    (T.st n51 3 (Value.int IntKind.u8 i28)
    (T.st n51 4 (Value.int IntKind.u8 i29)
    (T.st n51 5 (Value.int IntKind.u8 i30)
    (T.st n51 6 (Value.int IntKind.u8 i31)
    (T.st n51 7 (Value.int IntKind.u8 i32)
    (T.st n51 8 (Value.int IntKind.u8 i33)
    (T.st n51 9 (Value.int IntKind.u8 i34)
    (T.st n51 10 (Value.int IntKind.u8 i35)
    (T.st n51 11 (Value.int IntKind.u8 i36)
    (T.chk []
    (T.st n52 0 (Value.int IntKind.u8 i39)
    (T.st n52 1 (Value.int IntKind.u8 i40)
    (T.st n52 2
    (Value.int IntKind.u8 i41)
    (T.st n52 3
    (Value.int IntKind.u8 i42)
    (T.st n52 4
    (Value.int IntKind.u8 i43)
    (T.st n52 5
    (Value.int IntKind.u8 i44)
    (T.st n52 6
    (Value.int IntKind.u8 i45)
    (T.st n52 7
    (Value.int IntKind.u8
    i46)
    (T.st n52 8
    (Value.int IntKind.u8
    i47)
    (T.st n52 9
    (Value.int
    IntKind.u8 i48)
    (T.st n52 10
    (Value.int
    IntKind.u8 i49)
    (T.st n52 11
    (Value.int
    IntKind.u8
    i50)
    (T.chk []
    (T.blk 0
    (fun l53
    j54 =>
    T.asI
    IntKind.i64
    (List.headD
    l53
    (Value.tuple
    (Array.mk
    [])))
    fun
    i55 =>
    T.drew
    (T.call
    11
    []
    fun
    v56 =>
    T.asB
    v56
    fun
    b57 =>
    T.chk
    []
    (T.ite
    b57
    (T.ldI
    IntKind.i32
    n16
    0
    fun
    i58 =>
    T.ldI
    IntKind.i64
    n16
    1
    fun
    i59 =>
    T.ldI
    IntKind.i32
    n17
    0
    fun
    i60 =>
    T.ldI
    IntKind.i64
    n17
    1
    fun
    i61 =>
    T.call
    10
    [Value.agg
    (Array.mk
    [Value.int
    IntKind.i32
    i58,
    Value.int
    IntKind.i64
    i59]),
    Value.agg
    (Array.mk
    [Value.int
    IntKind.i32
    i60,
    Value.int
    IntKind.i64
    i61])]
    fun
    v62 =>
    T.asI
    IntKind.i64
    v62
    fun
    i63 =>
    T.chk
    []
    (T.ite
    (i55 ==
    i63)
    (T.ldI
    IntKind.u8
    n51
    0
    fun
    i64 =>
    T.ldI
    IntKind.u8
    n51
    1
    fun
    i65 =>
    T.ldI
    IntKind.u8
    n51
    2
    fun
    i66 =>
    T.ldI
    IntKind.u8
    n51
    3
    fun
    i67 =>
    T.ldI
    IntKind.u8
    n51
    4
    fun
    i68 =>
    T.ldI
    IntKind.u8
    n51
    5
    fun
    i69 =>
    T.ldI
    IntKind.u8
    n51
    6
    fun
    i70 =>
    T.ldI
    IntKind.u8
    n51
    7
    fun
    i71 =>
    T.ldI
    IntKind.u8
    n51
    8
    fun
    i72 =>
    T.ldI
    IntKind.u8
    n51
    9
    fun
    i73 =>
    T.ldI
    IntKind.u8
    n51
    10
    fun
    i74 =>
    T.ldI
    IntKind.u8
    n51
    11
    fun
    i75 =>
    T.ldI
    IntKind.i32
    n16
    0
    fun
    i76 =>
    T.ldI
    IntKind.i64
    n16
    1
    fun
    i77 =>
    T.call
    13
    [Value.agg
    (Array.mk
    [Value.int
    IntKind.u8
    i64,
    Value.int
    IntKind.u8
    i65,
    Value.int
    IntKind.u8
    i66,
    Value.int
    IntKind.u8
    i67,
    Value.int
    IntKind.u8
    i68,
    Value.int
    IntKind.u8
    i69,
    Value.int
    IntKind.u8
    i70,
    Value.int
    IntKind.u8
    i71,
    Value.int
    IntKind.u8
    i72,
    Value.int
    IntKind.u8
    i73,
    Value.int
    IntKind.u8
    i74,
    Value.int
    IntKind.u8
    i75])]
    fun
    v78 =>
    T.asA
    v78
    fun
    l79 =>
    T.req
    (List.length
    l79 =
    2)
    (T.asI
    IntKind.i32
    (List.headD
    l79
    (Value.tuple
    (Array.mk
    [])))
    fun
    i80 =>
    T.asI
    IntKind.i64
    (List.headD
    (List.tail
    l79)
    (Value.tuple
    (Array.mk
    [])))
    fun
    i81 =>
    T.chk
    [(Addr.mk
    n16
    0
    none,
    Value.int
    IntKind.i32
    i76),
    (Addr.mk
    n16
    1
    none,
    Value.int
    IntKind.i64
    i77)]
    (T.ite
    (i80 ==
    i76 &&
    (i81 ==
    i77 &&
    true))
    (T.ldI
    IntKind.u8
    n18
    0
    fun
    i82 =>
    T.ldI
    IntKind.u8
    n18
    1
    fun
    i83 =>
    T.ldI
    IntKind.u8
    n18
    2
    fun
    i84 =>
    T.ldI
    IntKind.u8
    n18
    3
    fun
    i85 =>
    T.ldI
    IntKind.u8
    n18
    4
    fun
    i86 =>
    T.ldI
    IntKind.u8
    n18
    5
    fun
    i87 =>
    T.ldI
    IntKind.u8
    n18
    6
    fun
    i88 =>
    T.ldI
    IntKind.u8
    n18
    7
    fun
    i89 =>
    T.ldI
    IntKind.u8
    n18
    8
    fun
    i90 =>
    T.ldI
    IntKind.u8
    n18
    9
    fun
    i91 =>
    T.ldI
    IntKind.u8
    n18
    10
    fun
    i92 =>
    T.ldI
    IntKind.u8
    n18
    11
    fun
    i93 =>
    T.ldI
    IntKind.u8
    n18
    0
    fun
    i94 =>
    T.ldI
    IntKind.u8
    n18
    1
    fun
    i95 =>
    T.ldI
    IntKind.u8
    n18
    2
    fun
    i96 =>
    T.ldI
    IntKind.u8
    n18
    3
    fun
    i97 =>
    T.ldI
    IntKind.u8
    n18
    4
    fun
    i98 =>
    T.ldI
    IntKind.u8
    n18
    5
    fun
    i99 =>
    T.ldI
    IntKind.u8
    n18
    6
    fun
    i100 =>
    T.ldI
    IntKind.u8
    n18
    7
    fun
    i101 =>
    T.ldI
    IntKind.u8
    n18
    8
    fun
    i102 =>
    T.ldI
    IntKind.u8
    n18
    9
    fun
    i103 =>
    T.ldI
    IntKind.u8
    n18
    10
    fun
    i104 =>
    T.ldI
    IntKind.u8
    n18
    11
    fun
    i105 =>
    T.call
    13
    [Value.agg
    (Array.mk
    [Value.int
    IntKind.u8
    i82,
    Value.int
    IntKind.u8
    i83,
    Value.int
    IntKind.u8
    i84,
    Value.int
    IntKind.u8
    i85,
    Value.int
    IntKind.u8
    i86,
    Value.int
    IntKind.u8
    i87,
    Value.int
    IntKind.u8
    i88,
    Value.int
    IntKind.u8
    i89,
    Value.int
    IntKind.u8
    i90,
    Value.int
    IntKind.u8
    i91,
    Value.int
    IntKind.u8
    i92,
    Value.int
    IntKind.u8
    i93])]
    fun
    v106 =>
    T.asA
    v106
    fun
    l107 =>
    T.req
    (List.length
    l107 =
    2)
    (T.asI
    IntKind.i32
    (List.headD
    l107
    (Value.tuple
    (Array.mk
    [])))
    fun
    i108 =>
    T.asI
    IntKind.i64
    (List.headD
    (List.tail
    l107)
    (Value.tuple
    (Array.mk
    [])))
    fun
    i109 =>
    T.chk
    [(Addr.mk
    n18
    0
    none,
    Value.int
    IntKind.u8
    i94),
    (Addr.mk
    n18
    1
    none,
    Value.int
    IntKind.u8
    i95),
    (Addr.mk
    n18
    2
    none,
    Value.int
    IntKind.u8
    i96),
    (Addr.mk
    n18
    3
    none,
    Value.int
    IntKind.u8
    i97),
    (Addr.mk
    n18
    4
    none,
    Value.int
    IntKind.u8
    i98),
    (Addr.mk
    n18
    5
    none,
    Value.int
    IntKind.u8
    i99),
    (Addr.mk
    n18
    6
    none,
    Value.int
    IntKind.u8
    i100),
    (Addr.mk
    n18
    7
    none,
    Value.int
    IntKind.u8
    i101),
    (Addr.mk
    n18
    8
    none,
    Value.int
    IntKind.u8
    i102),
    (Addr.mk
    n18
    9
    none,
    Value.int
    IntKind.u8
    i103),
    (Addr.mk
    n18
    10
    none,
    Value.int
    IntKind.u8
    i104),
    (Addr.mk
    n18
    11
    none,
    Value.int
    IntKind.u8
    i105),
    (Addr.mk
    n16
    0
    none,
    Value.int
    IntKind.i32
    i76),
    (Addr.mk
    n16
    1
    none,
    Value.int
    IntKind.i64
    i77)]
    (T.call
    12
    [Value.agg
    (Array.mk
    [Value.int
    IntKind.i32
    i108,
    Value.int
    IntKind.i64
    i109])]
    fun
    v110 =>
    T.asA
    v110
    fun
    l111 =>
    T.req
    (List.length
    l111 =
    12)
    (T.asI
    IntKind.u8
    (List.headD
    l111
    (Value.tuple
    (Array.mk
    [])))
    fun
    i112 =>
    T.asI
    IntKind.u8
    (List.headD
    (List.tail
    l111)
    (Value.tuple
    (Array.mk
    [])))
    fun
    i113 =>
    T.asI
    IntKind.u8
    (List.headD
    (List.tail
    (List.tail
    l111))
    (Value.tuple
    (Array.mk
    [])))
    fun
    i114 =>
    T.asI
    IntKind.u8
    (List.headD
    (List.tail
    (List.tail
    (List.tail
    l111)))
    (Value.tuple
    (Array.mk
    [])))
    fun
    i115 =>
    T.asI
    IntKind.u8
    (List.headD
    (List.tail
    (List.tail
    (List.tail
    (List.tail
    l111))))
    (Value.tuple
    (Array.mk
    [])))
    fun
    i116 =>
    T.asI
    IntKind.u8
    (List.headD
    (List.tail
    (List.tail
    (List.tail
    (List.tail
    (List.tail
    l111)))))
    (Value.tuple
    (Array.mk
    [])))
    fun
    i117 =>
    T.asI
    IntKind.u8
    (List.headD
    (List.tail
    (List.tail
    (List.tail
    (List.tail
    (List.tail
    (List.tail
    l111))))))
    (Value.tuple
    (Array.mk
    [])))
    fun
    i118 =>
    T.asI
    IntKind.u8
    (List.headD
    (List.tail
    (List.tail
    (List.tail
    (List.tail
    (List.tail
    (List.tail
    (List.tail
    l111)))))))
    (Value.tuple
    (Array.mk
    [])))
    fun
    i119 =>
    T.asI
    IntKind.u8
    (List.headD
    (List.tail
    (List.tail
    (List.tail
    (List.tail
    (List.tail
    (List.tail
    (List.tail
    (List.tail
    l111))))))))
    (Value.tuple
    (Array.mk
    [])))
    fun
    i120 =>
    T.asI
    IntKind.u8
    (List.headD
    (List.tail
    (List.tail
    (List.tail
    (List.tail
    (List.tail
    (List.tail
    (List.tail
    (List.tail
    (List.tail
    l111)))))))))
    (Value.tuple
    (Array.mk
    [])))
    fun
    i121 =>
    T.asI
    IntKind.u8
    (List.headD
    (List.tail
    (List.tail
    (List.tail
    (List.tail
    (List.tail
    (List.tail
    (List.tail
    (List.tail
    (List.tail
    (List.tail
    l111))))))))))
    (Value.tuple
    (Array.mk
    [])))
    fun
    i122 =>
    T.asI
    IntKind.u8
    (List.headD
    (List.tail
    (List.tail
    (List.tail
    (List.tail
    (List.tail
    (List.tail
    (List.tail
    (List.tail
    (List.tail
    (List.tail
    (List.tail
    l111)))))))))))
    (Value.tuple
    (Array.mk
    [])))
    fun
    i123 =>
    T.chk
    [(Addr.mk
    n18
    0
    none,
    Value.int
    IntKind.u8
    i94),
    (Addr.mk
    n18
    1
    none,
    Value.int
    IntKind.u8
    i95),
    (Addr.mk
    n18
    2
    none,
    Value.int
    IntKind.u8
    i96),
    (Addr.mk
    n18
    3
    none,
    Value.int
    IntKind.u8
    i97),
    (Addr.mk
    n18
    4
    none,
    Value.int
    IntKind.u8
    i98),
    (Addr.mk
    n18
    5
    none,
    Value.int
    IntKind.u8
    i99),
    (Addr.mk
    n18
    6
    none,
    Value.int
    IntKind.u8
    i100),
    (Addr.mk
    n18
    7
    none,
    Value.int
    IntKind.u8
    i101),
    (Addr.mk
    n18
    8
    none,
    Value.int
    IntKind.u8
    i102),
    (Addr.mk
    n18
    9
    none,
    Value.int
    IntKind.u8
    i103),
    (Addr.mk
    n18
    10
    none,
    Value.int
    IntKind.u8
    i104),
    (Addr.mk
    n18
    11
    none,
    Value.int
    IntKind.u8
    i105),
    (Addr.mk
    n16
    0
    none,
    Value.int
    IntKind.i32
    i76),
    (Addr.mk
    n16
    1
    none,
    Value.int
    IntKind.i64
    i77)]
    (T.ret
    (Value.bool
    (i112 ==
    i94 &&
    (i113 ==
    i95 &&
    (i114 ==
    i96 &&
    (i115 ==
    i97 &&
    (i116 ==
    i98 &&
    (i117 ==
    i99 &&
    (i118 ==
    i100 &&
    (i119 ==
    i101 &&
    (i120 ==
    i102 &&
    (i121 ==
    i103 &&
    (i122 ==
    i104 &&
    (i123 ==
    i105 &&
    true))))))))))))))))))
    (T.chk
    [(Addr.mk
    n16
    0
    none,
    Value.int
    IntKind.i32
    i76),
    (Addr.mk
    n16
    1
    none,
    Value.int
    IntKind.i64
    i77)]
    (T.chk
    [(Addr.mk
    n16
    0
    none,
    Value.int
    IntKind.i32
    i76),
    (Addr.mk
    n16
    1
    none,
    Value.int
    IntKind.i64
    i77)]
    (T.ret
    (Value.bool
    false)))))))
    (T.chk
    []
    (T.chk
    []
    (T.chk
    []
    (T.ret
    (Value.bool
    false)))))))
    (T.chk
    []
    (T.chk
    []
    (T.chk
    []
    (T.chk
    []
    (T.ret
    (Value.bool
    false)))))))))
    (T.loop 1
    [Value.int
    IntKind.i64
    0,
    Value.int
    IntKind.i64
    0]
    fun l124
    j125 =>
    T.asI
    IntKind.i64
    (List.headD
    l124
    (Value.tuple
    (Array.mk
    [])))
    fun
    i126 =>
    T.asI
    IntKind.i64
    (List.headD
    (List.tail
    l124)
    (Value.tuple
    (Array.mk
    [])))
    fun
    i127 =>
    T.ite
    (decide
    (i127 <
    12))
    (T.drew
    (T.req
    (0 ≤
    i127 ∧
    i127 <
    12)
    (T.ldI
    IntKind.u8
    n51
    (0 +
    Int.toNat
    i127 *
    1)
    fun
    i128 =>
    T.req
    (0 ≤
    i127 ∧
    i127 <
    12)
    (T.ldI
    IntKind.u8
    n52
    (0 +
    Int.toNat
    i127 *
    1)
    fun
    i129 =>
    T.ite
    (i128 !=
    i129)
    (T.drew
    (T.req
    (0 ≤
    i127 ∧
    i127 <
    12)
    (T.ldI
    IntKind.u8
    n51
    (0 +
    Int.toNat
    i127 *
    1)
    fun
    i130 =>
    T.req
    (0 ≤
    i127 ∧
    i127 <
    12)
    (T.ldI
    IntKind.u8
    n52
    (0 +
    Int.toNat
    i127 *
    1)
    fun
    i131 =>
    T.ite
    (decide
    (i130 <
    i131))
    (T.next
    0
    [Value.int
    IntKind.i64
    (-1)]
    ([Value.pointer
    (some
    (Addr.mk
    n16
    0
    none)),
    Value.pointer
    (some
    (Addr.mk
    n17
    0
    none)),
    Value.pointer
    (some
    (Addr.mk
    n18
    0
    none)),
    Value.pointer
    (some
    (Addr.mk
    n51
    0
    none))] =
    [Value.pointer
    (some
    (Addr.mk
    n16
    0
    none)),
    Value.pointer
    (some
    (Addr.mk
    n17
    0
    none)),
    Value.pointer
    (some
    (Addr.mk
    n18
    0
    none)),
    Value.pointer
    (some
    (Addr.mk
    n51
    0
    none))] ∧ ([] : List Deferred) = []))
    (T.next
    0
    [Value.int
    IntKind.i64
    1]
    ([Value.pointer
    (some
    (Addr.mk
    n16
    0
    none)),
    Value.pointer
    (some
    (Addr.mk
    n17
    0
    none)),
    Value.pointer
    (some
    (Addr.mk
    n18
    0
    none)),
    Value.pointer
    (some
    (Addr.mk
    n51
    0
    none))] =
    [Value.pointer
    (some
    (Addr.mk
    n16
    0
    none)),
    Value.pointer
    (some
    (Addr.mk
    n17
    0
    none)),
    Value.pointer
    (some
    (Addr.mk
    n18
    0
    none)),
    Value.pointer
    (some
    (Addr.mk
    n51
    0
    none))] ∧ ([] : List Deferred) = []))))))
    (T.next
    1
    [Value.int
    IntKind.i64
    i126,
    Value.int
    IntKind.i64
    (IntKind.wrap
    IntKind.i64
    (i127 +
    1))]
    ([Value.pointer
    (some
    (Addr.mk
    n16
    0
    none)),
    Value.pointer
    (some
    (Addr.mk
    n17
    0
    none)),
    Value.pointer
    (some
    (Addr.mk
    n18
    0
    none)),
    Value.pointer
    (some
    (Addr.mk
    n51
    0
    none)),
    Value.pointer
    (some
    (Addr.mk
    n52
    0
    none))] =
    [Value.pointer
    (some
    (Addr.mk
    n16
    0
    none)),
    Value.pointer
    (some
    (Addr.mk
    n17
    0
    none)),
    Value.pointer
    (some
    (Addr.mk
    n18
    0
    none)),
    Value.pointer
    (some
    (Addr.mk
    n51
    0
    none)),
    Value.pointer
    (some
    (Addr.mk
    n52
    0
    none))] ∧ ([] : List Deferred) = []))))))
    (T.next
    0
    [Value.int
    IntKind.i64
    i126]
    ([Value.pointer
    (some
    (Addr.mk
    n16
    0
    none)),
    Value.pointer
    (some
    (Addr.mk
    n17
    0
    none)),
    Value.pointer
    (some
    (Addr.mk
    n18
    0
    none)),
    Value.pointer
    (some
    (Addr.mk
    n51
    0
    none))] =
    [Value.pointer
    (some
    (Addr.mk
    n16
    0
    none)),
    Value.pointer
    (some
    (Addr.mk
    n17
    0
    none)),
    Value.pointer
    (some
    (Addr.mk
    n18
    0
    none)),
    Value.pointer
    (some
    (Addr.mk
    n51
    0
    none))] ∧ ([] : List Deferred) = []))))))))))))))))))))))))))))))))
    (T.new
    (Obj.cells
    (Array.mk
    [Value.int IntKind.u8 0, Value.int IntKind.u8 0,
    Value.int IntKind.u8 0, Value.int IntKind.u8 0,
    Value.int IntKind.u8 0, Value.int IntKind.u8 0,
    Value.int IntKind.u8 0, Value.int IntKind.u8 0,
    Value.int IntKind.u8 0, Value.int IntKind.u8 0,
    Value.int IntKind.u8 0, Value.int IntKind.u8 0])
    27)
    fun n132 =>
    T.chk []
    (T.new
    (Obj.cells
    (Array.mk
    [Value.int IntKind.u8 0, Value.int IntKind.u8 0,
    Value.int IntKind.u8 0, Value.int IntKind.u8 0,
    Value.int IntKind.u8 0, Value.int IntKind.u8 0,
    Value.int IntKind.u8 0, Value.int IntKind.u8 0,
    Value.int IntKind.u8 0, Value.int IntKind.u8 0,
    Value.int IntKind.u8 0, Value.int IntKind.u8 0])
    27)
    fun n133 =>
    T.chk []
    (T.st n133 0 (Value.int IntKind.u8 i25)
    (T.st n133 1 (Value.int IntKind.u8 i26)
    (T.st n133 2 (Value.int IntKind.u8 i27)
    (T.st n133 3 (Value.int IntKind.u8 i28)
    (T.st n133 4 (Value.int IntKind.u8 i29)
    (T.st n133 5 (Value.int IntKind.u8 i30)
    (T.st n133 6 (Value.int IntKind.u8 i31)
    (T.st n133 7 (Value.int IntKind.u8 i32)
    (T.st n133 8 (Value.int IntKind.u8 i33)
    (T.st n133 9 (Value.int IntKind.u8 i34)
    (T.st n133 10 (Value.int IntKind.u8 i35)
    (T.st n133 11 (Value.int IntKind.u8 i36)
    (T.chk []
    (T.st n132 0 (Value.int IntKind.u8 i39)
    (T.st n132 1
    (Value.int IntKind.u8 i40)
    (T.st n132 2
    (Value.int IntKind.u8 i41)
    (T.st n132 3
    (Value.int IntKind.u8 i42)
    (T.st n132 4
    (Value.int IntKind.u8 i43)
    (T.st n132 5
    (Value.int IntKind.u8 i44)
    (T.st n132 6
    (Value.int IntKind.u8 i45)
    (T.st n132 7
    (Value.int IntKind.u8
    i46)
    (T.st n132 8
    (Value.int IntKind.u8
    i47)
    (T.st n132 9
    (Value.int
    IntKind.u8 i48)
    (T.st n132 10
    (Value.int
    IntKind.u8 i49)
    (T.st n132 11
    (Value.int
    IntKind.u8
    i50)
    (T.chk []
    (T.blk 0
    (fun l134
    j135 =>
    T.asI
    IntKind.i64
    (List.headD
    l134
    (Value.tuple
    (Array.mk
    [])))
    fun
    i136 =>
    T.drew
    (T.call
    11
    []
    fun
    v137 =>
    T.asB
    v137
    fun
    b138 =>
    T.chk
    []
    (T.ite
    b138
    (T.ldI
    IntKind.i32
    n16
    0
    fun
    i139 =>
    T.ldI
    IntKind.i64
    n16
    1
    fun
    i140 =>
    T.ldI
    IntKind.i32
    n17
    0
    fun
    i141 =>
    T.ldI
    IntKind.i64
    n17
    1
    fun
    i142 =>
    T.call
    10
    [Value.agg
    (Array.mk
    [Value.int
    IntKind.i32
    i139,
    Value.int
    IntKind.i64
    i140]),
    Value.agg
    (Array.mk
    [Value.int
    IntKind.i32
    i141,
    Value.int
    IntKind.i64
    i142])]
    fun
    v143 =>
    T.asI
    IntKind.i64
    v143
    fun
    i144 =>
    T.chk
    []
    (T.ite
    (i136 ==
    i144)
    (T.ldI
    IntKind.u8
    n133
    0
    fun
    i145 =>
    T.ldI
    IntKind.u8
    n133
    1
    fun
    i146 =>
    T.ldI
    IntKind.u8
    n133
    2
    fun
    i147 =>
    T.ldI
    IntKind.u8
    n133
    3
    fun
    i148 =>
    T.ldI
    IntKind.u8
    n133
    4
    fun
    i149 =>
    T.ldI
    IntKind.u8
    n133
    5
    fun
    i150 =>
    T.ldI
    IntKind.u8
    n133
    6
    fun
    i151 =>
    T.ldI
    IntKind.u8
    n133
    7
    fun
    i152 =>
    T.ldI
    IntKind.u8
    n133
    8
    fun
    i153 =>
    T.ldI
    IntKind.u8
    n133
    9
    fun
    i154 =>
    T.ldI
    IntKind.u8
    n133
    10
    fun
    i155 =>
    T.ldI
    IntKind.u8
    n133
    11
    fun
    i156 =>
    T.ldI
    IntKind.i32
    n16
    0
    fun
    i157 =>
    T.ldI
    IntKind.i64
    n16
    1
    fun
    i158 =>
    T.call
    13
    [Value.agg
    (Array.mk
    [Value.int
    IntKind.u8
    i145,
    Value.int
    IntKind.u8
    i146,
    Value.int
    IntKind.u8
    i147,
    Value.int
    IntKind.u8
    i148,
    Value.int
    IntKind.u8
    i149,
    Value.int
    IntKind.u8
    i150,
    Value.int
    IntKind.u8
    i151,
    Value.int
    IntKind.u8
    i152,
    Value.int
    IntKind.u8
    i153,
    Value.int
    IntKind.u8
    i154,
    Value.int
    IntKind.u8
    i155,
    Value.int
    IntKind.u8
    i156])]
    fun
    v159 =>
    T.asA
    v159
    fun
    l160 =>
    T.req
    (List.length
    l160 =
    2)
    (T.asI
    IntKind.i32
    (List.headD
    l160
    (Value.tuple
    (Array.mk
    [])))
    fun
    i161 =>
    T.asI
    IntKind.i64
    (List.headD
    (List.tail
    l160)
    (Value.tuple
    (Array.mk
    [])))
    fun
    i162 =>
    T.chk
    [(Addr.mk
    n16
    0
    none,
    Value.int
    IntKind.i32
    i157),
    (Addr.mk
    n16
    1
    none,
    Value.int
    IntKind.i64
    i158)]
    (T.ite
    (i161 ==
    i157 &&
    (i162 ==
    i158 &&
    true))
    (T.ldI
    IntKind.u8
    n18
    0
    fun
    i163 =>
    T.ldI
    IntKind.u8
    n18
    1
    fun
    i164 =>
    T.ldI
    IntKind.u8
    n18
    2
    fun
    i165 =>
    T.ldI
    IntKind.u8
    n18
    3
    fun
    i166 =>
    T.ldI
    IntKind.u8
    n18
    4
    fun
    i167 =>
    T.ldI
    IntKind.u8
    n18
    5
    fun
    i168 =>
    T.ldI
    IntKind.u8
    n18
    6
    fun
    i169 =>
    T.ldI
    IntKind.u8
    n18
    7
    fun
    i170 =>
    T.ldI
    IntKind.u8
    n18
    8
    fun
    i171 =>
    T.ldI
    IntKind.u8
    n18
    9
    fun
    i172 =>
    T.ldI
    IntKind.u8
    n18
    10
    fun
    i173 =>
    T.ldI
    IntKind.u8
    n18
    11
    fun
    i174 =>
    T.ldI
    IntKind.u8
    n18
    0
    fun
    i175 =>
    T.ldI
    IntKind.u8
    n18
    1
    fun
    i176 =>
    T.ldI
    IntKind.u8
    n18
    2
    fun
    i177 =>
    T.ldI
    IntKind.u8
    n18
    3
    fun
    i178 =>
    T.ldI
    IntKind.u8
    n18
    4
    fun
    i179 =>
    T.ldI
    IntKind.u8
    n18
    5
    fun
    i180 =>
    T.ldI
    IntKind.u8
    n18
    6
    fun
    i181 =>
    T.ldI
    IntKind.u8
    n18
    7
    fun
    i182 =>
    T.ldI
    IntKind.u8
    n18
    8
    fun
    i183 =>
    T.ldI
    IntKind.u8
    n18
    9
    fun
    i184 =>
    T.ldI
    IntKind.u8
    n18
    10
    fun
    i185 =>
    T.ldI
    IntKind.u8
    n18
    11
    fun
    i186 =>
    T.call
    13
    [Value.agg
    (Array.mk
    [Value.int
    IntKind.u8
    i163,
    Value.int
    IntKind.u8
    i164,
    Value.int
    IntKind.u8
    i165,
    Value.int
    IntKind.u8
    i166,
    Value.int
    IntKind.u8
    i167,
    Value.int
    IntKind.u8
    i168,
    Value.int
    IntKind.u8
    i169,
    Value.int
    IntKind.u8
    i170,
    Value.int
    IntKind.u8
    i171,
    Value.int
    IntKind.u8
    i172,
    Value.int
    IntKind.u8
    i173,
    Value.int
    IntKind.u8
    i174])]
    fun
    v187 =>
    T.asA
    v187
    fun
    l188 =>
    T.req
    (List.length
    l188 =
    2)
    (T.asI
    IntKind.i32
    (List.headD
    l188
    (Value.tuple
    (Array.mk
    [])))
    fun
    i189 =>
    T.asI
    IntKind.i64
    (List.headD
    (List.tail
    l188)
    (Value.tuple
    (Array.mk
    [])))
    fun
    i190 =>
    T.chk
    [(Addr.mk
    n18
    0
    none,
    Value.int
    IntKind.u8
    i175),
    (Addr.mk
    n18
    1
    none,
    Value.int
    IntKind.u8
    i176),
    (Addr.mk
    n18
    2
    none,
    Value.int
    IntKind.u8
    i177),
    (Addr.mk
    n18
    3
    none,
    Value.int
    IntKind.u8
    i178),
    (Addr.mk
    n18
    4
    none,
    Value.int
    IntKind.u8
    i179),
    (Addr.mk
    n18
    5
    none,
    Value.int
    IntKind.u8
    i180),
    (Addr.mk
    n18
    6
    none,
    Value.int
    IntKind.u8
    i181),
    (Addr.mk
    n18
    7
    none,
    Value.int
    IntKind.u8
    i182),
    (Addr.mk
    n18
    8
    none,
    Value.int
    IntKind.u8
    i183),
    (Addr.mk
    n18
    9
    none,
    Value.int
    IntKind.u8
    i184),
    (Addr.mk
    n18
    10
    none,
    Value.int
    IntKind.u8
    i185),
    (Addr.mk
    n18
    11
    none,
    Value.int
    IntKind.u8
    i186),
    (Addr.mk
    n16
    0
    none,
    Value.int
    IntKind.i32
    i157),
    (Addr.mk
    n16
    1
    none,
    Value.int
    IntKind.i64
    i158)]
    (T.call
    12
    [Value.agg
    (Array.mk
    [Value.int
    IntKind.i32
    i189,
    Value.int
    IntKind.i64
    i190])]
    fun
    v191 =>
    T.asA
    v191
    fun
    l192 =>
    T.req
    (List.length
    l192 =
    12)
    (T.asI
    IntKind.u8
    (List.headD
    l192
    (Value.tuple
    (Array.mk
    [])))
    fun
    i193 =>
    T.asI
    IntKind.u8
    (List.headD
    (List.tail
    l192)
    (Value.tuple
    (Array.mk
    [])))
    fun
    i194 =>
    T.asI
    IntKind.u8
    (List.headD
    (List.tail
    (List.tail
    l192))
    (Value.tuple
    (Array.mk
    [])))
    fun
    i195 =>
    T.asI
    IntKind.u8
    (List.headD
    (List.tail
    (List.tail
    (List.tail
    l192)))
    (Value.tuple
    (Array.mk
    [])))
    fun
    i196 =>
    T.asI
    IntKind.u8
    (List.headD
    (List.tail
    (List.tail
    (List.tail
    (List.tail
    l192))))
    (Value.tuple
    (Array.mk
    [])))
    fun
    i197 =>
    T.asI
    IntKind.u8
    (List.headD
    (List.tail
    (List.tail
    (List.tail
    (List.tail
    (List.tail
    l192)))))
    (Value.tuple
    (Array.mk
    [])))
    fun
    i198 =>
    T.asI
    IntKind.u8
    (List.headD
    (List.tail
    (List.tail
    (List.tail
    (List.tail
    (List.tail
    (List.tail
    l192))))))
    (Value.tuple
    (Array.mk
    [])))
    fun
    i199 =>
    T.asI
    IntKind.u8
    (List.headD
    (List.tail
    (List.tail
    (List.tail
    (List.tail
    (List.tail
    (List.tail
    (List.tail
    l192)))))))
    (Value.tuple
    (Array.mk
    [])))
    fun
    i200 =>
    T.asI
    IntKind.u8
    (List.headD
    (List.tail
    (List.tail
    (List.tail
    (List.tail
    (List.tail
    (List.tail
    (List.tail
    (List.tail
    l192))))))))
    (Value.tuple
    (Array.mk
    [])))
    fun
    i201 =>
    T.asI
    IntKind.u8
    (List.headD
    (List.tail
    (List.tail
    (List.tail
    (List.tail
    (List.tail
    (List.tail
    (List.tail
    (List.tail
    (List.tail
    l192)))))))))
    (Value.tuple
    (Array.mk
    [])))
    fun
    i202 =>
    T.asI
    IntKind.u8
    (List.headD
    (List.tail
    (List.tail
    (List.tail
    (List.tail
    (List.tail
    (List.tail
    (List.tail
    (List.tail
    (List.tail
    (List.tail
    l192))))))))))
    (Value.tuple
    (Array.mk
    [])))
    fun
    i203 =>
    T.asI
    IntKind.u8
    (List.headD
    (List.tail
    (List.tail
    (List.tail
    (List.tail
    (List.tail
    (List.tail
    (List.tail
    (List.tail
    (List.tail
    (List.tail
    (List.tail
    l192)))))))))))
    (Value.tuple
    (Array.mk
    [])))
    fun
    i204 =>
    T.chk
    [(Addr.mk
    n18
    0
    none,
    Value.int
    IntKind.u8
    i175),
    (Addr.mk
    n18
    1
    none,
    Value.int
    IntKind.u8
    i176),
    (Addr.mk
    n18
    2
    none,
    Value.int
    IntKind.u8
    i177),
    (Addr.mk
    n18
    3
    none,
    Value.int
    IntKind.u8
    i178),
    (Addr.mk
    n18
    4
    none,
    Value.int
    IntKind.u8
    i179),
    (Addr.mk
    n18
    5
    none,
    Value.int
    IntKind.u8
    i180),
    (Addr.mk
    n18
    6
    none,
    Value.int
    IntKind.u8
    i181),
    (Addr.mk
    n18
    7
    none,
    Value.int
    IntKind.u8
    i182),
    (Addr.mk
    n18
    8
    none,
    Value.int
    IntKind.u8
    i183),
    (Addr.mk
    n18
    9
    none,
    Value.int
    IntKind.u8
    i184),
    (Addr.mk
    n18
    10
    none,
    Value.int
    IntKind.u8
    i185),
    (Addr.mk
    n18
    11
    none,
    Value.int
    IntKind.u8
    i186),
    (Addr.mk
    n16
    0
    none,
    Value.int
    IntKind.i32
    i157),
    (Addr.mk
    n16
    1
    none,
    Value.int
    IntKind.i64
    i158)]
    (T.ret
    (Value.bool
    (i193 ==
    i175 &&
    (i194 ==
    i176 &&
    (i195 ==
    i177 &&
    (i196 ==
    i178 &&
    (i197 ==
    i179 &&
    (i198 ==
    i180 &&
    (i199 ==
    i181 &&
    (i200 ==
    i182 &&
    (i201 ==
    i183 &&
    (i202 ==
    i184 &&
    (i203 ==
    i185 &&
    (i204 ==
    i186 &&
    true))))))))))))))))))
    (T.chk
    [(Addr.mk
    n16
    0
    none,
    Value.int
    IntKind.i32
    i157),
    (Addr.mk
    n16
    1
    none,
    Value.int
    IntKind.i64
    i158)]
    (T.chk
    [(Addr.mk
    n16
    0
    none,
    Value.int
    IntKind.i32
    i157),
    (Addr.mk
    n16
    1
    none,
    Value.int
    IntKind.i64
    i158)]
    (T.ret
    (Value.bool
    false)))))))
    (T.chk
    []
    (T.chk
    []
    (T.chk
    []
    (T.ret
    (Value.bool
    false)))))))
    (T.chk
    []
    (T.chk
    []
    (T.chk
    []
    (T.chk
    []
    (T.ret
    (Value.bool
    false)))))))))
    (T.loop 1
    [Value.int
    IntKind.i64
    0,
    Value.int
    IntKind.i64
    0]
    fun l205
    j206 =>
    T.asI
    IntKind.i64
    (List.headD
    l205
    (Value.tuple
    (Array.mk
    [])))
    fun
    i207 =>
    T.asI
    IntKind.i64
    (List.headD
    (List.tail
    l205)
    (Value.tuple
    (Array.mk
    [])))
    fun
    i208 =>
    T.ite
    (decide
    (i208 <
    12))
    (T.drew
    (T.req
    (0 ≤
    i208 ∧
    i208 <
    12)
    (T.ldI
    IntKind.u8
    n133
    (0 +
    Int.toNat
    i208 *
    1)
    fun
    i209 =>
    T.req
    (0 ≤
    i208 ∧
    i208 <
    12)
    (T.ldI
    IntKind.u8
    n132
    (0 +
    Int.toNat
    i208 *
    1)
    fun
    i210 =>
    T.ite
    (i209 !=
    i210)
    (T.drew
    (T.req
    (0 ≤
    i208 ∧
    i208 <
    12)
    (T.ldI
    IntKind.u8
    n133
    (0 +
    Int.toNat
    i208 *
    1)
    fun
    i211 =>
    T.req
    (0 ≤
    i208 ∧
    i208 <
    12)
    (T.ldI
    IntKind.u8
    n132
    (0 +
    Int.toNat
    i208 *
    1)
    fun
    i212 =>
    T.ite
    (decide
    (i211 <
    i212))
    (T.next
    0
    [Value.int
    IntKind.i64
    (-1)]
    ([Value.pointer
    (some
    (Addr.mk
    n16
    0
    none)),
    Value.pointer
    (some
    (Addr.mk
    n17
    0
    none)),
    Value.pointer
    (some
    (Addr.mk
    n18
    0
    none)),
    Value.pointer
    (some
    (Addr.mk
    n133
    0
    none))] =
    [Value.pointer
    (some
    (Addr.mk
    n16
    0
    none)),
    Value.pointer
    (some
    (Addr.mk
    n17
    0
    none)),
    Value.pointer
    (some
    (Addr.mk
    n18
    0
    none)),
    Value.pointer
    (some
    (Addr.mk
    n133
    0
    none))] ∧ ([] : List Deferred) = []))
    (T.next
    0
    [Value.int
    IntKind.i64
    1]
    ([Value.pointer
    (some
    (Addr.mk
    n16
    0
    none)),
    Value.pointer
    (some
    (Addr.mk
    n17
    0
    none)),
    Value.pointer
    (some
    (Addr.mk
    n18
    0
    none)),
    Value.pointer
    (some
    (Addr.mk
    n133
    0
    none))] =
    [Value.pointer
    (some
    (Addr.mk
    n16
    0
    none)),
    Value.pointer
    (some
    (Addr.mk
    n17
    0
    none)),
    Value.pointer
    (some
    (Addr.mk
    n18
    0
    none)),
    Value.pointer
    (some
    (Addr.mk
    n133
    0
    none))] ∧ ([] : List Deferred) = []))))))
    (T.next
    1
    [Value.int
    IntKind.i64
    i207,
    Value.int
    IntKind.i64
    (IntKind.wrap
    IntKind.i64
    (i208 +
    1))]
    ([Value.pointer
    (some
    (Addr.mk
    n16
    0
    none)),
    Value.pointer
    (some
    (Addr.mk
    n17
    0
    none)),
    Value.pointer
    (some
    (Addr.mk
    n18
    0
    none)),
    Value.pointer
    (some
    (Addr.mk
    n133
    0
    none)),
    Value.pointer
    (some
    (Addr.mk
    n132
    0
    none))] =
    [Value.pointer
    (some
    (Addr.mk
    n16
    0
    none)),
    Value.pointer
    (some
    (Addr.mk
    n17
    0
    none)),
    Value.pointer
    (some
    (Addr.mk
    n18
    0
    none)),
    Value.pointer
    (some
    (Addr.mk
    n133
    0
    none)),
    Value.pointer
    (some
    (Addr.mk
    n132
    0
    none))] ∧ ([] : List Deferred) = []))))))
    (T.next
    0
    [Value.int
    IntKind.i64
    i207]
    ([Value.pointer
    (some
    (Addr.mk
    n16
    0
    none)),
    Value.pointer
    (some
    (Addr.mk
    n17
    0
    none)),
    Value.pointer
    (some
    (Addr.mk
    n18
    0
    none)),
    Value.pointer
    (some
    (Addr.mk
    n133
    0
    none))] =
    [Value.pointer
    (some
    (Addr.mk
    n16
    0
    none)),
    Value.pointer
    (some
    (Addr.mk
    n17
    0
    none)),
    Value.pointer
    (some
    (Addr.mk
    n18
    0
    none)),
    Value.pointer
    (some
    (Addr.mk
    n133
    0
    none))] ∧ ([] : List Deferred) = [])))))))))))))))))))))))))))))))))))
    (T.both
    (T.new
    (Obj.cells
    (Array.mk
    [Value.int IntKind.u8 0, Value.int IntKind.u8 0, Value.int IntKind.u8 0, Value.int IntKind.u8 0,
    Value.int IntKind.u8 0, Value.int IntKind.u8 0, Value.int IntKind.u8 0, Value.int IntKind.u8 0,
    Value.int IntKind.u8 0, Value.int IntKind.u8 0, Value.int IntKind.u8 0, Value.int IntKind.u8 0])
    27)
    fun n213 =>
    T.chk [(Addr.mk n17 0 none, Value.int IntKind.i32 i21), (Addr.mk n17 1 none, Value.int IntKind.i64 i22)]
    (T.both
    (T.call 12 [Value.agg (Array.mk [Value.int IntKind.i32 i21, Value.int IntKind.i64 i22])] fun v214 =>
    T.asA v214 fun l215 =>
    T.req (List.length l215 = 12)
    (T.asI IntKind.u8 (List.headD l215 (Value.tuple (Array.mk []))) fun i216 =>
    T.asI IntKind.u8 (List.headD (List.tail l215) (Value.tuple (Array.mk []))) fun i217 =>
    T.asI IntKind.u8 (List.headD (List.tail (List.tail l215)) (Value.tuple (Array.mk [])))
    fun i218 =>
    T.asI IntKind.u8
    (List.headD (List.tail (List.tail (List.tail l215))) (Value.tuple (Array.mk [])))
    fun i219 =>
    T.asI IntKind.u8
    (List.headD (List.tail (List.tail (List.tail (List.tail l215))))
    (Value.tuple (Array.mk [])))
    fun i220 =>
    T.asI IntKind.u8
    (List.headD (List.tail (List.tail (List.tail (List.tail (List.tail l215)))))
    (Value.tuple (Array.mk [])))
    fun i221 =>
    T.asI IntKind.u8
    (List.headD
    (List.tail (List.tail (List.tail (List.tail (List.tail (List.tail l215))))))
    (Value.tuple (Array.mk [])))
    fun i222 =>
    T.asI IntKind.u8
    (List.headD
    (List.tail
    (List.tail
    (List.tail (List.tail (List.tail (List.tail (List.tail l215)))))))
    (Value.tuple (Array.mk [])))
    fun i223 =>
    T.asI IntKind.u8
    (List.headD
    (List.tail
    (List.tail
    (List.tail
    (List.tail (List.tail (List.tail (List.tail (List.tail l215))))))))
    (Value.tuple (Array.mk [])))
    fun i224 =>
    T.asI IntKind.u8
    (List.headD
    (List.tail
    (List.tail
    (List.tail
    (List.tail
    (List.tail
    (List.tail (List.tail (List.tail (List.tail l215)))))))))
    (Value.tuple (Array.mk [])))
    fun i225 =>
    T.asI IntKind.u8
    (List.headD
    (List.tail
    (List.tail
    (List.tail
    (List.tail
    (List.tail
    (List.tail
    (List.tail (List.tail (List.tail (List.tail l215))))))))))
    (Value.tuple (Array.mk [])))
    fun i226 =>
    T.asI IntKind.u8
    (List.headD
    (List.tail
    (List.tail
    (List.tail
    (List.tail
    (List.tail
    (List.tail
    (List.tail
    (List.tail
    (List.tail (List.tail (List.tail l215)))))))))))
    (Value.tuple (Array.mk [])))
    fun i227 =>
    T.chk []
    (T.new
    (Obj.cells
    (Array.mk
    [Value.int IntKind.u8 0, Value.int IntKind.u8 0,
    Value.int IntKind.u8 0, Value.int IntKind.u8 0,
    Value.int IntKind.u8 0, Value.int IntKind.u8 0,
    Value.int IntKind.u8 0, Value.int IntKind.u8 0,
    Value.int IntKind.u8 0, Value.int IntKind.u8 0,
    Value.int IntKind.u8 0, Value.int IntKind.u8 0])
    27)
    fun n228 =>
    T.chk []
    (T.st n213 0 (Value.int IntKind.u8 i25)
    (T.st n213 1 (Value.int IntKind.u8 i26)
    (T.st n213 2 (Value.int IntKind.u8 i27)
    (T.st n213 3 (Value.int IntKind.u8 i28)
    (T.st n213 4 (Value.int IntKind.u8 i29)
    (T.st n213 5 (Value.int IntKind.u8 i30)
    (T.st n213 6 (Value.int IntKind.u8 i31)
    (T.st n213 7 (Value.int IntKind.u8 i32)
    (T.st n213 8 (Value.int IntKind.u8 i33)
    (T.st n213 9 (Value.int IntKind.u8 i34)
    (T.st n213 10 (Value.int IntKind.u8 i35)
    (T.st n213 11 (Value.int IntKind.u8 i36)
    (T.chk []
    (T.st n228 0
    (Value.int IntKind.u8 i216)
    (T.st n228 1
    (Value.int IntKind.u8 i217)
    (T.st n228 2
    (Value.int IntKind.u8 i218)
    (T.st n228 3
    (Value.int IntKind.u8 i219)
    (T.st n228 4
    (Value.int IntKind.u8 i220)
    (T.st n228 5
    (Value.int IntKind.u8
    i221)
    (T.st n228 6
    (Value.int IntKind.u8
    i222)
    (T.st n228 7
    (Value.int IntKind.u8
    i223)
    (T.st n228 8
    (Value.int
    IntKind.u8 i224)
    (T.st n228 9
    (Value.int
    IntKind.u8 i225)
    (T.st n228 10
    (Value.int
    IntKind.u8
    i226)
    (T.st n228 11
    (Value.int
    IntKind.u8
    i227)
    (T.chk []
    (T.blk 0
    (fun l229
    j230 =>
    T.asI
    IntKind.i64
    (List.headD
    l229
    (Value.tuple
    (Array.mk
    [])))
    fun
    i231 =>
    T.drew
    (T.call
    11
    []
    fun
    v232 =>
    T.asB
    v232
    fun
    b233 =>
    T.chk
    []
    (T.ite
    b233
    (T.ldI
    IntKind.i32
    n16
    0
    fun
    i234 =>
    T.ldI
    IntKind.i64
    n16
    1
    fun
    i235 =>
    T.ldI
    IntKind.i32
    n17
    0
    fun
    i236 =>
    T.ldI
    IntKind.i64
    n17
    1
    fun
    i237 =>
    T.call
    10
    [Value.agg
    (Array.mk
    [Value.int
    IntKind.i32
    i234,
    Value.int
    IntKind.i64
    i235]),
    Value.agg
    (Array.mk
    [Value.int
    IntKind.i32
    i236,
    Value.int
    IntKind.i64
    i237])]
    fun
    v238 =>
    T.asI
    IntKind.i64
    v238
    fun
    i239 =>
    T.chk
    []
    (T.ite
    (i231 ==
    i239)
    (T.ldI
    IntKind.u8
    n213
    0
    fun
    i240 =>
    T.ldI
    IntKind.u8
    n213
    1
    fun
    i241 =>
    T.ldI
    IntKind.u8
    n213
    2
    fun
    i242 =>
    T.ldI
    IntKind.u8
    n213
    3
    fun
    i243 =>
    T.ldI
    IntKind.u8
    n213
    4
    fun
    i244 =>
    T.ldI
    IntKind.u8
    n213
    5
    fun
    i245 =>
    T.ldI
    IntKind.u8
    n213
    6
    fun
    i246 =>
    T.ldI
    IntKind.u8
    n213
    7
    fun
    i247 =>
    T.ldI
    IntKind.u8
    n213
    8
    fun
    i248 =>
    T.ldI
    IntKind.u8
    n213
    9
    fun
    i249 =>
    T.ldI
    IntKind.u8
    n213
    10
    fun
    i250 =>
    T.ldI
    IntKind.u8
    n213
    11
    fun
    i251 =>
    T.ldI
    IntKind.i32
    n16
    0
    fun
    i252 =>
    T.ldI
    IntKind.i64
    n16
    1
    fun
    i253 =>
    T.call
    13
    [Value.agg
    (Array.mk
    [Value.int
    IntKind.u8
    i240,
    Value.int
    IntKind.u8
    i241,
    Value.int
    IntKind.u8
    i242,
    Value.int
    IntKind.u8
    i243,
    Value.int
    IntKind.u8
    i244,
    Value.int
    IntKind.u8
    i245,
    Value.int
    IntKind.u8
    i246,
    Value.int
    IntKind.u8
    i247,
    Value.int
    IntKind.u8
    i248,
    Value.int
    IntKind.u8
    i249,
    Value.int
    IntKind.u8
    i250,
    Value.int
    IntKind.u8
    i251])]
    fun
    v254 =>
    T.asA
    v254
    fun
    l255 =>
    T.req
    (List.length
    l255 =
    2)
    (T.asI
    IntKind.i32
    (List.headD
    l255
    (Value.tuple
    (Array.mk
    [])))
    fun
    i256 =>
    T.asI
    IntKind.i64
    (List.headD
    (List.tail
    l255)
    (Value.tuple
    (Array.mk
    [])))
    fun
    i257 =>
    T.chk
    [(Addr.mk
    n16
    0
    none,
    Value.int
    IntKind.i32
    i252),
    (Addr.mk
    n16
    1
    none,
    Value.int
    IntKind.i64
    i253)]
    (T.ite
    (i256 ==
    i252 &&
    (i257 ==
    i253 &&
    true))
    (T.ldI
    IntKind.u8
    n18
    0
    fun
    i258 =>
    T.ldI
    IntKind.u8
    n18
    1
    fun
    i259 =>
    T.ldI
    IntKind.u8
    n18
    2
    fun
    i260 =>
    T.ldI
    IntKind.u8
    n18
    3
    fun
    i261 =>
    T.ldI
    IntKind.u8
    n18
    4
    fun
    i262 =>
    T.ldI
    IntKind.u8
    n18
    5
    fun
    i263 =>
    T.ldI
    IntKind.u8
    n18
    6
    fun
    i264 =>
    T.ldI
    IntKind.u8
    n18
    7
    fun
    i265 =>
    T.ldI
    IntKind.u8
    n18
    8
    fun
    i266 =>
    T.ldI
    IntKind.u8
    n18
    9
    fun
    i267 =>
    T.ldI
    IntKind.u8
    n18
    10
    fun
    i268 =>
    T.ldI
    IntKind.u8
    n18
    11
    fun
    i269 =>
    T.ldI
    IntKind.u8
    n18
    0
    fun
    i270 =>
    T.ldI
    IntKind.u8
    n18
    1
    fun
    i271 =>
    T.ldI
    IntKind.u8
    n18
    2
    fun
    i272 =>
    T.ldI
    IntKind.u8
    n18
    3
    fun
    i273 =>
    T.ldI
    IntKind.u8
    n18
    4
    fun
    i274 =>
    T.ldI
    IntKind.u8
    n18
    5
    fun
    i275 =>
    T.ldI
    IntKind.u8
    n18
    6
    fun
    i276 =>
    T.ldI
    IntKind.u8
    n18
    7
    fun
    i277 =>
    T.ldI
    IntKind.u8
    n18
    8
    fun
    i278 =>
    T.ldI
    IntKind.u8
    n18
    9
    fun
    i279 =>
    T.ldI
    IntKind.u8
    n18
    10
    fun
    i280 =>
    T.ldI
    IntKind.u8
    n18
    11
    fun
    i281 =>
    T.call
    13
    [Value.agg
    (Array.mk
    [Value.int
    IntKind.u8
    i258,
    Value.int
    IntKind.u8
    i259,
    Value.int
    IntKind.u8
    i260,
    Value.int
    IntKind.u8
    i261,
    Value.int
    IntKind.u8
    i262,
    Value.int
    IntKind.u8
    i263,
    Value.int
    IntKind.u8
    i264,
    Value.int
    IntKind.u8
    i265,
    Value.int
    IntKind.u8
    i266,
    Value.int
    IntKind.u8
    i267,
    Value.int
    IntKind.u8
    i268,
    Value.int
    IntKind.u8
    i269])]
    fun
    v282 =>
    T.asA
    v282
    fun
    l283 =>
    T.req
    (List.length
    l283 =
    2)
    (T.asI
    IntKind.i32
    (List.headD
    l283
    (Value.tuple
    (Array.mk
    [])))
    fun
    i284 =>
    T.asI
    IntKind.i64
    (List.headD
    (List.tail
    l283)
    (Value.tuple
    (Array.mk
    [])))
    fun
    i285 =>
    T.chk
    [(Addr.mk
    n18
    0
    none,
    Value.int
    IntKind.u8
    i270),
    (Addr.mk
    n18
    1
    none,
    Value.int
    IntKind.u8
    i271),
    (Addr.mk
    n18
    2
    none,
    Value.int
    IntKind.u8
    i272),
    (Addr.mk
    n18
    3
    none,
    Value.int
    IntKind.u8
    i273),
    (Addr.mk
    n18
    4
    none,
    Value.int
    IntKind.u8
    i274),
    (Addr.mk
    n18
    5
    none,
    Value.int
    IntKind.u8
    i275),
    (Addr.mk
    n18
    6
    none,
    Value.int
    IntKind.u8
    i276),
    (Addr.mk
    n18
    7
    none,
    Value.int
    IntKind.u8
    i277),
    (Addr.mk
    n18
    8
    none,
    Value.int
    IntKind.u8
    i278),
    (Addr.mk
    n18
    9
    none,
    Value.int
    IntKind.u8
    i279),
    (Addr.mk
    n18
    10
    none,
    Value.int
    IntKind.u8
    i280),
    (Addr.mk
    n18
    11
    none,
    Value.int
    IntKind.u8
    i281),
    (Addr.mk
    n16
    0
    none,
    Value.int
    IntKind.i32
    i252),
    (Addr.mk
    n16
    1
    none,
    Value.int
    IntKind.i64
    i253)]
    (T.call
    12
    [Value.agg
    (Array.mk
    [Value.int
    IntKind.i32
    i284,
    Value.int
    IntKind.i64
    i285])]
    fun
    v286 =>
    T.asA
    v286
    fun
    l287 =>
    T.req
    (List.length
    l287 =
    12)
    (T.asI
    IntKind.u8
    (List.headD
    l287
    (Value.tuple
    (Array.mk
    [])))
    fun
    i288 =>
    T.asI
    IntKind.u8
    (List.headD
    (List.tail
    l287)
    (Value.tuple
    (Array.mk
    [])))
    fun
    i289 =>
    T.asI
    IntKind.u8
    (List.headD
    (List.tail
    (List.tail
    l287))
    (Value.tuple
    (Array.mk
    [])))
    fun
    i290 =>
    T.asI
    IntKind.u8
    (List.headD
    (List.tail
    (List.tail
    (List.tail
    l287)))
    (Value.tuple
    (Array.mk
    [])))
    fun
    i291 =>
    T.asI
    IntKind.u8
    (List.headD
    (List.tail
    (List.tail
    (List.tail
    (List.tail
    l287))))
    (Value.tuple
    (Array.mk
    [])))
    fun
    i292 =>
    T.asI
    IntKind.u8
    (List.headD
    (List.tail
    (List.tail
    (List.tail
    (List.tail
    (List.tail
    l287)))))
    (Value.tuple
    (Array.mk
    [])))
    fun
    i293 =>
    T.asI
    IntKind.u8
    (List.headD
    (List.tail
    (List.tail
    (List.tail
    (List.tail
    (List.tail
    (List.tail
    l287))))))
    (Value.tuple
    (Array.mk
    [])))
    fun
    i294 =>
    T.asI
    IntKind.u8
    (List.headD
    (List.tail
    (List.tail
    (List.tail
    (List.tail
    (List.tail
    (List.tail
    (List.tail
    l287)))))))
    (Value.tuple
    (Array.mk
    [])))
    fun
    i295 =>
    T.asI
    IntKind.u8
    (List.headD
    (List.tail
    (List.tail
    (List.tail
    (List.tail
    (List.tail
    (List.tail
    (List.tail
    (List.tail
    l287))))))))
    (Value.tuple
    (Array.mk
    [])))
    fun
    i296 =>
    T.asI
    IntKind.u8
    (List.headD
    (List.tail
    (List.tail
    (List.tail
    (List.tail
    (List.tail
    (List.tail
    (List.tail
    (List.tail
    (List.tail
    l287)))))))))
    (Value.tuple
    (Array.mk
    [])))
    fun
    i297 =>
    T.asI
    IntKind.u8
    (List.headD
    (List.tail
    (List.tail
    (List.tail
    (List.tail
    (List.tail
    (List.tail
    (List.tail
    (List.tail
    (List.tail
    (List.tail
    l287))))))))))
    (Value.tuple
    (Array.mk
    [])))
    fun
    i298 =>
    T.asI
    IntKind.u8
    (List.headD
    (List.tail
    (List.tail
    (List.tail
    (List.tail
    (List.tail
    (List.tail
    (List.tail
    (List.tail
    (List.tail
    (List.tail
    (List.tail
    l287)))))))))))
    (Value.tuple
    (Array.mk
    [])))
    fun
    i299 =>
    T.chk
    [(Addr.mk
    n18
    0
    none,
    Value.int
    IntKind.u8
    i270),
    (Addr.mk
    n18
    1
    none,
    Value.int
    IntKind.u8
    i271),
    (Addr.mk
    n18
    2
    none,
    Value.int
    IntKind.u8
    i272),
    (Addr.mk
    n18
    3
    none,
    Value.int
    IntKind.u8
    i273),
    (Addr.mk
    n18
    4
    none,
    Value.int
    IntKind.u8
    i274),
    (Addr.mk
    n18
    5
    none,
    Value.int
    IntKind.u8
    i275),
    (Addr.mk
    n18
    6
    none,
    Value.int
    IntKind.u8
    i276),
    (Addr.mk
    n18
    7
    none,
    Value.int
    IntKind.u8
    i277),
    (Addr.mk
    n18
    8
    none,
    Value.int
    IntKind.u8
    i278),
    (Addr.mk
    n18
    9
    none,
    Value.int
    IntKind.u8
    i279),
    (Addr.mk
    n18
    10
    none,
    Value.int
    IntKind.u8
    i280),
    (Addr.mk
    n18
    11
    none,
    Value.int
    IntKind.u8
    i281),
    (Addr.mk
    n16
    0
    none,
    Value.int
    IntKind.i32
    i252),
    (Addr.mk
    n16
    1
    none,
    Value.int
    IntKind.i64
    i253)]
    (T.ret
    (Value.bool
    (i288 ==
    i270 &&
    (i289 ==
    i271 &&
    (i290 ==
    i272 &&
    (i291 ==
    i273 &&
    (i292 ==
    i274 &&
    (i293 ==
    i275 &&
    (i294 ==
    i276 &&
    (i295 ==
    i277 &&
    (i296 ==
    i278 &&
    (i297 ==
    i279 &&
    (i298 ==
    i280 &&
    (i299 ==
    i281 &&
    true))))))))))))))))))
    (T.chk
    [(Addr.mk
    n16
    0
    none,
    Value.int
    IntKind.i32
    i252),
    (Addr.mk
    n16
    1
    none,
    Value.int
    IntKind.i64
    i253)]
    (T.chk
    [(Addr.mk
    n16
    0
    none,
    Value.int
    IntKind.i32
    i252),
    (Addr.mk
    n16
    1
    none,
    Value.int
    IntKind.i64
    i253)]
    (T.ret
    (Value.bool
    false)))))))
    (T.chk
    []
    (T.chk
    []
    (T.chk
    []
    (T.ret
    (Value.bool
    false)))))))
    (T.chk
    []
    (T.chk
    []
    (T.chk
    []
    (T.chk
    []
    (T.ret
    (Value.bool
    false)))))))))
    (T.loop 1
    [Value.int
    IntKind.i64
    0,
    Value.int
    IntKind.i64
    0]
    fun l300
    j301 =>
    T.asI
    IntKind.i64
    (List.headD
    l300
    (Value.tuple
    (Array.mk
    [])))
    fun
    i302 =>
    T.asI
    IntKind.i64
    (List.headD
    (List.tail
    l300)
    (Value.tuple
    (Array.mk
    [])))
    fun
    i303 =>
    T.ite
    (decide
    (i303 <
    12))
    (T.drew
    (T.req
    (0 ≤
    i303 ∧
    i303 <
    12)
    (T.ldI
    IntKind.u8
    n213
    (0 +
    Int.toNat
    i303 *
    1)
    fun
    i304 =>
    T.req
    (0 ≤
    i303 ∧
    i303 <
    12)
    (T.ldI
    IntKind.u8
    n228
    (0 +
    Int.toNat
    i303 *
    1)
    fun
    i305 =>
    T.ite
    (i304 !=
    i305)
    (T.drew
    (T.req
    (0 ≤
    i303 ∧
    i303 <
    12)
    (T.ldI
    IntKind.u8
    n213
    (0 +
    Int.toNat
    i303 *
    1)
    fun
    i306 =>
    T.req
    (0 ≤
    i303 ∧
    i303 <
    12)
    (T.ldI
    IntKind.u8
    n228
    (0 +
    Int.toNat
    i303 *
    1)
    fun
    i307 =>
    T.ite
    (decide
    (i306 <
    i307))
    (T.next
    0
    [Value.int
    IntKind.i64
    (-1)]
    ([Value.pointer
    (some
    (Addr.mk
    n16
    0
    none)),
    Value.pointer
    (some
    (Addr.mk
    n17
    0
    none)),
    Value.pointer
    (some
    (Addr.mk
    n18
    0
    none)),
    Value.pointer
    (some
    (Addr.mk
    n213
    0
    none))] =
    [Value.pointer
    (some
    (Addr.mk
    n16
    0
    none)),
    Value.pointer
    (some
    (Addr.mk
    n17
    0
    none)),
    Value.pointer
    (some
    (Addr.mk
    n18
    0
    none)),
    Value.pointer
    (some
    (Addr.mk
    n213
    0
    none))] ∧ ([] : List Deferred) = []))
    (T.next
    0
    [Value.int
    IntKind.i64
    1]
    ([Value.pointer
    (some
    (Addr.mk
    n16
    0
    none)),
    Value.pointer
    (some
    (Addr.mk
    n17
    0
    none)),
    Value.pointer
    (some
    (Addr.mk
    n18
    0
    none)),
    Value.pointer
    (some
    (Addr.mk
    n213
    0
    none))] =
    [Value.pointer
    (some
    (Addr.mk
    n16
    0
    none)),
    Value.pointer
    (some
    (Addr.mk
    n17
    0
    none)),
    Value.pointer
    (some
    (Addr.mk
    n18
    0
    none)),
    Value.pointer
    (some
    (Addr.mk
    n213
    0
    none))] ∧ ([] : List Deferred) = []))))))
    (T.next
    1
    [Value.int
    IntKind.i64
    i302,
    Value.int
    IntKind.i64
    (IntKind.wrap
    IntKind.i64
    (i303 +
    1))]
    ([Value.pointer
    (some
    (Addr.mk
    n16
    0
    none)),
    Value.pointer
    (some
    (Addr.mk
    n17
    0
    none)),
    Value.pointer
    (some
    (Addr.mk
    n18
    0
    none)),
    Value.pointer
    (some
    (Addr.mk
    n213
    0
    none)),
    Value.pointer
    (some
    (Addr.mk
    n228
    0
    none))] =
    [Value.pointer
    (some
    (Addr.mk
    n16
    0
    none)),
    Value.pointer
    (some
    (Addr.mk
    n17
    0
    none)),
    Value.pointer
    (some
    (Addr.mk
    n18
    0
    none)),
    Value.pointer
    (some
    (Addr.mk
    n213
    0
    none)),
    Value.pointer
    (some
    (Addr.mk
    n228
    0
    none))] ∧ ([] : List Deferred) = []))))))
    (T.next
    0
    [Value.int
    IntKind.i64
    i302]
    ([Value.pointer
    (some
    (Addr.mk
    n16
    0
    none)),
    Value.pointer
    (some
    (Addr.mk
    n17
    0
    none)),
    Value.pointer
    (some
    (Addr.mk
    n18
    0
    none)),
    Value.pointer
    (some
    (Addr.mk
    n213
    0
    none))] =
    [Value.pointer
    (some
    (Addr.mk
    n16
    0
    none)),
    Value.pointer
    (some
    (Addr.mk
    n17
    0
    none)),
    Value.pointer
    (some
    (Addr.mk
    n18
    0
    none)),
    Value.pointer
    (some
    (Addr.mk
    n213
    0
    none))] ∧ ([] : List Deferred) = [])))))))))))))))))))))))))))))))))
    (T.new
    (Obj.cells
    (Array.mk
    [Value.int IntKind.u8 0, Value.int IntKind.u8 0, Value.int IntKind.u8 0,
    Value.int IntKind.u8 0, Value.int IntKind.u8 0, Value.int IntKind.u8 0,
    Value.int IntKind.u8 0, Value.int IntKind.u8 0, Value.int IntKind.u8 0,
    Value.int IntKind.u8 0, Value.int IntKind.u8 0, Value.int IntKind.u8 0])
    27)
    fun n308 =>
    T.chk
    [(Addr.mk n17 0 none, Value.int IntKind.i32 i21),
    (Addr.mk n17 1 none, Value.int IntKind.i64 i22)]
    (T.call 12 [Value.agg (Array.mk [Value.int IntKind.i32 i21, Value.int IntKind.i64 i22])]
    fun v309 =>
    T.asA v309 fun l310 =>
    T.req (List.length l310 = 12)
    (T.asI IntKind.u8 (List.headD l310 (Value.tuple (Array.mk []))) fun i311 =>
    T.asI IntKind.u8 (List.headD (List.tail l310) (Value.tuple (Array.mk []))) fun i312 =>
    T.asI IntKind.u8 (List.headD (List.tail (List.tail l310)) (Value.tuple (Array.mk [])))
    fun i313 =>
    T.asI IntKind.u8
    (List.headD (List.tail (List.tail (List.tail l310))) (Value.tuple (Array.mk [])))
    fun i314 =>
    T.asI IntKind.u8
    (List.headD (List.tail (List.tail (List.tail (List.tail l310))))
    (Value.tuple (Array.mk [])))
    fun i315 =>
    T.asI IntKind.u8
    (List.headD (List.tail (List.tail (List.tail (List.tail (List.tail l310)))))
    (Value.tuple (Array.mk [])))
    fun i316 =>
    T.asI IntKind.u8
    (List.headD
    (List.tail
    (List.tail (List.tail (List.tail (List.tail (List.tail l310))))))
    (Value.tuple (Array.mk [])))
    fun i317 =>
    T.asI IntKind.u8
    (List.headD
    (List.tail
    (List.tail
    (List.tail (List.tail (List.tail (List.tail (List.tail l310)))))))
    (Value.tuple (Array.mk [])))
    fun i318 =>
    T.asI IntKind.u8
    (List.headD
    (List.tail
    (List.tail
    (List.tail
    (List.tail
    (List.tail (List.tail (List.tail (List.tail l310))))))))
    (Value.tuple (Array.mk [])))
    fun i319 =>
    T.asI IntKind.u8
    (List.headD
    (List.tail
    (List.tail
    (List.tail
    (List.tail
    (List.tail
    (List.tail (List.tail (List.tail (List.tail l310)))))))))
    (Value.tuple (Array.mk [])))
    fun i320 =>
    T.asI IntKind.u8
    (List.headD
    (List.tail
    (List.tail
    (List.tail
    (List.tail
    (List.tail
    (List.tail
    (List.tail
    (List.tail (List.tail (List.tail l310))))))))))
    (Value.tuple (Array.mk [])))
    fun i321 =>
    T.asI IntKind.u8
    (List.headD
    (List.tail
    (List.tail
    (List.tail
    (List.tail
    (List.tail
    (List.tail
    (List.tail
    (List.tail
    (List.tail (List.tail (List.tail l310)))))))))))
    (Value.tuple (Array.mk [])))
    fun i322 =>
    T.chk []
    (T.st n213 0 (Value.int IntKind.u8 i25)
    (T.st n213 1 (Value.int IntKind.u8 i26)
    (T.st n213 2 (Value.int IntKind.u8 i27)
    (T.st n213 3 (Value.int IntKind.u8 i28)
    (T.st n213 4 (Value.int IntKind.u8 i29)
    (T.st n213 5 (Value.int IntKind.u8 i30)
    (T.st n213 6 (Value.int IntKind.u8 i31)
    (T.st n213 7 (Value.int IntKind.u8 i32)
    (T.st n213 8 (Value.int IntKind.u8 i33)
    (T.st n213 9 (Value.int IntKind.u8 i34)
    (T.st n213 10 (Value.int IntKind.u8 i35)
    (T.st n213 11 (Value.int IntKind.u8 i36)
    (T.chk []
    (T.st n308 0
    (Value.int IntKind.u8 i311)
    (T.st n308 1
    (Value.int IntKind.u8 i312)
    (T.st n308 2
    (Value.int IntKind.u8 i313)
    (T.st n308 3
    (Value.int IntKind.u8 i314)
    (T.st n308 4
    (Value.int IntKind.u8 i315)
    (T.st n308 5
    (Value.int IntKind.u8
    i316)
    (T.st n308 6
    (Value.int IntKind.u8
    i317)
    (T.st n308 7
    (Value.int IntKind.u8
    i318)
    (T.st n308 8
    (Value.int
    IntKind.u8 i319)
    (T.st n308 9
    (Value.int
    IntKind.u8 i320)
    (T.st n308 10
    (Value.int
    IntKind.u8
    i321)
    (T.st n308 11
    (Value.int
    IntKind.u8
    i322)
    (T.chk []
    (T.blk 0
    (fun l323
    j324 =>
    T.asI
    IntKind.i64
    (List.headD
    l323
    (Value.tuple
    (Array.mk
    [])))
    fun
    i325 =>
    T.drew
    (T.call
    11
    []
    fun
    v326 =>
    T.asB
    v326
    fun
    b327 =>
    T.chk
    []
    (T.ite
    b327
    (T.ldI
    IntKind.i32
    n16
    0
    fun
    i328 =>
    T.ldI
    IntKind.i64
    n16
    1
    fun
    i329 =>
    T.ldI
    IntKind.i32
    n17
    0
    fun
    i330 =>
    T.ldI
    IntKind.i64
    n17
    1
    fun
    i331 =>
    T.call
    10
    [Value.agg
    (Array.mk
    [Value.int
    IntKind.i32
    i328,
    Value.int
    IntKind.i64
    i329]),
    Value.agg
    (Array.mk
    [Value.int
    IntKind.i32
    i330,
    Value.int
    IntKind.i64
    i331])]
    fun
    v332 =>
    T.asI
    IntKind.i64
    v332
    fun
    i333 =>
    T.chk
    []
    (T.ite
    (i325 ==
    i333)
    (T.ldI
    IntKind.u8
    n213
    0
    fun
    i334 =>
    T.ldI
    IntKind.u8
    n213
    1
    fun
    i335 =>
    T.ldI
    IntKind.u8
    n213
    2
    fun
    i336 =>
    T.ldI
    IntKind.u8
    n213
    3
    fun
    i337 =>
    T.ldI
    IntKind.u8
    n213
    4
    fun
    i338 =>
    T.ldI
    IntKind.u8
    n213
    5
    fun
    i339 =>
    T.ldI
    IntKind.u8
    n213
    6
    fun
    i340 =>
    T.ldI
    IntKind.u8
    n213
    7
    fun
    i341 =>
    T.ldI
    IntKind.u8
    n213
    8
    fun
    i342 =>
    T.ldI
    IntKind.u8
    n213
    9
    fun
    i343 =>
    T.ldI
    IntKind.u8
    n213
    10
    fun
    i344 =>
    T.ldI
    IntKind.u8
    n213
    11
    fun
    i345 =>
    T.ldI
    IntKind.i32
    n16
    0
    fun
    i346 =>
    T.ldI
    IntKind.i64
    n16
    1
    fun
    i347 =>
    T.call
    13
    [Value.agg
    (Array.mk
    [Value.int
    IntKind.u8
    i334,
    Value.int
    IntKind.u8
    i335,
    Value.int
    IntKind.u8
    i336,
    Value.int
    IntKind.u8
    i337,
    Value.int
    IntKind.u8
    i338,
    Value.int
    IntKind.u8
    i339,
    Value.int
    IntKind.u8
    i340,
    Value.int
    IntKind.u8
    i341,
    Value.int
    IntKind.u8
    i342,
    Value.int
    IntKind.u8
    i343,
    Value.int
    IntKind.u8
    i344,
    Value.int
    IntKind.u8
    i345])]
    fun
    v348 =>
    T.asA
    v348
    fun
    l349 =>
    T.req
    (List.length
    l349 =
    2)
    (T.asI
    IntKind.i32
    (List.headD
    l349
    (Value.tuple
    (Array.mk
    [])))
    fun
    i350 =>
    T.asI
    IntKind.i64
    (List.headD
    (List.tail
    l349)
    (Value.tuple
    (Array.mk
    [])))
    fun
    i351 =>
    T.chk
    [(Addr.mk
    n16
    0
    none,
    Value.int
    IntKind.i32
    i346),
    (Addr.mk
    n16
    1
    none,
    Value.int
    IntKind.i64
    i347)]
    (T.ite
    (i350 ==
    i346 &&
    (i351 ==
    i347 &&
    true))
    (T.ldI
    IntKind.u8
    n18
    0
    fun
    i352 =>
    T.ldI
    IntKind.u8
    n18
    1
    fun
    i353 =>
    T.ldI
    IntKind.u8
    n18
    2
    fun
    i354 =>
    T.ldI
    IntKind.u8
    n18
    3
    fun
    i355 =>
    T.ldI
    IntKind.u8
    n18
    4
    fun
    i356 =>
    T.ldI
    IntKind.u8
    n18
    5
    fun
    i357 =>
    T.ldI
    IntKind.u8
    n18
    6
    fun
    i358 =>
    T.ldI
    IntKind.u8
    n18
    7
    fun
    i359 =>
    T.ldI
    IntKind.u8
    n18
    8
    fun
    i360 =>
    T.ldI
    IntKind.u8
    n18
    9
    fun
    i361 =>
    T.ldI
    IntKind.u8
    n18
    10
    fun
    i362 =>
    T.ldI
    IntKind.u8
    n18
    11
    fun
    i363 =>
    T.ldI
    IntKind.u8
    n18
    0
    fun
    i364 =>
    T.ldI
    IntKind.u8
    n18
    1
    fun
    i365 =>
    T.ldI
    IntKind.u8
    n18
    2
    fun
    i366 =>
    T.ldI
    IntKind.u8
    n18
    3
    fun
    i367 =>
    T.ldI
    IntKind.u8
    n18
    4
    fun
    i368 =>
    T.ldI
    IntKind.u8
    n18
    5
    fun
    i369 =>
    T.ldI
    IntKind.u8
    n18
    6
    fun
    i370 =>
    T.ldI
    IntKind.u8
    n18
    7
    fun
    i371 =>
    T.ldI
    IntKind.u8
    n18
    8
    fun
    i372 =>
    T.ldI
    IntKind.u8
    n18
    9
    fun
    i373 =>
    T.ldI
    IntKind.u8
    n18
    10
    fun
    i374 =>
    T.ldI
    IntKind.u8
    n18
    11
    fun
    i375 =>
    T.call
    13
    [Value.agg
    (Array.mk
    [Value.int
    IntKind.u8
    i352,
    Value.int
    IntKind.u8
    i353,
    Value.int
    IntKind.u8
    i354,
    Value.int
    IntKind.u8
    i355,
    Value.int
    IntKind.u8
    i356,
    Value.int
    IntKind.u8
    i357,
    Value.int
    IntKind.u8
    i358,
    Value.int
    IntKind.u8
    i359,
    Value.int
    IntKind.u8
    i360,
    Value.int
    IntKind.u8
    i361,
    Value.int
    IntKind.u8
    i362,
    Value.int
    IntKind.u8
    i363])]
    fun
    v376 =>
    T.asA
    v376
    fun
    l377 =>
    T.req
    (List.length
    l377 =
    2)
    (T.asI
    IntKind.i32
    (List.headD
    l377
    (Value.tuple
    (Array.mk
    [])))
    fun
    i378 =>
    T.asI
    IntKind.i64
    (List.headD
    (List.tail
    l377)
    (Value.tuple
    (Array.mk
    [])))
    fun
    i379 =>
    T.chk
    [(Addr.mk
    n18
    0
    none,
    Value.int
    IntKind.u8
    i364),
    (Addr.mk
    n18
    1
    none,
    Value.int
    IntKind.u8
    i365),
    (Addr.mk
    n18
    2
    none,
    Value.int
    IntKind.u8
    i366),
    (Addr.mk
    n18
    3
    none,
    Value.int
    IntKind.u8
    i367),
    (Addr.mk
    n18
    4
    none,
    Value.int
    IntKind.u8
    i368),
    (Addr.mk
    n18
    5
    none,
    Value.int
    IntKind.u8
    i369),
    (Addr.mk
    n18
    6
    none,
    Value.int
    IntKind.u8
    i370),
    (Addr.mk
    n18
    7
    none,
    Value.int
    IntKind.u8
    i371),
    (Addr.mk
    n18
    8
    none,
    Value.int
    IntKind.u8
    i372),
    (Addr.mk
    n18
    9
    none,
    Value.int
    IntKind.u8
    i373),
    (Addr.mk
    n18
    10
    none,
    Value.int
    IntKind.u8
    i374),
    (Addr.mk
    n18
    11
    none,
    Value.int
    IntKind.u8
    i375),
    (Addr.mk
    n16
    0
    none,
    Value.int
    IntKind.i32
    i346),
    (Addr.mk
    n16
    1
    none,
    Value.int
    IntKind.i64
    i347)]
    (T.call
    12
    [Value.agg
    (Array.mk
    [Value.int
    IntKind.i32
    i378,
    Value.int
    IntKind.i64
    i379])]
    fun
    v380 =>
    T.asA
    v380
    fun
    l381 =>
    T.req
    (List.length
    l381 =
    12)
    (T.asI
    IntKind.u8
    (List.headD
    l381
    (Value.tuple
    (Array.mk
    [])))
    fun
    i382 =>
    T.asI
    IntKind.u8
    (List.headD
    (List.tail
    l381)
    (Value.tuple
    (Array.mk
    [])))
    fun
    i383 =>
    T.asI
    IntKind.u8
    (List.headD
    (List.tail
    (List.tail
    l381))
    (Value.tuple
    (Array.mk
    [])))
    fun
    i384 =>
    T.asI
    IntKind.u8
    (List.headD
    (List.tail
    (List.tail
    (List.tail
    l381)))
    (Value.tuple
    (Array.mk
    [])))
    fun
    i385 =>
    T.asI
    IntKind.u8
    (List.headD
    (List.tail
    (List.tail
    (List.tail
    (List.tail
    l381))))
    (Value.tuple
    (Array.mk
    [])))
    fun
    i386 =>
    T.asI
    IntKind.u8
    (List.headD
    (List.tail
    (List.tail
    (List.tail
    (List.tail
    (List.tail
    l381)))))
    (Value.tuple
    (Array.mk
    [])))
    fun
    i387 =>
    T.asI
    IntKind.u8
    (List.headD
    (List.tail
    (List.tail
    (List.tail
    (List.tail
    (List.tail
    (List.tail
    l381))))))
    (Value.tuple
    (Array.mk
    [])))
    fun
    i388 =>
    T.asI
    IntKind.u8
    (List.headD
    (List.tail
    (List.tail
    (List.tail
    (List.tail
    (List.tail
    (List.tail
    (List.tail
    l381)))))))
    (Value.tuple
    (Array.mk
    [])))
    fun
    i389 =>
    T.asI
    IntKind.u8
    (List.headD
    (List.tail
    (List.tail
    (List.tail
    (List.tail
    (List.tail
    (List.tail
    (List.tail
    (List.tail
    l381))))))))
    (Value.tuple
    (Array.mk
    [])))
    fun
    i390 =>
    T.asI
    IntKind.u8
    (List.headD
    (List.tail
    (List.tail
    (List.tail
    (List.tail
    (List.tail
    (List.tail
    (List.tail
    (List.tail
    (List.tail
    l381)))))))))
    (Value.tuple
    (Array.mk
    [])))
    fun
    i391 =>
    T.asI
    IntKind.u8
    (List.headD
    (List.tail
    (List.tail
    (List.tail
    (List.tail
    (List.tail
    (List.tail
    (List.tail
    (List.tail
    (List.tail
    (List.tail
    l381))))))))))
    (Value.tuple
    (Array.mk
    [])))
    fun
    i392 =>
    T.asI
    IntKind.u8
    (List.headD
    (List.tail
    (List.tail
    (List.tail
    (List.tail
    (List.tail
    (List.tail
    (List.tail
    (List.tail
    (List.tail
    (List.tail
    (List.tail
    l381)))))))))))
    (Value.tuple
    (Array.mk
    [])))
    fun
    i393 =>
    T.chk
    [(Addr.mk
    n18
    0
    none,
    Value.int
    IntKind.u8
    i364),
    (Addr.mk
    n18
    1
    none,
    Value.int
    IntKind.u8
    i365),
    (Addr.mk
    n18
    2
    none,
    Value.int
    IntKind.u8
    i366),
    (Addr.mk
    n18
    3
    none,
    Value.int
    IntKind.u8
    i367),
    (Addr.mk
    n18
    4
    none,
    Value.int
    IntKind.u8
    i368),
    (Addr.mk
    n18
    5
    none,
    Value.int
    IntKind.u8
    i369),
    (Addr.mk
    n18
    6
    none,
    Value.int
    IntKind.u8
    i370),
    (Addr.mk
    n18
    7
    none,
    Value.int
    IntKind.u8
    i371),
    (Addr.mk
    n18
    8
    none,
    Value.int
    IntKind.u8
    i372),
    (Addr.mk
    n18
    9
    none,
    Value.int
    IntKind.u8
    i373),
    (Addr.mk
    n18
    10
    none,
    Value.int
    IntKind.u8
    i374),
    (Addr.mk
    n18
    11
    none,
    Value.int
    IntKind.u8
    i375),
    (Addr.mk
    n16
    0
    none,
    Value.int
    IntKind.i32
    i346),
    (Addr.mk
    n16
    1
    none,
    Value.int
    IntKind.i64
    i347)]
    (T.ret
    (Value.bool
    (i382 ==
    i364 &&
    (i383 ==
    i365 &&
    (i384 ==
    i366 &&
    (i385 ==
    i367 &&
    (i386 ==
    i368 &&
    (i387 ==
    i369 &&
    (i388 ==
    i370 &&
    (i389 ==
    i371 &&
    (i390 ==
    i372 &&
    (i391 ==
    i373 &&
    (i392 ==
    i374 &&
    (i393 ==
    i375 &&
    true))))))))))))))))))
    (T.chk
    [(Addr.mk
    n16
    0
    none,
    Value.int
    IntKind.i32
    i346),
    (Addr.mk
    n16
    1
    none,
    Value.int
    IntKind.i64
    i347)]
    (T.chk
    [(Addr.mk
    n16
    0
    none,
    Value.int
    IntKind.i32
    i346),
    (Addr.mk
    n16
    1
    none,
    Value.int
    IntKind.i64
    i347)]
    (T.ret
    (Value.bool
    false)))))))
    (T.chk
    []
    (T.chk
    []
    (T.chk
    []
    (T.ret
    (Value.bool
    false)))))))
    (T.chk
    []
    (T.chk
    []
    (T.chk
    []
    (T.chk
    []
    (T.ret
    (Value.bool
    false)))))))))
    (T.loop 1
    [Value.int
    IntKind.i64
    0,
    Value.int
    IntKind.i64
    0]
    fun l394
    j395 =>
    T.asI
    IntKind.i64
    (List.headD
    l394
    (Value.tuple
    (Array.mk
    [])))
    fun
    i396 =>
    T.asI
    IntKind.i64
    (List.headD
    (List.tail
    l394)
    (Value.tuple
    (Array.mk
    [])))
    fun
    i397 =>
    T.ite
    (decide
    (i397 <
    12))
    (T.drew
    (T.req
    (0 ≤
    i397 ∧
    i397 <
    12)
    (T.ldI
    IntKind.u8
    n213
    (0 +
    Int.toNat
    i397 *
    1)
    fun
    i398 =>
    T.req
    (0 ≤
    i397 ∧
    i397 <
    12)
    (T.ldI
    IntKind.u8
    n308
    (0 +
    Int.toNat
    i397 *
    1)
    fun
    i399 =>
    T.ite
    (i398 !=
    i399)
    (T.drew
    (T.req
    (0 ≤
    i397 ∧
    i397 <
    12)
    (T.ldI
    IntKind.u8
    n213
    (0 +
    Int.toNat
    i397 *
    1)
    fun
    i400 =>
    T.req
    (0 ≤
    i397 ∧
    i397 <
    12)
    (T.ldI
    IntKind.u8
    n308
    (0 +
    Int.toNat
    i397 *
    1)
    fun
    i401 =>
    T.ite
    (decide
    (i400 <
    i401))
    (T.next
    0
    [Value.int
    IntKind.i64
    (-1)]
    ([Value.pointer
    (some
    (Addr.mk
    n16
    0
    none)),
    Value.pointer
    (some
    (Addr.mk
    n17
    0
    none)),
    Value.pointer
    (some
    (Addr.mk
    n18
    0
    none)),
    Value.pointer
    (some
    (Addr.mk
    n213
    0
    none))] =
    [Value.pointer
    (some
    (Addr.mk
    n16
    0
    none)),
    Value.pointer
    (some
    (Addr.mk
    n17
    0
    none)),
    Value.pointer
    (some
    (Addr.mk
    n18
    0
    none)),
    Value.pointer
    (some
    (Addr.mk
    n213
    0
    none))] ∧ ([] : List Deferred) = []))
    (T.next
    0
    [Value.int
    IntKind.i64
    1]
    ([Value.pointer
    (some
    (Addr.mk
    n16
    0
    none)),
    Value.pointer
    (some
    (Addr.mk
    n17
    0
    none)),
    Value.pointer
    (some
    (Addr.mk
    n18
    0
    none)),
    Value.pointer
    (some
    (Addr.mk
    n213
    0
    none))] =
    [Value.pointer
    (some
    (Addr.mk
    n16
    0
    none)),
    Value.pointer
    (some
    (Addr.mk
    n17
    0
    none)),
    Value.pointer
    (some
    (Addr.mk
    n18
    0
    none)),
    Value.pointer
    (some
    (Addr.mk
    n213
    0
    none))] ∧ ([] : List Deferred) = []))))))
    (T.next
    1
    [Value.int
    IntKind.i64
    i396,
    Value.int
    IntKind.i64
    (IntKind.wrap
    IntKind.i64
    (i397 +
    1))]
    ([Value.pointer
    (some
    (Addr.mk
    n16
    0
    none)),
    Value.pointer
    (some
    (Addr.mk
    n17
    0
    none)),
    Value.pointer
    (some
    (Addr.mk
    n18
    0
    none)),
    Value.pointer
    (some
    (Addr.mk
    n213
    0
    none)),
    Value.pointer
    (some
    (Addr.mk
    n308
    0
    none))] =
    [Value.pointer
    (some
    (Addr.mk
    n16
    0
    none)),
    Value.pointer
    (some
    (Addr.mk
    n17
    0
    none)),
    Value.pointer
    (some
    (Addr.mk
    n18
    0
    none)),
    Value.pointer
    (some
    (Addr.mk
    n213
    0
    none)),
    Value.pointer
    (some
    (Addr.mk
    n308
    0
    none))] ∧ ([] : List Deferred) = []))))))
    (T.next
    0
    [Value.int
    IntKind.i64
    i396]
    ([Value.pointer
    (some
    (Addr.mk
    n16
    0
    none)),
    Value.pointer
    (some
    (Addr.mk
    n17
    0
    none)),
    Value.pointer
    (some
    (Addr.mk
    n18
    0
    none)),
    Value.pointer
    (some
    (Addr.mk
    n213
    0
    none))] =
    [Value.pointer
    (some
    (Addr.mk
    n16
    0
    none)),
    Value.pointer
    (some
    (Addr.mk
    n17
    0
    none)),
    Value.pointer
    (some
    (Addr.mk
    n18
    0
    none)),
    Value.pointer
    (some
    (Addr.mk
    n213
    0
    none))] ∧ ([] : List Deferred) = [])))))))))))))))))))))))))))))))))))
    (T.new
    (Obj.cells
    (Array.mk
    [Value.int IntKind.u8 0, Value.int IntKind.u8 0, Value.int IntKind.u8 0, Value.int IntKind.u8 0,
    Value.int IntKind.u8 0, Value.int IntKind.u8 0, Value.int IntKind.u8 0, Value.int IntKind.u8 0,
    Value.int IntKind.u8 0, Value.int IntKind.u8 0, Value.int IntKind.u8 0, Value.int IntKind.u8 0])
    27)
    fun n402 =>
    T.chk [(Addr.mk n17 0 none, Value.int IntKind.i32 i21), (Addr.mk n17 1 none, Value.int IntKind.i64 i22)]
    (T.both
    (T.call 12 [Value.agg (Array.mk [Value.int IntKind.i32 i21, Value.int IntKind.i64 i22])] fun v403 =>
    T.asA v403 fun l404 =>
    T.req (List.length l404 = 12)
    (T.asI IntKind.u8 (List.headD l404 (Value.tuple (Array.mk []))) fun i405 =>
    T.asI IntKind.u8 (List.headD (List.tail l404) (Value.tuple (Array.mk []))) fun i406 =>
    T.asI IntKind.u8 (List.headD (List.tail (List.tail l404)) (Value.tuple (Array.mk [])))
    fun i407 =>
    T.asI IntKind.u8
    (List.headD (List.tail (List.tail (List.tail l404))) (Value.tuple (Array.mk [])))
    fun i408 =>
    T.asI IntKind.u8
    (List.headD (List.tail (List.tail (List.tail (List.tail l404))))
    (Value.tuple (Array.mk [])))
    fun i409 =>
    T.asI IntKind.u8
    (List.headD (List.tail (List.tail (List.tail (List.tail (List.tail l404)))))
    (Value.tuple (Array.mk [])))
    fun i410 =>
    T.asI IntKind.u8
    (List.headD
    (List.tail (List.tail (List.tail (List.tail (List.tail (List.tail l404))))))
    (Value.tuple (Array.mk [])))
    fun i411 =>
    T.asI IntKind.u8
    (List.headD
    (List.tail
    (List.tail
    (List.tail (List.tail (List.tail (List.tail (List.tail l404)))))))
    (Value.tuple (Array.mk [])))
    fun i412 =>
    T.asI IntKind.u8
    (List.headD
    (List.tail
    (List.tail
    (List.tail
    (List.tail (List.tail (List.tail (List.tail (List.tail l404))))))))
    (Value.tuple (Array.mk [])))
    fun i413 =>
    T.asI IntKind.u8
    (List.headD
    (List.tail
    (List.tail
    (List.tail
    (List.tail
    (List.tail
    (List.tail (List.tail (List.tail (List.tail l404)))))))))
    (Value.tuple (Array.mk [])))
    fun i414 =>
    T.asI IntKind.u8
    (List.headD
    (List.tail
    (List.tail
    (List.tail
    (List.tail
    (List.tail
    (List.tail
    (List.tail (List.tail (List.tail (List.tail l404))))))))))
    (Value.tuple (Array.mk [])))
    fun i415 =>
    T.asI IntKind.u8
    (List.headD
    (List.tail
    (List.tail
    (List.tail
    (List.tail
    (List.tail
    (List.tail
    (List.tail
    (List.tail
    (List.tail (List.tail (List.tail l404)))))))))))
    (Value.tuple (Array.mk [])))
    fun i416 =>
    T.chk []
    (T.new
    (Obj.cells
    (Array.mk
    [Value.int IntKind.u8 0, Value.int IntKind.u8 0,
    Value.int IntKind.u8 0, Value.int IntKind.u8 0,
    Value.int IntKind.u8 0, Value.int IntKind.u8 0,
    Value.int IntKind.u8 0, Value.int IntKind.u8 0,
    Value.int IntKind.u8 0, Value.int IntKind.u8 0,
    Value.int IntKind.u8 0, Value.int IntKind.u8 0])
    27)
    fun n417 =>
    T.chk []
    (T.st n417 0 (Value.int IntKind.u8 i25)
    (T.st n417 1 (Value.int IntKind.u8 i26)
    (T.st n417 2 (Value.int IntKind.u8 i27)
    (T.st n417 3 (Value.int IntKind.u8 i28)
    (T.st n417 4 (Value.int IntKind.u8 i29)
    (T.st n417 5 (Value.int IntKind.u8 i30)
    (T.st n417 6 (Value.int IntKind.u8 i31)
    (T.st n417 7 (Value.int IntKind.u8 i32)
    (T.st n417 8 (Value.int IntKind.u8 i33)
    (T.st n417 9 (Value.int IntKind.u8 i34)
    (T.st n417 10 (Value.int IntKind.u8 i35)
    (T.st n417 11 (Value.int IntKind.u8 i36)
    (T.chk []
    (T.st n402 0
    (Value.int IntKind.u8 i405)
    (T.st n402 1
    (Value.int IntKind.u8 i406)
    (T.st n402 2
    (Value.int IntKind.u8 i407)
    (T.st n402 3
    (Value.int IntKind.u8 i408)
    (T.st n402 4
    (Value.int IntKind.u8 i409)
    (T.st n402 5
    (Value.int IntKind.u8
    i410)
    (T.st n402 6
    (Value.int IntKind.u8
    i411)
    (T.st n402 7
    (Value.int IntKind.u8
    i412)
    (T.st n402 8
    (Value.int
    IntKind.u8 i413)
    (T.st n402 9
    (Value.int
    IntKind.u8 i414)
    (T.st n402 10
    (Value.int
    IntKind.u8
    i415)
    (T.st n402 11
    (Value.int
    IntKind.u8
    i416)
    (T.chk []
    (T.blk 0
    (fun l418
    j419 =>
    T.asI
    IntKind.i64
    (List.headD
    l418
    (Value.tuple
    (Array.mk
    [])))
    fun
    i420 =>
    T.drew
    (T.call
    11
    []
    fun
    v421 =>
    T.asB
    v421
    fun
    b422 =>
    T.chk
    []
    (T.ite
    b422
    (T.ldI
    IntKind.i32
    n16
    0
    fun
    i423 =>
    T.ldI
    IntKind.i64
    n16
    1
    fun
    i424 =>
    T.ldI
    IntKind.i32
    n17
    0
    fun
    i425 =>
    T.ldI
    IntKind.i64
    n17
    1
    fun
    i426 =>
    T.call
    10
    [Value.agg
    (Array.mk
    [Value.int
    IntKind.i32
    i423,
    Value.int
    IntKind.i64
    i424]),
    Value.agg
    (Array.mk
    [Value.int
    IntKind.i32
    i425,
    Value.int
    IntKind.i64
    i426])]
    fun
    v427 =>
    T.asI
    IntKind.i64
    v427
    fun
    i428 =>
    T.chk
    []
    (T.ite
    (i420 ==
    i428)
    (T.ldI
    IntKind.u8
    n417
    0
    fun
    i429 =>
    T.ldI
    IntKind.u8
    n417
    1
    fun
    i430 =>
    T.ldI
    IntKind.u8
    n417
    2
    fun
    i431 =>
    T.ldI
    IntKind.u8
    n417
    3
    fun
    i432 =>
    T.ldI
    IntKind.u8
    n417
    4
    fun
    i433 =>
    T.ldI
    IntKind.u8
    n417
    5
    fun
    i434 =>
    T.ldI
    IntKind.u8
    n417
    6
    fun
    i435 =>
    T.ldI
    IntKind.u8
    n417
    7
    fun
    i436 =>
    T.ldI
    IntKind.u8
    n417
    8
    fun
    i437 =>
    T.ldI
    IntKind.u8
    n417
    9
    fun
    i438 =>
    T.ldI
    IntKind.u8
    n417
    10
    fun
    i439 =>
    T.ldI
    IntKind.u8
    n417
    11
    fun
    i440 =>
    T.ldI
    IntKind.i32
    n16
    0
    fun
    i441 =>
    T.ldI
    IntKind.i64
    n16
    1
    fun
    i442 =>
    T.call
    13
    [Value.agg
    (Array.mk
    [Value.int
    IntKind.u8
    i429,
    Value.int
    IntKind.u8
    i430,
    Value.int
    IntKind.u8
    i431,
    Value.int
    IntKind.u8
    i432,
    Value.int
    IntKind.u8
    i433,
    Value.int
    IntKind.u8
    i434,
    Value.int
    IntKind.u8
    i435,
    Value.int
    IntKind.u8
    i436,
    Value.int
    IntKind.u8
    i437,
    Value.int
    IntKind.u8
    i438,
    Value.int
    IntKind.u8
    i439,
    Value.int
    IntKind.u8
    i440])]
    fun
    v443 =>
    T.asA
    v443
    fun
    l444 =>
    T.req
    (List.length
    l444 =
    2)
    (T.asI
    IntKind.i32
    (List.headD
    l444
    (Value.tuple
    (Array.mk
    [])))
    fun
    i445 =>
    T.asI
    IntKind.i64
    (List.headD
    (List.tail
    l444)
    (Value.tuple
    (Array.mk
    [])))
    fun
    i446 =>
    T.chk
    [(Addr.mk
    n16
    0
    none,
    Value.int
    IntKind.i32
    i441),
    (Addr.mk
    n16
    1
    none,
    Value.int
    IntKind.i64
    i442)]
    (T.ite
    (i445 ==
    i441 &&
    (i446 ==
    i442 &&
    true))
    (T.ldI
    IntKind.u8
    n18
    0
    fun
    i447 =>
    T.ldI
    IntKind.u8
    n18
    1
    fun
    i448 =>
    T.ldI
    IntKind.u8
    n18
    2
    fun
    i449 =>
    T.ldI
    IntKind.u8
    n18
    3
    fun
    i450 =>
    T.ldI
    IntKind.u8
    n18
    4
    fun
    i451 =>
    T.ldI
    IntKind.u8
    n18
    5
    fun
    i452 =>
    T.ldI
    IntKind.u8
    n18
    6
    fun
    i453 =>
    T.ldI
    IntKind.u8
    n18
    7
    fun
    i454 =>
    T.ldI
    IntKind.u8
    n18
    8
    fun
    i455 =>
    T.ldI
    IntKind.u8
    n18
    9
    fun
    i456 =>
    T.ldI
    IntKind.u8
    n18
    10
    fun
    i457 =>
    T.ldI
    IntKind.u8
    n18
    11
    fun
    i458 =>
    T.ldI
    IntKind.u8
    n18
    0
    fun
    i459 =>
    T.ldI
    IntKind.u8
    n18
    1
    fun
    i460 =>
    T.ldI
    IntKind.u8
    n18
    2
    fun
    i461 =>
    T.ldI
    IntKind.u8
    n18
    3
    fun
    i462 =>
    T.ldI
    IntKind.u8
    n18
    4
    fun
    i463 =>
    T.ldI
    IntKind.u8
    n18
    5
    fun
    i464 =>
    T.ldI
    IntKind.u8
    n18
    6
    fun
    i465 =>
    T.ldI
    IntKind.u8
    n18
    7
    fun
    i466 =>
    T.ldI
    IntKind.u8
    n18
    8
    fun
    i467 =>
    T.ldI
    IntKind.u8
    n18
    9
    fun
    i468 =>
    T.ldI
    IntKind.u8
    n18
    10
    fun
    i469 =>
    T.ldI
    IntKind.u8
    n18
    11
    fun
    i470 =>
    T.call
    13
    [Value.agg
    (Array.mk
    [Value.int
    IntKind.u8
    i447,
    Value.int
    IntKind.u8
    i448,
    Value.int
    IntKind.u8
    i449,
    Value.int
    IntKind.u8
    i450,
    Value.int
    IntKind.u8
    i451,
    Value.int
    IntKind.u8
    i452,
    Value.int
    IntKind.u8
    i453,
    Value.int
    IntKind.u8
    i454,
    Value.int
    IntKind.u8
    i455,
    Value.int
    IntKind.u8
    i456,
    Value.int
    IntKind.u8
    i457,
    Value.int
    IntKind.u8
    i458])]
    fun
    v471 =>
    T.asA
    v471
    fun
    l472 =>
    T.req
    (List.length
    l472 =
    2)
    (T.asI
    IntKind.i32
    (List.headD
    l472
    (Value.tuple
    (Array.mk
    [])))
    fun
    i473 =>
    T.asI
    IntKind.i64
    (List.headD
    (List.tail
    l472)
    (Value.tuple
    (Array.mk
    [])))
    fun
    i474 =>
    T.chk
    [(Addr.mk
    n18
    0
    none,
    Value.int
    IntKind.u8
    i459),
    (Addr.mk
    n18
    1
    none,
    Value.int
    IntKind.u8
    i460),
    (Addr.mk
    n18
    2
    none,
    Value.int
    IntKind.u8
    i461),
    (Addr.mk
    n18
    3
    none,
    Value.int
    IntKind.u8
    i462),
    (Addr.mk
    n18
    4
    none,
    Value.int
    IntKind.u8
    i463),
    (Addr.mk
    n18
    5
    none,
    Value.int
    IntKind.u8
    i464),
    (Addr.mk
    n18
    6
    none,
    Value.int
    IntKind.u8
    i465),
    (Addr.mk
    n18
    7
    none,
    Value.int
    IntKind.u8
    i466),
    (Addr.mk
    n18
    8
    none,
    Value.int
    IntKind.u8
    i467),
    (Addr.mk
    n18
    9
    none,
    Value.int
    IntKind.u8
    i468),
    (Addr.mk
    n18
    10
    none,
    Value.int
    IntKind.u8
    i469),
    (Addr.mk
    n18
    11
    none,
    Value.int
    IntKind.u8
    i470),
    (Addr.mk
    n16
    0
    none,
    Value.int
    IntKind.i32
    i441),
    (Addr.mk
    n16
    1
    none,
    Value.int
    IntKind.i64
    i442)]
    (T.call
    12
    [Value.agg
    (Array.mk
    [Value.int
    IntKind.i32
    i473,
    Value.int
    IntKind.i64
    i474])]
    fun
    v475 =>
    T.asA
    v475
    fun
    l476 =>
    T.req
    (List.length
    l476 =
    12)
    (T.asI
    IntKind.u8
    (List.headD
    l476
    (Value.tuple
    (Array.mk
    [])))
    fun
    i477 =>
    T.asI
    IntKind.u8
    (List.headD
    (List.tail
    l476)
    (Value.tuple
    (Array.mk
    [])))
    fun
    i478 =>
    T.asI
    IntKind.u8
    (List.headD
    (List.tail
    (List.tail
    l476))
    (Value.tuple
    (Array.mk
    [])))
    fun
    i479 =>
    T.asI
    IntKind.u8
    (List.headD
    (List.tail
    (List.tail
    (List.tail
    l476)))
    (Value.tuple
    (Array.mk
    [])))
    fun
    i480 =>
    T.asI
    IntKind.u8
    (List.headD
    (List.tail
    (List.tail
    (List.tail
    (List.tail
    l476))))
    (Value.tuple
    (Array.mk
    [])))
    fun
    i481 =>
    T.asI
    IntKind.u8
    (List.headD
    (List.tail
    (List.tail
    (List.tail
    (List.tail
    (List.tail
    l476)))))
    (Value.tuple
    (Array.mk
    [])))
    fun
    i482 =>
    T.asI
    IntKind.u8
    (List.headD
    (List.tail
    (List.tail
    (List.tail
    (List.tail
    (List.tail
    (List.tail
    l476))))))
    (Value.tuple
    (Array.mk
    [])))
    fun
    i483 =>
    T.asI
    IntKind.u8
    (List.headD
    (List.tail
    (List.tail
    (List.tail
    (List.tail
    (List.tail
    (List.tail
    (List.tail
    l476)))))))
    (Value.tuple
    (Array.mk
    [])))
    fun
    i484 =>
    T.asI
    IntKind.u8
    (List.headD
    (List.tail
    (List.tail
    (List.tail
    (List.tail
    (List.tail
    (List.tail
    (List.tail
    (List.tail
    l476))))))))
    (Value.tuple
    (Array.mk
    [])))
    fun
    i485 =>
    T.asI
    IntKind.u8
    (List.headD
    (List.tail
    (List.tail
    (List.tail
    (List.tail
    (List.tail
    (List.tail
    (List.tail
    (List.tail
    (List.tail
    l476)))))))))
    (Value.tuple
    (Array.mk
    [])))
    fun
    i486 =>
    T.asI
    IntKind.u8
    (List.headD
    (List.tail
    (List.tail
    (List.tail
    (List.tail
    (List.tail
    (List.tail
    (List.tail
    (List.tail
    (List.tail
    (List.tail
    l476))))))))))
    (Value.tuple
    (Array.mk
    [])))
    fun
    i487 =>
    T.asI
    IntKind.u8
    (List.headD
    (List.tail
    (List.tail
    (List.tail
    (List.tail
    (List.tail
    (List.tail
    (List.tail
    (List.tail
    (List.tail
    (List.tail
    (List.tail
    l476)))))))))))
    (Value.tuple
    (Array.mk
    [])))
    fun
    i488 =>
    T.chk
    [(Addr.mk
    n18
    0
    none,
    Value.int
    IntKind.u8
    i459),
    (Addr.mk
    n18
    1
    none,
    Value.int
    IntKind.u8
    i460),
    (Addr.mk
    n18
    2
    none,
    Value.int
    IntKind.u8
    i461),
    (Addr.mk
    n18
    3
    none,
    Value.int
    IntKind.u8
    i462),
    (Addr.mk
    n18
    4
    none,
    Value.int
    IntKind.u8
    i463),
    (Addr.mk
    n18
    5
    none,
    Value.int
    IntKind.u8
    i464),
    (Addr.mk
    n18
    6
    none,
    Value.int
    IntKind.u8
    i465),
    (Addr.mk
    n18
    7
    none,
    Value.int
    IntKind.u8
    i466),
    (Addr.mk
    n18
    8
    none,
    Value.int
    IntKind.u8
    i467),
    (Addr.mk
    n18
    9
    none,
    Value.int
    IntKind.u8
    i468),
    (Addr.mk
    n18
    10
    none,
    Value.int
    IntKind.u8
    i469),
    (Addr.mk
    n18
    11
    none,
    Value.int
    IntKind.u8
    i470),
    (Addr.mk
    n16
    0
    none,
    Value.int
    IntKind.i32
    i441),
    (Addr.mk
    n16
    1
    none,
    Value.int
    IntKind.i64
    i442)]
    (T.ret
    (Value.bool
    (i477 ==
    i459 &&
    (i478 ==
    i460 &&
    (i479 ==
    i461 &&
    (i480 ==
    i462 &&
    (i481 ==
    i463 &&
    (i482 ==
    i464 &&
    (i483 ==
    i465 &&
    (i484 ==
    i466 &&
    (i485 ==
    i467 &&
    (i486 ==
    i468 &&
    (i487 ==
    i469 &&
    (i488 ==
    i470 &&
    true))))))))))))))))))
    (T.chk
    [(Addr.mk
    n16
    0
    none,
    Value.int
    IntKind.i32
    i441),
    (Addr.mk
    n16
    1
    none,
    Value.int
    IntKind.i64
    i442)]
    (T.chk
    [(Addr.mk
    n16
    0
    none,
    Value.int
    IntKind.i32
    i441),
    (Addr.mk
    n16
    1
    none,
    Value.int
    IntKind.i64
    i442)]
    (T.ret
    (Value.bool
    false)))))))
    (T.chk
    []
    (T.chk
    []
    (T.chk
    []
    (T.ret
    (Value.bool
    false)))))))
    (T.chk
    []
    (T.chk
    []
    (T.chk
    []
    (T.chk
    []
    (T.ret
    (Value.bool
    false)))))))))
    (T.loop 1
    [Value.int
    IntKind.i64
    0,
    Value.int
    IntKind.i64
    0]
    fun l489
    j490 =>
    T.asI
    IntKind.i64
    (List.headD
    l489
    (Value.tuple
    (Array.mk
    [])))
    fun
    i491 =>
    T.asI
    IntKind.i64
    (List.headD
    (List.tail
    l489)
    (Value.tuple
    (Array.mk
    [])))
    fun
    i492 =>
    T.ite
    (decide
    (i492 <
    12))
    (T.drew
    (T.req
    (0 ≤
    i492 ∧
    i492 <
    12)
    (T.ldI
    IntKind.u8
    n417
    (0 +
    Int.toNat
    i492 *
    1)
    fun
    i493 =>
    T.req
    (0 ≤
    i492 ∧
    i492 <
    12)
    (T.ldI
    IntKind.u8
    n402
    (0 +
    Int.toNat
    i492 *
    1)
    fun
    i494 =>
    T.ite
    (i493 !=
    i494)
    (T.drew
    (T.req
    (0 ≤
    i492 ∧
    i492 <
    12)
    (T.ldI
    IntKind.u8
    n417
    (0 +
    Int.toNat
    i492 *
    1)
    fun
    i495 =>
    T.req
    (0 ≤
    i492 ∧
    i492 <
    12)
    (T.ldI
    IntKind.u8
    n402
    (0 +
    Int.toNat
    i492 *
    1)
    fun
    i496 =>
    T.ite
    (decide
    (i495 <
    i496))
    (T.next
    0
    [Value.int
    IntKind.i64
    (-1)]
    ([Value.pointer
    (some
    (Addr.mk
    n16
    0
    none)),
    Value.pointer
    (some
    (Addr.mk
    n17
    0
    none)),
    Value.pointer
    (some
    (Addr.mk
    n18
    0
    none)),
    Value.pointer
    (some
    (Addr.mk
    n417
    0
    none))] =
    [Value.pointer
    (some
    (Addr.mk
    n16
    0
    none)),
    Value.pointer
    (some
    (Addr.mk
    n17
    0
    none)),
    Value.pointer
    (some
    (Addr.mk
    n18
    0
    none)),
    Value.pointer
    (some
    (Addr.mk
    n417
    0
    none))] ∧ ([] : List Deferred) = []))
    (T.next
    0
    [Value.int
    IntKind.i64
    1]
    ([Value.pointer
    (some
    (Addr.mk
    n16
    0
    none)),
    Value.pointer
    (some
    (Addr.mk
    n17
    0
    none)),
    Value.pointer
    (some
    (Addr.mk
    n18
    0
    none)),
    Value.pointer
    (some
    (Addr.mk
    n417
    0
    none))] =
    [Value.pointer
    (some
    (Addr.mk
    n16
    0
    none)),
    Value.pointer
    (some
    (Addr.mk
    n17
    0
    none)),
    Value.pointer
    (some
    (Addr.mk
    n18
    0
    none)),
    Value.pointer
    (some
    (Addr.mk
    n417
    0
    none))] ∧ ([] : List Deferred) = []))))))
    (T.next
    1
    [Value.int
    IntKind.i64
    i491,
    Value.int
    IntKind.i64
    (IntKind.wrap
    IntKind.i64
    (i492 +
    1))]
    ([Value.pointer
    (some
    (Addr.mk
    n16
    0
    none)),
    Value.pointer
    (some
    (Addr.mk
    n17
    0
    none)),
    Value.pointer
    (some
    (Addr.mk
    n18
    0
    none)),
    Value.pointer
    (some
    (Addr.mk
    n417
    0
    none)),
    Value.pointer
    (some
    (Addr.mk
    n402
    0
    none))] =
    [Value.pointer
    (some
    (Addr.mk
    n16
    0
    none)),
    Value.pointer
    (some
    (Addr.mk
    n17
    0
    none)),
    Value.pointer
    (some
    (Addr.mk
    n18
    0
    none)),
    Value.pointer
    (some
    (Addr.mk
    n417
    0
    none)),
    Value.pointer
    (some
    (Addr.mk
    n402
    0
    none))] ∧ ([] : List Deferred) = []))))))
    (T.next
    0
    [Value.int
    IntKind.i64
    i491]
    ([Value.pointer
    (some
    (Addr.mk
    n16
    0
    none)),
    Value.pointer
    (some
    (Addr.mk
    n17
    0
    none)),
    Value.pointer
    (some
    (Addr.mk
    n18
    0
    none)),
    Value.pointer
    (some
    (Addr.mk
    n417
    0
    none))] =
    [Value.pointer
    (some
    (Addr.mk
    n16
    0
    none)),
    Value.pointer
    (some
    (Addr.mk
    n17
    0
    none)),
    Value.pointer
    (some
    (Addr.mk
    n18
    0
    none)),
    Value.pointer
    (some
    (Addr.mk
    n417
    0
    none))] ∧ ([] : List Deferred) = [])))))))))))))))))))))))))))))))))
    (T.new
    (Obj.cells
    (Array.mk
    [Value.int IntKind.u8 0, Value.int IntKind.u8 0, Value.int IntKind.u8 0,
    Value.int IntKind.u8 0, Value.int IntKind.u8 0, Value.int IntKind.u8 0,
    Value.int IntKind.u8 0, Value.int IntKind.u8 0, Value.int IntKind.u8 0,
    Value.int IntKind.u8 0, Value.int IntKind.u8 0, Value.int IntKind.u8 0])
    27)
    fun n497 =>
    T.chk
    [(Addr.mk n17 0 none, Value.int IntKind.i32 i21),
    (Addr.mk n17 1 none, Value.int IntKind.i64 i22)]
    (T.call 12 [Value.agg (Array.mk [Value.int IntKind.i32 i21, Value.int IntKind.i64 i22])]
    fun v498 =>
    T.asA v498 fun l499 =>
    T.req (List.length l499 = 12)
    (T.asI IntKind.u8 (List.headD l499 (Value.tuple (Array.mk []))) fun i500 =>
    T.asI IntKind.u8 (List.headD (List.tail l499) (Value.tuple (Array.mk []))) fun i501 =>
    T.asI IntKind.u8 (List.headD (List.tail (List.tail l499)) (Value.tuple (Array.mk [])))
    fun i502 =>
    T.asI IntKind.u8
    (List.headD (List.tail (List.tail (List.tail l499))) (Value.tuple (Array.mk [])))
    fun i503 =>
    T.asI IntKind.u8
    (List.headD (List.tail (List.tail (List.tail (List.tail l499))))
    (Value.tuple (Array.mk [])))
    fun i504 =>
    T.asI IntKind.u8
    (List.headD (List.tail (List.tail (List.tail (List.tail (List.tail l499)))))
    (Value.tuple (Array.mk [])))
    fun i505 =>
    T.asI IntKind.u8
    (List.headD
    (List.tail
    (List.tail (List.tail (List.tail (List.tail (List.tail l499))))))
    (Value.tuple (Array.mk [])))
    fun i506 =>
    T.asI IntKind.u8
    (List.headD
    (List.tail
    (List.tail
    (List.tail (List.tail (List.tail (List.tail (List.tail l499)))))))
    (Value.tuple (Array.mk [])))
    fun i507 =>
    T.asI IntKind.u8
    (List.headD
    (List.tail
    (List.tail
    (List.tail
    (List.tail
    (List.tail (List.tail (List.tail (List.tail l499))))))))
    (Value.tuple (Array.mk [])))
    fun i508 =>
    T.asI IntKind.u8
    (List.headD
    (List.tail
    (List.tail
    (List.tail
    (List.tail
    (List.tail
    (List.tail (List.tail (List.tail (List.tail l499)))))))))
    (Value.tuple (Array.mk [])))
    fun i509 =>
    T.asI IntKind.u8
    (List.headD
    (List.tail
    (List.tail
    (List.tail
    (List.tail
    (List.tail
    (List.tail
    (List.tail
    (List.tail (List.tail (List.tail l499))))))))))
    (Value.tuple (Array.mk [])))
    fun i510 =>
    T.asI IntKind.u8
    (List.headD
    (List.tail
    (List.tail
    (List.tail
    (List.tail
    (List.tail
    (List.tail
    (List.tail
    (List.tail
    (List.tail (List.tail (List.tail l499)))))))))))
    (Value.tuple (Array.mk [])))
    fun i511 =>
    T.chk []
    (T.st n497 0 (Value.int IntKind.u8 i25)
    (T.st n497 1 (Value.int IntKind.u8 i26)
    (T.st n497 2 (Value.int IntKind.u8 i27)
    (T.st n497 3 (Value.int IntKind.u8 i28)
    (T.st n497 4 (Value.int IntKind.u8 i29)
    (T.st n497 5 (Value.int IntKind.u8 i30)
    (T.st n497 6 (Value.int IntKind.u8 i31)
    (T.st n497 7 (Value.int IntKind.u8 i32)
    (T.st n497 8 (Value.int IntKind.u8 i33)
    (T.st n497 9 (Value.int IntKind.u8 i34)
    (T.st n497 10 (Value.int IntKind.u8 i35)
    (T.st n497 11 (Value.int IntKind.u8 i36)
    (T.chk []
    (T.st n402 0
    (Value.int IntKind.u8 i500)
    (T.st n402 1
    (Value.int IntKind.u8 i501)
    (T.st n402 2
    (Value.int IntKind.u8 i502)
    (T.st n402 3
    (Value.int IntKind.u8 i503)
    (T.st n402 4
    (Value.int IntKind.u8 i504)
    (T.st n402 5
    (Value.int IntKind.u8
    i505)
    (T.st n402 6
    (Value.int IntKind.u8
    i506)
    (T.st n402 7
    (Value.int IntKind.u8
    i507)
    (T.st n402 8
    (Value.int
    IntKind.u8 i508)
    (T.st n402 9
    (Value.int
    IntKind.u8 i509)
    (T.st n402 10
    (Value.int
    IntKind.u8
    i510)
    (T.st n402 11
    (Value.int
    IntKind.u8
    i511)
    (T.chk []
    (T.blk 0
    (fun l512
    j513 =>
    T.asI
    IntKind.i64
    (List.headD
    l512
    (Value.tuple
    (Array.mk
    [])))
    fun
    i514 =>
    T.drew
    (T.call
    11
    []
    fun
    v515 =>
    T.asB
    v515
    fun
    b516 =>
    T.chk
    []
    (T.ite
    b516
    (T.ldI
    IntKind.i32
    n16
    0
    fun
    i517 =>
    T.ldI
    IntKind.i64
    n16
    1
    fun
    i518 =>
    T.ldI
    IntKind.i32
    n17
    0
    fun
    i519 =>
    T.ldI
    IntKind.i64
    n17
    1
    fun
    i520 =>
    T.call
    10
    [Value.agg
    (Array.mk
    [Value.int
    IntKind.i32
    i517,
    Value.int
    IntKind.i64
    i518]),
    Value.agg
    (Array.mk
    [Value.int
    IntKind.i32
    i519,
    Value.int
    IntKind.i64
    i520])]
    fun
    v521 =>
    T.asI
    IntKind.i64
    v521
    fun
    i522 =>
    T.chk
    []
    (T.ite
    (i514 ==
    i522)
    (T.ldI
    IntKind.u8
    n497
    0
    fun
    i523 =>
    T.ldI
    IntKind.u8
    n497
    1
    fun
    i524 =>
    T.ldI
    IntKind.u8
    n497
    2
    fun
    i525 =>
    T.ldI
    IntKind.u8
    n497
    3
    fun
    i526 =>
    T.ldI
    IntKind.u8
    n497
    4
    fun
    i527 =>
    T.ldI
    IntKind.u8
    n497
    5
    fun
    i528 =>
    T.ldI
    IntKind.u8
    n497
    6
    fun
    i529 =>
    T.ldI
    IntKind.u8
    n497
    7
    fun
    i530 =>
    T.ldI
    IntKind.u8
    n497
    8
    fun
    i531 =>
    T.ldI
    IntKind.u8
    n497
    9
    fun
    i532 =>
    T.ldI
    IntKind.u8
    n497
    10
    fun
    i533 =>
    T.ldI
    IntKind.u8
    n497
    11
    fun
    i534 =>
    T.ldI
    IntKind.i32
    n16
    0
    fun
    i535 =>
    T.ldI
    IntKind.i64
    n16
    1
    fun
    i536 =>
    T.call
    13
    [Value.agg
    (Array.mk
    [Value.int
    IntKind.u8
    i523,
    Value.int
    IntKind.u8
    i524,
    Value.int
    IntKind.u8
    i525,
    Value.int
    IntKind.u8
    i526,
    Value.int
    IntKind.u8
    i527,
    Value.int
    IntKind.u8
    i528,
    Value.int
    IntKind.u8
    i529,
    Value.int
    IntKind.u8
    i530,
    Value.int
    IntKind.u8
    i531,
    Value.int
    IntKind.u8
    i532,
    Value.int
    IntKind.u8
    i533,
    Value.int
    IntKind.u8
    i534])]
    fun
    v537 =>
    T.asA
    v537
    fun
    l538 =>
    T.req
    (List.length
    l538 =
    2)
    (T.asI
    IntKind.i32
    (List.headD
    l538
    (Value.tuple
    (Array.mk
    [])))
    fun
    i539 =>
    T.asI
    IntKind.i64
    (List.headD
    (List.tail
    l538)
    (Value.tuple
    (Array.mk
    [])))
    fun
    i540 =>
    T.chk
    [(Addr.mk
    n16
    0
    none,
    Value.int
    IntKind.i32
    i535),
    (Addr.mk
    n16
    1
    none,
    Value.int
    IntKind.i64
    i536)]
    (T.ite
    (i539 ==
    i535 &&
    (i540 ==
    i536 &&
    true))
    (T.ldI
    IntKind.u8
    n18
    0
    fun
    i541 =>
    T.ldI
    IntKind.u8
    n18
    1
    fun
    i542 =>
    T.ldI
    IntKind.u8
    n18
    2
    fun
    i543 =>
    T.ldI
    IntKind.u8
    n18
    3
    fun
    i544 =>
    T.ldI
    IntKind.u8
    n18
    4
    fun
    i545 =>
    T.ldI
    IntKind.u8
    n18
    5
    fun
    i546 =>
    T.ldI
    IntKind.u8
    n18
    6
    fun
    i547 =>
    T.ldI
    IntKind.u8
    n18
    7
    fun
    i548 =>
    T.ldI
    IntKind.u8
    n18
    8
    fun
    i549 =>
    T.ldI
    IntKind.u8
    n18
    9
    fun
    i550 =>
    T.ldI
    IntKind.u8
    n18
    10
    fun
    i551 =>
    T.ldI
    IntKind.u8
    n18
    11
    fun
    i552 =>
    T.ldI
    IntKind.u8
    n18
    0
    fun
    i553 =>
    T.ldI
    IntKind.u8
    n18
    1
    fun
    i554 =>
    T.ldI
    IntKind.u8
    n18
    2
    fun
    i555 =>
    T.ldI
    IntKind.u8
    n18
    3
    fun
    i556 =>
    T.ldI
    IntKind.u8
    n18
    4
    fun
    i557 =>
    T.ldI
    IntKind.u8
    n18
    5
    fun
    i558 =>
    T.ldI
    IntKind.u8
    n18
    6
    fun
    i559 =>
    T.ldI
    IntKind.u8
    n18
    7
    fun
    i560 =>
    T.ldI
    IntKind.u8
    n18
    8
    fun
    i561 =>
    T.ldI
    IntKind.u8
    n18
    9
    fun
    i562 =>
    T.ldI
    IntKind.u8
    n18
    10
    fun
    i563 =>
    T.ldI
    IntKind.u8
    n18
    11
    fun
    i564 =>
    T.call
    13
    [Value.agg
    (Array.mk
    [Value.int
    IntKind.u8
    i541,
    Value.int
    IntKind.u8
    i542,
    Value.int
    IntKind.u8
    i543,
    Value.int
    IntKind.u8
    i544,
    Value.int
    IntKind.u8
    i545,
    Value.int
    IntKind.u8
    i546,
    Value.int
    IntKind.u8
    i547,
    Value.int
    IntKind.u8
    i548,
    Value.int
    IntKind.u8
    i549,
    Value.int
    IntKind.u8
    i550,
    Value.int
    IntKind.u8
    i551,
    Value.int
    IntKind.u8
    i552])]
    fun
    v565 =>
    T.asA
    v565
    fun
    l566 =>
    T.req
    (List.length
    l566 =
    2)
    (T.asI
    IntKind.i32
    (List.headD
    l566
    (Value.tuple
    (Array.mk
    [])))
    fun
    i567 =>
    T.asI
    IntKind.i64
    (List.headD
    (List.tail
    l566)
    (Value.tuple
    (Array.mk
    [])))
    fun
    i568 =>
    T.chk
    [(Addr.mk
    n18
    0
    none,
    Value.int
    IntKind.u8
    i553),
    (Addr.mk
    n18
    1
    none,
    Value.int
    IntKind.u8
    i554),
    (Addr.mk
    n18
    2
    none,
    Value.int
    IntKind.u8
    i555),
    (Addr.mk
    n18
    3
    none,
    Value.int
    IntKind.u8
    i556),
    (Addr.mk
    n18
    4
    none,
    Value.int
    IntKind.u8
    i557),
    (Addr.mk
    n18
    5
    none,
    Value.int
    IntKind.u8
    i558),
    (Addr.mk
    n18
    6
    none,
    Value.int
    IntKind.u8
    i559),
    (Addr.mk
    n18
    7
    none,
    Value.int
    IntKind.u8
    i560),
    (Addr.mk
    n18
    8
    none,
    Value.int
    IntKind.u8
    i561),
    (Addr.mk
    n18
    9
    none,
    Value.int
    IntKind.u8
    i562),
    (Addr.mk
    n18
    10
    none,
    Value.int
    IntKind.u8
    i563),
    (Addr.mk
    n18
    11
    none,
    Value.int
    IntKind.u8
    i564),
    (Addr.mk
    n16
    0
    none,
    Value.int
    IntKind.i32
    i535),
    (Addr.mk
    n16
    1
    none,
    Value.int
    IntKind.i64
    i536)]
    (T.call
    12
    [Value.agg
    (Array.mk
    [Value.int
    IntKind.i32
    i567,
    Value.int
    IntKind.i64
    i568])]
    fun
    v569 =>
    T.asA
    v569
    fun
    l570 =>
    T.req
    (List.length
    l570 =
    12)
    (T.asI
    IntKind.u8
    (List.headD
    l570
    (Value.tuple
    (Array.mk
    [])))
    fun
    i571 =>
    T.asI
    IntKind.u8
    (List.headD
    (List.tail
    l570)
    (Value.tuple
    (Array.mk
    [])))
    fun
    i572 =>
    T.asI
    IntKind.u8
    (List.headD
    (List.tail
    (List.tail
    l570))
    (Value.tuple
    (Array.mk
    [])))
    fun
    i573 =>
    T.asI
    IntKind.u8
    (List.headD
    (List.tail
    (List.tail
    (List.tail
    l570)))
    (Value.tuple
    (Array.mk
    [])))
    fun
    i574 =>
    T.asI
    IntKind.u8
    (List.headD
    (List.tail
    (List.tail
    (List.tail
    (List.tail
    l570))))
    (Value.tuple
    (Array.mk
    [])))
    fun
    i575 =>
    T.asI
    IntKind.u8
    (List.headD
    (List.tail
    (List.tail
    (List.tail
    (List.tail
    (List.tail
    l570)))))
    (Value.tuple
    (Array.mk
    [])))
    fun
    i576 =>
    T.asI
    IntKind.u8
    (List.headD
    (List.tail
    (List.tail
    (List.tail
    (List.tail
    (List.tail
    (List.tail
    l570))))))
    (Value.tuple
    (Array.mk
    [])))
    fun
    i577 =>
    T.asI
    IntKind.u8
    (List.headD
    (List.tail
    (List.tail
    (List.tail
    (List.tail
    (List.tail
    (List.tail
    (List.tail
    l570)))))))
    (Value.tuple
    (Array.mk
    [])))
    fun
    i578 =>
    T.asI
    IntKind.u8
    (List.headD
    (List.tail
    (List.tail
    (List.tail
    (List.tail
    (List.tail
    (List.tail
    (List.tail
    (List.tail
    l570))))))))
    (Value.tuple
    (Array.mk
    [])))
    fun
    i579 =>
    T.asI
    IntKind.u8
    (List.headD
    (List.tail
    (List.tail
    (List.tail
    (List.tail
    (List.tail
    (List.tail
    (List.tail
    (List.tail
    (List.tail
    l570)))))))))
    (Value.tuple
    (Array.mk
    [])))
    fun
    i580 =>
    T.asI
    IntKind.u8
    (List.headD
    (List.tail
    (List.tail
    (List.tail
    (List.tail
    (List.tail
    (List.tail
    (List.tail
    (List.tail
    (List.tail
    (List.tail
    l570))))))))))
    (Value.tuple
    (Array.mk
    [])))
    fun
    i581 =>
    T.asI
    IntKind.u8
    (List.headD
    (List.tail
    (List.tail
    (List.tail
    (List.tail
    (List.tail
    (List.tail
    (List.tail
    (List.tail
    (List.tail
    (List.tail
    (List.tail
    l570)))))))))))
    (Value.tuple
    (Array.mk
    [])))
    fun
    i582 =>
    T.chk
    [(Addr.mk
    n18
    0
    none,
    Value.int
    IntKind.u8
    i553),
    (Addr.mk
    n18
    1
    none,
    Value.int
    IntKind.u8
    i554),
    (Addr.mk
    n18
    2
    none,
    Value.int
    IntKind.u8
    i555),
    (Addr.mk
    n18
    3
    none,
    Value.int
    IntKind.u8
    i556),
    (Addr.mk
    n18
    4
    none,
    Value.int
    IntKind.u8
    i557),
    (Addr.mk
    n18
    5
    none,
    Value.int
    IntKind.u8
    i558),
    (Addr.mk
    n18
    6
    none,
    Value.int
    IntKind.u8
    i559),
    (Addr.mk
    n18
    7
    none,
    Value.int
    IntKind.u8
    i560),
    (Addr.mk
    n18
    8
    none,
    Value.int
    IntKind.u8
    i561),
    (Addr.mk
    n18
    9
    none,
    Value.int
    IntKind.u8
    i562),
    (Addr.mk
    n18
    10
    none,
    Value.int
    IntKind.u8
    i563),
    (Addr.mk
    n18
    11
    none,
    Value.int
    IntKind.u8
    i564),
    (Addr.mk
    n16
    0
    none,
    Value.int
    IntKind.i32
    i535),
    (Addr.mk
    n16
    1
    none,
    Value.int
    IntKind.i64
    i536)]
    (T.ret
    (Value.bool
    (i571 ==
    i553 &&
    (i572 ==
    i554 &&
    (i573 ==
    i555 &&
    (i574 ==
    i556 &&
    (i575 ==
    i557 &&
    (i576 ==
    i558 &&
    (i577 ==
    i559 &&
    (i578 ==
    i560 &&
    (i579 ==
    i561 &&
    (i580 ==
    i562 &&
    (i581 ==
    i563 &&
    (i582 ==
    i564 &&
    true))))))))))))))))))
    (T.chk
    [(Addr.mk
    n16
    0
    none,
    Value.int
    IntKind.i32
    i535),
    (Addr.mk
    n16
    1
    none,
    Value.int
    IntKind.i64
    i536)]
    (T.chk
    [(Addr.mk
    n16
    0
    none,
    Value.int
    IntKind.i32
    i535),
    (Addr.mk
    n16
    1
    none,
    Value.int
    IntKind.i64
    i536)]
    (T.ret
    (Value.bool
    false)))))))
    (T.chk
    []
    (T.chk
    []
    (T.chk
    []
    (T.ret
    (Value.bool
    false)))))))
    (T.chk
    []
    (T.chk
    []
    (T.chk
    []
    (T.chk
    []
    (T.ret
    (Value.bool
    false)))))))))
    (T.loop 1
    [Value.int
    IntKind.i64
    0,
    Value.int
    IntKind.i64
    0]
    fun l583
    j584 =>
    T.asI
    IntKind.i64
    (List.headD
    l583
    (Value.tuple
    (Array.mk
    [])))
    fun
    i585 =>
    T.asI
    IntKind.i64
    (List.headD
    (List.tail
    l583)
    (Value.tuple
    (Array.mk
    [])))
    fun
    i586 =>
    T.ite
    (decide
    (i586 <
    12))
    (T.drew
    (T.req
    (0 ≤
    i586 ∧
    i586 <
    12)
    (T.ldI
    IntKind.u8
    n497
    (0 +
    Int.toNat
    i586 *
    1)
    fun
    i587 =>
    T.req
    (0 ≤
    i586 ∧
    i586 <
    12)
    (T.ldI
    IntKind.u8
    n402
    (0 +
    Int.toNat
    i586 *
    1)
    fun
    i588 =>
    T.ite
    (i587 !=
    i588)
    (T.drew
    (T.req
    (0 ≤
    i586 ∧
    i586 <
    12)
    (T.ldI
    IntKind.u8
    n497
    (0 +
    Int.toNat
    i586 *
    1)
    fun
    i589 =>
    T.req
    (0 ≤
    i586 ∧
    i586 <
    12)
    (T.ldI
    IntKind.u8
    n402
    (0 +
    Int.toNat
    i586 *
    1)
    fun
    i590 =>
    T.ite
    (decide
    (i589 <
    i590))
    (T.next
    0
    [Value.int
    IntKind.i64
    (-1)]
    ([Value.pointer
    (some
    (Addr.mk
    n16
    0
    none)),
    Value.pointer
    (some
    (Addr.mk
    n17
    0
    none)),
    Value.pointer
    (some
    (Addr.mk
    n18
    0
    none)),
    Value.pointer
    (some
    (Addr.mk
    n497
    0
    none))] =
    [Value.pointer
    (some
    (Addr.mk
    n16
    0
    none)),
    Value.pointer
    (some
    (Addr.mk
    n17
    0
    none)),
    Value.pointer
    (some
    (Addr.mk
    n18
    0
    none)),
    Value.pointer
    (some
    (Addr.mk
    n497
    0
    none))] ∧ ([] : List Deferred) = []))
    (T.next
    0
    [Value.int
    IntKind.i64
    1]
    ([Value.pointer
    (some
    (Addr.mk
    n16
    0
    none)),
    Value.pointer
    (some
    (Addr.mk
    n17
    0
    none)),
    Value.pointer
    (some
    (Addr.mk
    n18
    0
    none)),
    Value.pointer
    (some
    (Addr.mk
    n497
    0
    none))] =
    [Value.pointer
    (some
    (Addr.mk
    n16
    0
    none)),
    Value.pointer
    (some
    (Addr.mk
    n17
    0
    none)),
    Value.pointer
    (some
    (Addr.mk
    n18
    0
    none)),
    Value.pointer
    (some
    (Addr.mk
    n497
    0
    none))] ∧ ([] : List Deferred) = []))))))
    (T.next
    1
    [Value.int
    IntKind.i64
    i585,
    Value.int
    IntKind.i64
    (IntKind.wrap
    IntKind.i64
    (i586 +
    1))]
    ([Value.pointer
    (some
    (Addr.mk
    n16
    0
    none)),
    Value.pointer
    (some
    (Addr.mk
    n17
    0
    none)),
    Value.pointer
    (some
    (Addr.mk
    n18
    0
    none)),
    Value.pointer
    (some
    (Addr.mk
    n497
    0
    none)),
    Value.pointer
    (some
    (Addr.mk
    n402
    0
    none))] =
    [Value.pointer
    (some
    (Addr.mk
    n16
    0
    none)),
    Value.pointer
    (some
    (Addr.mk
    n17
    0
    none)),
    Value.pointer
    (some
    (Addr.mk
    n18
    0
    none)),
    Value.pointer
    (some
    (Addr.mk
    n497
    0
    none)),
    Value.pointer
    (some
    (Addr.mk
    n402
    0
    none))] ∧ ([] : List Deferred) = []))))))
    (T.next
    0
    [Value.int
    IntKind.i64
    i585]
    ([Value.pointer
    (some
    (Addr.mk
    n16
    0
    none)),
    Value.pointer
    (some
    (Addr.mk
    n17
    0
    none)),
    Value.pointer
    (some
    (Addr.mk
    n18
    0
    none)),
    Value.pointer
    (some
    (Addr.mk
    n497
    0
    none))] =
    [Value.pointer
    (some
    (Addr.mk
    n16
    0
    none)),
    Value.pointer
    (some
    (Addr.mk
    n17
    0
    none)),
    Value.pointer
    (some
    (Addr.mk
    n18
    0
    none)),
    Value.pointer
    (some
    (Addr.mk
    n497
    0
    none))] ∧ ([] : List Deferred) = [])))))))))))))))))))))))))))))))))))))))
    (T.both
    (T.new
    (Obj.cells
    (Array.mk
    [Value.int IntKind.u8 0, Value.int IntKind.u8 0, Value.int IntKind.u8 0, Value.int IntKind.u8 0, Value.int IntKind.u8 0,
    Value.int IntKind.u8 0, Value.int IntKind.u8 0, Value.int IntKind.u8 0, Value.int IntKind.u8 0, Value.int IntKind.u8 0,
    Value.int IntKind.u8 0, Value.int IntKind.u8 0])
    27)
    fun n591 =>
    T.chk
    [(Addr.mk n17 0 none, Value.int IntKind.i32 i21), (Addr.mk n17 1 none, Value.int IntKind.i64 i22),
    (Addr.mk n16 0 none, Value.int IntKind.i32 i19), (Addr.mk n16 1 none, Value.int IntKind.i64 i20)]
    (T.both
    (T.call 12 [Value.agg (Array.mk [Value.int IntKind.i32 i19, Value.int IntKind.i64 i20])] fun v592 =>
    T.asA v592 fun l593 =>
    T.req (List.length l593 = 12)
    (T.asI IntKind.u8 (List.headD l593 (Value.tuple (Array.mk []))) fun i594 =>
    T.asI IntKind.u8 (List.headD (List.tail l593) (Value.tuple (Array.mk []))) fun i595 =>
    T.asI IntKind.u8 (List.headD (List.tail (List.tail l593)) (Value.tuple (Array.mk []))) fun i596 =>
    T.asI IntKind.u8 (List.headD (List.tail (List.tail (List.tail l593))) (Value.tuple (Array.mk []))) fun i597 =>
    T.asI IntKind.u8 (List.headD (List.tail (List.tail (List.tail (List.tail l593)))) (Value.tuple (Array.mk [])))
    fun i598 =>
    T.asI IntKind.u8
    (List.headD (List.tail (List.tail (List.tail (List.tail (List.tail l593))))) (Value.tuple (Array.mk [])))
    fun i599 =>
    T.asI IntKind.u8
    (List.headD (List.tail (List.tail (List.tail (List.tail (List.tail (List.tail l593))))))
    (Value.tuple (Array.mk [])))
    fun i600 =>
    T.asI IntKind.u8
    (List.headD (List.tail (List.tail (List.tail (List.tail (List.tail (List.tail (List.tail l593)))))))
    (Value.tuple (Array.mk [])))
    fun i601 =>
    T.asI IntKind.u8
    (List.headD
    (List.tail (List.tail (List.tail (List.tail (List.tail (List.tail (List.tail (List.tail l593))))))))
    (Value.tuple (Array.mk [])))
    fun i602 =>
    T.asI IntKind.u8
    (List.headD
    (List.tail
    (List.tail (List.tail (List.tail (List.tail (List.tail (List.tail (List.tail (List.tail l593)))))))))
    (Value.tuple (Array.mk [])))
    fun i603 =>
    T.asI IntKind.u8
    (List.headD
    (List.tail
    (List.tail
    (List.tail
    (List.tail (List.tail (List.tail (List.tail (List.tail (List.tail (List.tail l593))))))))))
    (Value.tuple (Array.mk [])))
    fun i604 =>
    T.asI IntKind.u8
    (List.headD
    (List.tail
    (List.tail
    (List.tail
    (List.tail
    (List.tail (List.tail (List.tail (List.tail (List.tail (List.tail (List.tail l593)))))))))))
    (Value.tuple (Array.mk [])))
    fun i605 =>
    T.chk [(Addr.mk n17 0 none, Value.int IntKind.i32 i21), (Addr.mk n17 1 none, Value.int IntKind.i64 i22)]
    (T.both
    (T.call 12 [Value.agg (Array.mk [Value.int IntKind.i32 i21, Value.int IntKind.i64 i22])] fun v606 =>
    T.asA v606 fun l607 =>
    T.req (List.length l607 = 12)
    (T.asI IntKind.u8 (List.headD l607 (Value.tuple (Array.mk []))) fun i608 =>
    T.asI IntKind.u8 (List.headD (List.tail l607) (Value.tuple (Array.mk []))) fun i609 =>
    T.asI IntKind.u8 (List.headD (List.tail (List.tail l607)) (Value.tuple (Array.mk [])))
    fun i610 =>
    T.asI IntKind.u8
    (List.headD (List.tail (List.tail (List.tail l607))) (Value.tuple (Array.mk [])))
    fun i611 =>
    T.asI IntKind.u8
    (List.headD (List.tail (List.tail (List.tail (List.tail l607))))
    (Value.tuple (Array.mk [])))
    fun i612 =>
    T.asI IntKind.u8
    (List.headD (List.tail (List.tail (List.tail (List.tail (List.tail l607)))))
    (Value.tuple (Array.mk [])))
    fun i613 =>
    T.asI IntKind.u8
    (List.headD
    (List.tail (List.tail (List.tail (List.tail (List.tail (List.tail l607))))))
    (Value.tuple (Array.mk [])))
    fun i614 =>
    T.asI IntKind.u8
    (List.headD
    (List.tail
    (List.tail
    (List.tail (List.tail (List.tail (List.tail (List.tail l607)))))))
    (Value.tuple (Array.mk [])))
    fun i615 =>
    T.asI IntKind.u8
    (List.headD
    (List.tail
    (List.tail
    (List.tail
    (List.tail (List.tail (List.tail (List.tail (List.tail l607))))))))
    (Value.tuple (Array.mk [])))
    fun i616 =>
    T.asI IntKind.u8
    (List.headD
    (List.tail
    (List.tail
    (List.tail
    (List.tail
    (List.tail
    (List.tail (List.tail (List.tail (List.tail l607)))))))))
    (Value.tuple (Array.mk [])))
    fun i617 =>
    T.asI IntKind.u8
    (List.headD
    (List.tail
    (List.tail
    (List.tail
    (List.tail
    (List.tail
    (List.tail
    (List.tail (List.tail (List.tail (List.tail l607))))))))))
    (Value.tuple (Array.mk [])))
    fun i618 =>
    T.asI IntKind.u8
    (List.headD
    (List.tail
    (List.tail
    (List.tail
    (List.tail
    (List.tail
    (List.tail
    (List.tail
    (List.tail
    (List.tail (List.tail (List.tail l607)))))))))))
    (Value.tuple (Array.mk [])))
    fun i619 =>
    T.chk []
    (T.new
    (Obj.cells
    (Array.mk
    [Value.int IntKind.u8 0, Value.int IntKind.u8 0,
    Value.int IntKind.u8 0, Value.int IntKind.u8 0,
    Value.int IntKind.u8 0, Value.int IntKind.u8 0,
    Value.int IntKind.u8 0, Value.int IntKind.u8 0,
    Value.int IntKind.u8 0, Value.int IntKind.u8 0,
    Value.int IntKind.u8 0, Value.int IntKind.u8 0])
    27)
    fun n620 =>
    T.chk []
    (T.st n591 0 (Value.int IntKind.u8 i594)
    (T.st n591 1 (Value.int IntKind.u8 i595)
    (T.st n591 2 (Value.int IntKind.u8 i596)
    (T.st n591 3 (Value.int IntKind.u8 i597)
    (T.st n591 4 (Value.int IntKind.u8 i598)
    (T.st n591 5 (Value.int IntKind.u8 i599)
    (T.st n591 6 (Value.int IntKind.u8 i600)
    (T.st n591 7 (Value.int IntKind.u8 i601)
    (T.st n591 8 (Value.int IntKind.u8 i602)
    (T.st n591 9 (Value.int IntKind.u8 i603)
    (T.st n591 10 (Value.int IntKind.u8 i604)
    (T.st n591 11 (Value.int IntKind.u8 i605)
    (T.chk []
    (T.st n620 0
    (Value.int IntKind.u8 i608)
    (T.st n620 1
    (Value.int IntKind.u8 i609)
    (T.st n620 2
    (Value.int IntKind.u8 i610)
    (T.st n620 3
    (Value.int IntKind.u8 i611)
    (T.st n620 4
    (Value.int IntKind.u8 i612)
    (T.st n620 5
    (Value.int IntKind.u8
    i613)
    (T.st n620 6
    (Value.int IntKind.u8
    i614)
    (T.st n620 7
    (Value.int IntKind.u8
    i615)
    (T.st n620 8
    (Value.int
    IntKind.u8 i616)
    (T.st n620 9
    (Value.int
    IntKind.u8 i617)
    (T.st n620 10
    (Value.int
    IntKind.u8
    i618)
    (T.st n620 11
    (Value.int
    IntKind.u8
    i619)
    (T.chk []
    (T.blk 0
    (fun l621
    j622 =>
    T.asI
    IntKind.i64
    (List.headD
    l621
    (Value.tuple
    (Array.mk
    [])))
    fun
    i623 =>
    T.drew
    (T.call
    11
    []
    fun
    v624 =>
    T.asB
    v624
    fun
    b625 =>
    T.chk
    []
    (T.ite
    b625
    (T.ldI
    IntKind.i32
    n16
    0
    fun
    i626 =>
    T.ldI
    IntKind.i64
    n16
    1
    fun
    i627 =>
    T.ldI
    IntKind.i32
    n17
    0
    fun
    i628 =>
    T.ldI
    IntKind.i64
    n17
    1
    fun
    i629 =>
    T.call
    10
    [Value.agg
    (Array.mk
    [Value.int
    IntKind.i32
    i626,
    Value.int
    IntKind.i64
    i627]),
    Value.agg
    (Array.mk
    [Value.int
    IntKind.i32
    i628,
    Value.int
    IntKind.i64
    i629])]
    fun
    v630 =>
    T.asI
    IntKind.i64
    v630
    fun
    i631 =>
    T.chk
    []
    (T.ite
    (i623 ==
    i631)
    (T.ldI
    IntKind.u8
    n591
    0
    fun
    i632 =>
    T.ldI
    IntKind.u8
    n591
    1
    fun
    i633 =>
    T.ldI
    IntKind.u8
    n591
    2
    fun
    i634 =>
    T.ldI
    IntKind.u8
    n591
    3
    fun
    i635 =>
    T.ldI
    IntKind.u8
    n591
    4
    fun
    i636 =>
    T.ldI
    IntKind.u8
    n591
    5
    fun
    i637 =>
    T.ldI
    IntKind.u8
    n591
    6
    fun
    i638 =>
    T.ldI
    IntKind.u8
    n591
    7
    fun
    i639 =>
    T.ldI
    IntKind.u8
    n591
    8
    fun
    i640 =>
    T.ldI
    IntKind.u8
    n591
    9
    fun
    i641 =>
    T.ldI
    IntKind.u8
    n591
    10
    fun
    i642 =>
    T.ldI
    IntKind.u8
    n591
    11
    fun
    i643 =>
    T.ldI
    IntKind.i32
    n16
    0
    fun
    i644 =>
    T.ldI
    IntKind.i64
    n16
    1
    fun
    i645 =>
    T.call
    13
    [Value.agg
    (Array.mk
    [Value.int
    IntKind.u8
    i632,
    Value.int
    IntKind.u8
    i633,
    Value.int
    IntKind.u8
    i634,
    Value.int
    IntKind.u8
    i635,
    Value.int
    IntKind.u8
    i636,
    Value.int
    IntKind.u8
    i637,
    Value.int
    IntKind.u8
    i638,
    Value.int
    IntKind.u8
    i639,
    Value.int
    IntKind.u8
    i640,
    Value.int
    IntKind.u8
    i641,
    Value.int
    IntKind.u8
    i642,
    Value.int
    IntKind.u8
    i643])]
    fun
    v646 =>
    T.asA
    v646
    fun
    l647 =>
    T.req
    (List.length
    l647 =
    2)
    (T.asI
    IntKind.i32
    (List.headD
    l647
    (Value.tuple
    (Array.mk
    [])))
    fun
    i648 =>
    T.asI
    IntKind.i64
    (List.headD
    (List.tail
    l647)
    (Value.tuple
    (Array.mk
    [])))
    fun
    i649 =>
    T.chk
    [(Addr.mk
    n16
    0
    none,
    Value.int
    IntKind.i32
    i644),
    (Addr.mk
    n16
    1
    none,
    Value.int
    IntKind.i64
    i645)]
    (T.ite
    (i648 ==
    i644 &&
    (i649 ==
    i645 &&
    true))
    (T.ldI
    IntKind.u8
    n18
    0
    fun
    i650 =>
    T.ldI
    IntKind.u8
    n18
    1
    fun
    i651 =>
    T.ldI
    IntKind.u8
    n18
    2
    fun
    i652 =>
    T.ldI
    IntKind.u8
    n18
    3
    fun
    i653 =>
    T.ldI
    IntKind.u8
    n18
    4
    fun
    i654 =>
    T.ldI
    IntKind.u8
    n18
    5
    fun
    i655 =>
    T.ldI
    IntKind.u8
    n18
    6
    fun
    i656 =>
    T.ldI
    IntKind.u8
    n18
    7
    fun
    i657 =>
    T.ldI
    IntKind.u8
    n18
    8
    fun
    i658 =>
    T.ldI
    IntKind.u8
    n18
    9
    fun
    i659 =>
    T.ldI
    IntKind.u8
    n18
    10
    fun
    i660 =>
    T.ldI
    IntKind.u8
    n18
    11
    fun
    i661 =>
    T.ldI
    IntKind.u8
    n18
    0
    fun
    i662 =>
    T.ldI
    IntKind.u8
    n18
    1
    fun
    i663 =>
    T.ldI
    IntKind.u8
    n18
    2
    fun
    i664 =>
    T.ldI
    IntKind.u8
    n18
    3
    fun
    i665 =>
    T.ldI
    IntKind.u8
    n18
    4
    fun
    i666 =>
    T.ldI
    IntKind.u8
    n18
    5
    fun
    i667 =>
    T.ldI
    IntKind.u8
    n18
    6
    fun
    i668 =>
    T.ldI
    IntKind.u8
    n18
    7
    fun
    i669 =>
    T.ldI
    IntKind.u8
    n18
    8
    fun
    i670 =>
    T.ldI
    IntKind.u8
    n18
    9
    fun
    i671 =>
    T.ldI
    IntKind.u8
    n18
    10
    fun
    i672 =>
    T.ldI
    IntKind.u8
    n18
    11
    fun
    i673 =>
    T.call
    13
    [Value.agg
    (Array.mk
    [Value.int
    IntKind.u8
    i650,
    Value.int
    IntKind.u8
    i651,
    Value.int
    IntKind.u8
    i652,
    Value.int
    IntKind.u8
    i653,
    Value.int
    IntKind.u8
    i654,
    Value.int
    IntKind.u8
    i655,
    Value.int
    IntKind.u8
    i656,
    Value.int
    IntKind.u8
    i657,
    Value.int
    IntKind.u8
    i658,
    Value.int
    IntKind.u8
    i659,
    Value.int
    IntKind.u8
    i660,
    Value.int
    IntKind.u8
    i661])]
    fun
    v674 =>
    T.asA
    v674
    fun
    l675 =>
    T.req
    (List.length
    l675 =
    2)
    (T.asI
    IntKind.i32
    (List.headD
    l675
    (Value.tuple
    (Array.mk
    [])))
    fun
    i676 =>
    T.asI
    IntKind.i64
    (List.headD
    (List.tail
    l675)
    (Value.tuple
    (Array.mk
    [])))
    fun
    i677 =>
    T.chk
    [(Addr.mk
    n18
    0
    none,
    Value.int
    IntKind.u8
    i662),
    (Addr.mk
    n18
    1
    none,
    Value.int
    IntKind.u8
    i663),
    (Addr.mk
    n18
    2
    none,
    Value.int
    IntKind.u8
    i664),
    (Addr.mk
    n18
    3
    none,
    Value.int
    IntKind.u8
    i665),
    (Addr.mk
    n18
    4
    none,
    Value.int
    IntKind.u8
    i666),
    (Addr.mk
    n18
    5
    none,
    Value.int
    IntKind.u8
    i667),
    (Addr.mk
    n18
    6
    none,
    Value.int
    IntKind.u8
    i668),
    (Addr.mk
    n18
    7
    none,
    Value.int
    IntKind.u8
    i669),
    (Addr.mk
    n18
    8
    none,
    Value.int
    IntKind.u8
    i670),
    (Addr.mk
    n18
    9
    none,
    Value.int
    IntKind.u8
    i671),
    (Addr.mk
    n18
    10
    none,
    Value.int
    IntKind.u8
    i672),
    (Addr.mk
    n18
    11
    none,
    Value.int
    IntKind.u8
    i673),
    (Addr.mk
    n16
    0
    none,
    Value.int
    IntKind.i32
    i644),
    (Addr.mk
    n16
    1
    none,
    Value.int
    IntKind.i64
    i645)]
    (T.call
    12
    [Value.agg
    (Array.mk
    [Value.int
    IntKind.i32
    i676,
    Value.int
    IntKind.i64
    i677])]
    fun
    v678 =>
    T.asA
    v678
    fun
    l679 =>
    T.req
    (List.length
    l679 =
    12)
    (T.asI
    IntKind.u8
    (List.headD
    l679
    (Value.tuple
    (Array.mk
    [])))
    fun
    i680 =>
    T.asI
    IntKind.u8
    (List.headD
    (List.tail
    l679)
    (Value.tuple
    (Array.mk
    [])))
    fun
    i681 =>
    T.asI
    IntKind.u8
    (List.headD
    (List.tail
    (List.tail
    l679))
    (Value.tuple
    (Array.mk
    [])))
    fun
    i682 =>
    T.asI
    IntKind.u8
    (List.headD
    (List.tail
    (List.tail
    (List.tail
    l679)))
    (Value.tuple
    (Array.mk
    [])))
    fun
    i683 =>
    T.asI
    IntKind.u8
    (List.headD
    (List.tail
    (List.tail
    (List.tail
    (List.tail
    l679))))
    (Value.tuple
    (Array.mk
    [])))
    fun
    i684 =>
    T.asI
    IntKind.u8
    (List.headD
    (List.tail
    (List.tail
    (List.tail
    (List.tail
    (List.tail
    l679)))))
    (Value.tuple
    (Array.mk
    [])))
    fun
    i685 =>
    T.asI
    IntKind.u8
    (List.headD
    (List.tail
    (List.tail
    (List.tail
    (List.tail
    (List.tail
    (List.tail
    l679))))))
    (Value.tuple
    (Array.mk
    [])))
    fun
    i686 =>
    T.asI
    IntKind.u8
    (List.headD
    (List.tail
    (List.tail
    (List.tail
    (List.tail
    (List.tail
    (List.tail
    (List.tail
    l679)))))))
    (Value.tuple
    (Array.mk
    [])))
    fun
    i687 =>
    T.asI
    IntKind.u8
    (List.headD
    (List.tail
    (List.tail
    (List.tail
    (List.tail
    (List.tail
    (List.tail
    (List.tail
    (List.tail
    l679))))))))
    (Value.tuple
    (Array.mk
    [])))
    fun
    i688 =>
    T.asI
    IntKind.u8
    (List.headD
    (List.tail
    (List.tail
    (List.tail
    (List.tail
    (List.tail
    (List.tail
    (List.tail
    (List.tail
    (List.tail
    l679)))))))))
    (Value.tuple
    (Array.mk
    [])))
    fun
    i689 =>
    T.asI
    IntKind.u8
    (List.headD
    (List.tail
    (List.tail
    (List.tail
    (List.tail
    (List.tail
    (List.tail
    (List.tail
    (List.tail
    (List.tail
    (List.tail
    l679))))))))))
    (Value.tuple
    (Array.mk
    [])))
    fun
    i690 =>
    T.asI
    IntKind.u8
    (List.headD
    (List.tail
    (List.tail
    (List.tail
    (List.tail
    (List.tail
    (List.tail
    (List.tail
    (List.tail
    (List.tail
    (List.tail
    (List.tail
    l679)))))))))))
    (Value.tuple
    (Array.mk
    [])))
    fun
    i691 =>
    T.chk
    [(Addr.mk
    n18
    0
    none,
    Value.int
    IntKind.u8
    i662),
    (Addr.mk
    n18
    1
    none,
    Value.int
    IntKind.u8
    i663),
    (Addr.mk
    n18
    2
    none,
    Value.int
    IntKind.u8
    i664),
    (Addr.mk
    n18
    3
    none,
    Value.int
    IntKind.u8
    i665),
    (Addr.mk
    n18
    4
    none,
    Value.int
    IntKind.u8
    i666),
    (Addr.mk
    n18
    5
    none,
    Value.int
    IntKind.u8
    i667),
    (Addr.mk
    n18
    6
    none,
    Value.int
    IntKind.u8
    i668),
    (Addr.mk
    n18
    7
    none,
    Value.int
    IntKind.u8
    i669),
    (Addr.mk
    n18
    8
    none,
    Value.int
    IntKind.u8
    i670),
    (Addr.mk
    n18
    9
    none,
    Value.int
    IntKind.u8
    i671),
    (Addr.mk
    n18
    10
    none,
    Value.int
    IntKind.u8
    i672),
    (Addr.mk
    n18
    11
    none,
    Value.int
    IntKind.u8
    i673),
    (Addr.mk
    n16
    0
    none,
    Value.int
    IntKind.i32
    i644),
    (Addr.mk
    n16
    1
    none,
    Value.int
    IntKind.i64
    i645)]
    (T.ret
    (Value.bool
    (i680 ==
    i662 &&
    (i681 ==
    i663 &&
    (i682 ==
    i664 &&
    (i683 ==
    i665 &&
    (i684 ==
    i666 &&
    (i685 ==
    i667 &&
    (i686 ==
    i668 &&
    (i687 ==
    i669 &&
    (i688 ==
    i670 &&
    (i689 ==
    i671 &&
    (i690 ==
    i672 &&
    (i691 ==
    i673 &&
    true))))))))))))))))))
    (T.chk
    [(Addr.mk
    n16
    0
    none,
    Value.int
    IntKind.i32
    i644),
    (Addr.mk
    n16
    1
    none,
    Value.int
    IntKind.i64
    i645)]
    (T.chk
    [(Addr.mk
    n16
    0
    none,
    Value.int
    IntKind.i32
    i644),
    (Addr.mk
    n16
    1
    none,
    Value.int
    IntKind.i64
    i645)]
    (T.ret
    (Value.bool
    false)))))))
    (T.chk
    []
    (T.chk
    []
    (T.chk
    []
    (T.ret
    (Value.bool
    false)))))))
    (T.chk
    []
    (T.chk
    []
    (T.chk
    []
    (T.chk
    []
    (T.ret
    (Value.bool
    false)))))))))
    (T.loop 1
    [Value.int
    IntKind.i64
    0,
    Value.int
    IntKind.i64
    0]
    fun l692
    j693 =>
    T.asI
    IntKind.i64
    (List.headD
    l692
    (Value.tuple
    (Array.mk
    [])))
    fun
    i694 =>
    T.asI
    IntKind.i64
    (List.headD
    (List.tail
    l692)
    (Value.tuple
    (Array.mk
    [])))
    fun
    i695 =>
    T.ite
    (decide
    (i695 <
    12))
    (T.drew
    (T.req
    (0 ≤
    i695 ∧
    i695 <
    12)
    (T.ldI
    IntKind.u8
    n591
    (0 +
    Int.toNat
    i695 *
    1)
    fun
    i696 =>
    T.req
    (0 ≤
    i695 ∧
    i695 <
    12)
    (T.ldI
    IntKind.u8
    n620
    (0 +
    Int.toNat
    i695 *
    1)
    fun
    i697 =>
    T.ite
    (i696 !=
    i697)
    (T.drew
    (T.req
    (0 ≤
    i695 ∧
    i695 <
    12)
    (T.ldI
    IntKind.u8
    n591
    (0 +
    Int.toNat
    i695 *
    1)
    fun
    i698 =>
    T.req
    (0 ≤
    i695 ∧
    i695 <
    12)
    (T.ldI
    IntKind.u8
    n620
    (0 +
    Int.toNat
    i695 *
    1)
    fun
    i699 =>
    T.ite
    (decide
    (i698 <
    i699))
    (T.next
    0
    [Value.int
    IntKind.i64
    (-1)]
    ([Value.pointer
    (some
    (Addr.mk
    n16
    0
    none)),
    Value.pointer
    (some
    (Addr.mk
    n17
    0
    none)),
    Value.pointer
    (some
    (Addr.mk
    n18
    0
    none)),
    Value.pointer
    (some
    (Addr.mk
    n591
    0
    none))] =
    [Value.pointer
    (some
    (Addr.mk
    n16
    0
    none)),
    Value.pointer
    (some
    (Addr.mk
    n17
    0
    none)),
    Value.pointer
    (some
    (Addr.mk
    n18
    0
    none)),
    Value.pointer
    (some
    (Addr.mk
    n591
    0
    none))] ∧ ([] : List Deferred) = []))
    (T.next
    0
    [Value.int
    IntKind.i64
    1]
    ([Value.pointer
    (some
    (Addr.mk
    n16
    0
    none)),
    Value.pointer
    (some
    (Addr.mk
    n17
    0
    none)),
    Value.pointer
    (some
    (Addr.mk
    n18
    0
    none)),
    Value.pointer
    (some
    (Addr.mk
    n591
    0
    none))] =
    [Value.pointer
    (some
    (Addr.mk
    n16
    0
    none)),
    Value.pointer
    (some
    (Addr.mk
    n17
    0
    none)),
    Value.pointer
    (some
    (Addr.mk
    n18
    0
    none)),
    Value.pointer
    (some
    (Addr.mk
    n591
    0
    none))] ∧ ([] : List Deferred) = []))))))
    (T.next
    1
    [Value.int
    IntKind.i64
    i694,
    Value.int
    IntKind.i64
    (IntKind.wrap
    IntKind.i64
    (i695 +
    1))]
    ([Value.pointer
    (some
    (Addr.mk
    n16
    0
    none)),
    Value.pointer
    (some
    (Addr.mk
    n17
    0
    none)),
    Value.pointer
    (some
    (Addr.mk
    n18
    0
    none)),
    Value.pointer
    (some
    (Addr.mk
    n591
    0
    none)),
    Value.pointer
    (some
    (Addr.mk
    n620
    0
    none))] =
    [Value.pointer
    (some
    (Addr.mk
    n16
    0
    none)),
    Value.pointer
    (some
    (Addr.mk
    n17
    0
    none)),
    Value.pointer
    (some
    (Addr.mk
    n18
    0
    none)),
    Value.pointer
    (some
    (Addr.mk
    n591
    0
    none)),
    Value.pointer
    (some
    (Addr.mk
    n620
    0
    none))] ∧ ([] : List Deferred) = []))))))
    (T.next
    0
    [Value.int
    IntKind.i64
    i694]
    ([Value.pointer
    (some
    (Addr.mk
    n16
    0
    none)),
    Value.pointer
    (some
    (Addr.mk
    n17
    0
    none)),
    Value.pointer
    (some
    (Addr.mk
    n18
    0
    none)),
    Value.pointer
    (some
    (Addr.mk
    n591
    0
    none))] =
    [Value.pointer
    (some
    (Addr.mk
    n16
    0
    none)),
    Value.pointer
    (some
    (Addr.mk
    n17
    0
    none)),
    Value.pointer
    (some
    (Addr.mk
    n18
    0
    none)),
    Value.pointer
    (some
    (Addr.mk
    n591
    0
    none))] ∧ ([] : List Deferred) = [])))))))))))))))))))))))))))))))))
    (T.new
    (Obj.cells
    (Array.mk
    [Value.int IntKind.u8 0, Value.int IntKind.u8 0, Value.int IntKind.u8 0,
    Value.int IntKind.u8 0, Value.int IntKind.u8 0, Value.int IntKind.u8 0,
    Value.int IntKind.u8 0, Value.int IntKind.u8 0, Value.int IntKind.u8 0,
    Value.int IntKind.u8 0, Value.int IntKind.u8 0, Value.int IntKind.u8 0])
    27)
    fun n700 =>
    T.chk
    [(Addr.mk n17 0 none, Value.int IntKind.i32 i21),
    (Addr.mk n17 1 none, Value.int IntKind.i64 i22)]
    (T.call 12 [Value.agg (Array.mk [Value.int IntKind.i32 i21, Value.int IntKind.i64 i22])]
    fun v701 =>
    T.asA v701 fun l702 =>
    T.req (List.length l702 = 12)
    (T.asI IntKind.u8 (List.headD l702 (Value.tuple (Array.mk []))) fun i703 =>
    T.asI IntKind.u8 (List.headD (List.tail l702) (Value.tuple (Array.mk []))) fun i704 =>
    T.asI IntKind.u8 (List.headD (List.tail (List.tail l702)) (Value.tuple (Array.mk [])))
    fun i705 =>
    T.asI IntKind.u8
    (List.headD (List.tail (List.tail (List.tail l702))) (Value.tuple (Array.mk [])))
    fun i706 =>
    T.asI IntKind.u8
    (List.headD (List.tail (List.tail (List.tail (List.tail l702))))
    (Value.tuple (Array.mk [])))
    fun i707 =>
    T.asI IntKind.u8
    (List.headD (List.tail (List.tail (List.tail (List.tail (List.tail l702)))))
    (Value.tuple (Array.mk [])))
    fun i708 =>
    T.asI IntKind.u8
    (List.headD
    (List.tail
    (List.tail (List.tail (List.tail (List.tail (List.tail l702))))))
    (Value.tuple (Array.mk [])))
    fun i709 =>
    T.asI IntKind.u8
    (List.headD
    (List.tail
    (List.tail
    (List.tail (List.tail (List.tail (List.tail (List.tail l702)))))))
    (Value.tuple (Array.mk [])))
    fun i710 =>
    T.asI IntKind.u8
    (List.headD
    (List.tail
    (List.tail
    (List.tail
    (List.tail
    (List.tail (List.tail (List.tail (List.tail l702))))))))
    (Value.tuple (Array.mk [])))
    fun i711 =>
    T.asI IntKind.u8
    (List.headD
    (List.tail
    (List.tail
    (List.tail
    (List.tail
    (List.tail
    (List.tail (List.tail (List.tail (List.tail l702)))))))))
    (Value.tuple (Array.mk [])))
    fun i712 =>
    T.asI IntKind.u8
    (List.headD
    (List.tail
    (List.tail
    (List.tail
    (List.tail
    (List.tail
    (List.tail
    (List.tail
    (List.tail (List.tail (List.tail l702))))))))))
    (Value.tuple (Array.mk [])))
    fun i713 =>
    T.asI IntKind.u8
    (List.headD
    (List.tail
    (List.tail
    (List.tail
    (List.tail
    (List.tail
    (List.tail
    (List.tail
    (List.tail
    (List.tail (List.tail (List.tail l702)))))))))))
    (Value.tuple (Array.mk [])))
    fun i714 =>
    T.chk []
    (T.st n591 0 (Value.int IntKind.u8 i594)
    (T.st n591 1 (Value.int IntKind.u8 i595)
    (T.st n591 2 (Value.int IntKind.u8 i596)
    (T.st n591 3 (Value.int IntKind.u8 i597)
    (T.st n591 4 (Value.int IntKind.u8 i598)
    (T.st n591 5 (Value.int IntKind.u8 i599)
    (T.st n591 6 (Value.int IntKind.u8 i600)
    (T.st n591 7 (Value.int IntKind.u8 i601)
    (T.st n591 8 (Value.int IntKind.u8 i602)
    (T.st n591 9 (Value.int IntKind.u8 i603)
    (T.st n591 10 (Value.int IntKind.u8 i604)
    (T.st n591 11 (Value.int IntKind.u8 i605)
    (T.chk []
    (T.st n700 0
    (Value.int IntKind.u8 i703)
    (T.st n700 1
    (Value.int IntKind.u8 i704)
    (T.st n700 2
    (Value.int IntKind.u8 i705)
    (T.st n700 3
    (Value.int IntKind.u8 i706)
    (T.st n700 4
    (Value.int IntKind.u8 i707)
    (T.st n700 5
    (Value.int IntKind.u8
    i708)
    (T.st n700 6
    (Value.int IntKind.u8
    i709)
    (T.st n700 7
    (Value.int IntKind.u8
    i710)
    (T.st n700 8
    (Value.int
    IntKind.u8 i711)
    (T.st n700 9
    (Value.int
    IntKind.u8 i712)
    (T.st n700 10
    (Value.int
    IntKind.u8
    i713)
    (T.st n700 11
    (Value.int
    IntKind.u8
    i714)
    (T.chk []
    (T.blk 0
    (fun l715
    j716 =>
    T.asI
    IntKind.i64
    (List.headD
    l715
    (Value.tuple
    (Array.mk
    [])))
    fun
    i717 =>
    T.drew
    (T.call
    11
    []
    fun
    v718 =>
    T.asB
    v718
    fun
    b719 =>
    T.chk
    []
    (T.ite
    b719
    (T.ldI
    IntKind.i32
    n16
    0
    fun
    i720 =>
    T.ldI
    IntKind.i64
    n16
    1
    fun
    i721 =>
    T.ldI
    IntKind.i32
    n17
    0
    fun
    i722 =>
    T.ldI
    IntKind.i64
    n17
    1
    fun
    i723 =>
    T.call
    10
    [Value.agg
    (Array.mk
    [Value.int
    IntKind.i32
    i720,
    Value.int
    IntKind.i64
    i721]),
    Value.agg
    (Array.mk
    [Value.int
    IntKind.i32
    i722,
    Value.int
    IntKind.i64
    i723])]
    fun
    v724 =>
    T.asI
    IntKind.i64
    v724
    fun
    i725 =>
    T.chk
    []
    (T.ite
    (i717 ==
    i725)
    (T.ldI
    IntKind.u8
    n591
    0
    fun
    i726 =>
    T.ldI
    IntKind.u8
    n591
    1
    fun
    i727 =>
    T.ldI
    IntKind.u8
    n591
    2
    fun
    i728 =>
    T.ldI
    IntKind.u8
    n591
    3
    fun
    i729 =>
    T.ldI
    IntKind.u8
    n591
    4
    fun
    i730 =>
    T.ldI
    IntKind.u8
    n591
    5
    fun
    i731 =>
    T.ldI
    IntKind.u8
    n591
    6
    fun
    i732 =>
    T.ldI
    IntKind.u8
    n591
    7
    fun
    i733 =>
    T.ldI
    IntKind.u8
    n591
    8
    fun
    i734 =>
    T.ldI
    IntKind.u8
    n591
    9
    fun
    i735 =>
    T.ldI
    IntKind.u8
    n591
    10
    fun
    i736 =>
    T.ldI
    IntKind.u8
    n591
    11
    fun
    i737 =>
    T.ldI
    IntKind.i32
    n16
    0
    fun
    i738 =>
    T.ldI
    IntKind.i64
    n16
    1
    fun
    i739 =>
    T.call
    13
    [Value.agg
    (Array.mk
    [Value.int
    IntKind.u8
    i726,
    Value.int
    IntKind.u8
    i727,
    Value.int
    IntKind.u8
    i728,
    Value.int
    IntKind.u8
    i729,
    Value.int
    IntKind.u8
    i730,
    Value.int
    IntKind.u8
    i731,
    Value.int
    IntKind.u8
    i732,
    Value.int
    IntKind.u8
    i733,
    Value.int
    IntKind.u8
    i734,
    Value.int
    IntKind.u8
    i735,
    Value.int
    IntKind.u8
    i736,
    Value.int
    IntKind.u8
    i737])]
    fun
    v740 =>
    T.asA
    v740
    fun
    l741 =>
    T.req
    (List.length
    l741 =
    2)
    (T.asI
    IntKind.i32
    (List.headD
    l741
    (Value.tuple
    (Array.mk
    [])))
    fun
    i742 =>
    T.asI
    IntKind.i64
    (List.headD
    (List.tail
    l741)
    (Value.tuple
    (Array.mk
    [])))
    fun
    i743 =>
    T.chk
    [(Addr.mk
    n16
    0
    none,
    Value.int
    IntKind.i32
    i738),
    (Addr.mk
    n16
    1
    none,
    Value.int
    IntKind.i64
    i739)]
    (T.ite
    (i742 ==
    i738 &&
    (i743 ==
    i739 &&
    true))
    (T.ldI
    IntKind.u8
    n18
    0
    fun
    i744 =>
    T.ldI
    IntKind.u8
    n18
    1
    fun
    i745 =>
    T.ldI
    IntKind.u8
    n18
    2
    fun
    i746 =>
    T.ldI
    IntKind.u8
    n18
    3
    fun
    i747 =>
    T.ldI
    IntKind.u8
    n18
    4
    fun
    i748 =>
    T.ldI
    IntKind.u8
    n18
    5
    fun
    i749 =>
    T.ldI
    IntKind.u8
    n18
    6
    fun
    i750 =>
    T.ldI
    IntKind.u8
    n18
    7
    fun
    i751 =>
    T.ldI
    IntKind.u8
    n18
    8
    fun
    i752 =>
    T.ldI
    IntKind.u8
    n18
    9
    fun
    i753 =>
    T.ldI
    IntKind.u8
    n18
    10
    fun
    i754 =>
    T.ldI
    IntKind.u8
    n18
    11
    fun
    i755 =>
    T.ldI
    IntKind.u8
    n18
    0
    fun
    i756 =>
    T.ldI
    IntKind.u8
    n18
    1
    fun
    i757 =>
    T.ldI
    IntKind.u8
    n18
    2
    fun
    i758 =>
    T.ldI
    IntKind.u8
    n18
    3
    fun
    i759 =>
    T.ldI
    IntKind.u8
    n18
    4
    fun
    i760 =>
    T.ldI
    IntKind.u8
    n18
    5
    fun
    i761 =>
    T.ldI
    IntKind.u8
    n18
    6
    fun
    i762 =>
    T.ldI
    IntKind.u8
    n18
    7
    fun
    i763 =>
    T.ldI
    IntKind.u8
    n18
    8
    fun
    i764 =>
    T.ldI
    IntKind.u8
    n18
    9
    fun
    i765 =>
    T.ldI
    IntKind.u8
    n18
    10
    fun
    i766 =>
    T.ldI
    IntKind.u8
    n18
    11
    fun
    i767 =>
    T.call
    13
    [Value.agg
    (Array.mk
    [Value.int
    IntKind.u8
    i744,
    Value.int
    IntKind.u8
    i745,
    Value.int
    IntKind.u8
    i746,
    Value.int
    IntKind.u8
    i747,
    Value.int
    IntKind.u8
    i748,
    Value.int
    IntKind.u8
    i749,
    Value.int
    IntKind.u8
    i750,
    Value.int
    IntKind.u8
    i751,
    Value.int
    IntKind.u8
    i752,
    Value.int
    IntKind.u8
    i753,
    Value.int
    IntKind.u8
    i754,
    Value.int
    IntKind.u8
    i755])]
    fun
    v768 =>
    T.asA
    v768
    fun
    l769 =>
    T.req
    (List.length
    l769 =
    2)
    (T.asI
    IntKind.i32
    (List.headD
    l769
    (Value.tuple
    (Array.mk
    [])))
    fun
    i770 =>
    T.asI
    IntKind.i64
    (List.headD
    (List.tail
    l769)
    (Value.tuple
    (Array.mk
    [])))
    fun
    i771 =>
    T.chk
    [(Addr.mk
    n18
    0
    none,
    Value.int
    IntKind.u8
    i756),
    (Addr.mk
    n18
    1
    none,
    Value.int
    IntKind.u8
    i757),
    (Addr.mk
    n18
    2
    none,
    Value.int
    IntKind.u8
    i758),
    (Addr.mk
    n18
    3
    none,
    Value.int
    IntKind.u8
    i759),
    (Addr.mk
    n18
    4
    none,
    Value.int
    IntKind.u8
    i760),
    (Addr.mk
    n18
    5
    none,
    Value.int
    IntKind.u8
    i761),
    (Addr.mk
    n18
    6
    none,
    Value.int
    IntKind.u8
    i762),
    (Addr.mk
    n18
    7
    none,
    Value.int
    IntKind.u8
    i763),
    (Addr.mk
    n18
    8
    none,
    Value.int
    IntKind.u8
    i764),
    (Addr.mk
    n18
    9
    none,
    Value.int
    IntKind.u8
    i765),
    (Addr.mk
    n18
    10
    none,
    Value.int
    IntKind.u8
    i766),
    (Addr.mk
    n18
    11
    none,
    Value.int
    IntKind.u8
    i767),
    (Addr.mk
    n16
    0
    none,
    Value.int
    IntKind.i32
    i738),
    (Addr.mk
    n16
    1
    none,
    Value.int
    IntKind.i64
    i739)]
    (T.call
    12
    [Value.agg
    (Array.mk
    [Value.int
    IntKind.i32
    i770,
    Value.int
    IntKind.i64
    i771])]
    fun
    v772 =>
    T.asA
    v772
    fun
    l773 =>
    T.req
    (List.length
    l773 =
    12)
    (T.asI
    IntKind.u8
    (List.headD
    l773
    (Value.tuple
    (Array.mk
    [])))
    fun
    i774 =>
    T.asI
    IntKind.u8
    (List.headD
    (List.tail
    l773)
    (Value.tuple
    (Array.mk
    [])))
    fun
    i775 =>
    T.asI
    IntKind.u8
    (List.headD
    (List.tail
    (List.tail
    l773))
    (Value.tuple
    (Array.mk
    [])))
    fun
    i776 =>
    T.asI
    IntKind.u8
    (List.headD
    (List.tail
    (List.tail
    (List.tail
    l773)))
    (Value.tuple
    (Array.mk
    [])))
    fun
    i777 =>
    T.asI
    IntKind.u8
    (List.headD
    (List.tail
    (List.tail
    (List.tail
    (List.tail
    l773))))
    (Value.tuple
    (Array.mk
    [])))
    fun
    i778 =>
    T.asI
    IntKind.u8
    (List.headD
    (List.tail
    (List.tail
    (List.tail
    (List.tail
    (List.tail
    l773)))))
    (Value.tuple
    (Array.mk
    [])))
    fun
    i779 =>
    T.asI
    IntKind.u8
    (List.headD
    (List.tail
    (List.tail
    (List.tail
    (List.tail
    (List.tail
    (List.tail
    l773))))))
    (Value.tuple
    (Array.mk
    [])))
    fun
    i780 =>
    T.asI
    IntKind.u8
    (List.headD
    (List.tail
    (List.tail
    (List.tail
    (List.tail
    (List.tail
    (List.tail
    (List.tail
    l773)))))))
    (Value.tuple
    (Array.mk
    [])))
    fun
    i781 =>
    T.asI
    IntKind.u8
    (List.headD
    (List.tail
    (List.tail
    (List.tail
    (List.tail
    (List.tail
    (List.tail
    (List.tail
    (List.tail
    l773))))))))
    (Value.tuple
    (Array.mk
    [])))
    fun
    i782 =>
    T.asI
    IntKind.u8
    (List.headD
    (List.tail
    (List.tail
    (List.tail
    (List.tail
    (List.tail
    (List.tail
    (List.tail
    (List.tail
    (List.tail
    l773)))))))))
    (Value.tuple
    (Array.mk
    [])))
    fun
    i783 =>
    T.asI
    IntKind.u8
    (List.headD
    (List.tail
    (List.tail
    (List.tail
    (List.tail
    (List.tail
    (List.tail
    (List.tail
    (List.tail
    (List.tail
    (List.tail
    l773))))))))))
    (Value.tuple
    (Array.mk
    [])))
    fun
    i784 =>
    T.asI
    IntKind.u8
    (List.headD
    (List.tail
    (List.tail
    (List.tail
    (List.tail
    (List.tail
    (List.tail
    (List.tail
    (List.tail
    (List.tail
    (List.tail
    (List.tail
    l773)))))))))))
    (Value.tuple
    (Array.mk
    [])))
    fun
    i785 =>
    T.chk
    [(Addr.mk
    n18
    0
    none,
    Value.int
    IntKind.u8
    i756),
    (Addr.mk
    n18
    1
    none,
    Value.int
    IntKind.u8
    i757),
    (Addr.mk
    n18
    2
    none,
    Value.int
    IntKind.u8
    i758),
    (Addr.mk
    n18
    3
    none,
    Value.int
    IntKind.u8
    i759),
    (Addr.mk
    n18
    4
    none,
    Value.int
    IntKind.u8
    i760),
    (Addr.mk
    n18
    5
    none,
    Value.int
    IntKind.u8
    i761),
    (Addr.mk
    n18
    6
    none,
    Value.int
    IntKind.u8
    i762),
    (Addr.mk
    n18
    7
    none,
    Value.int
    IntKind.u8
    i763),
    (Addr.mk
    n18
    8
    none,
    Value.int
    IntKind.u8
    i764),
    (Addr.mk
    n18
    9
    none,
    Value.int
    IntKind.u8
    i765),
    (Addr.mk
    n18
    10
    none,
    Value.int
    IntKind.u8
    i766),
    (Addr.mk
    n18
    11
    none,
    Value.int
    IntKind.u8
    i767),
    (Addr.mk
    n16
    0
    none,
    Value.int
    IntKind.i32
    i738),
    (Addr.mk
    n16
    1
    none,
    Value.int
    IntKind.i64
    i739)]
    (T.ret
    (Value.bool
    (i774 ==
    i756 &&
    (i775 ==
    i757 &&
    (i776 ==
    i758 &&
    (i777 ==
    i759 &&
    (i778 ==
    i760 &&
    (i779 ==
    i761 &&
    (i780 ==
    i762 &&
    (i781 ==
    i763 &&
    (i782 ==
    i764 &&
    (i783 ==
    i765 &&
    (i784 ==
    i766 &&
    (i785 ==
    i767 &&
    true))))))))))))))))))
    (T.chk
    [(Addr.mk
    n16
    0
    none,
    Value.int
    IntKind.i32
    i738),
    (Addr.mk
    n16
    1
    none,
    Value.int
    IntKind.i64
    i739)]
    (T.chk
    [(Addr.mk
    n16
    0
    none,
    Value.int
    IntKind.i32
    i738),
    (Addr.mk
    n16
    1
    none,
    Value.int
    IntKind.i64
    i739)]
    (T.ret
    (Value.bool
    false)))))))
    (T.chk
    []
    (T.chk
    []
    (T.chk
    []
    (T.ret
    (Value.bool
    false)))))))
    (T.chk
    []
    (T.chk
    []
    (T.chk
    []
    (T.chk
    []
    (T.ret
    (Value.bool
    false)))))))))
    (T.loop 1
    [Value.int
    IntKind.i64
    0,
    Value.int
    IntKind.i64
    0]
    fun l786
    j787 =>
    T.asI
    IntKind.i64
    (List.headD
    l786
    (Value.tuple
    (Array.mk
    [])))
    fun
    i788 =>
    T.asI
    IntKind.i64
    (List.headD
    (List.tail
    l786)
    (Value.tuple
    (Array.mk
    [])))
    fun
    i789 =>
    T.ite
    (decide
    (i789 <
    12))
    (T.drew
    (T.req
    (0 ≤
    i789 ∧
    i789 <
    12)
    (T.ldI
    IntKind.u8
    n591
    (0 +
    Int.toNat
    i789 *
    1)
    fun
    i790 =>
    T.req
    (0 ≤
    i789 ∧
    i789 <
    12)
    (T.ldI
    IntKind.u8
    n700
    (0 +
    Int.toNat
    i789 *
    1)
    fun
    i791 =>
    T.ite
    (i790 !=
    i791)
    (T.drew
    (T.req
    (0 ≤
    i789 ∧
    i789 <
    12)
    (T.ldI
    IntKind.u8
    n591
    (0 +
    Int.toNat
    i789 *
    1)
    fun
    i792 =>
    T.req
    (0 ≤
    i789 ∧
    i789 <
    12)
    (T.ldI
    IntKind.u8
    n700
    (0 +
    Int.toNat
    i789 *
    1)
    fun
    i793 =>
    T.ite
    (decide
    (i792 <
    i793))
    (T.next
    0
    [Value.int
    IntKind.i64
    (-1)]
    ([Value.pointer
    (some
    (Addr.mk
    n16
    0
    none)),
    Value.pointer
    (some
    (Addr.mk
    n17
    0
    none)),
    Value.pointer
    (some
    (Addr.mk
    n18
    0
    none)),
    Value.pointer
    (some
    (Addr.mk
    n591
    0
    none))] =
    [Value.pointer
    (some
    (Addr.mk
    n16
    0
    none)),
    Value.pointer
    (some
    (Addr.mk
    n17
    0
    none)),
    Value.pointer
    (some
    (Addr.mk
    n18
    0
    none)),
    Value.pointer
    (some
    (Addr.mk
    n591
    0
    none))] ∧ ([] : List Deferred) = []))
    (T.next
    0
    [Value.int
    IntKind.i64
    1]
    ([Value.pointer
    (some
    (Addr.mk
    n16
    0
    none)),
    Value.pointer
    (some
    (Addr.mk
    n17
    0
    none)),
    Value.pointer
    (some
    (Addr.mk
    n18
    0
    none)),
    Value.pointer
    (some
    (Addr.mk
    n591
    0
    none))] =
    [Value.pointer
    (some
    (Addr.mk
    n16
    0
    none)),
    Value.pointer
    (some
    (Addr.mk
    n17
    0
    none)),
    Value.pointer
    (some
    (Addr.mk
    n18
    0
    none)),
    Value.pointer
    (some
    (Addr.mk
    n591
    0
    none))] ∧ ([] : List Deferred) = []))))))
    (T.next
    1
    [Value.int
    IntKind.i64
    i788,
    Value.int
    IntKind.i64
    (IntKind.wrap
    IntKind.i64
    (i789 +
    1))]
    ([Value.pointer
    (some
    (Addr.mk
    n16
    0
    none)),
    Value.pointer
    (some
    (Addr.mk
    n17
    0
    none)),
    Value.pointer
    (some
    (Addr.mk
    n18
    0
    none)),
    Value.pointer
    (some
    (Addr.mk
    n591
    0
    none)),
    Value.pointer
    (some
    (Addr.mk
    n700
    0
    none))] =
    [Value.pointer
    (some
    (Addr.mk
    n16
    0
    none)),
    Value.pointer
    (some
    (Addr.mk
    n17
    0
    none)),
    Value.pointer
    (some
    (Addr.mk
    n18
    0
    none)),
    Value.pointer
    (some
    (Addr.mk
    n591
    0
    none)),
    Value.pointer
    (some
    (Addr.mk
    n700
    0
    none))] ∧ ([] : List Deferred) = []))))))
    (T.next
    0
    [Value.int
    IntKind.i64
    i788]
    ([Value.pointer
    (some
    (Addr.mk
    n16
    0
    none)),
    Value.pointer
    (some
    (Addr.mk
    n17
    0
    none)),
    Value.pointer
    (some
    (Addr.mk
    n18
    0
    none)),
    Value.pointer
    (some
    (Addr.mk
    n591
    0
    none))] =
    [Value.pointer
    (some
    (Addr.mk
    n16
    0
    none)),
    Value.pointer
    (some
    (Addr.mk
    n17
    0
    none)),
    Value.pointer
    (some
    (Addr.mk
    n18
    0
    none)),
    Value.pointer
    (some
    (Addr.mk
    n591
    0
    none))] ∧ ([] : List Deferred) = []))))))))))))))))))))))))))))))))))))
    (T.new
    (Obj.cells
    (Array.mk
    [Value.int IntKind.u8 0, Value.int IntKind.u8 0, Value.int IntKind.u8 0, Value.int IntKind.u8 0, Value.int IntKind.u8 0,
    Value.int IntKind.u8 0, Value.int IntKind.u8 0, Value.int IntKind.u8 0, Value.int IntKind.u8 0, Value.int IntKind.u8 0,
    Value.int IntKind.u8 0, Value.int IntKind.u8 0])
    27)
    fun n794 =>
    T.chk
    [(Addr.mk n17 0 none, Value.int IntKind.i32 i21), (Addr.mk n17 1 none, Value.int IntKind.i64 i22),
    (Addr.mk n16 0 none, Value.int IntKind.i32 i19), (Addr.mk n16 1 none, Value.int IntKind.i64 i20)]
    (T.call 12 [Value.agg (Array.mk [Value.int IntKind.i32 i19, Value.int IntKind.i64 i20])] fun v795 =>
    T.asA v795 fun l796 =>
    T.req (List.length l796 = 12)
    (T.asI IntKind.u8 (List.headD l796 (Value.tuple (Array.mk []))) fun i797 =>
    T.asI IntKind.u8 (List.headD (List.tail l796) (Value.tuple (Array.mk []))) fun i798 =>
    T.asI IntKind.u8 (List.headD (List.tail (List.tail l796)) (Value.tuple (Array.mk []))) fun i799 =>
    T.asI IntKind.u8 (List.headD (List.tail (List.tail (List.tail l796))) (Value.tuple (Array.mk []))) fun i800 =>
    T.asI IntKind.u8 (List.headD (List.tail (List.tail (List.tail (List.tail l796)))) (Value.tuple (Array.mk [])))
    fun i801 =>
    T.asI IntKind.u8
    (List.headD (List.tail (List.tail (List.tail (List.tail (List.tail l796))))) (Value.tuple (Array.mk [])))
    fun i802 =>
    T.asI IntKind.u8
    (List.headD (List.tail (List.tail (List.tail (List.tail (List.tail (List.tail l796))))))
    (Value.tuple (Array.mk [])))
    fun i803 =>
    T.asI IntKind.u8
    (List.headD (List.tail (List.tail (List.tail (List.tail (List.tail (List.tail (List.tail l796)))))))
    (Value.tuple (Array.mk [])))
    fun i804 =>
    T.asI IntKind.u8
    (List.headD
    (List.tail (List.tail (List.tail (List.tail (List.tail (List.tail (List.tail (List.tail l796))))))))
    (Value.tuple (Array.mk [])))
    fun i805 =>
    T.asI IntKind.u8
    (List.headD
    (List.tail
    (List.tail
    (List.tail (List.tail (List.tail (List.tail (List.tail (List.tail (List.tail l796)))))))))
    (Value.tuple (Array.mk [])))
    fun i806 =>
    T.asI IntKind.u8
    (List.headD
    (List.tail
    (List.tail
    (List.tail
    (List.tail (List.tail (List.tail (List.tail (List.tail (List.tail (List.tail l796))))))))))
    (Value.tuple (Array.mk [])))
    fun i807 =>
    T.asI IntKind.u8
    (List.headD
    (List.tail
    (List.tail
    (List.tail
    (List.tail
    (List.tail
    (List.tail (List.tail (List.tail (List.tail (List.tail (List.tail l796)))))))))))
    (Value.tuple (Array.mk [])))
    fun i808 =>
    T.chk
    [(Addr.mk n17 0 none, Value.int IntKind.i32 i21), (Addr.mk n17 1 none, Value.int IntKind.i64 i22)]
    (T.call 12 [Value.agg (Array.mk [Value.int IntKind.i32 i21, Value.int IntKind.i64 i22])]
    fun v809 =>
    T.asA v809 fun l810 =>
    T.req (List.length l810 = 12)
    (T.asI IntKind.u8 (List.headD l810 (Value.tuple (Array.mk []))) fun i811 =>
    T.asI IntKind.u8 (List.headD (List.tail l810) (Value.tuple (Array.mk []))) fun i812 =>
    T.asI IntKind.u8 (List.headD (List.tail (List.tail l810)) (Value.tuple (Array.mk [])))
    fun i813 =>
    T.asI IntKind.u8
    (List.headD (List.tail (List.tail (List.tail l810))) (Value.tuple (Array.mk [])))
    fun i814 =>
    T.asI IntKind.u8
    (List.headD (List.tail (List.tail (List.tail (List.tail l810))))
    (Value.tuple (Array.mk [])))
    fun i815 =>
    T.asI IntKind.u8
    (List.headD (List.tail (List.tail (List.tail (List.tail (List.tail l810)))))
    (Value.tuple (Array.mk [])))
    fun i816 =>
    T.asI IntKind.u8
    (List.headD
    (List.tail (List.tail (List.tail (List.tail (List.tail (List.tail l810))))))
    (Value.tuple (Array.mk [])))
    fun i817 =>
    T.asI IntKind.u8
    (List.headD
    (List.tail
    (List.tail
    (List.tail (List.tail (List.tail (List.tail (List.tail l810)))))))
    (Value.tuple (Array.mk [])))
    fun i818 =>
    T.asI IntKind.u8
    (List.headD
    (List.tail
    (List.tail
    (List.tail
    (List.tail
    (List.tail (List.tail (List.tail (List.tail l810))))))))
    (Value.tuple (Array.mk [])))
    fun i819 =>
    T.asI IntKind.u8
    (List.headD
    (List.tail
    (List.tail
    (List.tail
    (List.tail
    (List.tail
    (List.tail (List.tail (List.tail (List.tail l810)))))))))
    (Value.tuple (Array.mk [])))
    fun i820 =>
    T.asI IntKind.u8
    (List.headD
    (List.tail
    (List.tail
    (List.tail
    (List.tail
    (List.tail
    (List.tail
    (List.tail
    (List.tail (List.tail (List.tail l810))))))))))
    (Value.tuple (Array.mk [])))
    fun i821 =>
    T.asI IntKind.u8
    (List.headD
    (List.tail
    (List.tail
    (List.tail
    (List.tail
    (List.tail
    (List.tail
    (List.tail
    (List.tail
    (List.tail (List.tail (List.tail l810)))))))))))
    (Value.tuple (Array.mk [])))
    fun i822 =>
    T.chk []
    (T.st n591 0 (Value.int IntKind.u8 i797)
    (T.st n591 1 (Value.int IntKind.u8 i798)
    (T.st n591 2 (Value.int IntKind.u8 i799)
    (T.st n591 3 (Value.int IntKind.u8 i800)
    (T.st n591 4 (Value.int IntKind.u8 i801)
    (T.st n591 5 (Value.int IntKind.u8 i802)
    (T.st n591 6 (Value.int IntKind.u8 i803)
    (T.st n591 7 (Value.int IntKind.u8 i804)
    (T.st n591 8 (Value.int IntKind.u8 i805)
    (T.st n591 9 (Value.int IntKind.u8 i806)
    (T.st n591 10 (Value.int IntKind.u8 i807)
    (T.st n591 11 (Value.int IntKind.u8 i808)
    (T.chk []
    (T.st n794 0 (Value.int IntKind.u8 i811)
    (T.st n794 1
    (Value.int IntKind.u8 i812)
    (T.st n794 2
    (Value.int IntKind.u8 i813)
    (T.st n794 3
    (Value.int IntKind.u8 i814)
    (T.st n794 4
    (Value.int IntKind.u8 i815)
    (T.st n794 5
    (Value.int IntKind.u8 i816)
    (T.st n794 6
    (Value.int IntKind.u8
    i817)
    (T.st n794 7
    (Value.int IntKind.u8
    i818)
    (T.st n794 8
    (Value.int IntKind.u8
    i819)
    (T.st n794 9
    (Value.int
    IntKind.u8 i820)
    (T.st n794 10
    (Value.int
    IntKind.u8 i821)
    (T.st n794 11
    (Value.int
    IntKind.u8
    i822)
    (T.chk []
    (T.blk 0
    (fun l823
    j824 =>
    T.asI
    IntKind.i64
    (List.headD
    l823
    (Value.tuple
    (Array.mk
    [])))
    fun
    i825 =>
    T.drew
    (T.call
    11
    []
    fun
    v826 =>
    T.asB
    v826
    fun
    b827 =>
    T.chk
    []
    (T.ite
    b827
    (T.ldI
    IntKind.i32
    n16
    0
    fun
    i828 =>
    T.ldI
    IntKind.i64
    n16
    1
    fun
    i829 =>
    T.ldI
    IntKind.i32
    n17
    0
    fun
    i830 =>
    T.ldI
    IntKind.i64
    n17
    1
    fun
    i831 =>
    T.call
    10
    [Value.agg
    (Array.mk
    [Value.int
    IntKind.i32
    i828,
    Value.int
    IntKind.i64
    i829]),
    Value.agg
    (Array.mk
    [Value.int
    IntKind.i32
    i830,
    Value.int
    IntKind.i64
    i831])]
    fun
    v832 =>
    T.asI
    IntKind.i64
    v832
    fun
    i833 =>
    T.chk
    []
    (T.ite
    (i825 ==
    i833)
    (T.ldI
    IntKind.u8
    n591
    0
    fun
    i834 =>
    T.ldI
    IntKind.u8
    n591
    1
    fun
    i835 =>
    T.ldI
    IntKind.u8
    n591
    2
    fun
    i836 =>
    T.ldI
    IntKind.u8
    n591
    3
    fun
    i837 =>
    T.ldI
    IntKind.u8
    n591
    4
    fun
    i838 =>
    T.ldI
    IntKind.u8
    n591
    5
    fun
    i839 =>
    T.ldI
    IntKind.u8
    n591
    6
    fun
    i840 =>
    T.ldI
    IntKind.u8
    n591
    7
    fun
    i841 =>
    T.ldI
    IntKind.u8
    n591
    8
    fun
    i842 =>
    T.ldI
    IntKind.u8
    n591
    9
    fun
    i843 =>
    T.ldI
    IntKind.u8
    n591
    10
    fun
    i844 =>
    T.ldI
    IntKind.u8
    n591
    11
    fun
    i845 =>
    T.ldI
    IntKind.i32
    n16
    0
    fun
    i846 =>
    T.ldI
    IntKind.i64
    n16
    1
    fun
    i847 =>
    T.call
    13
    [Value.agg
    (Array.mk
    [Value.int
    IntKind.u8
    i834,
    Value.int
    IntKind.u8
    i835,
    Value.int
    IntKind.u8
    i836,
    Value.int
    IntKind.u8
    i837,
    Value.int
    IntKind.u8
    i838,
    Value.int
    IntKind.u8
    i839,
    Value.int
    IntKind.u8
    i840,
    Value.int
    IntKind.u8
    i841,
    Value.int
    IntKind.u8
    i842,
    Value.int
    IntKind.u8
    i843,
    Value.int
    IntKind.u8
    i844,
    Value.int
    IntKind.u8
    i845])]
    fun
    v848 =>
    T.asA
    v848
    fun
    l849 =>
    T.req
    (List.length
    l849 =
    2)
    (T.asI
    IntKind.i32
    (List.headD
    l849
    (Value.tuple
    (Array.mk
    [])))
    fun
    i850 =>
    T.asI
    IntKind.i64
    (List.headD
    (List.tail
    l849)
    (Value.tuple
    (Array.mk
    [])))
    fun
    i851 =>
    T.chk
    [(Addr.mk
    n16
    0
    none,
    Value.int
    IntKind.i32
    i846),
    (Addr.mk
    n16
    1
    none,
    Value.int
    IntKind.i64
    i847)]
    (T.ite
    (i850 ==
    i846 &&
    (i851 ==
    i847 &&
    true))
    (T.ldI
    IntKind.u8
    n18
    0
    fun
    i852 =>
    T.ldI
    IntKind.u8
    n18
    1
    fun
    i853 =>
    T.ldI
    IntKind.u8
    n18
    2
    fun
    i854 =>
    T.ldI
    IntKind.u8
    n18
    3
    fun
    i855 =>
    T.ldI
    IntKind.u8
    n18
    4
    fun
    i856 =>
    T.ldI
    IntKind.u8
    n18
    5
    fun
    i857 =>
    T.ldI
    IntKind.u8
    n18
    6
    fun
    i858 =>
    T.ldI
    IntKind.u8
    n18
    7
    fun
    i859 =>
    T.ldI
    IntKind.u8
    n18
    8
    fun
    i860 =>
    T.ldI
    IntKind.u8
    n18
    9
    fun
    i861 =>
    T.ldI
    IntKind.u8
    n18
    10
    fun
    i862 =>
    T.ldI
    IntKind.u8
    n18
    11
    fun
    i863 =>
    T.ldI
    IntKind.u8
    n18
    0
    fun
    i864 =>
    T.ldI
    IntKind.u8
    n18
    1
    fun
    i865 =>
    T.ldI
    IntKind.u8
    n18
    2
    fun
    i866 =>
    T.ldI
    IntKind.u8
    n18
    3
    fun
    i867 =>
    T.ldI
    IntKind.u8
    n18
    4
    fun
    i868 =>
    T.ldI
    IntKind.u8
    n18
    5
    fun
    i869 =>
    T.ldI
    IntKind.u8
    n18
    6
    fun
    i870 =>
    T.ldI
    IntKind.u8
    n18
    7
    fun
    i871 =>
    T.ldI
    IntKind.u8
    n18
    8
    fun
    i872 =>
    T.ldI
    IntKind.u8
    n18
    9
    fun
    i873 =>
    T.ldI
    IntKind.u8
    n18
    10
    fun
    i874 =>
    T.ldI
    IntKind.u8
    n18
    11
    fun
    i875 =>
    T.call
    13
    [Value.agg
    (Array.mk
    [Value.int
    IntKind.u8
    i852,
    Value.int
    IntKind.u8
    i853,
    Value.int
    IntKind.u8
    i854,
    Value.int
    IntKind.u8
    i855,
    Value.int
    IntKind.u8
    i856,
    Value.int
    IntKind.u8
    i857,
    Value.int
    IntKind.u8
    i858,
    Value.int
    IntKind.u8
    i859,
    Value.int
    IntKind.u8
    i860,
    Value.int
    IntKind.u8
    i861,
    Value.int
    IntKind.u8
    i862,
    Value.int
    IntKind.u8
    i863])]
    fun
    v876 =>
    T.asA
    v876
    fun
    l877 =>
    T.req
    (List.length
    l877 =
    2)
    (T.asI
    IntKind.i32
    (List.headD
    l877
    (Value.tuple
    (Array.mk
    [])))
    fun
    i878 =>
    T.asI
    IntKind.i64
    (List.headD
    (List.tail
    l877)
    (Value.tuple
    (Array.mk
    [])))
    fun
    i879 =>
    T.chk
    [(Addr.mk
    n18
    0
    none,
    Value.int
    IntKind.u8
    i864),
    (Addr.mk
    n18
    1
    none,
    Value.int
    IntKind.u8
    i865),
    (Addr.mk
    n18
    2
    none,
    Value.int
    IntKind.u8
    i866),
    (Addr.mk
    n18
    3
    none,
    Value.int
    IntKind.u8
    i867),
    (Addr.mk
    n18
    4
    none,
    Value.int
    IntKind.u8
    i868),
    (Addr.mk
    n18
    5
    none,
    Value.int
    IntKind.u8
    i869),
    (Addr.mk
    n18
    6
    none,
    Value.int
    IntKind.u8
    i870),
    (Addr.mk
    n18
    7
    none,
    Value.int
    IntKind.u8
    i871),
    (Addr.mk
    n18
    8
    none,
    Value.int
    IntKind.u8
    i872),
    (Addr.mk
    n18
    9
    none,
    Value.int
    IntKind.u8
    i873),
    (Addr.mk
    n18
    10
    none,
    Value.int
    IntKind.u8
    i874),
    (Addr.mk
    n18
    11
    none,
    Value.int
    IntKind.u8
    i875),
    (Addr.mk
    n16
    0
    none,
    Value.int
    IntKind.i32
    i846),
    (Addr.mk
    n16
    1
    none,
    Value.int
    IntKind.i64
    i847)]
    (T.call
    12
    [Value.agg
    (Array.mk
    [Value.int
    IntKind.i32
    i878,
    Value.int
    IntKind.i64
    i879])]
    fun
    v880 =>
    T.asA
    v880
    fun
    l881 =>
    T.req
    (List.length
    l881 =
    12)
    (T.asI
    IntKind.u8
    (List.headD
    l881
    (Value.tuple
    (Array.mk
    [])))
    fun
    i882 =>
    T.asI
    IntKind.u8
    (List.headD
    (List.tail
    l881)
    (Value.tuple
    (Array.mk
    [])))
    fun
    i883 =>
    T.asI
    IntKind.u8
    (List.headD
    (List.tail
    (List.tail
    l881))
    (Value.tuple
    (Array.mk
    [])))
    fun
    i884 =>
    T.asI
    IntKind.u8
    (List.headD
    (List.tail
    (List.tail
    (List.tail
    l881)))
    (Value.tuple
    (Array.mk
    [])))
    fun
    i885 =>
    T.asI
    IntKind.u8
    (List.headD
    (List.tail
    (List.tail
    (List.tail
    (List.tail
    l881))))
    (Value.tuple
    (Array.mk
    [])))
    fun
    i886 =>
    T.asI
    IntKind.u8
    (List.headD
    (List.tail
    (List.tail
    (List.tail
    (List.tail
    (List.tail
    l881)))))
    (Value.tuple
    (Array.mk
    [])))
    fun
    i887 =>
    T.asI
    IntKind.u8
    (List.headD
    (List.tail
    (List.tail
    (List.tail
    (List.tail
    (List.tail
    (List.tail
    l881))))))
    (Value.tuple
    (Array.mk
    [])))
    fun
    i888 =>
    T.asI
    IntKind.u8
    (List.headD
    (List.tail
    (List.tail
    (List.tail
    (List.tail
    (List.tail
    (List.tail
    (List.tail
    l881)))))))
    (Value.tuple
    (Array.mk
    [])))
    fun
    i889 =>
    T.asI
    IntKind.u8
    (List.headD
    (List.tail
    (List.tail
    (List.tail
    (List.tail
    (List.tail
    (List.tail
    (List.tail
    (List.tail
    l881))))))))
    (Value.tuple
    (Array.mk
    [])))
    fun
    i890 =>
    T.asI
    IntKind.u8
    (List.headD
    (List.tail
    (List.tail
    (List.tail
    (List.tail
    (List.tail
    (List.tail
    (List.tail
    (List.tail
    (List.tail
    l881)))))))))
    (Value.tuple
    (Array.mk
    [])))
    fun
    i891 =>
    T.asI
    IntKind.u8
    (List.headD
    (List.tail
    (List.tail
    (List.tail
    (List.tail
    (List.tail
    (List.tail
    (List.tail
    (List.tail
    (List.tail
    (List.tail
    l881))))))))))
    (Value.tuple
    (Array.mk
    [])))
    fun
    i892 =>
    T.asI
    IntKind.u8
    (List.headD
    (List.tail
    (List.tail
    (List.tail
    (List.tail
    (List.tail
    (List.tail
    (List.tail
    (List.tail
    (List.tail
    (List.tail
    (List.tail
    l881)))))))))))
    (Value.tuple
    (Array.mk
    [])))
    fun
    i893 =>
    T.chk
    [(Addr.mk
    n18
    0
    none,
    Value.int
    IntKind.u8
    i864),
    (Addr.mk
    n18
    1
    none,
    Value.int
    IntKind.u8
    i865),
    (Addr.mk
    n18
    2
    none,
    Value.int
    IntKind.u8
    i866),
    (Addr.mk
    n18
    3
    none,
    Value.int
    IntKind.u8
    i867),
    (Addr.mk
    n18
    4
    none,
    Value.int
    IntKind.u8
    i868),
    (Addr.mk
    n18
    5
    none,
    Value.int
    IntKind.u8
    i869),
    (Addr.mk
    n18
    6
    none,
    Value.int
    IntKind.u8
    i870),
    (Addr.mk
    n18
    7
    none,
    Value.int
    IntKind.u8
    i871),
    (Addr.mk
    n18
    8
    none,
    Value.int
    IntKind.u8
    i872),
    (Addr.mk
    n18
    9
    none,
    Value.int
    IntKind.u8
    i873),
    (Addr.mk
    n18
    10
    none,
    Value.int
    IntKind.u8
    i874),
    (Addr.mk
    n18
    11
    none,
    Value.int
    IntKind.u8
    i875),
    (Addr.mk
    n16
    0
    none,
    Value.int
    IntKind.i32
    i846),
    (Addr.mk
    n16
    1
    none,
    Value.int
    IntKind.i64
    i847)]
    (T.ret
    (Value.bool
    (i882 ==
    i864 &&
    (i883 ==
    i865 &&
    (i884 ==
    i866 &&
    (i885 ==
    i867 &&
    (i886 ==
    i868 &&
    (i887 ==
    i869 &&
    (i888 ==
    i870 &&
    (i889 ==
    i871 &&
    (i890 ==
    i872 &&
    (i891 ==
    i873 &&
    (i892 ==
    i874 &&
    (i893 ==
    i875 &&
    true))))))))))))))))))
    (T.chk
    [(Addr.mk
    n16
    0
    none,
    Value.int
    IntKind.i32
    i846),
    (Addr.mk
    n16
    1
    none,
    Value.int
    IntKind.i64
    i847)]
    (T.chk
    [(Addr.mk
    n16
    0
    none,
    Value.int
    IntKind.i32
    i846),
    (Addr.mk
    n16
    1
    none,
    Value.int
    IntKind.i64
    i847)]
    (T.ret
    (Value.bool
    false)))))))
    (T.chk
    []
    (T.chk
    []
    (T.chk
    []
    (T.ret
    (Value.bool
    false)))))))
    (T.chk
    []
    (T.chk
    []
    (T.chk
    []
    (T.chk
    []
    (T.ret
    (Value.bool
    false)))))))))
    (T.loop 1
    [Value.int
    IntKind.i64
    0,
    Value.int
    IntKind.i64
    0]
    fun l894
    j895 =>
    T.asI
    IntKind.i64
    (List.headD
    l894
    (Value.tuple
    (Array.mk
    [])))
    fun
    i896 =>
    T.asI
    IntKind.i64
    (List.headD
    (List.tail
    l894)
    (Value.tuple
    (Array.mk
    [])))
    fun
    i897 =>
    T.ite
    (decide
    (i897 <
    12))
    (T.drew
    (T.req
    (0 ≤
    i897 ∧
    i897 <
    12)
    (T.ldI
    IntKind.u8
    n591
    (0 +
    Int.toNat
    i897 *
    1)
    fun
    i898 =>
    T.req
    (0 ≤
    i897 ∧
    i897 <
    12)
    (T.ldI
    IntKind.u8
    n794
    (0 +
    Int.toNat
    i897 *
    1)
    fun
    i899 =>
    T.ite
    (i898 !=
    i899)
    (T.drew
    (T.req
    (0 ≤
    i897 ∧
    i897 <
    12)
    (T.ldI
    IntKind.u8
    n591
    (0 +
    Int.toNat
    i897 *
    1)
    fun
    i900 =>
    T.req
    (0 ≤
    i897 ∧
    i897 <
    12)
    (T.ldI
    IntKind.u8
    n794
    (0 +
    Int.toNat
    i897 *
    1)
    fun
    i901 =>
    T.ite
    (decide
    (i900 <
    i901))
    (T.next
    0
    [Value.int
    IntKind.i64
    (-1)]
    ([Value.pointer
    (some
    (Addr.mk
    n16
    0
    none)),
    Value.pointer
    (some
    (Addr.mk
    n17
    0
    none)),
    Value.pointer
    (some
    (Addr.mk
    n18
    0
    none)),
    Value.pointer
    (some
    (Addr.mk
    n591
    0
    none))] =
    [Value.pointer
    (some
    (Addr.mk
    n16
    0
    none)),
    Value.pointer
    (some
    (Addr.mk
    n17
    0
    none)),
    Value.pointer
    (some
    (Addr.mk
    n18
    0
    none)),
    Value.pointer
    (some
    (Addr.mk
    n591
    0
    none))] ∧ ([] : List Deferred) = []))
    (T.next
    0
    [Value.int
    IntKind.i64
    1]
    ([Value.pointer
    (some
    (Addr.mk
    n16
    0
    none)),
    Value.pointer
    (some
    (Addr.mk
    n17
    0
    none)),
    Value.pointer
    (some
    (Addr.mk
    n18
    0
    none)),
    Value.pointer
    (some
    (Addr.mk
    n591
    0
    none))] =
    [Value.pointer
    (some
    (Addr.mk
    n16
    0
    none)),
    Value.pointer
    (some
    (Addr.mk
    n17
    0
    none)),
    Value.pointer
    (some
    (Addr.mk
    n18
    0
    none)),
    Value.pointer
    (some
    (Addr.mk
    n591
    0
    none))] ∧ ([] : List Deferred) = []))))))
    (T.next
    1
    [Value.int
    IntKind.i64
    i896,
    Value.int
    IntKind.i64
    (IntKind.wrap
    IntKind.i64
    (i897 +
    1))]
    ([Value.pointer
    (some
    (Addr.mk
    n16
    0
    none)),
    Value.pointer
    (some
    (Addr.mk
    n17
    0
    none)),
    Value.pointer
    (some
    (Addr.mk
    n18
    0
    none)),
    Value.pointer
    (some
    (Addr.mk
    n591
    0
    none)),
    Value.pointer
    (some
    (Addr.mk
    n794
    0
    none))] =
    [Value.pointer
    (some
    (Addr.mk
    n16
    0
    none)),
    Value.pointer
    (some
    (Addr.mk
    n17
    0
    none)),
    Value.pointer
    (some
    (Addr.mk
    n18
    0
    none)),
    Value.pointer
    (some
    (Addr.mk
    n591
    0
    none)),
    Value.pointer
    (some
    (Addr.mk
    n794
    0
    none))] ∧ ([] : List Deferred) = []))))))
    (T.next
    0
    [Value.int
    IntKind.i64
    i896]
    ([Value.pointer
    (some
    (Addr.mk
    n16
    0
    none)),
    Value.pointer
    (some
    (Addr.mk
    n17
    0
    none)),
    Value.pointer
    (some
    (Addr.mk
    n18
    0
    none)),
    Value.pointer
    (some
    (Addr.mk
    n591
    0
    none))] =
    [Value.pointer
    (some
    (Addr.mk
    n16
    0
    none)),
    Value.pointer
    (some
    (Addr.mk
    n17
    0
    none)),
    Value.pointer
    (some
    (Addr.mk
    n18
    0
    none)),
    Value.pointer
    (some
    (Addr.mk
    n591
    0
    none))] ∧ ([] : List Deferred) = [])))))))))))))))))))))))))))))))))))))
    (T.new
    (Obj.cells
    (Array.mk
    [Value.int IntKind.u8 0, Value.int IntKind.u8 0, Value.int IntKind.u8 0, Value.int IntKind.u8 0, Value.int IntKind.u8 0,
    Value.int IntKind.u8 0, Value.int IntKind.u8 0, Value.int IntKind.u8 0, Value.int IntKind.u8 0, Value.int IntKind.u8 0,
    Value.int IntKind.u8 0, Value.int IntKind.u8 0])
    27)
    fun n902 =>
    T.chk
    [(Addr.mk n17 0 none, Value.int IntKind.i32 i21), (Addr.mk n17 1 none, Value.int IntKind.i64 i22),
    (Addr.mk n16 0 none, Value.int IntKind.i32 i19), (Addr.mk n16 1 none, Value.int IntKind.i64 i20)]
    (T.both
    (T.call 12 [Value.agg (Array.mk [Value.int IntKind.i32 i19, Value.int IntKind.i64 i20])] fun v903 =>
    T.asA v903 fun l904 =>
    T.req (List.length l904 = 12)
    (T.asI IntKind.u8 (List.headD l904 (Value.tuple (Array.mk []))) fun i905 =>
    T.asI IntKind.u8 (List.headD (List.tail l904) (Value.tuple (Array.mk []))) fun i906 =>
    T.asI IntKind.u8 (List.headD (List.tail (List.tail l904)) (Value.tuple (Array.mk []))) fun i907 =>
    T.asI IntKind.u8 (List.headD (List.tail (List.tail (List.tail l904))) (Value.tuple (Array.mk []))) fun i908 =>
    T.asI IntKind.u8 (List.headD (List.tail (List.tail (List.tail (List.tail l904)))) (Value.tuple (Array.mk [])))
    fun i909 =>
    T.asI IntKind.u8
    (List.headD (List.tail (List.tail (List.tail (List.tail (List.tail l904))))) (Value.tuple (Array.mk [])))
    fun i910 =>
    T.asI IntKind.u8
    (List.headD (List.tail (List.tail (List.tail (List.tail (List.tail (List.tail l904))))))
    (Value.tuple (Array.mk [])))
    fun i911 =>
    T.asI IntKind.u8
    (List.headD (List.tail (List.tail (List.tail (List.tail (List.tail (List.tail (List.tail l904)))))))
    (Value.tuple (Array.mk [])))
    fun i912 =>
    T.asI IntKind.u8
    (List.headD
    (List.tail (List.tail (List.tail (List.tail (List.tail (List.tail (List.tail (List.tail l904))))))))
    (Value.tuple (Array.mk [])))
    fun i913 =>
    T.asI IntKind.u8
    (List.headD
    (List.tail
    (List.tail (List.tail (List.tail (List.tail (List.tail (List.tail (List.tail (List.tail l904)))))))))
    (Value.tuple (Array.mk [])))
    fun i914 =>
    T.asI IntKind.u8
    (List.headD
    (List.tail
    (List.tail
    (List.tail
    (List.tail (List.tail (List.tail (List.tail (List.tail (List.tail (List.tail l904))))))))))
    (Value.tuple (Array.mk [])))
    fun i915 =>
    T.asI IntKind.u8
    (List.headD
    (List.tail
    (List.tail
    (List.tail
    (List.tail
    (List.tail (List.tail (List.tail (List.tail (List.tail (List.tail (List.tail l904)))))))))))
    (Value.tuple (Array.mk [])))
    fun i916 =>
    T.chk [(Addr.mk n17 0 none, Value.int IntKind.i32 i21), (Addr.mk n17 1 none, Value.int IntKind.i64 i22)]
    (T.both
    (T.call 12 [Value.agg (Array.mk [Value.int IntKind.i32 i21, Value.int IntKind.i64 i22])] fun v917 =>
    T.asA v917 fun l918 =>
    T.req (List.length l918 = 12)
    (T.asI IntKind.u8 (List.headD l918 (Value.tuple (Array.mk []))) fun i919 =>
    T.asI IntKind.u8 (List.headD (List.tail l918) (Value.tuple (Array.mk []))) fun i920 =>
    T.asI IntKind.u8 (List.headD (List.tail (List.tail l918)) (Value.tuple (Array.mk [])))
    fun i921 =>
    T.asI IntKind.u8
    (List.headD (List.tail (List.tail (List.tail l918))) (Value.tuple (Array.mk [])))
    fun i922 =>
    T.asI IntKind.u8
    (List.headD (List.tail (List.tail (List.tail (List.tail l918))))
    (Value.tuple (Array.mk [])))
    fun i923 =>
    T.asI IntKind.u8
    (List.headD (List.tail (List.tail (List.tail (List.tail (List.tail l918)))))
    (Value.tuple (Array.mk [])))
    fun i924 =>
    T.asI IntKind.u8
    (List.headD
    (List.tail (List.tail (List.tail (List.tail (List.tail (List.tail l918))))))
    (Value.tuple (Array.mk [])))
    fun i925 =>
    T.asI IntKind.u8
    (List.headD
    (List.tail
    (List.tail
    (List.tail (List.tail (List.tail (List.tail (List.tail l918)))))))
    (Value.tuple (Array.mk [])))
    fun i926 =>
    T.asI IntKind.u8
    (List.headD
    (List.tail
    (List.tail
    (List.tail
    (List.tail (List.tail (List.tail (List.tail (List.tail l918))))))))
    (Value.tuple (Array.mk [])))
    fun i927 =>
    T.asI IntKind.u8
    (List.headD
    (List.tail
    (List.tail
    (List.tail
    (List.tail
    (List.tail
    (List.tail (List.tail (List.tail (List.tail l918)))))))))
    (Value.tuple (Array.mk [])))
    fun i928 =>
    T.asI IntKind.u8
    (List.headD
    (List.tail
    (List.tail
    (List.tail
    (List.tail
    (List.tail
    (List.tail
    (List.tail (List.tail (List.tail (List.tail l918))))))))))
    (Value.tuple (Array.mk [])))
    fun i929 =>
    T.asI IntKind.u8
    (List.headD
    (List.tail
    (List.tail
    (List.tail
    (List.tail
    (List.tail
    (List.tail
    (List.tail
    (List.tail
    (List.tail (List.tail (List.tail l918)))))))))))
    (Value.tuple (Array.mk [])))
    fun i930 =>
    T.chk []
    (T.new
    (Obj.cells
    (Array.mk
    [Value.int IntKind.u8 0, Value.int IntKind.u8 0,
    Value.int IntKind.u8 0, Value.int IntKind.u8 0,
    Value.int IntKind.u8 0, Value.int IntKind.u8 0,
    Value.int IntKind.u8 0, Value.int IntKind.u8 0,
    Value.int IntKind.u8 0, Value.int IntKind.u8 0,
    Value.int IntKind.u8 0, Value.int IntKind.u8 0])
    27)
    fun n931 =>
    T.chk []
    (T.st n931 0 (Value.int IntKind.u8 i905)
    (T.st n931 1 (Value.int IntKind.u8 i906)
    (T.st n931 2 (Value.int IntKind.u8 i907)
    (T.st n931 3 (Value.int IntKind.u8 i908)
    (T.st n931 4 (Value.int IntKind.u8 i909)
    (T.st n931 5 (Value.int IntKind.u8 i910)
    (T.st n931 6 (Value.int IntKind.u8 i911)
    (T.st n931 7 (Value.int IntKind.u8 i912)
    (T.st n931 8 (Value.int IntKind.u8 i913)
    (T.st n931 9 (Value.int IntKind.u8 i914)
    (T.st n931 10 (Value.int IntKind.u8 i915)
    (T.st n931 11 (Value.int IntKind.u8 i916)
    (T.chk []
    (T.st n902 0
    (Value.int IntKind.u8 i919)
    (T.st n902 1
    (Value.int IntKind.u8 i920)
    (T.st n902 2
    (Value.int IntKind.u8 i921)
    (T.st n902 3
    (Value.int IntKind.u8 i922)
    (T.st n902 4
    (Value.int IntKind.u8 i923)
    (T.st n902 5
    (Value.int IntKind.u8
    i924)
    (T.st n902 6
    (Value.int IntKind.u8
    i925)
    (T.st n902 7
    (Value.int IntKind.u8
    i926)
    (T.st n902 8
    (Value.int
    IntKind.u8 i927)
    (T.st n902 9
    (Value.int
    IntKind.u8 i928)
    (T.st n902 10
    (Value.int
    IntKind.u8
    i929)
    (T.st n902 11
    (Value.int
    IntKind.u8
    i930)
    (T.chk []
    (T.blk 0
    (fun l932
    j933 =>
    T.asI
    IntKind.i64
    (List.headD
    l932
    (Value.tuple
    (Array.mk
    [])))
    fun
    i934 =>
    T.drew
    (T.call
    11
    []
    fun
    v935 =>
    T.asB
    v935
    fun
    b936 =>
    T.chk
    []
    (T.ite
    b936
    (T.ldI
    IntKind.i32
    n16
    0
    fun
    i937 =>
    T.ldI
    IntKind.i64
    n16
    1
    fun
    i938 =>
    T.ldI
    IntKind.i32
    n17
    0
    fun
    i939 =>
    T.ldI
    IntKind.i64
    n17
    1
    fun
    i940 =>
    T.call
    10
    [Value.agg
    (Array.mk
    [Value.int
    IntKind.i32
    i937,
    Value.int
    IntKind.i64
    i938]),
    Value.agg
    (Array.mk
    [Value.int
    IntKind.i32
    i939,
    Value.int
    IntKind.i64
    i940])]
    fun
    v941 =>
    T.asI
    IntKind.i64
    v941
    fun
    i942 =>
    T.chk
    []
    (T.ite
    (i934 ==
    i942)
    (T.ldI
    IntKind.u8
    n931
    0
    fun
    i943 =>
    T.ldI
    IntKind.u8
    n931
    1
    fun
    i944 =>
    T.ldI
    IntKind.u8
    n931
    2
    fun
    i945 =>
    T.ldI
    IntKind.u8
    n931
    3
    fun
    i946 =>
    T.ldI
    IntKind.u8
    n931
    4
    fun
    i947 =>
    T.ldI
    IntKind.u8
    n931
    5
    fun
    i948 =>
    T.ldI
    IntKind.u8
    n931
    6
    fun
    i949 =>
    T.ldI
    IntKind.u8
    n931
    7
    fun
    i950 =>
    T.ldI
    IntKind.u8
    n931
    8
    fun
    i951 =>
    T.ldI
    IntKind.u8
    n931
    9
    fun
    i952 =>
    T.ldI
    IntKind.u8
    n931
    10
    fun
    i953 =>
    T.ldI
    IntKind.u8
    n931
    11
    fun
    i954 =>
    T.ldI
    IntKind.i32
    n16
    0
    fun
    i955 =>
    T.ldI
    IntKind.i64
    n16
    1
    fun
    i956 =>
    T.call
    13
    [Value.agg
    (Array.mk
    [Value.int
    IntKind.u8
    i943,
    Value.int
    IntKind.u8
    i944,
    Value.int
    IntKind.u8
    i945,
    Value.int
    IntKind.u8
    i946,
    Value.int
    IntKind.u8
    i947,
    Value.int
    IntKind.u8
    i948,
    Value.int
    IntKind.u8
    i949,
    Value.int
    IntKind.u8
    i950,
    Value.int
    IntKind.u8
    i951,
    Value.int
    IntKind.u8
    i952,
    Value.int
    IntKind.u8
    i953,
    Value.int
    IntKind.u8
    i954])]
    fun
    v957 =>
    T.asA
    v957
    fun
    l958 =>
    T.req
    (List.length
    l958 =
    2)
    (T.asI
    IntKind.i32
    (List.headD
    l958
    (Value.tuple
    (Array.mk
    [])))
    fun
    i959 =>
    T.asI
    IntKind.i64
    (List.headD
    (List.tail
    l958)
    (Value.tuple
    (Array.mk
    [])))
    fun
    i960 =>
    T.chk
    [(Addr.mk
    n16
    0
    none,
    Value.int
    IntKind.i32
    i955),
    (Addr.mk
    n16
    1
    none,
    Value.int
    IntKind.i64
    i956)]
    (T.ite
    (i959 ==
    i955 &&
    (i960 ==
    i956 &&
    true))
    (T.ldI
    IntKind.u8
    n18
    0
    fun
    i961 =>
    T.ldI
    IntKind.u8
    n18
    1
    fun
    i962 =>
    T.ldI
    IntKind.u8
    n18
    2
    fun
    i963 =>
    T.ldI
    IntKind.u8
    n18
    3
    fun
    i964 =>
    T.ldI
    IntKind.u8
    n18
    4
    fun
    i965 =>
    T.ldI
    IntKind.u8
    n18
    5
    fun
    i966 =>
    T.ldI
    IntKind.u8
    n18
    6
    fun
    i967 =>
    T.ldI
    IntKind.u8
    n18
    7
    fun
    i968 =>
    T.ldI
    IntKind.u8
    n18
    8
    fun
    i969 =>
    T.ldI
    IntKind.u8
    n18
    9
    fun
    i970 =>
    T.ldI
    IntKind.u8
    n18
    10
    fun
    i971 =>
    T.ldI
    IntKind.u8
    n18
    11
    fun
    i972 =>
    T.ldI
    IntKind.u8
    n18
    0
    fun
    i973 =>
    T.ldI
    IntKind.u8
    n18
    1
    fun
    i974 =>
    T.ldI
    IntKind.u8
    n18
    2
    fun
    i975 =>
    T.ldI
    IntKind.u8
    n18
    3
    fun
    i976 =>
    T.ldI
    IntKind.u8
    n18
    4
    fun
    i977 =>
    T.ldI
    IntKind.u8
    n18
    5
    fun
    i978 =>
    T.ldI
    IntKind.u8
    n18
    6
    fun
    i979 =>
    T.ldI
    IntKind.u8
    n18
    7
    fun
    i980 =>
    T.ldI
    IntKind.u8
    n18
    8
    fun
    i981 =>
    T.ldI
    IntKind.u8
    n18
    9
    fun
    i982 =>
    T.ldI
    IntKind.u8
    n18
    10
    fun
    i983 =>
    T.ldI
    IntKind.u8
    n18
    11
    fun
    i984 =>
    T.call
    13
    [Value.agg
    (Array.mk
    [Value.int
    IntKind.u8
    i961,
    Value.int
    IntKind.u8
    i962,
    Value.int
    IntKind.u8
    i963,
    Value.int
    IntKind.u8
    i964,
    Value.int
    IntKind.u8
    i965,
    Value.int
    IntKind.u8
    i966,
    Value.int
    IntKind.u8
    i967,
    Value.int
    IntKind.u8
    i968,
    Value.int
    IntKind.u8
    i969,
    Value.int
    IntKind.u8
    i970,
    Value.int
    IntKind.u8
    i971,
    Value.int
    IntKind.u8
    i972])]
    fun
    v985 =>
    T.asA
    v985
    fun
    l986 =>
    T.req
    (List.length
    l986 =
    2)
    (T.asI
    IntKind.i32
    (List.headD
    l986
    (Value.tuple
    (Array.mk
    [])))
    fun
    i987 =>
    T.asI
    IntKind.i64
    (List.headD
    (List.tail
    l986)
    (Value.tuple
    (Array.mk
    [])))
    fun
    i988 =>
    T.chk
    [(Addr.mk
    n18
    0
    none,
    Value.int
    IntKind.u8
    i973),
    (Addr.mk
    n18
    1
    none,
    Value.int
    IntKind.u8
    i974),
    (Addr.mk
    n18
    2
    none,
    Value.int
    IntKind.u8
    i975),
    (Addr.mk
    n18
    3
    none,
    Value.int
    IntKind.u8
    i976),
    (Addr.mk
    n18
    4
    none,
    Value.int
    IntKind.u8
    i977),
    (Addr.mk
    n18
    5
    none,
    Value.int
    IntKind.u8
    i978),
    (Addr.mk
    n18
    6
    none,
    Value.int
    IntKind.u8
    i979),
    (Addr.mk
    n18
    7
    none,
    Value.int
    IntKind.u8
    i980),
    (Addr.mk
    n18
    8
    none,
    Value.int
    IntKind.u8
    i981),
    (Addr.mk
    n18
    9
    none,
    Value.int
    IntKind.u8
    i982),
    (Addr.mk
    n18
    10
    none,
    Value.int
    IntKind.u8
    i983),
    (Addr.mk
    n18
    11
    none,
    Value.int
    IntKind.u8
    i984),
    (Addr.mk
    n16
    0
    none,
    Value.int
    IntKind.i32
    i955),
    (Addr.mk
    n16
    1
    none,
    Value.int
    IntKind.i64
    i956)]
    (T.call
    12
    [Value.agg
    (Array.mk
    [Value.int
    IntKind.i32
    i987,
    Value.int
    IntKind.i64
    i988])]
    fun
    v989 =>
    T.asA
    v989
    fun
    l990 =>
    T.req
    (List.length
    l990 =
    12)
    (T.asI
    IntKind.u8
    (List.headD
    l990
    (Value.tuple
    (Array.mk
    [])))
    fun
    i991 =>
    T.asI
    IntKind.u8
    (List.headD
    (List.tail
    l990)
    (Value.tuple
    (Array.mk
    [])))
    fun
    i992 =>
    T.asI
    IntKind.u8
    (List.headD
    (List.tail
    (List.tail
    l990))
    (Value.tuple
    (Array.mk
    [])))
    fun
    i993 =>
    T.asI
    IntKind.u8
    (List.headD
    (List.tail
    (List.tail
    (List.tail
    l990)))
    (Value.tuple
    (Array.mk
    [])))
    fun
    i994 =>
    T.asI
    IntKind.u8
    (List.headD
    (List.tail
    (List.tail
    (List.tail
    (List.tail
    l990))))
    (Value.tuple
    (Array.mk
    [])))
    fun
    i995 =>
    T.asI
    IntKind.u8
    (List.headD
    (List.tail
    (List.tail
    (List.tail
    (List.tail
    (List.tail
    l990)))))
    (Value.tuple
    (Array.mk
    [])))
    fun
    i996 =>
    T.asI
    IntKind.u8
    (List.headD
    (List.tail
    (List.tail
    (List.tail
    (List.tail
    (List.tail
    (List.tail
    l990))))))
    (Value.tuple
    (Array.mk
    [])))
    fun
    i997 =>
    T.asI
    IntKind.u8
    (List.headD
    (List.tail
    (List.tail
    (List.tail
    (List.tail
    (List.tail
    (List.tail
    (List.tail
    l990)))))))
    (Value.tuple
    (Array.mk
    [])))
    fun
    i998 =>
    T.asI
    IntKind.u8
    (List.headD
    (List.tail
    (List.tail
    (List.tail
    (List.tail
    (List.tail
    (List.tail
    (List.tail
    (List.tail
    l990))))))))
    (Value.tuple
    (Array.mk
    [])))
    fun
    i999 =>
    T.asI
    IntKind.u8
    (List.headD
    (List.tail
    (List.tail
    (List.tail
    (List.tail
    (List.tail
    (List.tail
    (List.tail
    (List.tail
    (List.tail
    l990)))))))))
    (Value.tuple
    (Array.mk
    [])))
    fun
    i1000 =>
    T.asI
    IntKind.u8
    (List.headD
    (List.tail
    (List.tail
    (List.tail
    (List.tail
    (List.tail
    (List.tail
    (List.tail
    (List.tail
    (List.tail
    (List.tail
    l990))))))))))
    (Value.tuple
    (Array.mk
    [])))
    fun
    i1001 =>
    T.asI
    IntKind.u8
    (List.headD
    (List.tail
    (List.tail
    (List.tail
    (List.tail
    (List.tail
    (List.tail
    (List.tail
    (List.tail
    (List.tail
    (List.tail
    (List.tail
    l990)))))))))))
    (Value.tuple
    (Array.mk
    [])))
    fun
    i1002 =>
    T.chk
    [(Addr.mk
    n18
    0
    none,
    Value.int
    IntKind.u8
    i973),
    (Addr.mk
    n18
    1
    none,
    Value.int
    IntKind.u8
    i974),
    (Addr.mk
    n18
    2
    none,
    Value.int
    IntKind.u8
    i975),
    (Addr.mk
    n18
    3
    none,
    Value.int
    IntKind.u8
    i976),
    (Addr.mk
    n18
    4
    none,
    Value.int
    IntKind.u8
    i977),
    (Addr.mk
    n18
    5
    none,
    Value.int
    IntKind.u8
    i978),
    (Addr.mk
    n18
    6
    none,
    Value.int
    IntKind.u8
    i979),
    (Addr.mk
    n18
    7
    none,
    Value.int
    IntKind.u8
    i980),
    (Addr.mk
    n18
    8
    none,
    Value.int
    IntKind.u8
    i981),
    (Addr.mk
    n18
    9
    none,
    Value.int
    IntKind.u8
    i982),
    (Addr.mk
    n18
    10
    none,
    Value.int
    IntKind.u8
    i983),
    (Addr.mk
    n18
    11
    none,
    Value.int
    IntKind.u8
    i984),
    (Addr.mk
    n16
    0
    none,
    Value.int
    IntKind.i32
    i955),
    (Addr.mk
    n16
    1
    none,
    Value.int
    IntKind.i64
    i956)]
    (T.ret
    (Value.bool
    (i991 ==
    i973 &&
    (i992 ==
    i974 &&
    (i993 ==
    i975 &&
    (i994 ==
    i976 &&
    (i995 ==
    i977 &&
    (i996 ==
    i978 &&
    (i997 ==
    i979 &&
    (i998 ==
    i980 &&
    (i999 ==
    i981 &&
    (i1000 ==
    i982 &&
    (i1001 ==
    i983 &&
    (i1002 ==
    i984 &&
    true))))))))))))))))))
    (T.chk
    [(Addr.mk
    n16
    0
    none,
    Value.int
    IntKind.i32
    i955),
    (Addr.mk
    n16
    1
    none,
    Value.int
    IntKind.i64
    i956)]
    (T.chk
    [(Addr.mk
    n16
    0
    none,
    Value.int
    IntKind.i32
    i955),
    (Addr.mk
    n16
    1
    none,
    Value.int
    IntKind.i64
    i956)]
    (T.ret
    (Value.bool
    false)))))))
    (T.chk
    []
    (T.chk
    []
    (T.chk
    []
    (T.ret
    (Value.bool
    false)))))))
    (T.chk
    []
    (T.chk
    []
    (T.chk
    []
    (T.chk
    []
    (T.ret
    (Value.bool
    false)))))))))
    (T.loop 1
    [Value.int
    IntKind.i64
    0,
    Value.int
    IntKind.i64
    0]
    fun
    l1003
    j1004 =>
    T.asI
    IntKind.i64
    (List.headD
    l1003
    (Value.tuple
    (Array.mk
    [])))
    fun
    i1005 =>
    T.asI
    IntKind.i64
    (List.headD
    (List.tail
    l1003)
    (Value.tuple
    (Array.mk
    [])))
    fun
    i1006 =>
    T.ite
    (decide
    (i1006 <
    12))
    (T.drew
    (T.req
    (0 ≤
    i1006 ∧
    i1006 <
    12)
    (T.ldI
    IntKind.u8
    n931
    (0 +
    Int.toNat
    i1006 *
    1)
    fun
    i1007 =>
    T.req
    (0 ≤
    i1006 ∧
    i1006 <
    12)
    (T.ldI
    IntKind.u8
    n902
    (0 +
    Int.toNat
    i1006 *
    1)
    fun
    i1008 =>
    T.ite
    (i1007 !=
    i1008)
    (T.drew
    (T.req
    (0 ≤
    i1006 ∧
    i1006 <
    12)
    (T.ldI
    IntKind.u8
    n931
    (0 +
    Int.toNat
    i1006 *
    1)
    fun
    i1009 =>
    T.req
    (0 ≤
    i1006 ∧
    i1006 <
    12)
    (T.ldI
    IntKind.u8
    n902
    (0 +
    Int.toNat
    i1006 *
    1)
    fun
    i1010 =>
    T.ite
    (decide
    (i1009 <
    i1010))
    (T.next
    0
    [Value.int
    IntKind.i64
    (-1)]
    ([Value.pointer
    (some
    (Addr.mk
    n16
    0
    none)),
    Value.pointer
    (some
    (Addr.mk
    n17
    0
    none)),
    Value.pointer
    (some
    (Addr.mk
    n18
    0
    none)),
    Value.pointer
    (some
    (Addr.mk
    n931
    0
    none))] =
    [Value.pointer
    (some
    (Addr.mk
    n16
    0
    none)),
    Value.pointer
    (some
    (Addr.mk
    n17
    0
    none)),
    Value.pointer
    (some
    (Addr.mk
    n18
    0
    none)),
    Value.pointer
    (some
    (Addr.mk
    n931
    0
    none))] ∧ ([] : List Deferred) = []))
    (T.next
    0
    [Value.int
    IntKind.i64
    1]
    ([Value.pointer
    (some
    (Addr.mk
    n16
    0
    none)),
    Value.pointer
    (some
    (Addr.mk
    n17
    0
    none)),
    Value.pointer
    (some
    (Addr.mk
    n18
    0
    none)),
    Value.pointer
    (some
    (Addr.mk
    n931
    0
    none))] =
    [Value.pointer
    (some
    (Addr.mk
    n16
    0
    none)),
    Value.pointer
    (some
    (Addr.mk
    n17
    0
    none)),
    Value.pointer
    (some
    (Addr.mk
    n18
    0
    none)),
    Value.pointer
    (some
    (Addr.mk
    n931
    0
    none))] ∧ ([] : List Deferred) = []))))))
    (T.next
    1
    [Value.int
    IntKind.i64
    i1005,
    Value.int
    IntKind.i64
    (IntKind.wrap
    IntKind.i64
    (i1006 +
    1))]
    ([Value.pointer
    (some
    (Addr.mk
    n16
    0
    none)),
    Value.pointer
    (some
    (Addr.mk
    n17
    0
    none)),
    Value.pointer
    (some
    (Addr.mk
    n18
    0
    none)),
    Value.pointer
    (some
    (Addr.mk
    n931
    0
    none)),
    Value.pointer
    (some
    (Addr.mk
    n902
    0
    none))] =
    [Value.pointer
    (some
    (Addr.mk
    n16
    0
    none)),
    Value.pointer
    (some
    (Addr.mk
    n17
    0
    none)),
    Value.pointer
    (some
    (Addr.mk
    n18
    0
    none)),
    Value.pointer
    (some
    (Addr.mk
    n931
    0
    none)),
    Value.pointer
    (some
    (Addr.mk
    n902
    0
    none))] ∧ ([] : List Deferred) = []))))))
    (T.next
    0
    [Value.int
    IntKind.i64
    i1005]
    ([Value.pointer
    (some
    (Addr.mk
    n16
    0
    none)),
    Value.pointer
    (some
    (Addr.mk
    n17
    0
    none)),
    Value.pointer
    (some
    (Addr.mk
    n18
    0
    none)),
    Value.pointer
    (some
    (Addr.mk
    n931
    0
    none))] =
    [Value.pointer
    (some
    (Addr.mk
    n16
    0
    none)),
    Value.pointer
    (some
    (Addr.mk
    n17
    0
    none)),
    Value.pointer
    (some
    (Addr.mk
    n18
    0
    none)),
    Value.pointer
    (some
    (Addr.mk
    n931
    0
    none))] ∧ ([] : List Deferred) = [])))))))))))))))))))))))))))))))))
    (T.new
    (Obj.cells
    (Array.mk
    [Value.int IntKind.u8 0, Value.int IntKind.u8 0, Value.int IntKind.u8 0,
    Value.int IntKind.u8 0, Value.int IntKind.u8 0, Value.int IntKind.u8 0,
    Value.int IntKind.u8 0, Value.int IntKind.u8 0, Value.int IntKind.u8 0,
    Value.int IntKind.u8 0, Value.int IntKind.u8 0, Value.int IntKind.u8 0])
    27)
    fun n1011 =>
    T.chk
    [(Addr.mk n17 0 none, Value.int IntKind.i32 i21),
    (Addr.mk n17 1 none, Value.int IntKind.i64 i22)]
    (T.call 12 [Value.agg (Array.mk [Value.int IntKind.i32 i21, Value.int IntKind.i64 i22])]
    fun v1012 =>
    T.asA v1012 fun l1013 =>
    T.req (List.length l1013 = 12)
    (T.asI IntKind.u8 (List.headD l1013 (Value.tuple (Array.mk []))) fun i1014 =>
    T.asI IntKind.u8 (List.headD (List.tail l1013) (Value.tuple (Array.mk []))) fun i1015 =>
    T.asI IntKind.u8
    (List.headD (List.tail (List.tail l1013)) (Value.tuple (Array.mk []))) fun i1016 =>
    T.asI IntKind.u8
    (List.headD (List.tail (List.tail (List.tail l1013))) (Value.tuple (Array.mk [])))
    fun i1017 =>
    T.asI IntKind.u8
    (List.headD (List.tail (List.tail (List.tail (List.tail l1013))))
    (Value.tuple (Array.mk [])))
    fun i1018 =>
    T.asI IntKind.u8
    (List.headD (List.tail (List.tail (List.tail (List.tail (List.tail l1013)))))
    (Value.tuple (Array.mk [])))
    fun i1019 =>
    T.asI IntKind.u8
    (List.headD
    (List.tail
    (List.tail (List.tail (List.tail (List.tail (List.tail l1013))))))
    (Value.tuple (Array.mk [])))
    fun i1020 =>
    T.asI IntKind.u8
    (List.headD
    (List.tail
    (List.tail
    (List.tail (List.tail (List.tail (List.tail (List.tail l1013)))))))
    (Value.tuple (Array.mk [])))
    fun i1021 =>
    T.asI IntKind.u8
    (List.headD
    (List.tail
    (List.tail
    (List.tail
    (List.tail
    (List.tail (List.tail (List.tail (List.tail l1013))))))))
    (Value.tuple (Array.mk [])))
    fun i1022 =>
    T.asI IntKind.u8
    (List.headD
    (List.tail
    (List.tail
    (List.tail
    (List.tail
    (List.tail
    (List.tail (List.tail (List.tail (List.tail l1013)))))))))
    (Value.tuple (Array.mk [])))
    fun i1023 =>
    T.asI IntKind.u8
    (List.headD
    (List.tail
    (List.tail
    (List.tail
    (List.tail
    (List.tail
    (List.tail
    (List.tail
    (List.tail (List.tail (List.tail l1013))))))))))
    (Value.tuple (Array.mk [])))
    fun i1024 =>
    T.asI IntKind.u8
    (List.headD
    (List.tail
    (List.tail
    (List.tail
    (List.tail
    (List.tail
    (List.tail
    (List.tail
    (List.tail
    (List.tail
    (List.tail (List.tail l1013)))))))))))
    (Value.tuple (Array.mk [])))
    fun i1025 =>
    T.chk []
    (T.st n1011 0 (Value.int IntKind.u8 i905)
    (T.st n1011 1 (Value.int IntKind.u8 i906)
    (T.st n1011 2 (Value.int IntKind.u8 i907)
    (T.st n1011 3 (Value.int IntKind.u8 i908)
    (T.st n1011 4 (Value.int IntKind.u8 i909)
    (T.st n1011 5 (Value.int IntKind.u8 i910)
    (T.st n1011 6 (Value.int IntKind.u8 i911)
    (T.st n1011 7 (Value.int IntKind.u8 i912)
    (T.st n1011 8 (Value.int IntKind.u8 i913)
    (T.st n1011 9 (Value.int IntKind.u8 i914)
    (T.st n1011 10 (Value.int IntKind.u8 i915)
    (T.st n1011 11 (Value.int IntKind.u8 i916)
    (T.chk []
    (T.st n902 0
    (Value.int IntKind.u8 i1014)
    (T.st n902 1
    (Value.int IntKind.u8 i1015)
    (T.st n902 2
    (Value.int IntKind.u8 i1016)
    (T.st n902 3
    (Value.int IntKind.u8 i1017)
    (T.st n902 4
    (Value.int IntKind.u8 i1018)
    (T.st n902 5
    (Value.int IntKind.u8
    i1019)
    (T.st n902 6
    (Value.int IntKind.u8
    i1020)
    (T.st n902 7
    (Value.int IntKind.u8
    i1021)
    (T.st n902 8
    (Value.int
    IntKind.u8 i1022)
    (T.st n902 9
    (Value.int
    IntKind.u8
    i1023)
    (T.st n902 10
    (Value.int
    IntKind.u8
    i1024)
    (T.st n902 11
    (Value.int
    IntKind.u8
    i1025)
    (T.chk []
    (T.blk 0
    (fun l1026
    j1027 =>
    T.asI
    IntKind.i64
    (List.headD
    l1026
    (Value.tuple
    (Array.mk
    [])))
    fun
    i1028 =>
    T.drew
    (T.call
    11
    []
    fun
    v1029 =>
    T.asB
    v1029
    fun
    b1030 =>
    T.chk
    []
    (T.ite
    b1030
    (T.ldI
    IntKind.i32
    n16
    0
    fun
    i1031 =>
    T.ldI
    IntKind.i64
    n16
    1
    fun
    i1032 =>
    T.ldI
    IntKind.i32
    n17
    0
    fun
    i1033 =>
    T.ldI
    IntKind.i64
    n17
    1
    fun
    i1034 =>
    T.call
    10
    [Value.agg
    (Array.mk
    [Value.int
    IntKind.i32
    i1031,
    Value.int
    IntKind.i64
    i1032]),
    Value.agg
    (Array.mk
    [Value.int
    IntKind.i32
    i1033,
    Value.int
    IntKind.i64
    i1034])]
    fun
    v1035 =>
    T.asI
    IntKind.i64
    v1035
    fun
    i1036 =>
    T.chk
    []
    (T.ite
    (i1028 ==
    i1036)
    (T.ldI
    IntKind.u8
    n1011
    0
    fun
    i1037 =>
    T.ldI
    IntKind.u8
    n1011
    1
    fun
    i1038 =>
    T.ldI
    IntKind.u8
    n1011
    2
    fun
    i1039 =>
    T.ldI
    IntKind.u8
    n1011
    3
    fun
    i1040 =>
    T.ldI
    IntKind.u8
    n1011
    4
    fun
    i1041 =>
    T.ldI
    IntKind.u8
    n1011
    5
    fun
    i1042 =>
    T.ldI
    IntKind.u8
    n1011
    6
    fun
    i1043 =>
    T.ldI
    IntKind.u8
    n1011
    7
    fun
    i1044 =>
    T.ldI
    IntKind.u8
    n1011
    8
    fun
    i1045 =>
    T.ldI
    IntKind.u8
    n1011
    9
    fun
    i1046 =>
    T.ldI
    IntKind.u8
    n1011
    10
    fun
    i1047 =>
    T.ldI
    IntKind.u8
    n1011
    11
    fun
    i1048 =>
    T.ldI
    IntKind.i32
    n16
    0
    fun
    i1049 =>
    T.ldI
    IntKind.i64
    n16
    1
    fun
    i1050 =>
    T.call
    13
    [Value.agg
    (Array.mk
    [Value.int
    IntKind.u8
    i1037,
    Value.int
    IntKind.u8
    i1038,
    Value.int
    IntKind.u8
    i1039,
    Value.int
    IntKind.u8
    i1040,
    Value.int
    IntKind.u8
    i1041,
    Value.int
    IntKind.u8
    i1042,
    Value.int
    IntKind.u8
    i1043,
    Value.int
    IntKind.u8
    i1044,
    Value.int
    IntKind.u8
    i1045,
    Value.int
    IntKind.u8
    i1046,
    Value.int
    IntKind.u8
    i1047,
    Value.int
    IntKind.u8
    i1048])]
    fun
    v1051 =>
    T.asA
    v1051
    fun
    l1052 =>
    T.req
    (List.length
    l1052 =
    2)
    (T.asI
    IntKind.i32
    (List.headD
    l1052
    (Value.tuple
    (Array.mk
    [])))
    fun
    i1053 =>
    T.asI
    IntKind.i64
    (List.headD
    (List.tail
    l1052)
    (Value.tuple
    (Array.mk
    [])))
    fun
    i1054 =>
    T.chk
    [(Addr.mk
    n16
    0
    none,
    Value.int
    IntKind.i32
    i1049),
    (Addr.mk
    n16
    1
    none,
    Value.int
    IntKind.i64
    i1050)]
    (T.ite
    (i1053 ==
    i1049 &&
    (i1054 ==
    i1050 &&
    true))
    (T.ldI
    IntKind.u8
    n18
    0
    fun
    i1055 =>
    T.ldI
    IntKind.u8
    n18
    1
    fun
    i1056 =>
    T.ldI
    IntKind.u8
    n18
    2
    fun
    i1057 =>
    T.ldI
    IntKind.u8
    n18
    3
    fun
    i1058 =>
    T.ldI
    IntKind.u8
    n18
    4
    fun
    i1059 =>
    T.ldI
    IntKind.u8
    n18
    5
    fun
    i1060 =>
    T.ldI
    IntKind.u8
    n18
    6
    fun
    i1061 =>
    T.ldI
    IntKind.u8
    n18
    7
    fun
    i1062 =>
    T.ldI
    IntKind.u8
    n18
    8
    fun
    i1063 =>
    T.ldI
    IntKind.u8
    n18
    9
    fun
    i1064 =>
    T.ldI
    IntKind.u8
    n18
    10
    fun
    i1065 =>
    T.ldI
    IntKind.u8
    n18
    11
    fun
    i1066 =>
    T.ldI
    IntKind.u8
    n18
    0
    fun
    i1067 =>
    T.ldI
    IntKind.u8
    n18
    1
    fun
    i1068 =>
    T.ldI
    IntKind.u8
    n18
    2
    fun
    i1069 =>
    T.ldI
    IntKind.u8
    n18
    3
    fun
    i1070 =>
    T.ldI
    IntKind.u8
    n18
    4
    fun
    i1071 =>
    T.ldI
    IntKind.u8
    n18
    5
    fun
    i1072 =>
    T.ldI
    IntKind.u8
    n18
    6
    fun
    i1073 =>
    T.ldI
    IntKind.u8
    n18
    7
    fun
    i1074 =>
    T.ldI
    IntKind.u8
    n18
    8
    fun
    i1075 =>
    T.ldI
    IntKind.u8
    n18
    9
    fun
    i1076 =>
    T.ldI
    IntKind.u8
    n18
    10
    fun
    i1077 =>
    T.ldI
    IntKind.u8
    n18
    11
    fun
    i1078 =>
    T.call
    13
    [Value.agg
    (Array.mk
    [Value.int
    IntKind.u8
    i1055,
    Value.int
    IntKind.u8
    i1056,
    Value.int
    IntKind.u8
    i1057,
    Value.int
    IntKind.u8
    i1058,
    Value.int
    IntKind.u8
    i1059,
    Value.int
    IntKind.u8
    i1060,
    Value.int
    IntKind.u8
    i1061,
    Value.int
    IntKind.u8
    i1062,
    Value.int
    IntKind.u8
    i1063,
    Value.int
    IntKind.u8
    i1064,
    Value.int
    IntKind.u8
    i1065,
    Value.int
    IntKind.u8
    i1066])]
    fun
    v1079 =>
    T.asA
    v1079
    fun
    l1080 =>
    T.req
    (List.length
    l1080 =
    2)
    (T.asI
    IntKind.i32
    (List.headD
    l1080
    (Value.tuple
    (Array.mk
    [])))
    fun
    i1081 =>
    T.asI
    IntKind.i64
    (List.headD
    (List.tail
    l1080)
    (Value.tuple
    (Array.mk
    [])))
    fun
    i1082 =>
    T.chk
    [(Addr.mk
    n18
    0
    none,
    Value.int
    IntKind.u8
    i1067),
    (Addr.mk
    n18
    1
    none,
    Value.int
    IntKind.u8
    i1068),
    (Addr.mk
    n18
    2
    none,
    Value.int
    IntKind.u8
    i1069),
    (Addr.mk
    n18
    3
    none,
    Value.int
    IntKind.u8
    i1070),
    (Addr.mk
    n18
    4
    none,
    Value.int
    IntKind.u8
    i1071),
    (Addr.mk
    n18
    5
    none,
    Value.int
    IntKind.u8
    i1072),
    (Addr.mk
    n18
    6
    none,
    Value.int
    IntKind.u8
    i1073),
    (Addr.mk
    n18
    7
    none,
    Value.int
    IntKind.u8
    i1074),
    (Addr.mk
    n18
    8
    none,
    Value.int
    IntKind.u8
    i1075),
    (Addr.mk
    n18
    9
    none,
    Value.int
    IntKind.u8
    i1076),
    (Addr.mk
    n18
    10
    none,
    Value.int
    IntKind.u8
    i1077),
    (Addr.mk
    n18
    11
    none,
    Value.int
    IntKind.u8
    i1078),
    (Addr.mk
    n16
    0
    none,
    Value.int
    IntKind.i32
    i1049),
    (Addr.mk
    n16
    1
    none,
    Value.int
    IntKind.i64
    i1050)]
    (T.call
    12
    [Value.agg
    (Array.mk
    [Value.int
    IntKind.i32
    i1081,
    Value.int
    IntKind.i64
    i1082])]
    fun
    v1083 =>
    T.asA
    v1083
    fun
    l1084 =>
    T.req
    (List.length
    l1084 =
    12)
    (T.asI
    IntKind.u8
    (List.headD
    l1084
    (Value.tuple
    (Array.mk
    [])))
    fun
    i1085 =>
    T.asI
    IntKind.u8
    (List.headD
    (List.tail
    l1084)
    (Value.tuple
    (Array.mk
    [])))
    fun
    i1086 =>
    T.asI
    IntKind.u8
    (List.headD
    (List.tail
    (List.tail
    l1084))
    (Value.tuple
    (Array.mk
    [])))
    fun
    i1087 =>
    T.asI
    IntKind.u8
    (List.headD
    (List.tail
    (List.tail
    (List.tail
    l1084)))
    (Value.tuple
    (Array.mk
    [])))
    fun
    i1088 =>
    T.asI
    IntKind.u8
    (List.headD
    (List.tail
    (List.tail
    (List.tail
    (List.tail
    l1084))))
    (Value.tuple
    (Array.mk
    [])))
    fun
    i1089 =>
    T.asI
    IntKind.u8
    (List.headD
    (List.tail
    (List.tail
    (List.tail
    (List.tail
    (List.tail
    l1084)))))
    (Value.tuple
    (Array.mk
    [])))
    fun
    i1090 =>
    T.asI
    IntKind.u8
    (List.headD
    (List.tail
    (List.tail
    (List.tail
    (List.tail
    (List.tail
    (List.tail
    l1084))))))
    (Value.tuple
    (Array.mk
    [])))
    fun
    i1091 =>
    T.asI
    IntKind.u8
    (List.headD
    (List.tail
    (List.tail
    (List.tail
    (List.tail
    (List.tail
    (List.tail
    (List.tail
    l1084)))))))
    (Value.tuple
    (Array.mk
    [])))
    fun
    i1092 =>
    T.asI
    IntKind.u8
    (List.headD
    (List.tail
    (List.tail
    (List.tail
    (List.tail
    (List.tail
    (List.tail
    (List.tail
    (List.tail
    l1084))))))))
    (Value.tuple
    (Array.mk
    [])))
    fun
    i1093 =>
    T.asI
    IntKind.u8
    (List.headD
    (List.tail
    (List.tail
    (List.tail
    (List.tail
    (List.tail
    (List.tail
    (List.tail
    (List.tail
    (List.tail
    l1084)))))))))
    (Value.tuple
    (Array.mk
    [])))
    fun
    i1094 =>
    T.asI
    IntKind.u8
    (List.headD
    (List.tail
    (List.tail
    (List.tail
    (List.tail
    (List.tail
    (List.tail
    (List.tail
    (List.tail
    (List.tail
    (List.tail
    l1084))))))))))
    (Value.tuple
    (Array.mk
    [])))
    fun
    i1095 =>
    T.asI
    IntKind.u8
    (List.headD
    (List.tail
    (List.tail
    (List.tail
    (List.tail
    (List.tail
    (List.tail
    (List.tail
    (List.tail
    (List.tail
    (List.tail
    (List.tail
    l1084)))))))))))
    (Value.tuple
    (Array.mk
    [])))
    fun
    i1096 =>
    T.chk
    [(Addr.mk
    n18
    0
    none,
    Value.int
    IntKind.u8
    i1067),
    (Addr.mk
    n18
    1
    none,
    Value.int
    IntKind.u8
    i1068),
    (Addr.mk
    n18
    2
    none,
    Value.int
    IntKind.u8
    i1069),
    (Addr.mk
    n18
    3
    none,
    Value.int
    IntKind.u8
    i1070),
    (Addr.mk
    n18
    4
    none,
    Value.int
    IntKind.u8
    i1071),
    (Addr.mk
    n18
    5
    none,
    Value.int
    IntKind.u8
    i1072),
    (Addr.mk
    n18
    6
    none,
    Value.int
    IntKind.u8
    i1073),
    (Addr.mk
    n18
    7
    none,
    Value.int
    IntKind.u8
    i1074),
    (Addr.mk
    n18
    8
    none,
    Value.int
    IntKind.u8
    i1075),
    (Addr.mk
    n18
    9
    none,
    Value.int
    IntKind.u8
    i1076),
    (Addr.mk
    n18
    10
    none,
    Value.int
    IntKind.u8
    i1077),
    (Addr.mk
    n18
    11
    none,
    Value.int
    IntKind.u8
    i1078),
    (Addr.mk
    n16
    0
    none,
    Value.int
    IntKind.i32
    i1049),
    (Addr.mk
    n16
    1
    none,
    Value.int
    IntKind.i64
    i1050)]
    (T.ret
    (Value.bool
    (i1085 ==
    i1067 &&
    (i1086 ==
    i1068 &&
    (i1087 ==
    i1069 &&
    (i1088 ==
    i1070 &&
    (i1089 ==
    i1071 &&
    (i1090 ==
    i1072 &&
    (i1091 ==
    i1073 &&
    (i1092 ==
    i1074 &&
    (i1093 ==
    i1075 &&
    (i1094 ==
    i1076 &&
    (i1095 ==
    i1077 &&
    (i1096 ==
    i1078 &&
    true))))))))))))))))))
    (T.chk
    [(Addr.mk
    n16
    0
    none,
    Value.int
    IntKind.i32
    i1049),
    (Addr.mk
    n16
    1
    none,
    Value.int
    IntKind.i64
    i1050)]
    (T.chk
    [(Addr.mk
    n16
    0
    none,
    Value.int
    IntKind.i32
    i1049),
    (Addr.mk
    n16
    1
    none,
    Value.int
    IntKind.i64
    i1050)]
    (T.ret
    (Value.bool
    false)))))))
    (T.chk
    []
    (T.chk
    []
    (T.chk
    []
    (T.ret
    (Value.bool
    false)))))))
    (T.chk
    []
    (T.chk
    []
    (T.chk
    []
    (T.chk
    []
    (T.ret
    (Value.bool
    false)))))))))
    (T.loop 1
    [Value.int
    IntKind.i64
    0,
    Value.int
    IntKind.i64
    0]
    fun
    l1097
    j1098 =>
    T.asI
    IntKind.i64
    (List.headD
    l1097
    (Value.tuple
    (Array.mk
    [])))
    fun
    i1099 =>
    T.asI
    IntKind.i64
    (List.headD
    (List.tail
    l1097)
    (Value.tuple
    (Array.mk
    [])))
    fun
    i1100 =>
    T.ite
    (decide
    (i1100 <
    12))
    (T.drew
    (T.req
    (0 ≤
    i1100 ∧
    i1100 <
    12)
    (T.ldI
    IntKind.u8
    n1011
    (0 +
    Int.toNat
    i1100 *
    1)
    fun
    i1101 =>
    T.req
    (0 ≤
    i1100 ∧
    i1100 <
    12)
    (T.ldI
    IntKind.u8
    n902
    (0 +
    Int.toNat
    i1100 *
    1)
    fun
    i1102 =>
    T.ite
    (i1101 !=
    i1102)
    (T.drew
    (T.req
    (0 ≤
    i1100 ∧
    i1100 <
    12)
    (T.ldI
    IntKind.u8
    n1011
    (0 +
    Int.toNat
    i1100 *
    1)
    fun
    i1103 =>
    T.req
    (0 ≤
    i1100 ∧
    i1100 <
    12)
    (T.ldI
    IntKind.u8
    n902
    (0 +
    Int.toNat
    i1100 *
    1)
    fun
    i1104 =>
    T.ite
    (decide
    (i1103 <
    i1104))
    (T.next
    0
    [Value.int
    IntKind.i64
    (-1)]
    ([Value.pointer
    (some
    (Addr.mk
    n16
    0
    none)),
    Value.pointer
    (some
    (Addr.mk
    n17
    0
    none)),
    Value.pointer
    (some
    (Addr.mk
    n18
    0
    none)),
    Value.pointer
    (some
    (Addr.mk
    n1011
    0
    none))] =
    [Value.pointer
    (some
    (Addr.mk
    n16
    0
    none)),
    Value.pointer
    (some
    (Addr.mk
    n17
    0
    none)),
    Value.pointer
    (some
    (Addr.mk
    n18
    0
    none)),
    Value.pointer
    (some
    (Addr.mk
    n1011
    0
    none))] ∧ ([] : List Deferred) = []))
    (T.next
    0
    [Value.int
    IntKind.i64
    1]
    ([Value.pointer
    (some
    (Addr.mk
    n16
    0
    none)),
    Value.pointer
    (some
    (Addr.mk
    n17
    0
    none)),
    Value.pointer
    (some
    (Addr.mk
    n18
    0
    none)),
    Value.pointer
    (some
    (Addr.mk
    n1011
    0
    none))] =
    [Value.pointer
    (some
    (Addr.mk
    n16
    0
    none)),
    Value.pointer
    (some
    (Addr.mk
    n17
    0
    none)),
    Value.pointer
    (some
    (Addr.mk
    n18
    0
    none)),
    Value.pointer
    (some
    (Addr.mk
    n1011
    0
    none))] ∧ ([] : List Deferred) = []))))))
    (T.next
    1
    [Value.int
    IntKind.i64
    i1099,
    Value.int
    IntKind.i64
    (IntKind.wrap
    IntKind.i64
    (i1100 +
    1))]
    ([Value.pointer
    (some
    (Addr.mk
    n16
    0
    none)),
    Value.pointer
    (some
    (Addr.mk
    n17
    0
    none)),
    Value.pointer
    (some
    (Addr.mk
    n18
    0
    none)),
    Value.pointer
    (some
    (Addr.mk
    n1011
    0
    none)),
    Value.pointer
    (some
    (Addr.mk
    n902
    0
    none))] =
    [Value.pointer
    (some
    (Addr.mk
    n16
    0
    none)),
    Value.pointer
    (some
    (Addr.mk
    n17
    0
    none)),
    Value.pointer
    (some
    (Addr.mk
    n18
    0
    none)),
    Value.pointer
    (some
    (Addr.mk
    n1011
    0
    none)),
    Value.pointer
    (some
    (Addr.mk
    n902
    0
    none))] ∧ ([] : List Deferred) = []))))))
    (T.next
    0
    [Value.int
    IntKind.i64
    i1099]
    ([Value.pointer
    (some
    (Addr.mk
    n16
    0
    none)),
    Value.pointer
    (some
    (Addr.mk
    n17
    0
    none)),
    Value.pointer
    (some
    (Addr.mk
    n18
    0
    none)),
    Value.pointer
    (some
    (Addr.mk
    n1011
    0
    none))] =
    [Value.pointer
    (some
    (Addr.mk
    n16
    0
    none)),
    Value.pointer
    (some
    (Addr.mk
    n17
    0
    none)),
    Value.pointer
    (some
    (Addr.mk
    n18
    0
    none)),
    Value.pointer
    (some
    (Addr.mk
    n1011
    0
    none))] ∧ ([] : List Deferred) = []))))))))))))))))))))))))))))))))))))
    (T.new
    (Obj.cells
    (Array.mk
    [Value.int IntKind.u8 0, Value.int IntKind.u8 0, Value.int IntKind.u8 0, Value.int IntKind.u8 0, Value.int IntKind.u8 0,
    Value.int IntKind.u8 0, Value.int IntKind.u8 0, Value.int IntKind.u8 0, Value.int IntKind.u8 0, Value.int IntKind.u8 0,
    Value.int IntKind.u8 0, Value.int IntKind.u8 0])
    27)
    fun n1105 =>
    T.chk
    [(Addr.mk n17 0 none, Value.int IntKind.i32 i21), (Addr.mk n17 1 none, Value.int IntKind.i64 i22),
    (Addr.mk n16 0 none, Value.int IntKind.i32 i19), (Addr.mk n16 1 none, Value.int IntKind.i64 i20)]
    (T.call 12 [Value.agg (Array.mk [Value.int IntKind.i32 i19, Value.int IntKind.i64 i20])] fun v1106 =>
    T.asA v1106 fun l1107 =>
    T.req (List.length l1107 = 12)
    (T.asI IntKind.u8 (List.headD l1107 (Value.tuple (Array.mk []))) fun i1108 =>
    T.asI IntKind.u8 (List.headD (List.tail l1107) (Value.tuple (Array.mk []))) fun i1109 =>
    T.asI IntKind.u8 (List.headD (List.tail (List.tail l1107)) (Value.tuple (Array.mk []))) fun i1110 =>
    T.asI IntKind.u8 (List.headD (List.tail (List.tail (List.tail l1107))) (Value.tuple (Array.mk []))) fun i1111 =>
    T.asI IntKind.u8 (List.headD (List.tail (List.tail (List.tail (List.tail l1107)))) (Value.tuple (Array.mk [])))
    fun i1112 =>
    T.asI IntKind.u8
    (List.headD (List.tail (List.tail (List.tail (List.tail (List.tail l1107))))) (Value.tuple (Array.mk [])))
    fun i1113 =>
    T.asI IntKind.u8
    (List.headD (List.tail (List.tail (List.tail (List.tail (List.tail (List.tail l1107))))))
    (Value.tuple (Array.mk [])))
    fun i1114 =>
    T.asI IntKind.u8
    (List.headD (List.tail (List.tail (List.tail (List.tail (List.tail (List.tail (List.tail l1107)))))))
    (Value.tuple (Array.mk [])))
    fun i1115 =>
    T.asI IntKind.u8
    (List.headD
    (List.tail (List.tail (List.tail (List.tail (List.tail (List.tail (List.tail (List.tail l1107))))))))
    (Value.tuple (Array.mk [])))
    fun i1116 =>
    T.asI IntKind.u8
    (List.headD
    (List.tail
    (List.tail
    (List.tail (List.tail (List.tail (List.tail (List.tail (List.tail (List.tail l1107)))))))))
    (Value.tuple (Array.mk [])))
    fun i1117 =>
    T.asI IntKind.u8
    (List.headD
    (List.tail
    (List.tail
    (List.tail
    (List.tail (List.tail (List.tail (List.tail (List.tail (List.tail (List.tail l1107))))))))))
    (Value.tuple (Array.mk [])))
    fun i1118 =>
    T.asI IntKind.u8
    (List.headD
    (List.tail
    (List.tail
    (List.tail
    (List.tail
    (List.tail
    (List.tail (List.tail (List.tail (List.tail (List.tail (List.tail l1107)))))))))))
    (Value.tuple (Array.mk [])))
    fun i1119 =>
    T.chk
    [(Addr.mk n17 0 none, Value.int IntKind.i32 i21), (Addr.mk n17 1 none, Value.int IntKind.i64 i22)]
    (T.call 12 [Value.agg (Array.mk [Value.int IntKind.i32 i21, Value.int IntKind.i64 i22])]
    fun v1120 =>
    T.asA v1120 fun l1121 =>
    T.req (List.length l1121 = 12)
    (T.asI IntKind.u8 (List.headD l1121 (Value.tuple (Array.mk []))) fun i1122 =>
    T.asI IntKind.u8 (List.headD (List.tail l1121) (Value.tuple (Array.mk []))) fun i1123 =>
    T.asI IntKind.u8 (List.headD (List.tail (List.tail l1121)) (Value.tuple (Array.mk [])))
    fun i1124 =>
    T.asI IntKind.u8
    (List.headD (List.tail (List.tail (List.tail l1121))) (Value.tuple (Array.mk [])))
    fun i1125 =>
    T.asI IntKind.u8
    (List.headD (List.tail (List.tail (List.tail (List.tail l1121))))
    (Value.tuple (Array.mk [])))
    fun i1126 =>
    T.asI IntKind.u8
    (List.headD (List.tail (List.tail (List.tail (List.tail (List.tail l1121)))))
    (Value.tuple (Array.mk [])))
    fun i1127 =>
    T.asI IntKind.u8
    (List.headD
    (List.tail
    (List.tail (List.tail (List.tail (List.tail (List.tail l1121))))))
    (Value.tuple (Array.mk [])))
    fun i1128 =>
    T.asI IntKind.u8
    (List.headD
    (List.tail
    (List.tail
    (List.tail (List.tail (List.tail (List.tail (List.tail l1121)))))))
    (Value.tuple (Array.mk [])))
    fun i1129 =>
    T.asI IntKind.u8
    (List.headD
    (List.tail
    (List.tail
    (List.tail
    (List.tail
    (List.tail (List.tail (List.tail (List.tail l1121))))))))
    (Value.tuple (Array.mk [])))
    fun i1130 =>
    T.asI IntKind.u8
    (List.headD
    (List.tail
    (List.tail
    (List.tail
    (List.tail
    (List.tail
    (List.tail (List.tail (List.tail (List.tail l1121)))))))))
    (Value.tuple (Array.mk [])))
    fun i1131 =>
    T.asI IntKind.u8
    (List.headD
    (List.tail
    (List.tail
    (List.tail
    (List.tail
    (List.tail
    (List.tail
    (List.tail
    (List.tail (List.tail (List.tail l1121))))))))))
    (Value.tuple (Array.mk [])))
    fun i1132 =>
    T.asI IntKind.u8
    (List.headD
    (List.tail
    (List.tail
    (List.tail
    (List.tail
    (List.tail
    (List.tail
    (List.tail
    (List.tail
    (List.tail (List.tail (List.tail l1121)))))))))))
    (Value.tuple (Array.mk [])))
    fun i1133 =>
    T.chk []
    (T.st n1105 0 (Value.int IntKind.u8 i1108)
    (T.st n1105 1 (Value.int IntKind.u8 i1109)
    (T.st n1105 2 (Value.int IntKind.u8 i1110)
    (T.st n1105 3 (Value.int IntKind.u8 i1111)
    (T.st n1105 4 (Value.int IntKind.u8 i1112)
    (T.st n1105 5 (Value.int IntKind.u8 i1113)
    (T.st n1105 6 (Value.int IntKind.u8 i1114)
    (T.st n1105 7 (Value.int IntKind.u8 i1115)
    (T.st n1105 8 (Value.int IntKind.u8 i1116)
    (T.st n1105 9 (Value.int IntKind.u8 i1117)
    (T.st n1105 10 (Value.int IntKind.u8 i1118)
    (T.st n1105 11 (Value.int IntKind.u8 i1119)
    (T.chk []
    (T.st n902 0
    (Value.int IntKind.u8 i1122)
    (T.st n902 1
    (Value.int IntKind.u8 i1123)
    (T.st n902 2
    (Value.int IntKind.u8 i1124)
    (T.st n902 3
    (Value.int IntKind.u8 i1125)
    (T.st n902 4
    (Value.int IntKind.u8 i1126)
    (T.st n902 5
    (Value.int IntKind.u8 i1127)
    (T.st n902 6
    (Value.int IntKind.u8
    i1128)
    (T.st n902 7
    (Value.int IntKind.u8
    i1129)
    (T.st n902 8
    (Value.int IntKind.u8
    i1130)
    (T.st n902 9
    (Value.int
    IntKind.u8 i1131)
    (T.st n902 10
    (Value.int
    IntKind.u8
    i1132)
    (T.st n902 11
    (Value.int
    IntKind.u8
    i1133)
    (T.chk []
    (T.blk 0
    (fun l1134
    j1135 =>
    T.asI
    IntKind.i64
    (List.headD
    l1134
    (Value.tuple
    (Array.mk
    [])))
    fun
    i1136 =>
    T.drew
    (T.call
    11
    []
    fun
    v1137 =>
    T.asB
    v1137
    fun
    b1138 =>
    T.chk
    []
    (T.ite
    b1138
    (T.ldI
    IntKind.i32
    n16
    0
    fun
    i1139 =>
    T.ldI
    IntKind.i64
    n16
    1
    fun
    i1140 =>
    T.ldI
    IntKind.i32
    n17
    0
    fun
    i1141 =>
    T.ldI
    IntKind.i64
    n17
    1
    fun
    i1142 =>
    T.call
    10
    [Value.agg
    (Array.mk
    [Value.int
    IntKind.i32
    i1139,
    Value.int
    IntKind.i64
    i1140]),
    Value.agg
    (Array.mk
    [Value.int
    IntKind.i32
    i1141,
    Value.int
    IntKind.i64
    i1142])]
    fun
    v1143 =>
    T.asI
    IntKind.i64
    v1143
    fun
    i1144 =>
    T.chk
    []
    (T.ite
    (i1136 ==
    i1144)
    (T.ldI
    IntKind.u8
    n1105
    0
    fun
    i1145 =>
    T.ldI
    IntKind.u8
    n1105
    1
    fun
    i1146 =>
    T.ldI
    IntKind.u8
    n1105
    2
    fun
    i1147 =>
    T.ldI
    IntKind.u8
    n1105
    3
    fun
    i1148 =>
    T.ldI
    IntKind.u8
    n1105
    4
    fun
    i1149 =>
    T.ldI
    IntKind.u8
    n1105
    5
    fun
    i1150 =>
    T.ldI
    IntKind.u8
    n1105
    6
    fun
    i1151 =>
    T.ldI
    IntKind.u8
    n1105
    7
    fun
    i1152 =>
    T.ldI
    IntKind.u8
    n1105
    8
    fun
    i1153 =>
    T.ldI
    IntKind.u8
    n1105
    9
    fun
    i1154 =>
    T.ldI
    IntKind.u8
    n1105
    10
    fun
    i1155 =>
    T.ldI
    IntKind.u8
    n1105
    11
    fun
    i1156 =>
    T.ldI
    IntKind.i32
    n16
    0
    fun
    i1157 =>
    T.ldI
    IntKind.i64
    n16
    1
    fun
    i1158 =>
    T.call
    13
    [Value.agg
    (Array.mk
    [Value.int
    IntKind.u8
    i1145,
    Value.int
    IntKind.u8
    i1146,
    Value.int
    IntKind.u8
    i1147,
    Value.int
    IntKind.u8
    i1148,
    Value.int
    IntKind.u8
    i1149,
    Value.int
    IntKind.u8
    i1150,
    Value.int
    IntKind.u8
    i1151,
    Value.int
    IntKind.u8
    i1152,
    Value.int
    IntKind.u8
    i1153,
    Value.int
    IntKind.u8
    i1154,
    Value.int
    IntKind.u8
    i1155,
    Value.int
    IntKind.u8
    i1156])]
    fun
    v1159 =>
    T.asA
    v1159
    fun
    l1160 =>
    T.req
    (List.length
    l1160 =
    2)
    (T.asI
    IntKind.i32
    (List.headD
    l1160
    (Value.tuple
    (Array.mk
    [])))
    fun
    i1161 =>
    T.asI
    IntKind.i64
    (List.headD
    (List.tail
    l1160)
    (Value.tuple
    (Array.mk
    [])))
    fun
    i1162 =>
    T.chk
    [(Addr.mk
    n16
    0
    none,
    Value.int
    IntKind.i32
    i1157),
    (Addr.mk
    n16
    1
    none,
    Value.int
    IntKind.i64
    i1158)]
    (T.ite
    (i1161 ==
    i1157 &&
    (i1162 ==
    i1158 &&
    true))
    (T.ldI
    IntKind.u8
    n18
    0
    fun
    i1163 =>
    T.ldI
    IntKind.u8
    n18
    1
    fun
    i1164 =>
    T.ldI
    IntKind.u8
    n18
    2
    fun
    i1165 =>
    T.ldI
    IntKind.u8
    n18
    3
    fun
    i1166 =>
    T.ldI
    IntKind.u8
    n18
    4
    fun
    i1167 =>
    T.ldI
    IntKind.u8
    n18
    5
    fun
    i1168 =>
    T.ldI
    IntKind.u8
    n18
    6
    fun
    i1169 =>
    T.ldI
    IntKind.u8
    n18
    7
    fun
    i1170 =>
    T.ldI
    IntKind.u8
    n18
    8
    fun
    i1171 =>
    T.ldI
    IntKind.u8
    n18
    9
    fun
    i1172 =>
    T.ldI
    IntKind.u8
    n18
    10
    fun
    i1173 =>
    T.ldI
    IntKind.u8
    n18
    11
    fun
    i1174 =>
    T.ldI
    IntKind.u8
    n18
    0
    fun
    i1175 =>
    T.ldI
    IntKind.u8
    n18
    1
    fun
    i1176 =>
    T.ldI
    IntKind.u8
    n18
    2
    fun
    i1177 =>
    T.ldI
    IntKind.u8
    n18
    3
    fun
    i1178 =>
    T.ldI
    IntKind.u8
    n18
    4
    fun
    i1179 =>
    T.ldI
    IntKind.u8
    n18
    5
    fun
    i1180 =>
    T.ldI
    IntKind.u8
    n18
    6
    fun
    i1181 =>
    T.ldI
    IntKind.u8
    n18
    7
    fun
    i1182 =>
    T.ldI
    IntKind.u8
    n18
    8
    fun
    i1183 =>
    T.ldI
    IntKind.u8
    n18
    9
    fun
    i1184 =>
    T.ldI
    IntKind.u8
    n18
    10
    fun
    i1185 =>
    T.ldI
    IntKind.u8
    n18
    11
    fun
    i1186 =>
    T.call
    13
    [Value.agg
    (Array.mk
    [Value.int
    IntKind.u8
    i1163,
    Value.int
    IntKind.u8
    i1164,
    Value.int
    IntKind.u8
    i1165,
    Value.int
    IntKind.u8
    i1166,
    Value.int
    IntKind.u8
    i1167,
    Value.int
    IntKind.u8
    i1168,
    Value.int
    IntKind.u8
    i1169,
    Value.int
    IntKind.u8
    i1170,
    Value.int
    IntKind.u8
    i1171,
    Value.int
    IntKind.u8
    i1172,
    Value.int
    IntKind.u8
    i1173,
    Value.int
    IntKind.u8
    i1174])]
    fun
    v1187 =>
    T.asA
    v1187
    fun
    l1188 =>
    T.req
    (List.length
    l1188 =
    2)
    (T.asI
    IntKind.i32
    (List.headD
    l1188
    (Value.tuple
    (Array.mk
    [])))
    fun
    i1189 =>
    T.asI
    IntKind.i64
    (List.headD
    (List.tail
    l1188)
    (Value.tuple
    (Array.mk
    [])))
    fun
    i1190 =>
    T.chk
    [(Addr.mk
    n18
    0
    none,
    Value.int
    IntKind.u8
    i1175),
    (Addr.mk
    n18
    1
    none,
    Value.int
    IntKind.u8
    i1176),
    (Addr.mk
    n18
    2
    none,
    Value.int
    IntKind.u8
    i1177),
    (Addr.mk
    n18
    3
    none,
    Value.int
    IntKind.u8
    i1178),
    (Addr.mk
    n18
    4
    none,
    Value.int
    IntKind.u8
    i1179),
    (Addr.mk
    n18
    5
    none,
    Value.int
    IntKind.u8
    i1180),
    (Addr.mk
    n18
    6
    none,
    Value.int
    IntKind.u8
    i1181),
    (Addr.mk
    n18
    7
    none,
    Value.int
    IntKind.u8
    i1182),
    (Addr.mk
    n18
    8
    none,
    Value.int
    IntKind.u8
    i1183),
    (Addr.mk
    n18
    9
    none,
    Value.int
    IntKind.u8
    i1184),
    (Addr.mk
    n18
    10
    none,
    Value.int
    IntKind.u8
    i1185),
    (Addr.mk
    n18
    11
    none,
    Value.int
    IntKind.u8
    i1186),
    (Addr.mk
    n16
    0
    none,
    Value.int
    IntKind.i32
    i1157),
    (Addr.mk
    n16
    1
    none,
    Value.int
    IntKind.i64
    i1158)]
    (T.call
    12
    [Value.agg
    (Array.mk
    [Value.int
    IntKind.i32
    i1189,
    Value.int
    IntKind.i64
    i1190])]
    fun
    v1191 =>
    T.asA
    v1191
    fun
    l1192 =>
    T.req
    (List.length
    l1192 =
    12)
    (T.asI
    IntKind.u8
    (List.headD
    l1192
    (Value.tuple
    (Array.mk
    [])))
    fun
    i1193 =>
    T.asI
    IntKind.u8
    (List.headD
    (List.tail
    l1192)
    (Value.tuple
    (Array.mk
    [])))
    fun
    i1194 =>
    T.asI
    IntKind.u8
    (List.headD
    (List.tail
    (List.tail
    l1192))
    (Value.tuple
    (Array.mk
    [])))
    fun
    i1195 =>
    T.asI
    IntKind.u8
    (List.headD
    (List.tail
    (List.tail
    (List.tail
    l1192)))
    (Value.tuple
    (Array.mk
    [])))
    fun
    i1196 =>
    T.asI
    IntKind.u8
    (List.headD
    (List.tail
    (List.tail
    (List.tail
    (List.tail
    l1192))))
    (Value.tuple
    (Array.mk
    [])))
    fun
    i1197 =>
    T.asI
    IntKind.u8
    (List.headD
    (List.tail
    (List.tail
    (List.tail
    (List.tail
    (List.tail
    l1192)))))
    (Value.tuple
    (Array.mk
    [])))
    fun
    i1198 =>
    T.asI
    IntKind.u8
    (List.headD
    (List.tail
    (List.tail
    (List.tail
    (List.tail
    (List.tail
    (List.tail
    l1192))))))
    (Value.tuple
    (Array.mk
    [])))
    fun
    i1199 =>
    T.asI
    IntKind.u8
    (List.headD
    (List.tail
    (List.tail
    (List.tail
    (List.tail
    (List.tail
    (List.tail
    (List.tail
    l1192)))))))
    (Value.tuple
    (Array.mk
    [])))
    fun
    i1200 =>
    T.asI
    IntKind.u8
    (List.headD
    (List.tail
    (List.tail
    (List.tail
    (List.tail
    (List.tail
    (List.tail
    (List.tail
    (List.tail
    l1192))))))))
    (Value.tuple
    (Array.mk
    [])))
    fun
    i1201 =>
    T.asI
    IntKind.u8
    (List.headD
    (List.tail
    (List.tail
    (List.tail
    (List.tail
    (List.tail
    (List.tail
    (List.tail
    (List.tail
    (List.tail
    l1192)))))))))
    (Value.tuple
    (Array.mk
    [])))
    fun
    i1202 =>
    T.asI
    IntKind.u8
    (List.headD
    (List.tail
    (List.tail
    (List.tail
    (List.tail
    (List.tail
    (List.tail
    (List.tail
    (List.tail
    (List.tail
    (List.tail
    l1192))))))))))
    (Value.tuple
    (Array.mk
    [])))
    fun
    i1203 =>
    T.asI
    IntKind.u8
    (List.headD
    (List.tail
    (List.tail
    (List.tail
    (List.tail
    (List.tail
    (List.tail
    (List.tail
    (List.tail
    (List.tail
    (List.tail
    (List.tail
    l1192)))))))))))
    (Value.tuple
    (Array.mk
    [])))
    fun
    i1204 =>
    T.chk
    [(Addr.mk
    n18
    0
    none,
    Value.int
    IntKind.u8
    i1175),
    (Addr.mk
    n18
    1
    none,
    Value.int
    IntKind.u8
    i1176),
    (Addr.mk
    n18
    2
    none,
    Value.int
    IntKind.u8
    i1177),
    (Addr.mk
    n18
    3
    none,
    Value.int
    IntKind.u8
    i1178),
    (Addr.mk
    n18
    4
    none,
    Value.int
    IntKind.u8
    i1179),
    (Addr.mk
    n18
    5
    none,
    Value.int
    IntKind.u8
    i1180),
    (Addr.mk
    n18
    6
    none,
    Value.int
    IntKind.u8
    i1181),
    (Addr.mk
    n18
    7
    none,
    Value.int
    IntKind.u8
    i1182),
    (Addr.mk
    n18
    8
    none,
    Value.int
    IntKind.u8
    i1183),
    (Addr.mk
    n18
    9
    none,
    Value.int
    IntKind.u8
    i1184),
    (Addr.mk
    n18
    10
    none,
    Value.int
    IntKind.u8
    i1185),
    (Addr.mk
    n18
    11
    none,
    Value.int
    IntKind.u8
    i1186),
    (Addr.mk
    n16
    0
    none,
    Value.int
    IntKind.i32
    i1157),
    (Addr.mk
    n16
    1
    none,
    Value.int
    IntKind.i64
    i1158)]
    (T.ret
    (Value.bool
    (i1193 ==
    i1175 &&
    (i1194 ==
    i1176 &&
    (i1195 ==
    i1177 &&
    (i1196 ==
    i1178 &&
    (i1197 ==
    i1179 &&
    (i1198 ==
    i1180 &&
    (i1199 ==
    i1181 &&
    (i1200 ==
    i1182 &&
    (i1201 ==
    i1183 &&
    (i1202 ==
    i1184 &&
    (i1203 ==
    i1185 &&
    (i1204 ==
    i1186 &&
    true))))))))))))))))))
    (T.chk
    [(Addr.mk
    n16
    0
    none,
    Value.int
    IntKind.i32
    i1157),
    (Addr.mk
    n16
    1
    none,
    Value.int
    IntKind.i64
    i1158)]
    (T.chk
    [(Addr.mk
    n16
    0
    none,
    Value.int
    IntKind.i32
    i1157),
    (Addr.mk
    n16
    1
    none,
    Value.int
    IntKind.i64
    i1158)]
    (T.ret
    (Value.bool
    false)))))))
    (T.chk
    []
    (T.chk
    []
    (T.chk
    []
    (T.ret
    (Value.bool
    false)))))))
    (T.chk
    []
    (T.chk
    []
    (T.chk
    []
    (T.chk
    []
    (T.ret
    (Value.bool
    false)))))))))
    (T.loop 1
    [Value.int
    IntKind.i64
    0,
    Value.int
    IntKind.i64
    0]
    fun l1205
    j1206 =>
    T.asI
    IntKind.i64
    (List.headD
    l1205
    (Value.tuple
    (Array.mk
    [])))
    fun
    i1207 =>
    T.asI
    IntKind.i64
    (List.headD
    (List.tail
    l1205)
    (Value.tuple
    (Array.mk
    [])))
    fun
    i1208 =>
    T.ite
    (decide
    (i1208 <
    12))
    (T.drew
    (T.req
    (0 ≤
    i1208 ∧
    i1208 <
    12)
    (T.ldI
    IntKind.u8
    n1105
    (0 +
    Int.toNat
    i1208 *
    1)
    fun
    i1209 =>
    T.req
    (0 ≤
    i1208 ∧
    i1208 <
    12)
    (T.ldI
    IntKind.u8
    n902
    (0 +
    Int.toNat
    i1208 *
    1)
    fun
    i1210 =>
    T.ite
    (i1209 !=
    i1210)
    (T.drew
    (T.req
    (0 ≤
    i1208 ∧
    i1208 <
    12)
    (T.ldI
    IntKind.u8
    n1105
    (0 +
    Int.toNat
    i1208 *
    1)
    fun
    i1211 =>
    T.req
    (0 ≤
    i1208 ∧
    i1208 <
    12)
    (T.ldI
    IntKind.u8
    n902
    (0 +
    Int.toNat
    i1208 *
    1)
    fun
    i1212 =>
    T.ite
    (decide
    (i1211 <
    i1212))
    (T.next
    0
    [Value.int
    IntKind.i64
    (-1)]
    ([Value.pointer
    (some
    (Addr.mk
    n16
    0
    none)),
    Value.pointer
    (some
    (Addr.mk
    n17
    0
    none)),
    Value.pointer
    (some
    (Addr.mk
    n18
    0
    none)),
    Value.pointer
    (some
    (Addr.mk
    n1105
    0
    none))] =
    [Value.pointer
    (some
    (Addr.mk
    n16
    0
    none)),
    Value.pointer
    (some
    (Addr.mk
    n17
    0
    none)),
    Value.pointer
    (some
    (Addr.mk
    n18
    0
    none)),
    Value.pointer
    (some
    (Addr.mk
    n1105
    0
    none))] ∧ ([] : List Deferred) = []))
    (T.next
    0
    [Value.int
    IntKind.i64
    1]
    ([Value.pointer
    (some
    (Addr.mk
    n16
    0
    none)),
    Value.pointer
    (some
    (Addr.mk
    n17
    0
    none)),
    Value.pointer
    (some
    (Addr.mk
    n18
    0
    none)),
    Value.pointer
    (some
    (Addr.mk
    n1105
    0
    none))] =
    [Value.pointer
    (some
    (Addr.mk
    n16
    0
    none)),
    Value.pointer
    (some
    (Addr.mk
    n17
    0
    none)),
    Value.pointer
    (some
    (Addr.mk
    n18
    0
    none)),
    Value.pointer
    (some
    (Addr.mk
    n1105
    0
    none))] ∧ ([] : List Deferred) = []))))))
    (T.next
    1
    [Value.int
    IntKind.i64
    i1207,
    Value.int
    IntKind.i64
    (IntKind.wrap
    IntKind.i64
    (i1208 +
    1))]
    ([Value.pointer
    (some
    (Addr.mk
    n16
    0
    none)),
    Value.pointer
    (some
    (Addr.mk
    n17
    0
    none)),
    Value.pointer
    (some
    (Addr.mk
    n18
    0
    none)),
    Value.pointer
    (some
    (Addr.mk
    n1105
    0
    none)),
    Value.pointer
    (some
    (Addr.mk
    n902
    0
    none))] =
    [Value.pointer
    (some
    (Addr.mk
    n16
    0
    none)),
    Value.pointer
    (some
    (Addr.mk
    n17
    0
    none)),
    Value.pointer
    (some
    (Addr.mk
    n18
    0
    none)),
    Value.pointer
    (some
    (Addr.mk
    n1105
    0
    none)),
    Value.pointer
    (some
    (Addr.mk
    n902
    0
    none))] ∧ ([] : List Deferred) = []))))))
    (T.next
    0
    [Value.int
    IntKind.i64
    i1207]
    ([Value.pointer
    (some
    (Addr.mk
    n16
    0
    none)),
    Value.pointer
    (some
    (Addr.mk
    n17
    0
    none)),
    Value.pointer
    (some
    (Addr.mk
    n18
    0
    none)),
    Value.pointer
    (some
    (Addr.mk
    n1105
    0
    none))] =
    [Value.pointer
    (some
    (Addr.mk
    n16
    0
    none)),
    Value.pointer
    (some
    (Addr.mk
    n17
    0
    none)),
    Value.pointer
    (some
    (Addr.mk
    n18
    0
    none)),
    Value.pointer
    (some
    (Addr.mk
    n1105
    0
    none))] ∧ ([] : List Deferred) = [])))))))))))))))))))))))))))))))))))))))
theorem e4 (i0 : Int) (i1 : Int) (i2 : Int) (i3 : Int) (i4 : Int) (i5 : Int) (i6 : Int) (i7 : Int) (i8 : Int) (i9 : Int) (i10 : Int) (i11 : Int) (i12 : Int) (i13 : Int) (i14 : Int) (i15 : Int) : treeOf Try.prog Try.f4 (codeOf Try.f4) (.s .n (.s (.p [0, 2, 1, 3, 4, 5, 6, 7]) (.s .n (.c [(9, .int .i64)] [3, 4, 5, 7] (.s .n (.u (.l [(9, .int .i64), (15, .int .i64)] [3, 4, 5, 7, 8] (.s .n (.s .n (.s (.u (.s .n (.s (.p [0, 1, 2, 3, 4, 5, 6]) (.s (.s .n (.s (.s (.p [0, 1, 2, 3, 4, 5, 6]) .n) .n)) .n)))) .n)))))) (.s (.p [0, 1, 2, 3, 4, 5, 6, 7, 8, 9, 11, 10, 12, 13, 14, 15, 18, 16, 17, 19, 20, 21]) .n))))) [.v (.agg #[.int .i32 i0, .int .i64 i1]), .v (.agg #[.int .i32 i2, .int .i64 i3]), .v (.agg #[.int .u8 i4, .int .u8 i5, .int .u8 i6, .int .u8 i7, .int .u8 i8, .int .u8 i9, .int .u8 i10, .int .u8 i11, .int .u8 i12, .int .u8 i13, .int .u8 i14, .int .u8 i15])] = (t4 i0 i1 i2 i3 i4 i5 i6 i7 i8 i9 i10 i11 i12 i13 i14 i15) := by kernel_rfl
theorem c4 (i0 : Int) (i1 : Int) (i2 : Int) (i3 : Int) (i4 : Int) (i5 : Int) (i6 : Int) (i7 : Int) (i8 : Int) (i9 : Int) (i10 : Int) (i11 : Int) (i12 : Int) (i13 : Int) (i14 : Int) (i15 : Int) {w : World} {R : Ending → World → Prop} (h : (t4 i0 i1 i2 i3 i4 i5 i6 i7 i8 i9 i10 i11 i12 i13 i14 i15).sem Try.prog R ρ0 w) : Calls Try.prog 4 #[.agg #[.int .i32 i0, .int .i64 i1], .agg #[.int .i32 i2, .int .i64 i3], .agg #[.int .u8 i4, .int .u8 i5, .int .u8 i6, .int .u8 i7, .int .u8 i8, .int .u8 i9, .int .u8 i10, .int .u8 i11, .int .u8 i12, .int .u8 i13, .int .u8 i14, .int .u8 i15]] w R :=
  calls_of mixed Try.func4 rfl rfl (e4 i0 i1 i2 i3 i4 i5 i6 i7 i8 i9 i10 i11 i12 i13 i14 i15) h
end Go.Proofs.Yteimilnigiagjaa
