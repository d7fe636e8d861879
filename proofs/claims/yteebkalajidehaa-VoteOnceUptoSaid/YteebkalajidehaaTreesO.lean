/- The functions' trees, printed by a program (wip/tools/Emit.lean) and checked by the kernel against the model's own code. -/
import Derived.Test.YteebkalajidehaaTrees
import Derived.Test.YteebkalajidehaaProg
namespace Go.Proofs.Yteebkalajidehaa
open Go hiding Expr
open Go.Proofs.Yteebkalajidehaa.Tr
set_option linter.unusedVariables false
set_option maxRecDepth 100000
def t3 (i0 : Int) (o1 : Option Addr) (n2 n3 : Nat) : T :=
  T.blk 0
  (fun l4 j5 =>
    T.asI IntKind.i64 (List.headD l4 (Value.tuple (Array.mk []))) fun i6 =>
    T.loop 0 [Value.slice none 0 0, Value.int IntKind.i64 0] fun l7 j8 =>
    T.asS (List.headD l7 (Value.tuple (Array.mk []))) fun o9 n10 n11 =>
    T.asI IntKind.i64 (List.headD (List.tail l7) (Value.tuple (Array.mk []))) fun i12 =>
    T.ite (decide (i12 < i6))
    (T.call 6 [Value.agg (Array.mk [Value.int IntKind.i64 i6, Value.int IntKind.i64 i12]), Value.int IntKind.i64 0, Value.int IntKind.i64 (-1)]
    fun v13 =>
    T.asU v13 fun l14 =>
    T.req (List.length l14 = 2)
    (T.asP (List.headD l14 (Value.tuple (Array.mk []))) fun o15 =>
    T.asI IntKind.i64 (List.headD (List.tail l14) (Value.tuple (Array.mk []))) fun i16 =>
    T.ite (i16 != 0) (T.ret (Value.bool false))
    (T.new (Obj.cells (Array.mk [Value.pointer o15]) 24) fun n17 =>
    T.run (biV Builtin.append (Array.mk [23, 23]) 23 (Array.mk [Value.slice o9 n10 n11, Value.slice (some (Addr.mk n17 0 none)) 1 1]))
    fun v18 =>
    T.asS v18 fun o19 n20 n21 =>
    T.next 0 [Value.slice o19 n20 n21, Value.int IntKind.i64 (IntKind.wrap IntKind.i64 (i12 + 1))]
    ([Value.int IntKind.i64 i6, Value.slice o1 n2 n3, Value.int IntKind.i64 i6] =
    [Value.int IntKind.i64 i6, Value.slice o1 n2 n3, Value.int IntKind.i64 i6] ∧ ([] : List Deferred) = []))))
    (T.new (Obj.map (Array.mk []) 0) fun n22 =>
    T.new (Obj.map (Array.mk []) 0) fun n23 =>
    T.loop 0 [Value.int IntKind.i64 0] fun l24 j25 =>
    T.asI IntKind.i64 (List.headD l24 (Value.tuple (Array.mk []))) fun i26 =>
    T.ite (decide (i26 < (↑n2 : Int)))
    (T.req (0 ≤ i26 ∧ i26 < (↑n2 : Int))
    (T.sm o1 fun n27 n28 =>
    T.ldI IntKind.i64 n27 (n28 + Int.toNat i26 * 4) fun i29 =>
    T.ldI IntKind.i64 n27 (n28 + Int.toNat i26 * 4 + 1) fun i30 =>
    T.ldI IntKind.i64 n27 (n28 + Int.toNat i26 * 4 + 2) fun i31 =>
    T.ldI IntKind.i64 n27 (n28 + Int.toNat i26 * 4 + 3) fun i32 =>
    T.new
    (Obj.cells (Array.mk [Value.int IntKind.i64 0, Value.int IntKind.i64 0, Value.int IntKind.i64 0, Value.int IntKind.i64 0])
    33)
    fun n33 =>
    T.st n33 0 (Value.int IntKind.i64 i29)
    (T.st n33 1 (Value.int IntKind.i64 i30)
    (T.st n33 2 (Value.int IntKind.i64 i31)
    (T.st n33 3 (Value.int IntKind.i64 i32)
    (T.drew
    (T.ldI IntKind.i64 n33 0 fun i34 =>
    T.req (i6 ≠ 0)
    (T.ldI IntKind.i64 n33 1 fun i35 =>
    T.req (i6 ≠ 0)
    (T.drew
    (T.req
    (0 ≤ Int.tmod (bitsI BinOp.and IntKind.i64 i34 15) i6 ∧
    Int.tmod (bitsI BinOp.and IntKind.i64 i34 15) i6 < (↑n10 : Int))
    (T.sm o9 fun n36 n37 =>
    T.ldP n36 (n37 + Int.toNat (Int.tmod (bitsI BinOp.and IntKind.i64 i34 15) i6) * 1) fun o38 =>
    T.req
    (0 ≤ Int.tmod (bitsI BinOp.and IntKind.i64 i35 15) i6 ∧
    Int.tmod (bitsI BinOp.and IntKind.i64 i35 15) i6 < (↑n10 : Int))
    (T.sm o9 fun n39 n40 =>
    T.ldP n39 (n40 + Int.toNat (Int.tmod (bitsI BinOp.and IntKind.i64 i35 15) i6) * 1)
    fun o41 =>
    T.call 7 [Value.pointer o41] fun v42 =>
    T.asI IntKind.i64 v42 fun i43 =>
    T.ite
    (Int.tmod (bitsI BinOp.and IntKind.i64 i34 15) i6 ==
    Int.tmod (bitsI BinOp.and IntKind.i64 i35 15) i6)
    (T.call 8 [Value.pointer o38] fun v44 =>
    T.asI IntKind.i64 v44 fun i45 =>
    T.ite (i45 != 0) (T.ret (Value.bool false))
    (T.call 7 [Value.pointer o38] fun v46 =>
    T.asI IntKind.i64 v46 fun i47 =>
    T.ite (i47 != IntKind.wrap IntKind.i64 (i43 + 1))
    (T.ret (Value.bool false))
    (T.call 7 [Value.pointer o38] fun v48 =>
    T.asI IntKind.i64 v48 fun i49 =>
    T.run
    (muV 31 (Value.map (some n23))
    (Value.agg
    (Array.mk
    [Value.int IntKind.i64
    (Int.tmod (bitsI BinOp.and IntKind.i64 i34 15) i6),
    Value.int IntKind.i64 i49]))
    (Value.int IntKind.i64
    (Int.tmod (bitsI BinOp.and IntKind.i64 i34 15) i6)))
    fun v50 =>
    T.call 7 [Value.pointer o41] fun v51 =>
    T.asI IntKind.i64 v51 fun i52 =>
    T.ite (decide (i52 < i43)) (T.ret (Value.bool false))
    (T.call 13 [Value.pointer o38] fun v53 =>
    T.asB v53 fun b54 =>
    T.ite b54
    (T.call 7 [Value.pointer o38] fun v55 =>
    T.asI IntKind.i64 v55 fun i56 =>
    T.run
    (Instr.lookup 30 (Value.map (some n22))
    (Value.int IntKind.i64 i56) true)
    fun v57 =>
    T.asU v57 fun l58 =>
    T.req (List.length l58 = 2)
    (T.asI IntKind.i64
    (List.headD l58
    (Value.tuple (Array.mk [])))
    fun i59 =>
    T.asB
    (List.headD (List.tail l58)
    (Value.tuple (Array.mk [])))
    fun b60 =>
    T.ite b60
    (T.ite
    (i59 !=
    Int.tmod
    (bitsI BinOp.and IntKind.i64 i34
    15)
    i6)
    (T.ret (Value.bool false))
    (T.call 7 [Value.pointer o38]
    fun v61 =>
    T.asI IntKind.i64 v61 fun i62 =>
    T.run
    (muV 30 (Value.map (some n22))
    (Value.int IntKind.i64 i62)
    (Value.int IntKind.i64
    (Int.tmod
    (bitsI BinOp.and
    IntKind.i64 i34 15)
    i6)))
    fun v63 =>
    T.next 0
    [Value.int IntKind.i64
    (IntKind.wrap
    IntKind.i64
    (i26 + 1))]
    ([Value.int IntKind.i64 i6,
    Value.slice o9 n10
    n11,
    Value.map (some n22),
    Value.map (some n23),
    Value.slice o1 n2 n3,
    Value.int IntKind.i64
    (↑n2 : Int)] =
    [Value.int IntKind.i64
    i6,
    Value.slice o9 n10
    n11,
    Value.map (some n22),
    Value.map (some n23),
    Value.slice o1 n2 n3,
    Value.int IntKind.i64
    (↑n2 : Int)] ∧ ([] : List Deferred) = [])))
    (T.call 7 [Value.pointer o38]
    fun v64 =>
    T.asI IntKind.i64 v64 fun i65 =>
    T.run
    (muV 30 (Value.map (some n22))
    (Value.int IntKind.i64 i65)
    (Value.int IntKind.i64
    (Int.tmod
    (bitsI BinOp.and
    IntKind.i64 i34 15)
    i6)))
    fun v66 =>
    T.next 0
    [Value.int IntKind.i64
    (IntKind.wrap IntKind.i64
    (i26 + 1))]
    ([Value.int IntKind.i64 i6,
    Value.slice o9 n10 n11,
    Value.map (some n22),
    Value.map (some n23),
    Value.slice o1 n2 n3,
    Value.int IntKind.i64
    (↑n2 : Int)] =
    [Value.int IntKind.i64 i6,
    Value.slice o9 n10 n11,
    Value.map (some n22),
    Value.map (some n23),
    Value.slice o1 n2 n3,
    Value.int IntKind.i64
    (↑n2 : Int)] ∧ ([] : List Deferred) = []))))
    (T.next 0
    [Value.int IntKind.i64
    (IntKind.wrap IntKind.i64 (i26 + 1))]
    ([Value.int IntKind.i64 i6, Value.slice o9 n10 n11,
    Value.map (some n22), Value.map (some n23),
    Value.slice o1 n2 n3,
    Value.int IntKind.i64 (↑n2 : Int)] =
    [Value.int IntKind.i64 i6,
    Value.slice o9 n10 n11, Value.map (some n22),
    Value.map (some n23), Value.slice o1 n2 n3,
    Value.int IntKind.i64 (↑n2 : Int)] ∧ ([] : List Deferred) = []))))))
    (T.call 9 [Value.pointer o38] fun v67 =>
    T.asB v67 fun b68 =>
    T.ite b68
    (T.call 7 [Value.pointer o38] fun v69 =>
    T.asI IntKind.i64 v69 fun i70 =>
    T.new
    (Obj.cells
    (Array.mk
    [Value.int IntKind.i64 0, Value.int IntKind.i64 0,
    Value.int IntKind.i64 0, Value.int IntKind.i64 0])
    39)
    fun n71 =>
    T.st n71 0
    (Value.int IntKind.i64
    (Int.tmod (bitsI BinOp.and IntKind.i64 i34 15) i6))
    (T.st n71 1 (Value.int IntKind.i64 i70)
    (T.st n71 2 (Value.int IntKind.i64 5)
    (T.st n71 3 (Value.int IntKind.i64 5)
    (T.ldI IntKind.i64 n71 0 fun i72 =>
    T.ldI IntKind.i64 n71 1 fun i73 =>
    T.ldI IntKind.i64 n71 2 fun i74 =>
    T.ldI IntKind.i64 n71 3 fun i75 =>
    T.ldI IntKind.i64 n33 2 fun i76 =>
    T.ldI IntKind.i64 n33 3 fun i77 =>
    T.call 10
    [Value.pointer o41,
    Value.agg
    (Array.mk
    [Value.int IntKind.i64 i72,
    Value.int IntKind.i64 i73,
    Value.int IntKind.i64 i74,
    Value.int IntKind.i64 i75]),
    Value.int IntKind.i64
    (bitsI BinOp.and IntKind.i64 i76 7),
    Value.int IntKind.i64
    (bitsI BinOp.and IntKind.i64 i77 7)]
    fun v78 =>
    T.asB v78 fun b79 =>
    T.call 7 [Value.pointer o38] fun v80 =>
    T.asI IntKind.i64 v80 fun i81 =>
    T.run
    (Instr.lookup 31 (Value.map (some n23))
    (Value.agg
    (Array.mk
    [Value.int IntKind.i64
    (Int.tmod
    (bitsI BinOp.and IntKind.i64
    i35 15)
    i6),
    Value.int IntKind.i64 i81]))
    true)
    fun v82 =>
    T.asU v82 fun l83 =>
    T.req (List.length l83 = 2)
    (T.asI IntKind.i64
    (List.headD l83
    (Value.tuple (Array.mk [])))
    fun i84 =>
    T.asB
    (List.headD (List.tail l83)
    (Value.tuple (Array.mk [])))
    fun b85 =>
    T.ite b79
    (T.ite b85
    (T.ite
    (i84 !=
    Int.tmod
    (bitsI BinOp.and
    IntKind.i64 i34 15)
    i6)
    (T.ret (Value.bool false))
    (T.ldI IntKind.i64 n33 2
    fun i86 =>
    T.ldI IntKind.i64 n33 3
    fun i87 =>
    T.ldI IntKind.i64 n71 0
    fun i88 =>
    T.ldI IntKind.i64 n71
    1 fun i89 =>
    T.ldI IntKind.i64
    n71 2 fun i90 =>
    T.ldI IntKind.i64
    n71 3 fun i91 =>
    T.call 11
    [Value.agg
    (Array.mk
    [Value.int
    IntKind.i64
    0,
    Value.int
    IntKind.i64
    0,
    Value.int
    IntKind.i64
    (bitsI
    BinOp.and
    IntKind.i64
    i86
    7),
    Value.int
    IntKind.i64
    (bitsI
    BinOp.and
    IntKind.i64
    i87
    7)]),
    Value.agg
    (Array.mk
    [Value.int
    IntKind.i64
    i88,
    Value.int
    IntKind.i64
    i89,
    Value.int
    IntKind.i64
    i90,
    Value.int
    IntKind.i64
    i91])]
    fun v92 =>
    T.asB v92
    fun b93 =>
    T.ite b93
    (T.ret
    (Value.bool
    false))
    (T.ite b79
    (T.call
    7
    [Value.pointer
    o38]
    fun
    v94 =>
    T.asI
    IntKind.i64
    v94
    fun
    i95 =>
    T.run
    (muV
    31
    (Value.map
    (some
    n23))
    (Value.agg
    (Array.mk
    [Value.int
    IntKind.i64
    (Int.tmod
    (bitsI
    BinOp.and
    IntKind.i64
    i35
    15)
    i6),
    Value.int
    IntKind.i64
    i95]))
    (Value.int
    IntKind.i64
    (Int.tmod
    (bitsI
    BinOp.and
    IntKind.i64
    i34
    15)
    i6)))
    fun
    v96 =>
    T.call
    7
    [Value.pointer
    o38]
    fun
    v97 =>
    T.asI
    IntKind.i64
    v97
    fun
    i98 =>
    T.call
    12
    [Value.pointer
    o38,
    Value.int
    IntKind.i64
    (Int.tmod
    (bitsI
    BinOp.and
    IntKind.i64
    i35
    15)
    i6),
    Value.int
    IntKind.i64
    i98,
    Value.bool
    b79]
    fun
    v99 =>
    T.asB
    v99
    fun
    b100 =>
    T.call
    7
    [Value.pointer
    o41]
    fun
    v101 =>
    T.asI
    IntKind.i64
    v101
    fun
    i102 =>
    T.ite
    (decide
    (i102 <
    i43))
    (T.ret
    (Value.bool
    false))
    (T.call
    13
    [Value.pointer
    o38]
    fun
    v103 =>
    T.asB
    v103
    fun
    b104 =>
    T.ite
    b104
    (T.call
    7
    [Value.pointer
    o38]
    fun
    v105 =>
    T.asI
    IntKind.i64
    v105
    fun
    i106 =>
    T.run
    (Instr.lookup
    30
    (Value.map
    (some
    n22))
    (Value.int
    IntKind.i64
    i106)
    true)
    fun
    v107 =>
    T.asU
    v107
    fun
    l108 =>
    T.req
    (List.length
    l108 =
    2)
    (T.asI
    IntKind.i64
    (List.headD
    l108
    (Value.tuple
    (Array.mk
    [])))
    fun
    i109 =>
    T.asB
    (List.headD
    (List.tail
    l108)
    (Value.tuple
    (Array.mk
    [])))
    fun
    b110 =>
    T.ite
    b110
    (T.ite
    (i109 !=
    Int.tmod
    (bitsI
    BinOp.and
    IntKind.i64
    i34
    15)
    i6)
    (T.ret
    (Value.bool
    false))
    (T.call
    7
    [Value.pointer
    o38]
    fun
    v111 =>
    T.asI
    IntKind.i64
    v111
    fun
    i112 =>
    T.run
    (muV
    30
    (Value.map
    (some
    n22))
    (Value.int
    IntKind.i64
    i112)
    (Value.int
    IntKind.i64
    (Int.tmod
    (bitsI
    BinOp.and
    IntKind.i64
    i34
    15)
    i6)))
    fun
    v113 =>
    T.next
    0
    [Value.int
    IntKind.i64
    (IntKind.wrap
    IntKind.i64
    (i26 +
    1))]
    ([Value.int
    IntKind.i64
    i6,
    Value.slice
    o9
    n10
    n11,
    Value.map
    (some
    n22),
    Value.map
    (some
    n23),
    Value.slice
    o1
    n2
    n3,
    Value.int
    IntKind.i64
    (↑n2 :
    Int)] =
    [Value.int
    IntKind.i64
    i6,
    Value.slice
    o9
    n10
    n11,
    Value.map
    (some
    n22),
    Value.map
    (some
    n23),
    Value.slice
    o1
    n2
    n3,
    Value.int
    IntKind.i64
    (↑n2 :
    Int)] ∧ ([] : List Deferred) = [])))
    (T.call
    7
    [Value.pointer
    o38]
    fun
    v114 =>
    T.asI
    IntKind.i64
    v114
    fun
    i115 =>
    T.run
    (muV
    30
    (Value.map
    (some
    n22))
    (Value.int
    IntKind.i64
    i115)
    (Value.int
    IntKind.i64
    (Int.tmod
    (bitsI
    BinOp.and
    IntKind.i64
    i34
    15)
    i6)))
    fun
    v116 =>
    T.next
    0
    [Value.int
    IntKind.i64
    (IntKind.wrap
    IntKind.i64
    (i26 +
    1))]
    ([Value.int
    IntKind.i64
    i6,
    Value.slice
    o9
    n10
    n11,
    Value.map
    (some
    n22),
    Value.map
    (some
    n23),
    Value.slice
    o1
    n2
    n3,
    Value.int
    IntKind.i64
    (↑n2 :
    Int)] =
    [Value.int
    IntKind.i64
    i6,
    Value.slice
    o9
    n10
    n11,
    Value.map
    (some
    n22),
    Value.map
    (some
    n23),
    Value.slice
    o1
    n2
    n3,
    Value.int
    IntKind.i64
    (↑n2 :
    Int)] ∧ ([] : List Deferred) = []))))
    (T.next
    0
    [Value.int
    IntKind.i64
    (IntKind.wrap
    IntKind.i64
    (i26 +
    1))]
    ([Value.int
    IntKind.i64
    i6,
    Value.slice
    o9
    n10
    n11,
    Value.map
    (some
    n22),
    Value.map
    (some
    n23),
    Value.slice
    o1
    n2
    n3,
    Value.int
    IntKind.i64
    (↑n2 :
    Int)] =
    [Value.int
    IntKind.i64
    i6,
    Value.slice
    o9
    n10
    n11,
    Value.map
    (some
    n22),
    Value.map
    (some
    n23),
    Value.slice
    o1
    n2
    n3,
    Value.int
    IntKind.i64
    (↑n2 :
    Int)] ∧ ([] : List Deferred) = []))))
    (T.call
    7
    [Value.pointer
    o38]
    fun
    v117 =>
    T.asI
    IntKind.i64
    v117
    fun
    i118 =>
    T.call
    12
    [Value.pointer
    o38,
    Value.int
    IntKind.i64
    (Int.tmod
    (bitsI
    BinOp.and
    IntKind.i64
    i35
    15)
    i6),
    Value.int
    IntKind.i64
    i118,
    Value.bool
    b79]
    fun
    v119 =>
    T.asB
    v119
    fun
    b120 =>
    T.call
    7
    [Value.pointer
    o41]
    fun
    v121 =>
    T.asI
    IntKind.i64
    v121
    fun
    i122 =>
    T.ite
    (decide
    (i122 <
    i43))
    (T.ret
    (Value.bool
    false))
    (T.call
    13
    [Value.pointer
    o38]
    fun
    v123 =>
    T.asB
    v123
    fun
    b124 =>
    T.ite
    b124
    (T.call
    7
    [Value.pointer
    o38]
    fun
    v125 =>
    T.asI
    IntKind.i64
    v125
    fun
    i126 =>
    T.run
    (Instr.lookup
    30
    (Value.map
    (some
    n22))
    (Value.int
    IntKind.i64
    i126)
    true)
    fun
    v127 =>
    T.asU
    v127
    fun
    l128 =>
    T.req
    (List.length
    l128 =
    2)
    (T.asI
    IntKind.i64
    (List.headD
    l128
    (Value.tuple
    (Array.mk
    [])))
    fun
    i129 =>
    T.asB
    (List.headD
    (List.tail
    l128)
    (Value.tuple
    (Array.mk
    [])))
    fun
    b130 =>
    T.ite
    b130
    (T.ite
    (i129 !=
    Int.tmod
    (bitsI
    BinOp.and
    IntKind.i64
    i34
    15)
    i6)
    (T.ret
    (Value.bool
    false))
    (T.call
    7
    [Value.pointer
    o38]
    fun
    v131 =>
    T.asI
    IntKind.i64
    v131
    fun
    i132 =>
    T.run
    (muV
    30
    (Value.map
    (some
    n22))
    (Value.int
    IntKind.i64
    i132)
    (Value.int
    IntKind.i64
    (Int.tmod
    (bitsI
    BinOp.and
    IntKind.i64
    i34
    15)
    i6)))
    fun
    v133 =>
    T.next
    0
    [Value.int
    IntKind.i64
    (IntKind.wrap
    IntKind.i64
    (i26 +
    1))]
    ([Value.int
    IntKind.i64
    i6,
    Value.slice
    o9
    n10
    n11,
    Value.map
    (some
    n22),
    Value.map
    (some
    n23),
    Value.slice
    o1
    n2
    n3,
    Value.int
    IntKind.i64
    (↑n2 :
    Int)] =
    [Value.int
    IntKind.i64
    i6,
    Value.slice
    o9
    n10
    n11,
    Value.map
    (some
    n22),
    Value.map
    (some
    n23),
    Value.slice
    o1
    n2
    n3,
    Value.int
    IntKind.i64
    (↑n2 :
    Int)] ∧ ([] : List Deferred) = [])))
    (T.call
    7
    [Value.pointer
    o38]
    fun
    v134 =>
    T.asI
    IntKind.i64
    v134
    fun
    i135 =>
    T.run
    (muV
    30
    (Value.map
    (some
    n22))
    (Value.int
    IntKind.i64
    i135)
    (Value.int
    IntKind.i64
    (Int.tmod
    (bitsI
    BinOp.and
    IntKind.i64
    i34
    15)
    i6)))
    fun
    v136 =>
    T.next
    0
    [Value.int
    IntKind.i64
    (IntKind.wrap
    IntKind.i64
    (i26 +
    1))]
    ([Value.int
    IntKind.i64
    i6,
    Value.slice
    o9
    n10
    n11,
    Value.map
    (some
    n22),
    Value.map
    (some
    n23),
    Value.slice
    o1
    n2
    n3,
    Value.int
    IntKind.i64
    (↑n2 :
    Int)] =
    [Value.int
    IntKind.i64
    i6,
    Value.slice
    o9
    n10
    n11,
    Value.map
    (some
    n22),
    Value.map
    (some
    n23),
    Value.slice
    o1
    n2
    n3,
    Value.int
    IntKind.i64
    (↑n2 :
    Int)] ∧ ([] : List Deferred) = []))))
    (T.next
    0
    [Value.int
    IntKind.i64
    (IntKind.wrap
    IntKind.i64
    (i26 +
    1))]
    ([Value.int
    IntKind.i64
    i6,
    Value.slice
    o9
    n10
    n11,
    Value.map
    (some
    n22),
    Value.map
    (some
    n23),
    Value.slice
    o1
    n2
    n3,
    Value.int
    IntKind.i64
    (↑n2 :
    Int)] =
    [Value.int
    IntKind.i64
    i6,
    Value.slice
    o9
    n10
    n11,
    Value.map
    (some
    n22),
    Value.map
    (some
    n23),
    Value.slice
    o1
    n2
    n3,
    Value.int
    IntKind.i64
    (↑n2 :
    Int)] ∧ ([] : List Deferred) = [])))))))
    (T.ldI IntKind.i64 n33 2
    fun i137 =>
    T.ldI IntKind.i64 n33 3
    fun i138 =>
    T.ldI IntKind.i64 n71 0
    fun i139 =>
    T.ldI IntKind.i64 n71 1
    fun i140 =>
    T.ldI IntKind.i64 n71
    2 fun i141 =>
    T.ldI IntKind.i64
    n71 3 fun i142 =>
    T.call 11
    [Value.agg
    (Array.mk
    [Value.int
    IntKind.i64
    0,
    Value.int
    IntKind.i64
    0,
    Value.int
    IntKind.i64
    (bitsI
    BinOp.and
    IntKind.i64
    i137
    7),
    Value.int
    IntKind.i64
    (bitsI
    BinOp.and
    IntKind.i64
    i138
    7)]),
    Value.agg
    (Array.mk
    [Value.int
    IntKind.i64
    i139,
    Value.int
    IntKind.i64
    i140,
    Value.int
    IntKind.i64
    i141,
    Value.int
    IntKind.i64
    i142])]
    fun v143 =>
    T.asB v143
    fun b144 =>
    T.ite b144
    (T.ret
    (Value.bool
    false))
    (T.ite b79
    (T.call 7
    [Value.pointer
    o38]
    fun
    v145 =>
    T.asI
    IntKind.i64
    v145
    fun
    i146 =>
    T.run
    (muV
    31
    (Value.map
    (some
    n23))
    (Value.agg
    (Array.mk
    [Value.int
    IntKind.i64
    (Int.tmod
    (bitsI
    BinOp.and
    IntKind.i64
    i35
    15)
    i6),
    Value.int
    IntKind.i64
    i146]))
    (Value.int
    IntKind.i64
    (Int.tmod
    (bitsI
    BinOp.and
    IntKind.i64
    i34
    15)
    i6)))
    fun
    v147 =>
    T.call
    7
    [Value.pointer
    o38]
    fun
    v148 =>
    T.asI
    IntKind.i64
    v148
    fun
    i149 =>
    T.call
    12
    [Value.pointer
    o38,
    Value.int
    IntKind.i64
    (Int.tmod
    (bitsI
    BinOp.and
    IntKind.i64
    i35
    15)
    i6),
    Value.int
    IntKind.i64
    i149,
    Value.bool
    b79]
    fun
    v150 =>
    T.asB
    v150
    fun
    b151 =>
    T.call
    7
    [Value.pointer
    o41]
    fun
    v152 =>
    T.asI
    IntKind.i64
    v152
    fun
    i153 =>
    T.ite
    (decide
    (i153 <
    i43))
    (T.ret
    (Value.bool
    false))
    (T.call
    13
    [Value.pointer
    o38]
    fun
    v154 =>
    T.asB
    v154
    fun
    b155 =>
    T.ite
    b155
    (T.call
    7
    [Value.pointer
    o38]
    fun
    v156 =>
    T.asI
    IntKind.i64
    v156
    fun
    i157 =>
    T.run
    (Instr.lookup
    30
    (Value.map
    (some
    n22))
    (Value.int
    IntKind.i64
    i157)
    true)
    fun
    v158 =>
    T.asU
    v158
    fun
    l159 =>
    T.req
    (List.length
    l159 =
    2)
    (T.asI
    IntKind.i64
    (List.headD
    l159
    (Value.tuple
    (Array.mk
    [])))
    fun
    i160 =>
    T.asB
    (List.headD
    (List.tail
    l159)
    (Value.tuple
    (Array.mk
    [])))
    fun
    b161 =>
    T.ite
    b161
    (T.ite
    (i160 !=
    Int.tmod
    (bitsI
    BinOp.and
    IntKind.i64
    i34
    15)
    i6)
    (T.ret
    (Value.bool
    false))
    (T.call
    7
    [Value.pointer
    o38]
    fun
    v162 =>
    T.asI
    IntKind.i64
    v162
    fun
    i163 =>
    T.run
    (muV
    30
    (Value.map
    (some
    n22))
    (Value.int
    IntKind.i64
    i163)
    (Value.int
    IntKind.i64
    (Int.tmod
    (bitsI
    BinOp.and
    IntKind.i64
    i34
    15)
    i6)))
    fun
    v164 =>
    T.next
    0
    [Value.int
    IntKind.i64
    (IntKind.wrap
    IntKind.i64
    (i26 +
    1))]
    ([Value.int
    IntKind.i64
    i6,
    Value.slice
    o9
    n10
    n11,
    Value.map
    (some
    n22),
    Value.map
    (some
    n23),
    Value.slice
    o1
    n2
    n3,
    Value.int
    IntKind.i64
    (↑n2 :
    Int)] =
    [Value.int
    IntKind.i64
    i6,
    Value.slice
    o9
    n10
    n11,
    Value.map
    (some
    n22),
    Value.map
    (some
    n23),
    Value.slice
    o1
    n2
    n3,
    Value.int
    IntKind.i64
    (↑n2 :
    Int)] ∧ ([] : List Deferred) = [])))
    (T.call
    7
    [Value.pointer
    o38]
    fun
    v165 =>
    T.asI
    IntKind.i64
    v165
    fun
    i166 =>
    T.run
    (muV
    30
    (Value.map
    (some
    n22))
    (Value.int
    IntKind.i64
    i166)
    (Value.int
    IntKind.i64
    (Int.tmod
    (bitsI
    BinOp.and
    IntKind.i64
    i34
    15)
    i6)))
    fun
    v167 =>
    T.next
    0
    [Value.int
    IntKind.i64
    (IntKind.wrap
    IntKind.i64
    (i26 +
    1))]
    ([Value.int
    IntKind.i64
    i6,
    Value.slice
    o9
    n10
    n11,
    Value.map
    (some
    n22),
    Value.map
    (some
    n23),
    Value.slice
    o1
    n2
    n3,
    Value.int
    IntKind.i64
    (↑n2 :
    Int)] =
    [Value.int
    IntKind.i64
    i6,
    Value.slice
    o9
    n10
    n11,
    Value.map
    (some
    n22),
    Value.map
    (some
    n23),
    Value.slice
    o1
    n2
    n3,
    Value.int
    IntKind.i64
    (↑n2 :
    Int)] ∧ ([] : List Deferred) = []))))
    (T.next
    0
    [Value.int
    IntKind.i64
    (IntKind.wrap
    IntKind.i64
    (i26 +
    1))]
    ([Value.int
    IntKind.i64
    i6,
    Value.slice
    o9
    n10
    n11,
    Value.map
    (some
    n22),
    Value.map
    (some
    n23),
    Value.slice
    o1
    n2
    n3,
    Value.int
    IntKind.i64
    (↑n2 :
    Int)] =
    [Value.int
    IntKind.i64
    i6,
    Value.slice
    o9
    n10
    n11,
    Value.map
    (some
    n22),
    Value.map
    (some
    n23),
    Value.slice
    o1
    n2
    n3,
    Value.int
    IntKind.i64
    (↑n2 :
    Int)] ∧ ([] : List Deferred) = []))))
    (T.call 7
    [Value.pointer
    o38]
    fun
    v168 =>
    T.asI
    IntKind.i64
    v168
    fun
    i169 =>
    T.call
    12
    [Value.pointer
    o38,
    Value.int
    IntKind.i64
    (Int.tmod
    (bitsI
    BinOp.and
    IntKind.i64
    i35
    15)
    i6),
    Value.int
    IntKind.i64
    i169,
    Value.bool
    b79]
    fun
    v170 =>
    T.asB
    v170
    fun
    b171 =>
    T.call
    7
    [Value.pointer
    o41]
    fun
    v172 =>
    T.asI
    IntKind.i64
    v172
    fun
    i173 =>
    T.ite
    (decide
    (i173 <
    i43))
    (T.ret
    (Value.bool
    false))
    (T.call
    13
    [Value.pointer
    o38]
    fun
    v174 =>
    T.asB
    v174
    fun
    b175 =>
    T.ite
    b175
    (T.call
    7
    [Value.pointer
    o38]
    fun
    v176 =>
    T.asI
    IntKind.i64
    v176
    fun
    i177 =>
    T.run
    (Instr.lookup
    30
    (Value.map
    (some
    n22))
    (Value.int
    IntKind.i64
    i177)
    true)
    fun
    v178 =>
    T.asU
    v178
    fun
    l179 =>
    T.req
    (List.length
    l179 =
    2)
    (T.asI
    IntKind.i64
    (List.headD
    l179
    (Value.tuple
    (Array.mk
    [])))
    fun
    i180 =>
    T.asB
    (List.headD
    (List.tail
    l179)
    (Value.tuple
    (Array.mk
    [])))
    fun
    b181 =>
    T.ite
    b181
    (T.ite
    (i180 !=
    Int.tmod
    (bitsI
    BinOp.and
    IntKind.i64
    i34
    15)
    i6)
    (T.ret
    (Value.bool
    false))
    (T.call
    7
    [Value.pointer
    o38]
    fun
    v182 =>
    T.asI
    IntKind.i64
    v182
    fun
    i183 =>
    T.run
    (muV
    30
    (Value.map
    (some
    n22))
    (Value.int
    IntKind.i64
    i183)
    (Value.int
    IntKind.i64
    (Int.tmod
    (bitsI
    BinOp.and
    IntKind.i64
    i34
    15)
    i6)))
    fun
    v184 =>
    T.next
    0
    [Value.int
    IntKind.i64
    (IntKind.wrap
    IntKind.i64
    (i26 +
    1))]
    ([Value.int
    IntKind.i64
    i6,
    Value.slice
    o9
    n10
    n11,
    Value.map
    (some
    n22),
    Value.map
    (some
    n23),
    Value.slice
    o1
    n2
    n3,
    Value.int
    IntKind.i64
    (↑n2 :
    Int)] =
    [Value.int
    IntKind.i64
    i6,
    Value.slice
    o9
    n10
    n11,
    Value.map
    (some
    n22),
    Value.map
    (some
    n23),
    Value.slice
    o1
    n2
    n3,
    Value.int
    IntKind.i64
    (↑n2 :
    Int)] ∧ ([] : List Deferred) = [])))
    (T.call
    7
    [Value.pointer
    o38]
    fun
    v185 =>
    T.asI
    IntKind.i64
    v185
    fun
    i186 =>
    T.run
    (muV
    30
    (Value.map
    (some
    n22))
    (Value.int
    IntKind.i64
    i186)
    (Value.int
    IntKind.i64
    (Int.tmod
    (bitsI
    BinOp.and
    IntKind.i64
    i34
    15)
    i6)))
    fun
    v187 =>
    T.next
    0
    [Value.int
    IntKind.i64
    (IntKind.wrap
    IntKind.i64
    (i26 +
    1))]
    ([Value.int
    IntKind.i64
    i6,
    Value.slice
    o9
    n10
    n11,
    Value.map
    (some
    n22),
    Value.map
    (some
    n23),
    Value.slice
    o1
    n2
    n3,
    Value.int
    IntKind.i64
    (↑n2 :
    Int)] =
    [Value.int
    IntKind.i64
    i6,
    Value.slice
    o9
    n10
    n11,
    Value.map
    (some
    n22),
    Value.map
    (some
    n23),
    Value.slice
    o1
    n2
    n3,
    Value.int
    IntKind.i64
    (↑n2 :
    Int)] ∧ ([] : List Deferred) = []))))
    (T.next
    0
    [Value.int
    IntKind.i64
    (IntKind.wrap
    IntKind.i64
    (i26 +
    1))]
    ([Value.int
    IntKind.i64
    i6,
    Value.slice
    o9
    n10
    n11,
    Value.map
    (some
    n22),
    Value.map
    (some
    n23),
    Value.slice
    o1
    n2
    n3,
    Value.int
    IntKind.i64
    (↑n2 :
    Int)] =
    [Value.int
    IntKind.i64
    i6,
    Value.slice
    o9
    n10
    n11,
    Value.map
    (some
    n22),
    Value.map
    (some
    n23),
    Value.slice
    o1
    n2
    n3,
    Value.int
    IntKind.i64
    (↑n2 :
    Int)] ∧ ([] : List Deferred) = [])))))))
    (T.ite b79
    (T.call 7 [Value.pointer o38]
    fun v188 =>
    T.asI IntKind.i64 v188
    fun i189 =>
    T.run
    (muV 31
    (Value.map (some n23))
    (Value.agg
    (Array.mk
    [Value.int
    IntKind.i64
    (Int.tmod
    (bitsI
    BinOp.and
    IntKind.i64
    i35 15)
    i6),
    Value.int
    IntKind.i64
    i189]))
    (Value.int IntKind.i64
    (Int.tmod
    (bitsI BinOp.and
    IntKind.i64 i34
    15)
    i6)))
    fun v190 =>
    T.call 7
    [Value.pointer o38]
    fun v191 =>
    T.asI IntKind.i64 v191
    fun i192 =>
    T.call 12
    [Value.pointer
    o38,
    Value.int
    IntKind.i64
    (Int.tmod
    (bitsI
    BinOp.and
    IntKind.i64
    i35 15)
    i6),
    Value.int
    IntKind.i64
    i192,
    Value.bool b79]
    fun v193 =>
    T.asB v193
    fun b194 =>
    T.call 7
    [Value.pointer
    o41]
    fun v195 =>
    T.asI
    IntKind.i64
    v195
    fun i196 =>
    T.ite
    (decide
    (i196 <
    i43))
    (T.ret
    (Value.bool
    false))
    (T.call 13
    [Value.pointer
    o38]
    fun
    v197 =>
    T.asB
    v197
    fun
    b198 =>
    T.ite
    b198
    (T.call
    7
    [Value.pointer
    o38]
    fun
    v199 =>
    T.asI
    IntKind.i64
    v199
    fun
    i200 =>
    T.run
    (Instr.lookup
    30
    (Value.map
    (some
    n22))
    (Value.int
    IntKind.i64
    i200)
    true)
    fun
    v201 =>
    T.asU
    v201
    fun
    l202 =>
    T.req
    (List.length
    l202 =
    2)
    (T.asI
    IntKind.i64
    (List.headD
    l202
    (Value.tuple
    (Array.mk
    [])))
    fun
    i203 =>
    T.asB
    (List.headD
    (List.tail
    l202)
    (Value.tuple
    (Array.mk
    [])))
    fun
    b204 =>
    T.ite
    b204
    (T.ite
    (i203 !=
    Int.tmod
    (bitsI
    BinOp.and
    IntKind.i64
    i34
    15)
    i6)
    (T.ret
    (Value.bool
    false))
    (T.call
    7
    [Value.pointer
    o38]
    fun
    v205 =>
    T.asI
    IntKind.i64
    v205
    fun
    i206 =>
    T.run
    (muV
    30
    (Value.map
    (some
    n22))
    (Value.int
    IntKind.i64
    i206)
    (Value.int
    IntKind.i64
    (Int.tmod
    (bitsI
    BinOp.and
    IntKind.i64
    i34
    15)
    i6)))
    fun
    v207 =>
    T.next
    0
    [Value.int
    IntKind.i64
    (IntKind.wrap
    IntKind.i64
    (i26 +
    1))]
    ([Value.int
    IntKind.i64
    i6,
    Value.slice
    o9
    n10
    n11,
    Value.map
    (some
    n22),
    Value.map
    (some
    n23),
    Value.slice
    o1
    n2
    n3,
    Value.int
    IntKind.i64
    (↑n2 :
    Int)] =
    [Value.int
    IntKind.i64
    i6,
    Value.slice
    o9
    n10
    n11,
    Value.map
    (some
    n22),
    Value.map
    (some
    n23),
    Value.slice
    o1
    n2
    n3,
    Value.int
    IntKind.i64
    (↑n2 :
    Int)] ∧ ([] : List Deferred) = [])))
    (T.call
    7
    [Value.pointer
    o38]
    fun
    v208 =>
    T.asI
    IntKind.i64
    v208
    fun
    i209 =>
    T.run
    (muV
    30
    (Value.map
    (some
    n22))
    (Value.int
    IntKind.i64
    i209)
    (Value.int
    IntKind.i64
    (Int.tmod
    (bitsI
    BinOp.and
    IntKind.i64
    i34
    15)
    i6)))
    fun
    v210 =>
    T.next
    0
    [Value.int
    IntKind.i64
    (IntKind.wrap
    IntKind.i64
    (i26 +
    1))]
    ([Value.int
    IntKind.i64
    i6,
    Value.slice
    o9
    n10
    n11,
    Value.map
    (some
    n22),
    Value.map
    (some
    n23),
    Value.slice
    o1
    n2
    n3,
    Value.int
    IntKind.i64
    (↑n2 :
    Int)] =
    [Value.int
    IntKind.i64
    i6,
    Value.slice
    o9
    n10
    n11,
    Value.map
    (some
    n22),
    Value.map
    (some
    n23),
    Value.slice
    o1
    n2
    n3,
    Value.int
    IntKind.i64
    (↑n2 :
    Int)] ∧ ([] : List Deferred) = []))))
    (T.next
    0
    [Value.int
    IntKind.i64
    (IntKind.wrap
    IntKind.i64
    (i26 +
    1))]
    ([Value.int
    IntKind.i64
    i6,
    Value.slice
    o9
    n10
    n11,
    Value.map
    (some
    n22),
    Value.map
    (some
    n23),
    Value.slice
    o1
    n2
    n3,
    Value.int
    IntKind.i64
    (↑n2 :
    Int)] =
    [Value.int
    IntKind.i64
    i6,
    Value.slice
    o9
    n10
    n11,
    Value.map
    (some
    n22),
    Value.map
    (some
    n23),
    Value.slice
    o1
    n2
    n3,
    Value.int
    IntKind.i64
    (↑n2 :
    Int)] ∧ ([] : List Deferred) = []))))
    (T.call 7 [Value.pointer o38]
    fun v211 =>
    T.asI IntKind.i64 v211
    fun i212 =>
    T.call 12
    [Value.pointer o38,
    Value.int IntKind.i64
    (Int.tmod
    (bitsI BinOp.and
    IntKind.i64 i35
    15)
    i6),
    Value.int IntKind.i64
    i212,
    Value.bool b79]
    fun v213 =>
    T.asB v213 fun b214 =>
    T.call 7
    [Value.pointer o41]
    fun v215 =>
    T.asI IntKind.i64
    v215 fun i216 =>
    T.ite
    (decide
    (i216 < i43))
    (T.ret
    (Value.bool
    false))
    (T.call 13
    [Value.pointer
    o38]
    fun v217 =>
    T.asB v217
    fun b218 =>
    T.ite b218
    (T.call 7
    [Value.pointer
    o38]
    fun
    v219 =>
    T.asI
    IntKind.i64
    v219
    fun
    i220 =>
    T.run
    (Instr.lookup
    30
    (Value.map
    (some
    n22))
    (Value.int
    IntKind.i64
    i220)
    true)
    fun
    v221 =>
    T.asU
    v221
    fun
    l222 =>
    T.req
    (List.length
    l222 =
    2)
    (T.asI
    IntKind.i64
    (List.headD
    l222
    (Value.tuple
    (Array.mk
    [])))
    fun
    i223 =>
    T.asB
    (List.headD
    (List.tail
    l222)
    (Value.tuple
    (Array.mk
    [])))
    fun
    b224 =>
    T.ite
    b224
    (T.ite
    (i223 !=
    Int.tmod
    (bitsI
    BinOp.and
    IntKind.i64
    i34
    15)
    i6)
    (T.ret
    (Value.bool
    false))
    (T.call
    7
    [Value.pointer
    o38]
    fun
    v225 =>
    T.asI
    IntKind.i64
    v225
    fun
    i226 =>
    T.run
    (muV
    30
    (Value.map
    (some
    n22))
    (Value.int
    IntKind.i64
    i226)
    (Value.int
    IntKind.i64
    (Int.tmod
    (bitsI
    BinOp.and
    IntKind.i64
    i34
    15)
    i6)))
    fun
    v227 =>
    T.next
    0
    [Value.int
    IntKind.i64
    (IntKind.wrap
    IntKind.i64
    (i26 +
    1))]
    ([Value.int
    IntKind.i64
    i6,
    Value.slice
    o9
    n10
    n11,
    Value.map
    (some
    n22),
    Value.map
    (some
    n23),
    Value.slice
    o1
    n2
    n3,
    Value.int
    IntKind.i64
    (↑n2 :
    Int)] =
    [Value.int
    IntKind.i64
    i6,
    Value.slice
    o9
    n10
    n11,
    Value.map
    (some
    n22),
    Value.map
    (some
    n23),
    Value.slice
    o1
    n2
    n3,
    Value.int
    IntKind.i64
    (↑n2 :
    Int)] ∧ ([] : List Deferred) = [])))
    (T.call
    7
    [Value.pointer
    o38]
    fun
    v228 =>
    T.asI
    IntKind.i64
    v228
    fun
    i229 =>
    T.run
    (muV
    30
    (Value.map
    (some
    n22))
    (Value.int
    IntKind.i64
    i229)
    (Value.int
    IntKind.i64
    (Int.tmod
    (bitsI
    BinOp.and
    IntKind.i64
    i34
    15)
    i6)))
    fun
    v230 =>
    T.next
    0
    [Value.int
    IntKind.i64
    (IntKind.wrap
    IntKind.i64
    (i26 +
    1))]
    ([Value.int
    IntKind.i64
    i6,
    Value.slice
    o9
    n10
    n11,
    Value.map
    (some
    n22),
    Value.map
    (some
    n23),
    Value.slice
    o1
    n2
    n3,
    Value.int
    IntKind.i64
    (↑n2 :
    Int)] =
    [Value.int
    IntKind.i64
    i6,
    Value.slice
    o9
    n10
    n11,
    Value.map
    (some
    n22),
    Value.map
    (some
    n23),
    Value.slice
    o1
    n2
    n3,
    Value.int
    IntKind.i64
    (↑n2 :
    Int)] ∧ ([] : List Deferred) = []))))
    (T.next 0
    [Value.int
    IntKind.i64
    (IntKind.wrap
    IntKind.i64
    (i26 +
    1))]
    ([Value.int
    IntKind.i64
    i6,
    Value.slice
    o9
    n10
    n11,
    Value.map
    (some
    n22),
    Value.map
    (some
    n23),
    Value.slice
    o1
    n2
    n3,
    Value.int
    IntKind.i64
    (↑n2 :
    Int)] =
    [Value.int
    IntKind.i64
    i6,
    Value.slice
    o9
    n10
    n11,
    Value.map
    (some
    n22),
    Value.map
    (some
    n23),
    Value.slice
    o1
    n2
    n3,
    Value.int
    IntKind.i64
    (↑n2 :
    Int)] ∧ ([] : List Deferred) = [])))))))))))
    (T.call 7 [Value.pointer o41] fun v231 =>
    T.asI IntKind.i64 v231 fun i232 =>
    T.ite (decide (i232 < i43)) (T.ret (Value.bool false))
    (T.call 13 [Value.pointer o38] fun v233 =>
    T.asB v233 fun b234 =>
    T.ite b234
    (T.call 7 [Value.pointer o38] fun v235 =>
    T.asI IntKind.i64 v235 fun i236 =>
    T.run
    (Instr.lookup 30 (Value.map (some n22))
    (Value.int IntKind.i64 i236) true)
    fun v237 =>
    T.asU v237 fun l238 =>
    T.req (List.length l238 = 2)
    (T.asI IntKind.i64
    (List.headD l238 (Value.tuple (Array.mk [])))
    fun i239 =>
    T.asB
    (List.headD (List.tail l238)
    (Value.tuple (Array.mk [])))
    fun b240 =>
    T.ite b240
    (T.ite
    (i239 !=
    Int.tmod (bitsI BinOp.and IntKind.i64 i34 15)
    i6)
    (T.ret (Value.bool false))
    (T.call 7 [Value.pointer o38] fun v241 =>
    T.asI IntKind.i64 v241 fun i242 =>
    T.run
    (muV 30 (Value.map (some n22))
    (Value.int IntKind.i64 i242)
    (Value.int IntKind.i64
    (Int.tmod
    (bitsI BinOp.and IntKind.i64 i34 15)
    i6)))
    fun v243 =>
    T.next 0
    [Value.int IntKind.i64
    (IntKind.wrap IntKind.i64
    (i26 + 1))]
    ([Value.int IntKind.i64 i6,
    Value.slice o9 n10 n11,
    Value.map (some n22),
    Value.map (some n23),
    Value.slice o1 n2 n3,
    Value.int IntKind.i64
    (↑n2 : Int)] =
    [Value.int IntKind.i64 i6,
    Value.slice o9 n10 n11,
    Value.map (some n22),
    Value.map (some n23),
    Value.slice o1 n2 n3,
    Value.int IntKind.i64
    (↑n2 : Int)] ∧ ([] : List Deferred) = [])))
    (T.call 7 [Value.pointer o38] fun v244 =>
    T.asI IntKind.i64 v244 fun i245 =>
    T.run
    (muV 30 (Value.map (some n22))
    (Value.int IntKind.i64 i245)
    (Value.int IntKind.i64
    (Int.tmod
    (bitsI BinOp.and IntKind.i64 i34 15)
    i6)))
    fun v246 =>
    T.next 0
    [Value.int IntKind.i64
    (IntKind.wrap IntKind.i64 (i26 + 1))]
    ([Value.int IntKind.i64 i6,
    Value.slice o9 n10 n11,
    Value.map (some n22),
    Value.map (some n23),
    Value.slice o1 n2 n3,
    Value.int IntKind.i64 (↑n2 : Int)] =
    [Value.int IntKind.i64 i6,
    Value.slice o9 n10 n11,
    Value.map (some n22),
    Value.map (some n23),
    Value.slice o1 n2 n3,
    Value.int IntKind.i64 (↑n2 : Int)] ∧ ([] : List Deferred) = []))))
    (T.next 0
    [Value.int IntKind.i64 (IntKind.wrap IntKind.i64 (i26 + 1))]
    ([Value.int IntKind.i64 i6, Value.slice o9 n10 n11,
    Value.map (some n22), Value.map (some n23),
    Value.slice o1 n2 n3, Value.int IntKind.i64 (↑n2 : Int)] =
    [Value.int IntKind.i64 i6, Value.slice o9 n10 n11,
    Value.map (some n22), Value.map (some n23),
    Value.slice o1 n2 n3, Value.int IntKind.i64 (↑n2 : Int)] ∧ ([] : List Deferred) = [])))))))))))))))))
    (T.call 14 [] fun v247 => T.asB v247 fun b248 => T.ret (Value.bool b248))))
  (T.req ((5 : Int) ≠ 0)
    (T.next 0 [Value.int IntKind.i64 (IntKind.wrap IntKind.i64 (1 + Int.tmod (bitsI BinOp.and IntKind.i64 i0 15) 5))]
    ([Value.slice o1 n2 n3] = [Value.slice o1 n2 n3] ∧ ([] : List Deferred) = [])))
theorem e3 (i0 : Int) (o1 : Option Addr) (n2 n3 : Nat) : treeOf Try.prog Try.f3 (codeOf Try.f3) (.s .n (.c [(0, .int .i64)] [1] .n (.s .n (.s (.s .n (.u (.l [(5, .slice), (29, .int .i64)] [0, 1, 28] .n))) (.s .n (.s .n (.s (.s .n (.u (.l [(50, .int .i64)] [0, 5, 9, 10, 48, 49] (.s .n (.s .n (.s (.u (.s .n (.s (.p [0, 1, 2, 3, 4, 5, 6, 7, 8, 9, 10, 11]) (.s (.p [0, 1, 2, 3, 4, 5, 6, 7, 8, 9]) .n)))) .n)))))) .n))))))) [.v (.int .i64 i0), .v (.slice o1 n2 n3)] = (t3 i0 o1 n2 n3) := by kernel_rfl
theorem c3 (i0 : Int) (o1 : Option Addr) (n2 n3 : Nat) {w : World} {R : Ending → World → Prop} (h : (t3 i0 o1 n2 n3).sem Try.prog R ρ0 w) : Calls Try.prog 3 #[.int .i64 i0, .slice o1 n2 n3] w R :=
  calls_of mixed Try.func3 rfl rfl (e3 i0 o1 n2 n3) h
end Go.Proofs.Yteebkalajidehaa
