/- The functions' trees, printed by a program (wip/tools/Emit.lean) and checked by the kernel against the model's own code. -/
import Derived.Test.YtcmdbaafnbdpbaaTreesR
import Derived.Test.YtcmdbaafnbdpbaaProg
namespace Go.Proofs.Ytcmdbaafnbdpbaa
open Go hiding Expr
open Go.Proofs.Ytcmdbaafnbdpbaa.Tr
set_option linter.unusedVariables false
set_option maxRecDepth 100000
def t3 (o0 : Option Addr) (n1 n2 : Nat) : T :=
  T.call 10 [] fun v3 =>
  T.asP v3 fun o4 =>
    T.blk 0
    (fun l5 j6 =>
    T.new (Obj.map (Array.mk []) 0) fun n7 =>
    T.new (Obj.map (Array.mk []) 0) fun n8 =>
    T.loop 0 [Value.int IntKind.i64 0] fun l9 j10 =>
    T.asI IntKind.i64 (List.headD l9 (Value.tuple (Array.mk []))) fun i11 =>
    T.ite (decide (i11 < (↑n1 : Int)))
    (T.req (0 ≤ i11 ∧ i11 < (↑n1 : Int))
    (T.sm o0 fun n12 n13 =>
    T.ldI IntKind.i64 n12 (n13 + Int.toNat i11 * 9) fun i14 =>
    T.ldI IntKind.i64 n12 (n13 + Int.toNat i11 * 9 + 1) fun i15 =>
    T.ldB n12 (n13 + Int.toNat i11 * 9 + 2) fun b16 =>
    T.ldB n12 (n13 + Int.toNat i11 * 9 + 3) fun b17 =>
    T.ldI IntKind.i64 n12 (n13 + Int.toNat i11 * 9 + 4) fun i18 =>
    T.ldS n12 (n13 + Int.toNat i11 * 9 + 5) fun o19 n20 n21 =>
    T.ldI IntKind.i64 n12 (n13 + Int.toNat i11 * 9 + 6) fun i22 =>
    T.ldI IntKind.i64 n12 (n13 + Int.toNat i11 * 9 + 7) fun i23 =>
    T.ldI IntKind.i64 n12 (n13 + Int.toNat i11 * 9 + 8) fun i24 =>
    T.new
    (Obj.cells
    (Array.mk
    [Value.int IntKind.i64 0, Value.int IntKind.i64 0, Value.bool false, Value.bool false, Value.int IntKind.i64 0,
    Value.slice none 0 0, Value.int IntKind.i64 0, Value.int IntKind.i64 0, Value.int IntKind.i64 0])
    32)
    fun n25 =>
    T.st n25 0 (Value.int IntKind.i64 i14)
    (T.st n25 1 (Value.int IntKind.i64 i15)
    (T.st n25 2 (Value.bool b16)
    (T.st n25 3 (Value.bool b17)
    (T.st n25 4 (Value.int IntKind.i64 i18)
    (T.st n25 5 (Value.slice o19 n20 n21)
    (T.st n25 6 (Value.int IntKind.i64 i22)
    (T.st n25 7 (Value.int IntKind.i64 i23)
    (T.st n25 8 (Value.int IntKind.i64 i24)
    (T.blk 1
    (fun l26 j27 =>
    T.run (Instr.range 26 (Value.map (some n7))) fun v28 =>
    T.asP v28 fun o29 =>
    T.sm o29 fun n30 n31 =>
    T.req (n31 = 0)
    (T.loop 1 [] fun l32 j33 =>
    T.run (Instr.next (Value.pointer (some (Addr.mk n30 0 none))) false 0) fun v34 =>
    T.asU v34 fun l35 =>
    T.ite (decide (List.length l35 = 1))
    (T.req (l35 = [Value.bool false])
    (T.ite false
    (T.run (Instr.entry (Value.pointer (some (Addr.mk n30 0 none)))) fun v36 =>
    T.asU v36 fun l37 =>
    T.req (List.length l37 = 2)
    (T.asI IntKind.i64 (List.getD l37 0 (Value.tuple (Array.mk [])))
    fun i38 =>
    T.asI IntKind.i64 (List.getD l37 1 (Value.tuple (Array.mk [])))
    fun i39 =>
    T.call 13
    [Value.pointer o4, Value.int IntKind.i64 i38,
    Value.int IntKind.i64 i39]
    fun v40 =>
    T.asU v40 fun l41 =>
    T.req (List.length l41 = 2)
    (T.asA (List.headD l41 (Value.tuple (Array.mk [])))
    fun l42 =>
    T.req (List.length l42 = 4)
    (T.asI IntKind.i64
    (List.headD l42 (Value.tuple (Array.mk [])))
    fun i43 =>
    T.asS
    (List.headD (List.tail l42)
    (Value.tuple (Array.mk [])))
    fun o44 n45 n46 =>
    T.asI IntKind.i64
    (List.headD (List.tail (List.tail l42))
    (Value.tuple (Array.mk [])))
    fun i47 =>
    T.asI IntKind.i64
    (List.headD
    (List.tail (List.tail (List.tail l42)))
    (Value.tuple (Array.mk [])))
    fun i48 =>
    T.asI IntKind.i64
    (List.headD (List.tail l41)
    (Value.tuple (Array.mk [])))
    fun i49 =>
    T.new
    (Obj.cells
    (Array.mk
    [Value.int IntKind.i64 0,
    Value.slice none 0 0,
    Value.int IntKind.i64 0,
    Value.int IntKind.i64 0])
    30)
    fun n50 =>
    T.st n50 0 (Value.int IntKind.i64 i43)
    (T.st n50 1 (Value.slice o44 n45 n46)
    (T.st n50 2 (Value.int IntKind.i64 i47)
    (T.st n50 3
    (Value.int IntKind.i64 i48)
    (T.call 13
    [Value.pointer o4,
    Value.int IntKind.i64 i38,
    Value.int IntKind.i64
    (IntKind.wrap IntKind.i64
    (i39 - 1))]
    fun v51 =>
    T.asU v51 fun l52 =>
    T.req (List.length l52 = 2)
    (T.asA
    (List.headD l52
    (Value.tuple
    (Array.mk [])))
    fun l53 =>
    T.req (List.length l53 = 4)
    (T.asI IntKind.i64
    (List.headD l53
    (Value.tuple
    (Array.mk [])))
    fun i54 =>
    T.asS
    (List.headD
    (List.tail l53)
    (Value.tuple
    (Array.mk [])))
    fun o55 n56 n57 =>
    T.asI IntKind.i64
    (List.headD
    (List.tail
    (List.tail l53))
    (Value.tuple
    (Array.mk [])))
    fun i58 =>
    T.asI IntKind.i64
    (List.headD
    (List.tail
    (List.tail
    (List.tail
    l53)))
    (Value.tuple
    (Array.mk
    [])))
    fun i59 =>
    T.asI IntKind.i64
    (List.headD
    (List.tail
    l52)
    (Value.tuple
    (Array.mk
    [])))
    fun i60 =>
    T.new
    (Obj.cells
    (Array.mk
    [Value.int
    IntKind.i64
    0,
    Value.slice
    none 0
    0,
    Value.int
    IntKind.i64
    0,
    Value.int
    IntKind.i64
    0])
    30)
    fun n61 =>
    T.st n61 0
    (Value.int
    IntKind.i64
    i54)
    (T.st n61 1
    (Value.slice
    o55 n56
    n57)
    (T.st n61
    2
    (Value.int
    IntKind.i64
    i58)
    (T.st
    n61 3
    (Value.int
    IntKind.i64
    i59)
    (T.ite
    (i49 !=
    2)
    (T.ret
    (Value.bool
    false))
    (T.ldI
    IntKind.i64
    n50
    0
    fun
    i62 =>
    T.ldS
    n50
    1
    fun
    o63
    n64
    n65 =>
    T.ldI
    IntKind.i64
    n50
    2
    fun
    i66 =>
    T.ldI
    IntKind.i64
    n50
    3
    fun
    i67 =>
    T.run
    (Instr.lookup
    27
    (Value.map
    (some
    n8))
    (Value.int
    IntKind.i64
    i38)
    false)
    fun
    v68 =>
    T.asA
    v68
    fun
    l69 =>
    T.req
    (List.length
    l69 =
    4)
    (T.asI
    IntKind.i64
    (List.headD
    l69
    (Value.tuple
    (Array.mk
    [])))
    fun
    i70 =>
    T.asS
    (List.headD
    (List.tail
    l69)
    (Value.tuple
    (Array.mk
    [])))
    fun
    o71
    n72
    n73 =>
    T.asI
    IntKind.i64
    (List.headD
    (List.tail
    (List.tail
    l69))
    (Value.tuple
    (Array.mk
    [])))
    fun
    i74 =>
    T.asI
    IntKind.i64
    (List.headD
    (List.tail
    (List.tail
    (List.tail
    l69)))
    (Value.tuple
    (Array.mk
    [])))
    fun
    i75 =>
    T.call
    14
    [Value.agg
    (Array.mk
    [Value.int
    IntKind.i64
    i62,
    Value.slice
    o63
    n64
    n65,
    Value.int
    IntKind.i64
    i66,
    Value.int
    IntKind.i64
    i67]),
    Value.agg
    (Array.mk
    [Value.int
    IntKind.i64
    i70,
    Value.slice
    o71
    n72
    n73,
    Value.int
    IntKind.i64
    i74,
    Value.int
    IntKind.i64
    i75])]
    fun
    v76 =>
    T.asB
    v76
    fun
    b77 =>
    T.ite
    (!b77)
    (T.ret
    (Value.bool
    false))
    (T.ite
    (decide
    (i39 >
    1))
    (T.ite
    (i60 !=
    3)
    (T.ret
    (Value.bool
    false))
    (T.next
    1
    []
    ([Value.pointer
    o4,
    Value.map
    (some
    n7),
    Value.map
    (some
    n8),
    Value.slice
    o0
    n1
    n2,
    Value.int
    IntKind.i64
    (↑n1 :
    Int),
    Value.int
    IntKind.i64
    i11,
    Value.pointer
    (some
    (Addr.mk
    n30
    0
    none))] =
    [Value.pointer
    o4,
    Value.map
    (some
    n7),
    Value.map
    (some
    n8),
    Value.slice
    o0
    n1
    n2,
    Value.int
    IntKind.i64
    (↑n1 :
    Int),
    Value.int
    IntKind.i64
    i11,
    Value.pointer
    (some
    (Addr.mk
    n30
    0
    none))] ∧ ([] : List Deferred) = [])))
    (T.next
    1
    []
    ([Value.pointer
    o4,
    Value.map
    (some
    n7),
    Value.map
    (some
    n8),
    Value.slice
    o0
    n1
    n2,
    Value.int
    IntKind.i64
    (↑n1 :
    Int),
    Value.int
    IntKind.i64
    i11,
    Value.pointer
    (some
    (Addr.mk
    n30
    0
    none))] =
    [Value.pointer
    o4,
    Value.map
    (some
    n7),
    Value.map
    (some
    n8),
    Value.slice
    o0
    n1
    n2,
    Value.int
    IntKind.i64
    (↑n1 :
    Int),
    Value.int
    IntKind.i64
    i11,
    Value.pointer
    (some
    (Addr.mk
    n30
    0
    none))] ∧ ([] : List Deferred) = [])))))))))))))))))))
    (T.next 0 [Value.int IntKind.i64 (IntKind.wrap IntKind.i64 (i11 + 1))]
    ([Value.pointer o4, Value.map (some n7), Value.map (some n8),
    Value.slice o0 n1 n2, Value.int IntKind.i64 (↑n1 : Int)] =
    [Value.pointer o4, Value.map (some n7), Value.map (some n8),
    Value.slice o0 n1 n2, Value.int IntKind.i64 (↑n1 : Int)] ∧ ([] : List Deferred) = []))))
    (T.req
    (List.length l35 = 3 ∧
    List.headD l35 (Value.tuple (Array.mk [])) = Value.bool true)
    (T.asI IntKind.i64 (List.getD l35 1 (Value.tuple (Array.mk []))) fun i78 =>
    T.asI IntKind.i64 (List.getD l35 2 (Value.tuple (Array.mk []))) fun i79 =>
    T.ite true
    (T.run (Instr.entry (Value.pointer (some (Addr.mk n30 0 none))))
    fun v80 =>
    T.asU v80 fun l81 =>
    T.req (List.length l81 = 2)
    (T.asI IntKind.i64 (List.getD l81 0 (Value.tuple (Array.mk [])))
    fun i82 =>
    T.asI IntKind.i64 (List.getD l81 1 (Value.tuple (Array.mk [])))
    fun i83 =>
    T.call 13
    [Value.pointer o4, Value.int IntKind.i64 i82,
    Value.int IntKind.i64 i83]
    fun v84 =>
    T.asU v84 fun l85 =>
    T.req (List.length l85 = 2)
    (T.asA (List.headD l85 (Value.tuple (Array.mk [])))
    fun l86 =>
    T.req (List.length l86 = 4)
    (T.asI IntKind.i64
    (List.headD l86 (Value.tuple (Array.mk [])))
    fun i87 =>
    T.asS
    (List.headD (List.tail l86)
    (Value.tuple (Array.mk [])))
    fun o88 n89 n90 =>
    T.asI IntKind.i64
    (List.headD (List.tail (List.tail l86))
    (Value.tuple (Array.mk [])))
    fun i91 =>
    T.asI IntKind.i64
    (List.headD
    (List.tail (List.tail (List.tail l86)))
    (Value.tuple (Array.mk [])))
    fun i92 =>
    T.asI IntKind.i64
    (List.headD (List.tail l85)
    (Value.tuple (Array.mk [])))
    fun i93 =>
    T.new
    (Obj.cells
    (Array.mk
    [Value.int IntKind.i64 0,
    Value.slice none 0 0,
    Value.int IntKind.i64 0,
    Value.int IntKind.i64 0])
    30)
    fun n94 =>
    T.st n94 0 (Value.int IntKind.i64 i87)
    (T.st n94 1 (Value.slice o88 n89 n90)
    (T.st n94 2
    (Value.int IntKind.i64 i91)
    (T.st n94 3
    (Value.int IntKind.i64 i92)
    (T.call 13
    [Value.pointer o4,
    Value.int IntKind.i64 i82,
    Value.int IntKind.i64
    (IntKind.wrap IntKind.i64
    (i83 - 1))]
    fun v95 =>
    T.asU v95 fun l96 =>
    T.req (List.length l96 = 2)
    (T.asA
    (List.headD l96
    (Value.tuple
    (Array.mk [])))
    fun l97 =>
    T.req
    (List.length l97 = 4)
    (T.asI IntKind.i64
    (List.headD l97
    (Value.tuple
    (Array.mk [])))
    fun i98 =>
    T.asS
    (List.headD
    (List.tail l97)
    (Value.tuple
    (Array.mk
    [])))
    fun o99 n100
    n101 =>
    T.asI IntKind.i64
    (List.headD
    (List.tail
    (List.tail
    l97))
    (Value.tuple
    (Array.mk
    [])))
    fun i102 =>
    T.asI
    IntKind.i64
    (List.headD
    (List.tail
    (List.tail
    (List.tail
    l97)))
    (Value.tuple
    (Array.mk
    [])))
    fun i103 =>
    T.asI
    IntKind.i64
    (List.headD
    (List.tail
    l96)
    (Value.tuple
    (Array.mk
    [])))
    fun i104 =>
    T.new
    (Obj.cells
    (Array.mk
    [Value.int
    IntKind.i64
    0,
    Value.slice
    none
    0
    0,
    Value.int
    IntKind.i64
    0,
    Value.int
    IntKind.i64
    0])
    30)
    fun
    n105 =>
    T.st n105
    0
    (Value.int
    IntKind.i64
    i98)
    (T.st
    n105 1
    (Value.slice
    o99
    n100
    n101)
    (T.st
    n105
    2
    (Value.int
    IntKind.i64
    i102)
    (T.st
    n105
    3
    (Value.int
    IntKind.i64
    i103)
    (T.ite
    (i93 !=
    2)
    (T.ret
    (Value.bool
    false))
    (T.ldI
    IntKind.i64
    n94
    0
    fun
    i106 =>
    T.ldS
    n94
    1
    fun
    o107
    n108
    n109 =>
    T.ldI
    IntKind.i64
    n94
    2
    fun
    i110 =>
    T.ldI
    IntKind.i64
    n94
    3
    fun
    i111 =>
    T.run
    (Instr.lookup
    27
    (Value.map
    (some
    n8))
    (Value.int
    IntKind.i64
    i82)
    false)
    fun
    v112 =>
    T.asA
    v112
    fun
    l113 =>
    T.req
    (List.length
    l113 =
    4)
    (T.asI
    IntKind.i64
    (List.headD
    l113
    (Value.tuple
    (Array.mk
    [])))
    fun
    i114 =>
    T.asS
    (List.headD
    (List.tail
    l113)
    (Value.tuple
    (Array.mk
    [])))
    fun
    o115
    n116
    n117 =>
    T.asI
    IntKind.i64
    (List.headD
    (List.tail
    (List.tail
    l113))
    (Value.tuple
    (Array.mk
    [])))
    fun
    i118 =>
    T.asI
    IntKind.i64
    (List.headD
    (List.tail
    (List.tail
    (List.tail
    l113)))
    (Value.tuple
    (Array.mk
    [])))
    fun
    i119 =>
    T.call
    14
    [Value.agg
    (Array.mk
    [Value.int
    IntKind.i64
    i106,
    Value.slice
    o107
    n108
    n109,
    Value.int
    IntKind.i64
    i110,
    Value.int
    IntKind.i64
    i111]),
    Value.agg
    (Array.mk
    [Value.int
    IntKind.i64
    i114,
    Value.slice
    o115
    n116
    n117,
    Value.int
    IntKind.i64
    i118,
    Value.int
    IntKind.i64
    i119])]
    fun
    v120 =>
    T.asB
    v120
    fun
    b121 =>
    T.ite
    (!b121)
    (T.ret
    (Value.bool
    false))
    (T.ite
    (decide
    (i83 >
    1))
    (T.ite
    (i104 !=
    3)
    (T.ret
    (Value.bool
    false))
    (T.next
    1
    []
    ([Value.pointer
    o4,
    Value.map
    (some
    n7),
    Value.map
    (some
    n8),
    Value.slice
    o0
    n1
    n2,
    Value.int
    IntKind.i64
    (↑n1 :
    Int),
    Value.int
    IntKind.i64
    i11,
    Value.pointer
    (some
    (Addr.mk
    n30
    0
    none))] =
    [Value.pointer
    o4,
    Value.map
    (some
    n7),
    Value.map
    (some
    n8),
    Value.slice
    o0
    n1
    n2,
    Value.int
    IntKind.i64
    (↑n1 :
    Int),
    Value.int
    IntKind.i64
    i11,
    Value.pointer
    (some
    (Addr.mk
    n30
    0
    none))] ∧ ([] : List Deferred) = [])))
    (T.next
    1
    []
    ([Value.pointer
    o4,
    Value.map
    (some
    n7),
    Value.map
    (some
    n8),
    Value.slice
    o0
    n1
    n2,
    Value.int
    IntKind.i64
    (↑n1 :
    Int),
    Value.int
    IntKind.i64
    i11,
    Value.pointer
    (some
    (Addr.mk
    n30
    0
    none))] =
    [Value.pointer
    o4,
    Value.map
    (some
    n7),
    Value.map
    (some
    n8),
    Value.slice
    o0
    n1
    n2,
    Value.int
    IntKind.i64
    (↑n1 :
    Int),
    Value.int
    IntKind.i64
    i11,
    Value.pointer
    (some
    (Addr.mk
    n30
    0
    none))] ∧ ([] : List Deferred) = [])))))))))))))))))))
    (T.next 0 [Value.int IntKind.i64 (IntKind.wrap IntKind.i64 (i11 + 1))]
    ([Value.pointer o4, Value.map (some n7), Value.map (some n8),
    Value.slice o0 n1 n2, Value.int IntKind.i64 (↑n1 : Int)] =
    [Value.pointer o4, Value.map (some n7), Value.map (some n8),
    Value.slice o0 n1 n2, Value.int IntKind.i64 (↑n1 : Int)] ∧ ([] : List Deferred) = []))))))
    (T.ldI IntKind.i64 n25 0 fun i122 =>
    T.ldI IntKind.i64 n25 1 fun i123 =>
    T.ldI IntKind.i64 n25 4 fun i124 =>
    T.ldS n25 5 fun o125 n126 n127 =>
    T.ldI IntKind.i64 n25 6 fun i128 =>
    T.ldI IntKind.i64 n25 7 fun i129 =>
    T.call 12
    [Value.pointer o4, Value.int IntKind.i64 i122, Value.int IntKind.i64 i123,
    Value.agg
    (Array.mk
    [Value.int IntKind.i64 i124, Value.slice o125 n126 n127,
    Value.int IntKind.i64 i128, Value.int IntKind.i64 i129])]
    fun v130 =>
    T.asI IntKind.i64 v130 fun i131 =>
    T.ite (i131 == 0)
    (T.ldI IntKind.i64 n25 1 fun i132 =>
    T.ldI IntKind.i64 n25 0 fun i133 =>
    T.run
    (Instr.lookup 26 (Value.map (some n7)) (Value.int IntKind.i64 i133) false)
    fun v134 =>
    T.asI IntKind.i64 v134 fun i135 =>
    T.ite (i132 != IntKind.wrap IntKind.i64 (i135 + 1))
    (T.ret (Value.bool false))
    (T.ldI IntKind.i64 n25 0 fun i136 =>
    T.ldI IntKind.i64 n25 1 fun i137 =>
    T.run
    (muV 26 (Value.map (some n7)) (Value.int IntKind.i64 i136)
    (Value.int IntKind.i64 i137))
    fun v138 =>
    T.ldI IntKind.i64 n25 0 fun i139 =>
    T.ldI IntKind.i64 n25 4 fun i140 =>
    T.ldS n25 5 fun o141 n142 n143 =>
    T.ldI IntKind.i64 n25 6 fun i144 =>
    T.ldI IntKind.i64 n25 7 fun i145 =>
    T.run
    (muV 27 (Value.map (some n8))
    (Value.int IntKind.i64 i139)
    (Value.agg
    (Array.mk
    [Value.int IntKind.i64 i140,
    Value.slice o141 n142 n143,
    Value.int IntKind.i64 i144,
    Value.int IntKind.i64 i145])))
    fun v146 =>
    T.next 1 []
    ([Value.pointer o4, Value.map (some n7),
    Value.map (some n8), Value.slice o0 n1 n2,
    Value.int IntKind.i64 (↑n1 : Int),
    Value.int IntKind.i64 i11] =
    [Value.pointer o4, Value.map (some n7),
    Value.map (some n8), Value.slice o0 n1 n2,
    Value.int IntKind.i64 (↑n1 : Int),
    Value.int IntKind.i64 i11] ∧ ([] : List Deferred) = [])))
    (T.next 1 []
    ([Value.pointer o4, Value.map (some n7), Value.map (some n8),
    Value.slice o0 n1 n2, Value.int IntKind.i64 (↑n1 : Int),
    Value.int IntKind.i64 i11] =
    [Value.pointer o4, Value.map (some n7), Value.map (some n8),
    Value.slice o0 n1 n2, Value.int IntKind.i64 (↑n1 : Int),
    Value.int IntKind.i64 i11] ∧ ([] : List Deferred) = []))))))))))))))
    (T.call 15 [Value.pointer o4] fun v147 =>
    T.asI IntKind.i64 v147 fun i148 =>
    T.run (biV Builtin.len (Array.mk [26]) 3 (Array.mk [Value.map (some n7)])) fun v149 =>
    T.asI IntKind.i64 v149 fun i150 =>
    T.ite (i148 == i150)
    (T.run (biV Builtin.len (Array.mk [26]) 3 (Array.mk [Value.map (some n7)])) fun v151 =>
    T.asI IntKind.i64 v151 fun i152 => T.ret (Value.bool (decide (i152 ≤ 64))))
    (T.ret (Value.bool false))))
    (T.ite (Option.isNone o4) (T.ret (Value.bool false))
    (T.call 11 [] fun v153 =>
    T.asB v153 fun b154 =>
    T.ite (!b154) (T.ret (Value.bool false))
    (T.next 0 [] ([Value.slice o0 n1 n2, Value.pointer o4] = [Value.slice o0 n1 n2, Value.pointer o4] ∧ ([] : List Deferred) = []))))
theorem e3 (o0 : Option Addr) (n1 n2 : Nat) : treeOf Try.prog Try.f3 (codeOf Try.f3) (.s .n (.s .n (.c [] [0, 3] .n (.s .n (.s .n (.s (.s .n (.u (.l [(25, .int .i64)] [3, 4, 5, 23, 24] (.s .n (.s .n (.s (.u (.s .n (.c [] [3, 4, 5, 23, 24, 25] .n (.s .n (.u (.l [] [3, 4, 5, 23, 24, 25, 57] .n)))))) .n)))))) .n)))))) [.v (.slice o0 n1 n2)] = (t3 o0 n1 n2) := by kernel_rfl
theorem c3 (o0 : Option Addr) (n1 n2 : Nat) {w : World} {R : Ending → World → Prop} (h : (t3 o0 n1 n2).sem Try.prog R ρ0 w) : Calls Try.prog 3 #[.slice o0 n1 n2] w R :=
  calls_of mixed Try.func3 rfl rfl (e3 o0 n1 n2) h
def t4 (i0 : Int) (i1 : Int) (o2 : Option Addr) (n3 n4 : Nat) (i5 : Int) (i6 : Int) : T :=
  T.new (Obj.cells (Array.mk [Value.int IntKind.i64 i1, Value.slice o2 n3 n4, Value.int IntKind.i64 i5, Value.int IntKind.i64 i6]) 30) fun n7 =>
  T.call 10 [] fun v8 =>
    T.asP v8 fun o9 =>
    T.blk 0
    (fun l10 j11 =>
    T.blk 0
    (fun l12 j13 =>
    T.loop 0 [Value.int IntKind.i64 0] fun l14 j15 =>
    T.asI IntKind.i64 (List.headD l14 (Value.tuple (Array.mk []))) fun i16 =>
    T.ite (decide (i16 < 64))
    (T.ldI IntKind.i64 n7 0 fun i17 =>
    T.ldS n7 1 fun o18 n19 n20 =>
    T.ldI IntKind.i64 n7 2 fun i21 =>
    T.ldI IntKind.i64 n7 3 fun i22 =>
    T.call 12
    [Value.pointer o9, Value.int IntKind.i64 (IntKind.wrap IntKind.i64 (i0 + i16)), Value.int IntKind.i64 1,
    Value.agg (Array.mk [Value.int IntKind.i64 i17, Value.slice o18 n19 n20, Value.int IntKind.i64 i21, Value.int IntKind.i64 i22])]
    fun v23 =>
    T.asI IntKind.i64 v23 fun i24 =>
    T.ite (i24 != 0) (T.ret (Value.bool false))
    (T.next 0 [Value.int IntKind.i64 (IntKind.wrap IntKind.i64 (i16 + 1))]
    ([Value.int IntKind.i64 i0, Value.pointer (some (Addr.mk n7 0 none)), Value.pointer o9] =
    [Value.int IntKind.i64 i0, Value.pointer (some (Addr.mk n7 0 none)), Value.pointer o9] ∧ ([] : List Deferred) = [])))
    (T.call 13 [Value.pointer o9, Value.int IntKind.i64 (IntKind.wrap IntKind.i64 (i0 + 64)), Value.int IntKind.i64 1] fun v25 =>
    T.asU v25 fun l26 =>
    T.req (List.length l26 = 2)
    (T.asA (List.headD l26 (Value.tuple (Array.mk []))) fun l27 =>
    T.req (List.length l27 = 4)
    (T.asI IntKind.i64 (List.headD l27 (Value.tuple (Array.mk []))) fun i28 =>
    T.asS (List.headD (List.tail l27) (Value.tuple (Array.mk []))) fun o29 n30 n31 =>
    T.asI IntKind.i64 (List.headD (List.tail (List.tail l27)) (Value.tuple (Array.mk []))) fun i32 =>
    T.asI IntKind.i64 (List.headD (List.tail (List.tail (List.tail l27))) (Value.tuple (Array.mk []))) fun i33 =>
    T.asI IntKind.i64 (List.headD (List.tail l26) (Value.tuple (Array.mk []))) fun i34 =>
    T.new
    (Obj.cells
    (Array.mk [Value.int IntKind.i64 0, Value.slice none 0 0, Value.int IntKind.i64 0, Value.int IntKind.i64 0]) 30)
    fun n35 =>
    T.st n35 0 (Value.int IntKind.i64 i28)
    (T.st n35 1 (Value.slice o29 n30 n31)
    (T.st n35 2 (Value.int IntKind.i64 i32)
    (T.st n35 3 (Value.int IntKind.i64 i33)
    (T.ite (i34 == 5)
    (T.ldI IntKind.i64 n7 0 fun i36 =>
    T.ldS n7 1 fun o37 n38 n39 =>
    T.ldI IntKind.i64 n7 2 fun i40 =>
    T.ldI IntKind.i64 n7 3 fun i41 =>
    T.call 12
    [Value.pointer o9, Value.int IntKind.i64 (IntKind.wrap IntKind.i64 (i0 + 64)),
    Value.int IntKind.i64 1,
    Value.agg
    (Array.mk
    [Value.int IntKind.i64 i36, Value.slice o37 n38 n39, Value.int IntKind.i64 i40,
    Value.int IntKind.i64 i41])]
    fun v42 =>
    T.asI IntKind.i64 v42 fun i43 =>
    T.ite (i43 == 6)
    (T.ldI IntKind.i64 n7 0 fun i44 =>
    T.ldS n7 1 fun o45 n46 n47 =>
    T.ldI IntKind.i64 n7 2 fun i48 =>
    T.ldI IntKind.i64 n7 3 fun i49 =>
    T.call 12
    [Value.pointer o9, Value.int IntKind.i64 i0, Value.int IntKind.i64 2,
    Value.agg
    (Array.mk
    [Value.int IntKind.i64 i44, Value.slice o45 n46 n47,
    Value.int IntKind.i64 i48, Value.int IntKind.i64 i49])]
    fun v50 =>
    T.asI IntKind.i64 v50 fun i51 =>
    T.ite (i51 == 0)
    (T.call 15 [Value.pointer o9] fun v52 =>
    T.asI IntKind.i64 v52 fun i53 => T.ret (Value.bool (i53 == 64)))
    (T.ret (Value.bool false)))
    (T.ret (Value.bool false)))
    (T.ret (Value.bool false))))))))))
    (T.ite (decide (i0 < 1)) (T.ret (Value.bool true))
    (T.ite (decide (i0 > 1099511627712)) (T.ret (Value.bool true))
    (T.next 0 []
    ([Value.int IntKind.i64 i0, Value.pointer (some (Addr.mk n7 0 none)), Value.pointer o9] =
    [Value.int IntKind.i64 i0, Value.pointer (some (Addr.mk n7 0 none)), Value.pointer o9] ∧ ([] : List Deferred) = [])))))
    (T.ite (Option.isNone o9) (T.ret (Value.bool false))
    (T.call 11 [] fun v54 =>
    T.asB v54 fun b55 =>
    T.ite (!b55) (T.ret (Value.bool false))
    (T.next 0 []
    ([Value.int IntKind.i64 i0, Value.pointer (some (Addr.mk n7 0 none)), Value.pointer o9] =
    [Value.int IntKind.i64 i0, Value.pointer (some (Addr.mk n7 0 none)), Value.pointer o9] ∧ ([] : List Deferred) = []))))
theorem e4 (i0 : Int) (i1 : Int) (o2 : Option Addr) (n3 n4 : Nat) (i5 : Int) (i6 : Int) : treeOf Try.prog Try.f4 (codeOf Try.f4) (.s .n (.s .n (.c [] [0, 3, 5] .n (.c [] [0, 3, 5] .n (.s (.s .n (.u (.l [(22, .int .i64)] [0, 3, 5] .n))) .n))))) [.v (.int .i64 i0), .v (.agg #[.int .i64 i1, .slice o2 n3 n4, .int .i64 i5, .int .i64 i6])] = (t4 i0 i1 o2 n3 n4 i5 i6) := by kernel_rfl
theorem c4 (i0 : Int) (i1 : Int) (o2 : Option Addr) (n3 n4 : Nat) (i5 : Int) (i6 : Int) {w : World} {R : Ending → World → Prop} (h : (t4 i0 i1 o2 n3 n4 i5 i6).sem Try.prog R ρ0 w) : Calls Try.prog 4 #[.int .i64 i0, .agg #[.int .i64 i1, .slice o2 n3 n4, .int .i64 i5, .int .i64 i6]] w R :=
  calls_of mixed Try.func4 rfl rfl (e4 i0 i1 o2 n3 n4 i5 i6) h
def t5 (i0 : Int) (o1 : Option Addr) (n2 n3 : Nat) (i4 : Int) (i5 : Int) : T :=
  T.new (Obj.cells (Array.mk [Value.int IntKind.i64 i0, Value.slice o1 n2 n3, Value.int IntKind.i64 i4, Value.int IntKind.i64 i5]) 30) fun n6 =>
  T.call 10 [] fun v7 =>
    T.asP v7 fun o8 =>
    T.blk 0
    (fun l9 j10 =>
    T.ldI IntKind.i64 n6 0 fun i11 =>
    T.ldS n6 1 fun o12 n13 n14 =>
    T.ldI IntKind.i64 n6 2 fun i15 =>
    T.ldI IntKind.i64 n6 3 fun i16 =>
    T.new (Obj.cells (Array.mk [Value.int IntKind.i64 0, Value.slice none 0 0, Value.int IntKind.i64 0, Value.int IntKind.i64 0]) 30) fun n17 =>
    T.st n17 0 (Value.int IntKind.i64 i11)
    (T.st n17 1 (Value.slice o12 n13 n14)
    (T.st n17 2 (Value.int IntKind.i64 i15)
    (T.st n17 3 (Value.int IntKind.i64 i16)
    (T.ldS n6 1 fun o18 n19 n20 =>
    T.run (biV Builtin.append (Array.mk [28, 28]) 28 (Array.mk [Value.slice none 0 0, Value.slice o18 n19 n20])) fun v21 =>
    T.asS v21 fun o22 n23 n24 =>
    T.st n17 1 (Value.slice o22 n23 n24)
    (T.ldI IntKind.i64 n17 0 fun i25 =>
    T.ldS n17 1 fun o26 n27 n28 =>
    T.ldI IntKind.i64 n17 2 fun i29 =>
    T.ldI IntKind.i64 n17 3 fun i30 =>
    T.call 12
    [Value.pointer o8, Value.int IntKind.i64 1, Value.int IntKind.i64 1,
    Value.agg
    (Array.mk
    [Value.int IntKind.i64 i25, Value.slice o26 n27 n28, Value.int IntKind.i64 i29, Value.int IntKind.i64 i30])]
    fun v31 =>
    T.asI IntKind.i64 v31 fun i32 =>
    T.ite (i32 != 0) (T.ret (Value.bool false))
    (T.ldS n17 1 fun o33 n34 n35 =>
    T.loop 0 [Value.int IntKind.i64 0] fun l36 j37 =>
    T.asI IntKind.i64 (List.headD l36 (Value.tuple (Array.mk []))) fun i38 =>
    T.ite (decide (i38 < (↑n34 : Int)))
    (T.ldS n17 1 fun o39 n40 n41 =>
    T.req (0 ≤ i38 ∧ i38 < (↑n40 : Int))
    (T.sm o39 fun n42 n43 =>
    T.ldI IntKind.i64 n42 (n43 + Int.toNat i38 * 1) fun i44 =>
    T.req (0 ≤ i38 ∧ i38 < (↑n40 : Int))
    (T.sm o39 fun n45 n46 =>
    T.st n45 (n46 + Int.toNat i38 * 1)
    (Value.int IntKind.i64 (IntKind.wrap IntKind.i64 (i44 + 1)))
    (T.next 0 [Value.int IntKind.i64 (IntKind.wrap IntKind.i64 (i38 + 1))]
    ([Value.pointer (some (Addr.mk n6 0 none)), Value.pointer o8,
    Value.pointer (some (Addr.mk n17 0 none)), Value.int IntKind.i64 (↑n34 : Int)] =
    [Value.pointer (some (Addr.mk n6 0 none)), Value.pointer o8,
    Value.pointer (some (Addr.mk n17 0 none)), Value.int IntKind.i64 (↑n34 : Int)] ∧ ([] : List Deferred) = [])))))
    (T.call 13 [Value.pointer o8, Value.int IntKind.i64 1, Value.int IntKind.i64 1] fun v47 =>
    T.asU v47 fun l48 =>
    T.req (List.length l48 = 2)
    (T.asA (List.headD l48 (Value.tuple (Array.mk []))) fun l49 =>
    T.req (List.length l49 = 4)
    (T.asI IntKind.i64 (List.headD l49 (Value.tuple (Array.mk []))) fun i50 =>
    T.asS (List.headD (List.tail l49) (Value.tuple (Array.mk []))) fun o51 n52 n53 =>
    T.asI IntKind.i64 (List.headD (List.tail (List.tail l49)) (Value.tuple (Array.mk [])))
    fun i54 =>
    T.asI IntKind.i64
    (List.headD (List.tail (List.tail (List.tail l49))) (Value.tuple (Array.mk [])))
    fun i55 =>
    T.asI IntKind.i64 (List.headD (List.tail l48) (Value.tuple (Array.mk [])))
    fun i56 =>
    T.new
    (Obj.cells
    (Array.mk
    [Value.int IntKind.i64 0, Value.slice none 0 0, Value.int IntKind.i64 0,
    Value.int IntKind.i64 0])
    30)
    fun n57 =>
    T.st n57 0 (Value.int IntKind.i64 i50)
    (T.st n57 1 (Value.slice o51 n52 n53)
    (T.st n57 2 (Value.int IntKind.i64 i54)
    (T.st n57 3 (Value.int IntKind.i64 i55)
    (T.ldS n57 1 fun o58 n59 n60 =>
    T.loop 0 [Value.int IntKind.i64 0] fun l61 j62 =>
    T.asI IntKind.i64 (List.headD l61 (Value.tuple (Array.mk [])))
    fun i63 =>
    T.ite (decide (i63 < (↑n59 : Int)))
    (T.ldS n57 1 fun o64 n65 n66 =>
    T.req (0 ≤ i63 ∧ i63 < (↑n65 : Int))
    (T.sm o64 fun n67 n68 =>
    T.ldI IntKind.i64 n67 (n68 + Int.toNat i63 * 1) fun i69 =>
    T.req (0 ≤ i63 ∧ i63 < (↑n65 : Int))
    (T.sm o64 fun n70 n71 =>
    T.st n70 (n71 + Int.toNat i63 * 1)
    (Value.int IntKind.i64
    (IntKind.wrap IntKind.i64 (i69 + 1)))
    (T.next 0
    [Value.int IntKind.i64
    (IntKind.wrap IntKind.i64 (i63 + 1))]
    ([Value.pointer (some (Addr.mk n6 0 none)),
    Value.pointer o8,
    Value.pointer (some (Addr.mk n57 0 none)),
    Value.int IntKind.i64 (↑n59 : Int)] =
    [Value.pointer (some (Addr.mk n6 0 none)),
    Value.pointer o8,
    Value.pointer (some (Addr.mk n57 0 none)),
    Value.int IntKind.i64 (↑n59 : Int)] ∧ ([] : List Deferred) = [])))))
    (T.call 13
    [Value.pointer o8, Value.int IntKind.i64 1,
    Value.int IntKind.i64 1]
    fun v72 =>
    T.asU v72 fun l73 =>
    T.req (List.length l73 = 2)
    (T.asA (List.headD l73 (Value.tuple (Array.mk [])))
    fun l74 =>
    T.req (List.length l74 = 4)
    (T.asI IntKind.i64
    (List.headD l74 (Value.tuple (Array.mk [])))
    fun i75 =>
    T.asS
    (List.headD (List.tail l74)
    (Value.tuple (Array.mk [])))
    fun o76 n77 n78 =>
    T.asI IntKind.i64
    (List.headD (List.tail (List.tail l74))
    (Value.tuple (Array.mk [])))
    fun i79 =>
    T.asI IntKind.i64
    (List.headD
    (List.tail (List.tail (List.tail l74)))
    (Value.tuple (Array.mk [])))
    fun i80 =>
    T.asI IntKind.i64
    (List.headD (List.tail l73)
    (Value.tuple (Array.mk [])))
    fun i81 =>
    T.new
    (Obj.cells
    (Array.mk
    [Value.int IntKind.i64 0,
    Value.slice none 0 0,
    Value.int IntKind.i64 0,
    Value.int IntKind.i64 0])
    30)
    fun n82 =>
    T.st n82 0 (Value.int IntKind.i64 i75)
    (T.st n82 1 (Value.slice o76 n77 n78)
    (T.st n82 2
    (Value.int IntKind.i64 i79)
    (T.st n82 3
    (Value.int IntKind.i64 i80)
    (T.ite (i81 == 2)
    (T.ldI IntKind.i64 n82 0
    fun i83 =>
    T.ldS n82 1 fun o84 n85 n86 =>
    T.ldI IntKind.i64 n82 2
    fun i87 =>
    T.ldI IntKind.i64 n82 3
    fun i88 =>
    T.ldI IntKind.i64 n6 0
    fun i89 =>
    T.ldS n6 1
    fun o90 n91 n92 =>
    T.ldI IntKind.i64 n6
    2 fun i93 =>
    T.ldI IntKind.i64
    n6 3 fun i94 =>
    T.call 14
    [Value.agg
    (Array.mk
    [Value.int
    IntKind.i64
    i83,
    Value.slice
    o84
    n85
    n86,
    Value.int
    IntKind.i64
    i87,
    Value.int
    IntKind.i64
    i88]),
    Value.agg
    (Array.mk
    [Value.int
    IntKind.i64
    i89,
    Value.slice
    o90
    n91
    n92,
    Value.int
    IntKind.i64
    i93,
    Value.int
    IntKind.i64
    i94])]
    fun v95 =>
    T.asB v95
    fun b96 =>
    T.ret
    (Value.bool
    b96))
    (T.ret
    (Value.bool
    false)))))))))))))))))))))))
    (T.ite (Option.isNone o8) (T.ret (Value.bool false))
    (T.call 11 [] fun v97 =>
    T.asB v97 fun b98 =>
    T.ite (!b98) (T.ret (Value.bool false))
    (T.next 0 []
    ([Value.pointer (some (Addr.mk n6 0 none)), Value.pointer o8] = [Value.pointer (some (Addr.mk n6 0 none)), Value.pointer o8] ∧ ([] : List Deferred) = []))))
theorem e5 (i0 : Int) (o1 : Option Addr) (n2 n3 : Nat) (i4 : Int) (i5 : Int) : treeOf Try.prog Try.f5 (codeOf Try.f5) (.s .n (.s .n (.c [] [1, 3] .n (.s .n (.s .n (.s .n (.s (.s .n (.u (.l [(30, .int .i64)] [1, 3, 4, 29] .n))) (.s .n (.s (.s .n (.u (.l [(49, .int .i64)] [1, 3, 6, 48] .n))) .n))))))))) [.v (.agg #[.int .i64 i0, .slice o1 n2 n3, .int .i64 i4, .int .i64 i5])] = (t5 i0 o1 n2 n3 i4 i5) := by kernel_rfl
theorem c5 (i0 : Int) (o1 : Option Addr) (n2 n3 : Nat) (i4 : Int) (i5 : Int) {w : World} {R : Ending → World → Prop} (h : (t5 i0 o1 n2 n3 i4 i5).sem Try.prog R ρ0 w) : Calls Try.prog 5 #[.agg #[.int .i64 i0, .slice o1 n2 n3, .int .i64 i4, .int .i64 i5]] w R :=
  calls_of mixed Try.func5 rfl rfl (e5 i0 o1 n2 n3 i4 i5) h
def t6 (o0 : Option Addr) (n1 n2 : Nat) : T :=
  T.call 16 [Value.slice o0 n1 n2] fun v3 =>
  T.asU v3 fun l4 =>
    T.req (List.length l4 = 2)
    (T.asP (List.headD l4 (Value.tuple (Array.mk []))) fun o5 =>
    T.asI IntKind.i64 (List.headD (List.tail l4) (Value.tuple (Array.mk []))) fun i6 =>
    T.call 17 [Value.slice o0 n1 n2] fun v7 =>
    T.asU v7 fun l8 =>
    T.req (List.length l8 = 2)
    (T.asP (List.headD l8 (Value.tuple (Array.mk []))) fun o9 =>
    T.asI IntKind.i64 (List.headD (List.tail l8) (Value.tuple (Array.mk []))) fun i10 =>
    T.blk 0
    (fun l11 j12 =>
    T.ite (Option.isNone o5) (T.ret (Value.bool true))
    (T.sm o9 fun n13 n14 =>
    T.ldS n13 n14 fun o15 n16 n17 =>
    T.call 18 [Value.pointer o5, Value.slice o15 n16 n17, Value.int IntKind.i64 0] fun v18 =>
    T.asB v18 fun b19 => T.ret (Value.bool b19)))
    (T.call 11 [] fun v20 =>
    T.asB v20 fun b21 =>
    T.ite (!b21) (T.ret (Value.bool false))
    (T.ite (i6 != i10) (T.ret (Value.bool false))
    (T.ite (!(!Option.isNone o5) == (i10 == 0)) (T.ret (Value.bool false))
    (T.next 0 [] ([Value.pointer o5, Value.pointer o9] = [Value.pointer o5, Value.pointer o9] ∧ ([] : List Deferred) = [])))))))
theorem e6 (o0 : Option Addr) (n1 n2 : Nat) : treeOf Try.prog Try.f6 (codeOf Try.f6) (.s .n (.s .n (.s .n (.c [] [3, 5] .n .n)))) [.v (.slice o0 n1 n2)] = (t6 o0 n1 n2) := by kernel_rfl
theorem c6 (o0 : Option Addr) (n1 n2 : Nat) {w : World} {R : Ending → World → Prop} (h : (t6 o0 n1 n2).sem Try.prog R ρ0 w) : Calls Try.prog 6 #[.slice o0 n1 n2] w R :=
  calls_of mixed Try.func6 rfl rfl (e6 o0 n1 n2) h
end Go.Proofs.Ytcmdbaafnbdpbaa
