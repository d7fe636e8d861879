/- The functions' trees, printed by a program (wip/tools/Emit.lean) and checked by the kernel against the model's own code. -/
import Derived.Test.YtihipcofjpnfbaaDoorTreesA
import Derived.Test.YtihipcofjpnfbaaDoorProg
namespace Go.Proofs.YtihipcofjpnfbaaDoor
open Go hiding Expr
open Go.Proofs.YtihipcofjpnfbaaDoor.Tr
set_option linter.unusedVariables false
set_option maxRecDepth 100000
def t3 (i0 : Int) (i1 : Int) (i2 : Int) (i3 : Int) (i4 : Int) (o5 : Option Addr) (n6 n7 : Nat) : T :=
  T.new
  (Obj.cells (Array.mk [Value.int IntKind.i64 i0, Value.int IntKind.i64 i1, Value.int IntKind.i64 i2, Value.int IntKind.i64 i3, Value.int IntKind.u64 i4]) 24)
  fun n8 =>
  T.ldI IntKind.i64 n8 0 fun i9 =>
    T.ldI IntKind.i64 n8 1 fun i10 =>
    T.ldI IntKind.i64 n8 2 fun i11 =>
    T.ldI IntKind.i64 n8 3 fun i12 =>
    T.ldI IntKind.u64 n8 4 fun i13 =>
    T.call 6
    [Value.agg
    (Array.mk
    [Value.int IntKind.i64 i9, Value.int IntKind.i64 i10, Value.int IntKind.i64 i11, Value.int IntKind.i64 i12, Value.int IntKind.u64 i13]),
    Value.slice o5 n6 n7]
    fun v14 =>
    T.asU v14 fun l15 =>
    T.req (List.length l15 = 2)
    (T.asT (List.headD l15 (Value.tuple (Array.mk []))) fun s16 =>
    T.asI IntKind.i64 (List.headD (List.tail l15) (Value.tuple (Array.mk []))) fun i17 =>
    T.ldI IntKind.i64 n8 0 fun i18 =>
    T.ldI IntKind.i64 n8 1 fun i19 =>
    T.ldI IntKind.i64 n8 2 fun i20 =>
    T.ldI IntKind.i64 n8 3 fun i21 =>
    T.ldI IntKind.u64 n8 4 fun i22 =>
    T.call 7
    [Value.agg
    (Array.mk
    [Value.int IntKind.i64 i18, Value.int IntKind.i64 i19, Value.int IntKind.i64 i20, Value.int IntKind.i64 i21,
    Value.int IntKind.u64 i22]),
    Value.slice o5 n6 n7]
    fun v23 =>
    T.asU v23 fun l24 =>
    T.req (List.length l24 = 2)
    (T.asT (List.headD l24 (Value.tuple (Array.mk []))) fun s25 =>
    T.asI IntKind.i64 (List.headD (List.tail l24) (Value.tuple (Array.mk []))) fun i26 =>
    T.call 8 [] fun v27 =>
    T.asB v27 fun b28 =>
    T.ite b28
    (T.ite (ByteArray.toList s16 == ByteArray.toList s25) (T.ret (Value.bool (i17 == i26)))
    (T.ret (Value.bool false)))
    (T.ret (Value.bool false))))
theorem e3 (i0 : Int) (i1 : Int) (i2 : Int) (i3 : Int) (i4 : Int) (o5 : Option Addr) (n6 n7 : Nat) : treeOf Tryd.prog Tryd.f3 (codeOf Tryd.f3) .n [.v (.agg #[.int .i64 i0, .int .i64 i1, .int .i64 i2, .int .i64 i3, .int .u64 i4]), .v (.slice o5 n6 n7)] = (t3 i0 i1 i2 i3 i4 o5 n6 n7) := by kernel_rfl
theorem c3 (i0 : Int) (i1 : Int) (i2 : Int) (i3 : Int) (i4 : Int) (o5 : Option Addr) (n6 n7 : Nat) {w : World} {R : Ending → World → Prop} (h : (t3 i0 i1 i2 i3 i4 o5 n6 n7).sem Tryd.prog R ρ0 w) : Calls Tryd.prog 3 #[.agg #[.int .i64 i0, .int .i64 i1, .int .i64 i2, .int .i64 i3, .int .u64 i4], .slice o5 n6 n7] w R :=
  calls_of mixed Tryd.func3 rfl rfl (e3 i0 i1 i2 i3 i4 o5 n6 n7) h
def t4 (i0 : Int) (i1 : Int) (i2 : Int) (i3 : Int) (i4 : Int) (o5 : Option Addr) (n6 n7 : Nat) (o8 : Option Addr) (n9 n10 : Nat) (o11 : Option Addr) (n12 n13 : Nat) (o14 : Option Addr) (n15 n16 : Nat) (o17 : Option Addr) (n18 n19 : Nat) (i20 : Int) (i21 : Int) (i22 : Int) (i23 : Int) (i24 : Int) (i25 : Int) (i26 : Int) (i27 : Int) (i28 : Int) (i29 : Int) (i30 : Int) (o31 : Option Addr) (n32 n33 : Nat) (o34 : Option Addr) (n35 n36 : Nat) (o37 : Option Addr) (n38 n39 : Nat) (o40 : Option Addr) (n41 n42 : Nat) (o43 : Option Addr) (n44 n45 : Nat) (i46 : Int) (i47 : Int) (i48 : Int) (i49 : Int) (i50 : Int) (i51 : Int) : T :=
  T.new
  (Obj.cells
    (Array.mk
    [Value.int IntKind.i64 i0, Value.int IntKind.i64 i1, Value.int IntKind.i64 i2, Value.int IntKind.i64 i3, Value.int IntKind.i64 i4, Value.slice o5 n6 n7,
    Value.slice o8 n9 n10, Value.slice o11 n12 n13, Value.slice o14 n15 n16, Value.slice o17 n18 n19, Value.int IntKind.i64 i20, Value.int IntKind.i64 i21,
    Value.int IntKind.i64 i22, Value.int IntKind.u8 i23, Value.int IntKind.i64 i24, Value.int IntKind.i64 i25])
    40)
  fun n52 =>
  T.new
    (Obj.cells
    (Array.mk
    [Value.int IntKind.i64 i26, Value.int IntKind.i64 i27, Value.int IntKind.i64 i28, Value.int IntKind.i64 i29, Value.int IntKind.i64 i30,
    Value.slice o31 n32 n33, Value.slice o34 n35 n36, Value.slice o37 n38 n39, Value.slice o40 n41 n42, Value.slice o43 n44 n45,
    Value.int IntKind.i64 i46, Value.int IntKind.i64 i47, Value.int IntKind.i64 i48, Value.int IntKind.u8 i49, Value.int IntKind.i64 i50,
    Value.int IntKind.i64 i51])
    40)
    fun n53 =>
    T.ldI IntKind.i64 n52 0 fun i54 =>
    T.ldI IntKind.i64 n52 1 fun i55 =>
    T.ldI IntKind.i64 n52 2 fun i56 =>
    T.ldI IntKind.i64 n52 3 fun i57 =>
    T.ldI IntKind.i64 n52 4 fun i58 =>
    T.ldS n52 5 fun o59 n60 n61 =>
    T.ldS n52 6 fun o62 n63 n64 =>
    T.ldS n52 7 fun o65 n66 n67 =>
    T.ldS n52 8 fun o68 n69 n70 =>
    T.ldS n52 9 fun o71 n72 n73 =>
    T.ldI IntKind.i64 n52 10 fun i74 =>
    T.ldI IntKind.i64 n52 11 fun i75 =>
    T.ldI IntKind.i64 n52 12 fun i76 =>
    T.ldI IntKind.u8 n52 13 fun i77 =>
    T.ldI IntKind.i64 n52 14 fun i78 =>
    T.ldI IntKind.i64 n52 15 fun i79 =>
    T.call 9
    [Value.agg
    (Array.mk
    [Value.int IntKind.i64 i54, Value.int IntKind.i64 i55, Value.int IntKind.i64 i56, Value.int IntKind.i64 i57,
    Value.int IntKind.i64 i58, Value.slice o59 n60 n61, Value.slice o62 n63 n64, Value.slice o65 n66 n67,
    Value.slice o68 n69 n70, Value.slice o71 n72 n73, Value.int IntKind.i64 i74, Value.int IntKind.i64 i75,
    Value.int IntKind.i64 i76, Value.int IntKind.u8 i77, Value.int IntKind.i64 i78, Value.int IntKind.i64 i79])]
    fun v80 =>
    T.asU v80 fun l81 =>
    T.req (List.length l81 = 2)
    (T.asT (List.headD l81 (Value.tuple (Array.mk []))) fun s82 =>
    T.asI IntKind.i64 (List.headD (List.tail l81) (Value.tuple (Array.mk []))) fun i83 =>
    T.ldI IntKind.i64 n53 0 fun i84 =>
    T.ldI IntKind.i64 n53 1 fun i85 =>
    T.ldI IntKind.i64 n53 2 fun i86 =>
    T.ldI IntKind.i64 n53 3 fun i87 =>
    T.ldI IntKind.i64 n53 4 fun i88 =>
    T.ldS n53 5 fun o89 n90 n91 =>
    T.ldS n53 6 fun o92 n93 n94 =>
    T.ldS n53 7 fun o95 n96 n97 =>
    T.ldS n53 8 fun o98 n99 n100 =>
    T.ldS n53 9 fun o101 n102 n103 =>
    T.ldI IntKind.i64 n53 10 fun i104 =>
    T.ldI IntKind.i64 n53 11 fun i105 =>
    T.ldI IntKind.i64 n53 12 fun i106 =>
    T.ldI IntKind.u8 n53 13 fun i107 =>
    T.ldI IntKind.i64 n53 14 fun i108 =>
    T.ldI IntKind.i64 n53 15 fun i109 =>
    T.call 9
    [Value.agg
    (Array.mk
    [Value.int IntKind.i64 i84, Value.int IntKind.i64 i85,
    Value.int IntKind.i64 i86, Value.int IntKind.i64 i87,
    Value.int IntKind.i64 i88, Value.slice o89 n90 n91,
    Value.slice o92 n93 n94, Value.slice o95 n96 n97,
    Value.slice o98 n99 n100, Value.slice o101 n102 n103,
    Value.int IntKind.i64 i104, Value.int IntKind.i64 i105,
    Value.int IntKind.i64 i106, Value.int IntKind.u8 i107,
    Value.int IntKind.i64 i108, Value.int IntKind.i64 i109])]
    fun v110 =>
    T.asU v110 fun l111 =>
    T.req (List.length l111 = 2)
    (T.asT (List.headD l111 (Value.tuple (Array.mk []))) fun s112 =>
    T.asI IntKind.i64
    (List.headD (List.tail l111) (Value.tuple (Array.mk []))) fun i113 =>
    T.ldI IntKind.i64 n52 0 fun i114 =>
    T.ldI IntKind.i64 n52 1 fun i115 =>
    T.ldI IntKind.i64 n52 2 fun i116 =>
    T.ldI IntKind.i64 n52 3 fun i117 =>
    T.ldI IntKind.i64 n52 4 fun i118 =>
    T.ldS n52 5 fun o119 n120 n121 =>
    T.ldS n52 6 fun o122 n123 n124 =>
    T.ldS n52 7 fun o125 n126 n127 =>
    T.ldS n52 8 fun o128 n129 n130 =>
    T.ldS n52 9 fun o131 n132 n133 =>
    T.ldI IntKind.i64 n52 10 fun i134 =>
    T.ldI IntKind.i64 n52 11 fun i135 =>
    T.ldI IntKind.i64 n52 12 fun i136 =>
    T.ldI IntKind.u8 n52 13 fun i137 =>
    T.ldI IntKind.i64 n52 14 fun i138 =>
    T.ldI IntKind.i64 n52 15 fun i139 =>
    T.call 10
    [Value.agg
    (Array.mk
    [Value.int IntKind.i64 i114,
    Value.int IntKind.i64 i115,
    Value.int IntKind.i64 i116,
    Value.int IntKind.i64 i117,
    Value.int IntKind.i64 i118,
    Value.slice o119 n120 n121,
    Value.slice o122 n123 n124,
    Value.slice o125 n126 n127,
    Value.slice o128 n129 n130,
    Value.slice o131 n132 n133,
    Value.int IntKind.i64 i134,
    Value.int IntKind.i64 i135,
    Value.int IntKind.i64 i136,
    Value.int IntKind.u8 i137,
    Value.int IntKind.i64 i138,
    Value.int IntKind.i64 i139])]
    fun v140 =>
    T.asU v140 fun l141 =>
    T.req (List.length l141 = 2)
    (T.asT
    (List.headD l141
    (Value.tuple (Array.mk [])))
    fun s142 =>
    T.asI IntKind.i64
    (List.headD (List.tail l141)
    (Value.tuple (Array.mk [])))
    fun i143 =>
    T.ldI IntKind.i64 n53 0
    fun i144 =>
    T.ldI IntKind.i64 n53 1
    fun i145 =>
    T.ldI IntKind.i64 n53 2
    fun i146 =>
    T.ldI IntKind.i64 n53 3
    fun i147 =>
    T.ldI IntKind.i64 n53
    4 fun i148 =>
    T.ldS n53 5
    fun o149 n150
    n151 =>
    T.ldS n53 6
    fun o152 n153
    n154 =>
    T.ldS n53 7
    fun o155 n156
    n157 =>
    T.ldS n53 8
    fun o158
    n159
    n160 =>
    T.ldS n53 9
    fun o161
    n162
    n163 =>
    T.ldI
    IntKind.i64
    n53 10
    fun
    i164 =>
    T.ldI
    IntKind.i64
    n53 11
    fun
    i165 =>
    T.ldI
    IntKind.i64
    n53
    12
    fun
    i166 =>
    T.ldI
    IntKind.u8
    n53
    13
    fun
    i167 =>
    T.ldI
    IntKind.i64
    n53
    14
    fun
    i168 =>
    T.ldI
    IntKind.i64
    n53
    15
    fun
    i169 =>
    T.call
    10
    [Value.agg
    (Array.mk
    [Value.int
    IntKind.i64
    i144,
    Value.int
    IntKind.i64
    i145,
    Value.int
    IntKind.i64
    i146,
    Value.int
    IntKind.i64
    i147,
    Value.int
    IntKind.i64
    i148,
    Value.slice
    o149
    n150
    n151,
    Value.slice
    o152
    n153
    n154,
    Value.slice
    o155
    n156
    n157,
    Value.slice
    o158
    n159
    n160,
    Value.slice
    o161
    n162
    n163,
    Value.int
    IntKind.i64
    i164,
    Value.int
    IntKind.i64
    i165,
    Value.int
    IntKind.i64
    i166,
    Value.int
    IntKind.u8
    i167,
    Value.int
    IntKind.i64
    i168,
    Value.int
    IntKind.i64
    i169])]
    fun
    v170 =>
    T.asU
    v170
    fun
    l171 =>
    T.req
    (List.length
    l171 =
    2)
    (T.asT
    (List.headD
    l171
    (Value.tuple
    (Array.mk
    [])))
    fun
    s172 =>
    T.asI
    IntKind.i64
    (List.headD
    (List.tail
    l171)
    (Value.tuple
    (Array.mk
    [])))
    fun
    i173 =>
    T.blk
    0
    (fun
    l174
    j175 =>
    T.ite
    (i83 !=
    0)
    (T.ret
    (Value.bool
    true))
    (T.ite
    (i113 !=
    0)
    (T.ret
    (Value.bool
    true))
    (T.ldI
    IntKind.i64
    n52
    0
    fun
    i176 =>
    T.ldI
    IntKind.i64
    n52
    1
    fun
    i177 =>
    T.ldI
    IntKind.i64
    n52
    2
    fun
    i178 =>
    T.ldI
    IntKind.i64
    n52
    3
    fun
    i179 =>
    T.ldI
    IntKind.i64
    n52
    4
    fun
    i180 =>
    T.ldS
    n52
    5
    fun
    o181
    n182
    n183 =>
    T.ldS
    n52
    6
    fun
    o184
    n185
    n186 =>
    T.ldS
    n52
    7
    fun
    o187
    n188
    n189 =>
    T.ldS
    n52
    8
    fun
    o190
    n191
    n192 =>
    T.ldS
    n52
    9
    fun
    o193
    n194
    n195 =>
    T.ldI
    IntKind.i64
    n52
    10
    fun
    i196 =>
    T.ldI
    IntKind.i64
    n52
    11
    fun
    i197 =>
    T.ldI
    IntKind.i64
    n52
    12
    fun
    i198 =>
    T.ldI
    IntKind.u8
    n52
    13
    fun
    i199 =>
    T.ldI
    IntKind.i64
    n52
    14
    fun
    i200 =>
    T.ldI
    IntKind.i64
    n52
    15
    fun
    i201 =>
    T.ldI
    IntKind.i64
    n53
    0
    fun
    i202 =>
    T.ldI
    IntKind.i64
    n53
    1
    fun
    i203 =>
    T.ldI
    IntKind.i64
    n53
    2
    fun
    i204 =>
    T.ldI
    IntKind.i64
    n53
    3
    fun
    i205 =>
    T.ldI
    IntKind.i64
    n53
    4
    fun
    i206 =>
    T.ldS
    n53
    5
    fun
    o207
    n208
    n209 =>
    T.ldS
    n53
    6
    fun
    o210
    n211
    n212 =>
    T.ldS
    n53
    7
    fun
    o213
    n214
    n215 =>
    T.ldS
    n53
    8
    fun
    o216
    n217
    n218 =>
    T.ldS
    n53
    9
    fun
    o219
    n220
    n221 =>
    T.ldI
    IntKind.i64
    n53
    10
    fun
    i222 =>
    T.ldI
    IntKind.i64
    n53
    11
    fun
    i223 =>
    T.ldI
    IntKind.i64
    n53
    12
    fun
    i224 =>
    T.ldI
    IntKind.u8
    n53
    13
    fun
    i225 =>
    T.ldI
    IntKind.i64
    n53
    14
    fun
    i226 =>
    T.ldI
    IntKind.i64
    n53
    15
    fun
    i227 =>
    T.call
    11
    [Value.agg
    (Array.mk
    [Value.int
    IntKind.i64
    i176,
    Value.int
    IntKind.i64
    i177,
    Value.int
    IntKind.i64
    i178,
    Value.int
    IntKind.i64
    i179,
    Value.int
    IntKind.i64
    i180,
    Value.slice
    o181
    n182
    n183,
    Value.slice
    o184
    n185
    n186,
    Value.slice
    o187
    n188
    n189,
    Value.slice
    o190
    n191
    n192,
    Value.slice
    o193
    n194
    n195,
    Value.int
    IntKind.i64
    i196,
    Value.int
    IntKind.i64
    i197,
    Value.int
    IntKind.i64
    i198,
    Value.int
    IntKind.u8
    i199,
    Value.int
    IntKind.i64
    i200,
    Value.int
    IntKind.i64
    i201]),
    Value.agg
    (Array.mk
    [Value.int
    IntKind.i64
    i202,
    Value.int
    IntKind.i64
    i203,
    Value.int
    IntKind.i64
    i204,
    Value.int
    IntKind.i64
    i205,
    Value.int
    IntKind.i64
    i206,
    Value.slice
    o207
    n208
    n209,
    Value.slice
    o210
    n211
    n212,
    Value.slice
    o213
    n214
    n215,
    Value.slice
    o216
    n217
    n218,
    Value.slice
    o219
    n220
    n221,
    Value.int
    IntKind.i64
    i222,
    Value.int
    IntKind.i64
    i223,
    Value.int
    IntKind.i64
    i224,
    Value.int
    IntKind.u8
    i225,
    Value.int
    IntKind.i64
    i226,
    Value.int
    IntKind.i64
    i227])]
    fun
    v228 =>
    T.asB
    v228
    fun
    b229 =>
    T.ret
    (Value.bool
    ((ByteArray.toList
    s82 ==
    ByteArray.toList
    s112) ==
    b229)))))
    (T.ite
    (i83 !=
    i143)
    (T.ret
    (Value.bool
    false))
    (T.ite
    (i113 !=
    i173)
    (T.ret
    (Value.bool
    false))
    (T.call
    8
    []
    fun
    v230 =>
    T.asB
    v230
    fun
    b231 =>
    T.ite
    (!b231)
    (T.ret
    (Value.bool
    false))
    (T.next
    0
    []
    ([Value.pointer
    (some
    (Addr.mk
    n52
    0
    none)),
    Value.pointer
    (some
    (Addr.mk
    n53
    0
    none)),
    Value.string
    s82,
    Value.int
    IntKind.i64
    i83,
    Value.string
    s112,
    Value.int
    IntKind.i64
    i113] =
    [Value.pointer
    (some
    (Addr.mk
    n52
    0
    none)),
    Value.pointer
    (some
    (Addr.mk
    n53
    0
    none)),
    Value.string
    s82,
    Value.int
    IntKind.i64
    i83,
    Value.string
    s112,
    Value.int
    IntKind.i64
    i113] ∧ ([] : List Deferred) = [])))))))))
theorem e4 (i0 : Int) (i1 : Int) (i2 : Int) (i3 : Int) (i4 : Int) (o5 : Option Addr) (n6 n7 : Nat) (o8 : Option Addr) (n9 n10 : Nat) (o11 : Option Addr) (n12 n13 : Nat) (o14 : Option Addr) (n15 n16 : Nat) (o17 : Option Addr) (n18 n19 : Nat) (i20 : Int) (i21 : Int) (i22 : Int) (i23 : Int) (i24 : Int) (i25 : Int) (i26 : Int) (i27 : Int) (i28 : Int) (i29 : Int) (i30 : Int) (o31 : Option Addr) (n32 n33 : Nat) (o34 : Option Addr) (n35 n36 : Nat) (o37 : Option Addr) (n38 n39 : Nat) (o40 : Option Addr) (n41 n42 : Nat) (o43 : Option Addr) (n44 n45 : Nat) (i46 : Int) (i47 : Int) (i48 : Int) (i49 : Int) (i50 : Int) (i51 : Int) : treeOf Tryd.prog Tryd.f4 (codeOf Tryd.f4) (.s .n (.s .n (.s .n (.s .n (.s .n (.c [] [2, 3, 5, 6, 7, 8] .n .n)))))) [.v (.agg #[.int .i64 i0, .int .i64 i1, .int .i64 i2, .int .i64 i3, .int .i64 i4, .slice o5 n6 n7, .slice o8 n9 n10, .slice o11 n12 n13, .slice o14 n15 n16, .slice o17 n18 n19, .int .i64 i20, .int .i64 i21, .int .i64 i22, .int .u8 i23, .int .i64 i24, .int .i64 i25]), .v (.agg #[.int .i64 i26, .int .i64 i27, .int .i64 i28, .int .i64 i29, .int .i64 i30, .slice o31 n32 n33, .slice o34 n35 n36, .slice o37 n38 n39, .slice o40 n41 n42, .slice o43 n44 n45, .int .i64 i46, .int .i64 i47, .int .i64 i48, .int .u8 i49, .int .i64 i50, .int .i64 i51])] = (t4 i0 i1 i2 i3 i4 o5 n6 n7 o8 n9 n10 o11 n12 n13 o14 n15 n16 o17 n18 n19 i20 i21 i22 i23 i24 i25 i26 i27 i28 i29 i30 o31 n32 n33 o34 n35 n36 o37 n38 n39 o40 n41 n42 o43 n44 n45 i46 i47 i48 i49 i50 i51) := by kernel_rfl
theorem c4 (i0 : Int) (i1 : Int) (i2 : Int) (i3 : Int) (i4 : Int) (o5 : Option Addr) (n6 n7 : Nat) (o8 : Option Addr) (n9 n10 : Nat) (o11 : Option Addr) (n12 n13 : Nat) (o14 : Option Addr) (n15 n16 : Nat) (o17 : Option Addr) (n18 n19 : Nat) (i20 : Int) (i21 : Int) (i22 : Int) (i23 : Int) (i24 : Int) (i25 : Int) (i26 : Int) (i27 : Int) (i28 : Int) (i29 : Int) (i30 : Int) (o31 : Option Addr) (n32 n33 : Nat) (o34 : Option Addr) (n35 n36 : Nat) (o37 : Option Addr) (n38 n39 : Nat) (o40 : Option Addr) (n41 n42 : Nat) (o43 : Option Addr) (n44 n45 : Nat) (i46 : Int) (i47 : Int) (i48 : Int) (i49 : Int) (i50 : Int) (i51 : Int) {w : World} {R : Ending → World → Prop} (h : (t4 i0 i1 i2 i3 i4 o5 n6 n7 o8 n9 n10 o11 n12 n13 o14 n15 n16 o17 n18 n19 i20 i21 i22 i23 i24 i25 i26 i27 i28 i29 i30 o31 n32 n33 o34 n35 n36 o37 n38 n39 o40 n41 n42 o43 n44 n45 i46 i47 i48 i49 i50 i51).sem Tryd.prog R ρ0 w) : Calls Tryd.prog 4 #[.agg #[.int .i64 i0, .int .i64 i1, .int .i64 i2, .int .i64 i3, .int .i64 i4, .slice o5 n6 n7, .slice o8 n9 n10, .slice o11 n12 n13, .slice o14 n15 n16, .slice o17 n18 n19, .int .i64 i20, .int .i64 i21, .int .i64 i22, .int .u8 i23, .int .i64 i24, .int .i64 i25], .agg #[.int .i64 i26, .int .i64 i27, .int .i64 i28, .int .i64 i29, .int .i64 i30, .slice o31 n32 n33, .slice o34 n35 n36, .slice o37 n38 n39, .slice o40 n41 n42, .slice o43 n44 n45, .int .i64 i46, .int .i64 i47, .int .i64 i48, .int .u8 i49, .int .i64 i50, .int .i64 i51]] w R :=
  calls_of mixed Tryd.func4 rfl rfl (e4 i0 i1 i2 i3 i4 o5 n6 n7 o8 n9 n10 o11 n12 n13 o14 n15 n16 o17 n18 n19 i20 i21 i22 i23 i24 i25 i26 i27 i28 i29 i30 o31 n32 n33 o34 n35 n36 o37 n38 n39 o40 n41 n42 o43 n44 n45 i46 i47 i48 i49 i50 i51) h
end Go.Proofs.YtihipcofjpnfbaaDoor
