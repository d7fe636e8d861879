/- The functions' trees, printed by a program (wip/tools/Emit.lean) and checked by the kernel against the model's own code. -/
import Derived.Test.YtcmdbaafnbdpbaaTreesL
import Derived.Test.YtcmdbaafnbdpbaaProg
namespace Go.Proofs.Ytcmdbaafnbdpbaa
open Go hiding Expr
open Go.Proofs.Ytcmdbaafnbdpbaa.Tr
set_option linter.unusedVariables false
set_option maxRecDepth 100000
def t7 (o0 : Option Addr) (n1 n2 : Nat) (o3 : Option Addr) (n4 n5 : Nat) : T :=
  T.call 10 [] fun v6 =>
  T.asP v6 fun o7 =>
    T.blk 0
    (fun l8 j9 =>
    T.asB (List.headD l8 (Value.tuple (Array.mk []))) fun b10 =>
    T.loop 0 [Value.int IntKind.i64 0] fun l11 j12 =>
    T.asI IntKind.i64 (List.headD l11 (Value.tuple (Array.mk []))) fun i13 =>
    T.ite (decide (i13 < (↑n1 : Int)))
    (T.req (0 ≤ i13 ∧ i13 < (↑n1 : Int))
    (T.sm o0 fun n14 n15 =>
    T.ldI IntKind.i64 n14 (n15 + Int.toNat i13 * 9) fun i16 =>
    T.ldI IntKind.i64 n14 (n15 + Int.toNat i13 * 9 + 1) fun i17 =>
    T.ldB n14 (n15 + Int.toNat i13 * 9 + 2) fun b18 =>
    T.ldB n14 (n15 + Int.toNat i13 * 9 + 3) fun b19 =>
    T.ldI IntKind.i64 n14 (n15 + Int.toNat i13 * 9 + 4) fun i20 =>
    T.ldS n14 (n15 + Int.toNat i13 * 9 + 5) fun o21 n22 n23 =>
    T.ldI IntKind.i64 n14 (n15 + Int.toNat i13 * 9 + 6) fun i24 =>
    T.ldI IntKind.i64 n14 (n15 + Int.toNat i13 * 9 + 7) fun i25 =>
    T.ldI IntKind.i64 n14 (n15 + Int.toNat i13 * 9 + 8) fun i26 =>
    T.new
    (Obj.cells
    (Array.mk
    [Value.int IntKind.i64 0, Value.int IntKind.i64 0, Value.bool false, Value.bool false, Value.int IntKind.i64 0,
    Value.slice none 0 0, Value.int IntKind.i64 0, Value.int IntKind.i64 0, Value.int IntKind.i64 0])
    32)
    fun n27 =>
    T.st n27 0 (Value.int IntKind.i64 i16)
    (T.st n27 1 (Value.int IntKind.i64 i17)
    (T.st n27 2 (Value.bool b18)
    (T.st n27 3 (Value.bool b19)
    (T.st n27 4 (Value.int IntKind.i64 i20)
    (T.st n27 5 (Value.slice o21 n22 n23)
    (T.st n27 6 (Value.int IntKind.i64 i24)
    (T.st n27 7 (Value.int IntKind.i64 i25)
    (T.st n27 8 (Value.int IntKind.i64 i26)
    (T.ldI IntKind.i64 n27 0 fun i28 =>
    T.ldI IntKind.i64 n27 1 fun i29 =>
    T.ldI IntKind.i64 n27 4 fun i30 =>
    T.ldS n27 5 fun o31 n32 n33 =>
    T.ldI IntKind.i64 n27 6 fun i34 =>
    T.ldI IntKind.i64 n27 7 fun i35 =>
    T.call 12
    [Value.pointer o7, Value.int IntKind.i64 i28, Value.int IntKind.i64 i29,
    Value.agg
    (Array.mk
    [Value.int IntKind.i64 i30, Value.slice o31 n32 n33, Value.int IntKind.i64 i34,
    Value.int IntKind.i64 i35])]
    fun v36 =>
    T.asI IntKind.i64 v36 fun i37 =>
    T.next 0 [Value.int IntKind.i64 (IntKind.wrap IntKind.i64 (i13 + 1))]
    ([Value.slice o3 n4 n5, Value.bool b10, Value.pointer o7, Value.slice o0 n1 n2,
    Value.int IntKind.i64 (↑n1 : Int)] =
    [Value.slice o3 n4 n5, Value.bool b10, Value.pointer o7, Value.slice o0 n1 n2,
    Value.int IntKind.i64 (↑n1 : Int)] ∧ ([] : List Deferred) = []))))))))))))
    (T.new (Obj.cells (Array.mk [Value.slice none 0 0]) 42) fun n38 =>
    T.call 19 [Value.pointer o7] fun v39 =>
    T.asC 36 v39 fun l40 =>
    T.req (List.length l40 = 1)
    (T.asP (List.headD l40 (Value.tuple (Array.mk []))) fun o41 =>
    T.rf none 0 36 [Value.pointer o41]
    (fun n42 l43 =>
    T.req (List.length l43 = 1)
    (T.asA (List.headD l43 (Value.tuple (Array.mk []))) fun l44 =>
    T.req (List.length l44 = 6)
    (T.asI IntKind.i64 (List.headD l44 (Value.tuple (Array.mk []))) fun i45 =>
    T.asI IntKind.i64 (List.headD (List.tail l44) (Value.tuple (Array.mk []))) fun i46 =>
    T.asI IntKind.i64 (List.headD (List.tail (List.tail l44)) (Value.tuple (Array.mk []))) fun i47 =>
    T.asS (List.headD (List.tail (List.tail (List.tail l44))) (Value.tuple (Array.mk []))) fun o48 n49 n50 =>
    T.asI IntKind.i64 (List.headD (List.tail (List.tail (List.tail (List.tail l44)))) (Value.tuple (Array.mk [])))
    fun i51 =>
    T.asI IntKind.i64
    (List.headD (List.tail (List.tail (List.tail (List.tail (List.tail l44))))) (Value.tuple (Array.mk [])))
    fun i52 =>
    T.new
    (Obj.cells
    (Array.mk
    [Value.int IntKind.i64 0, Value.int IntKind.i64 0, Value.int IntKind.i64 0, Value.slice none 0 0,
    Value.int IntKind.i64 0, Value.int IntKind.i64 0])
    56)
    fun n53 =>
    T.st n53 0 (Value.int IntKind.i64 i45)
    (T.st n53 1 (Value.int IntKind.i64 i46)
    (T.st n53 2 (Value.int IntKind.i64 i47)
    (T.st n53 3 (Value.slice o48 n49 n50)
    (T.st n53 4 (Value.int IntKind.i64 i51)
    (T.st n53 5 (Value.int IntKind.i64 i52)
    (T.beg n42
    (T.ldS n38 0 fun o54 n55 n56 =>
    T.ldI IntKind.i64 n53 0 fun i57 =>
    T.ldI IntKind.i64 n53 1 fun i58 =>
    T.ldI IntKind.i64 n53 2 fun i59 =>
    T.ldS n53 3 fun o60 n61 n62 =>
    T.ldI IntKind.i64 n53 4 fun i63 =>
    T.ldI IntKind.i64 n53 5 fun i64 =>
    T.new
    (Obj.cells
    (Array.mk
    [Value.int IntKind.i64 i57, Value.int IntKind.i64 i58,
    Value.int IntKind.i64 i59, Value.slice o60 n61 n62,
    Value.int IntKind.i64 i63, Value.int IntKind.i64 i64])
    56)
    fun n65 =>
    T.run
    (biV Builtin.append (Array.mk [42, 42]) 42
    (Array.mk
    [Value.slice o54 n55 n56, Value.slice (some (Addr.mk n65 0 none)) 1 1]))
    fun v66 =>
    T.asS v66 fun o67 n68 n69 =>
    T.st n38 0 (Value.slice o67 n68 n69)
    (T.run (Instr.endRound n42 none) fun v70 => T.next 0 [v70] True)))))))))))
    (fun n71 =>
    T.ldS n38 0 fun o72 n73 n74 =>
    T.call2 16 [Value.slice o72 n73 n74]
    (fun v75 =>
    T.asU v75 fun l76 =>
    T.req (List.length l76 = 2)
    (T.asP (List.headD l76 (Value.tuple (Array.mk []))) fun o77 =>
    T.asI IntKind.i64 (List.headD (List.tail l76) (Value.tuple (Array.mk []))) fun i78 =>
    T.blk 0
    (fun l79 j80 =>
    T.loop 0 [Value.int IntKind.i64 0] fun l81 j82 =>
    T.asI IntKind.i64 (List.headD l81 (Value.tuple (Array.mk []))) fun i83 =>
    T.ite (decide (i83 < (↑n4 : Int)))
    (T.req (0 ≤ i83 ∧ i83 < (↑n4 : Int))
    (T.sm o3 fun n84 n85 =>
    T.ldI IntKind.i64 n84 (n85 + Int.toNat i83 * 9) fun i86 =>
    T.ldI IntKind.i64 n84 (n85 + Int.toNat i83 * 9 + 1) fun i87 =>
    T.ldB n84 (n85 + Int.toNat i83 * 9 + 2) fun b88 =>
    T.ldB n84 (n85 + Int.toNat i83 * 9 + 3) fun b89 =>
    T.ldI IntKind.i64 n84 (n85 + Int.toNat i83 * 9 + 4) fun i90 =>
    T.ldS n84 (n85 + Int.toNat i83 * 9 + 5) fun o91 n92 n93 =>
    T.ldI IntKind.i64 n84 (n85 + Int.toNat i83 * 9 + 6) fun i94 =>
    T.ldI IntKind.i64 n84 (n85 + Int.toNat i83 * 9 + 7) fun i95 =>
    T.ldI IntKind.i64 n84 (n85 + Int.toNat i83 * 9 + 8) fun i96 =>
    T.new
    (Obj.cells
    (Array.mk
    [Value.int IntKind.i64 0, Value.int IntKind.i64 0, Value.bool false,
    Value.bool false, Value.int IntKind.i64 0, Value.slice none 0 0,
    Value.int IntKind.i64 0, Value.int IntKind.i64 0, Value.int IntKind.i64 0])
    32)
    fun n97 =>
    T.st n97 0 (Value.int IntKind.i64 i86)
    (T.st n97 1 (Value.int IntKind.i64 i87)
    (T.st n97 2 (Value.bool b88)
    (T.st n97 3 (Value.bool b89)
    (T.st n97 4 (Value.int IntKind.i64 i90)
    (T.st n97 5 (Value.slice o91 n92 n93)
    (T.st n97 6 (Value.int IntKind.i64 i94)
    (T.st n97 7 (Value.int IntKind.i64 i95)
    (T.st n97 8 (Value.int IntKind.i64 i96)
    (T.ldI IntKind.i64 n97 0 fun i98 =>
    T.ldI IntKind.i64 n97 1 fun i99 =>
    T.call2 13
    [Value.pointer o7, Value.int IntKind.i64 i98,
    Value.int IntKind.i64 i99]
    (fun v100 =>
    T.asU v100 fun l101 =>
    T.req (List.length l101 = 2)
    (T.asA (List.headD l101 (Value.tuple (Array.mk [])))
    fun l102 =>
    T.req (List.length l102 = 4)
    (T.asI IntKind.i64
    (List.headD l102 (Value.tuple (Array.mk [])))
    fun i103 =>
    T.asS
    (List.headD (List.tail l102)
    (Value.tuple (Array.mk [])))
    fun o104 n105 n106 =>
    T.asI IntKind.i64
    (List.headD (List.tail (List.tail l102))
    (Value.tuple (Array.mk [])))
    fun i107 =>
    T.asI IntKind.i64
    (List.headD
    (List.tail
    (List.tail (List.tail l102)))
    (Value.tuple (Array.mk [])))
    fun i108 =>
    T.asI IntKind.i64
    (List.headD (List.tail l101)
    (Value.tuple (Array.mk [])))
    fun i109 =>
    T.new
    (Obj.cells
    (Array.mk
    [Value.int IntKind.i64 0,
    Value.slice none 0 0,
    Value.int IntKind.i64 0,
    Value.int IntKind.i64 0])
    30)
    fun n110 =>
    T.st n110 0
    (Value.int IntKind.i64 i103)
    (T.st n110 1
    (Value.slice o104 n105 n106)
    (T.st n110 2
    (Value.int IntKind.i64 i107)
    (T.st n110 3
    (Value.int IntKind.i64 i108)
    (T.ldI IntKind.i64 n97 0
    fun i111 =>
    T.ldI IntKind.i64 n97 1
    fun i112 =>
    T.call2 13
    [Value.pointer o77,
    Value.int
    IntKind.i64 i111,
    Value.int
    IntKind.i64 i112]
    (fun v113 =>
    T.asU v113
    fun l114 =>
    T.req
    (List.length
    l114 =
    2)
    (T.asA
    (List.headD
    l114
    (Value.tuple
    (Array.mk
    [])))
    fun l115 =>
    T.req
    (List.length
    l115 =
    4)
    (T.asI
    IntKind.i64
    (List.headD
    l115
    (Value.tuple
    (Array.mk
    [])))
    fun
    i116 =>
    T.asS
    (List.headD
    (List.tail
    l115)
    (Value.tuple
    (Array.mk
    [])))
    fun o117
    n118
    n119 =>
    T.asI
    IntKind.i64
    (List.headD
    (List.tail
    (List.tail
    l115))
    (Value.tuple
    (Array.mk
    [])))
    fun
    i120 =>
    T.asI
    IntKind.i64
    (List.headD
    (List.tail
    (List.tail
    (List.tail
    l115)))
    (Value.tuple
    (Array.mk
    [])))
    fun
    i121 =>
    T.asI
    IntKind.i64
    (List.headD
    (List.tail
    l114)
    (Value.tuple
    (Array.mk
    [])))
    fun
    i122 =>
    T.new
    (Obj.cells
    (Array.mk
    [Value.int
    IntKind.i64
    0,
    Value.slice
    none
    0
    0,
    Value.int
    IntKind.i64
    0,
    Value.int
    IntKind.i64
    0])
    30)
    fun
    n123 =>
    T.st
    n123
    0
    (Value.int
    IntKind.i64
    i116)
    (T.st
    n123
    1
    (Value.slice
    o117
    n118
    n119)
    (T.st
    n123
    2
    (Value.int
    IntKind.i64
    i120)
    (T.st
    n123
    3
    (Value.int
    IntKind.i64
    i121)
    (T.drew
    (T.ldI
    IntKind.i64
    n110
    0
    fun
    i124 =>
    T.ldS
    n110
    1
    fun
    o125
    n126
    n127 =>
    T.ldI
    IntKind.i64
    n110
    2
    fun
    i128 =>
    T.ldI
    IntKind.i64
    n110
    3
    fun
    i129 =>
    T.ldI
    IntKind.i64
    n123
    0
    fun
    i130 =>
    T.ldS
    n123
    1
    fun
    o131
    n132
    n133 =>
    T.ldI
    IntKind.i64
    n123
    2
    fun
    i134 =>
    T.ldI
    IntKind.i64
    n123
    3
    fun
    i135 =>
    T.call2
    14
    [Value.agg
    (Array.mk
    [Value.int
    IntKind.i64
    i124,
    Value.slice
    o125
    n126
    n127,
    Value.int
    IntKind.i64
    i128,
    Value.int
    IntKind.i64
    i129]),
    Value.agg
    (Array.mk
    [Value.int
    IntKind.i64
    i130,
    Value.slice
    o131
    n132
    n133,
    Value.int
    IntKind.i64
    i134,
    Value.int
    IntKind.i64
    i135])]
    (fun
    v136 =>
    T.asB
    v136
    fun
    b137 =>
    T.chk
    []
    (T.ite
    (!b137)
    (T.chk
    []
    (T.chk
    []
    (T.col
    n71
    (T.ret
    (Value.bool
    false)))))
    (T.ite
    (i109 !=
    i122)
    (T.chk
    []
    (T.chk
    []
    (T.col
    n71
    (T.ret
    (Value.bool
    false)))))
    (T.ldI
    IntKind.i64
    n97
    0
    fun
    i138 =>
    T.ldI
    IntKind.i64
    n97
    1
    fun
    i139 =>
    T.ldI
    IntKind.i64
    n97
    4
    fun
    i140 =>
    T.ldS
    n97
    5
    fun
    o141
    n142
    n143 =>
    T.ldI
    IntKind.i64
    n97
    6
    fun
    i144 =>
    T.ldI
    IntKind.i64
    n97
    7
    fun
    i145 =>
    T.ldI
    IntKind.i64
    n97
    0
    fun
    i146 =>
    T.ldI
    IntKind.i64
    n97
    1
    fun
    i147 =>
    T.ldI
    IntKind.i64
    n97
    4
    fun
    i148 =>
    T.ldS
    n97
    5
    fun
    o149
    n150
    n151 =>
    T.ldI
    IntKind.i64
    n97
    6
    fun
    i152 =>
    T.ldI
    IntKind.i64
    n97
    7
    fun
    i153 =>
    T.call2
    12
    [Value.pointer
    o7,
    Value.int
    IntKind.i64
    i138,
    Value.int
    IntKind.i64
    i139,
    Value.agg
    (Array.mk
    [Value.int
    IntKind.i64
    i140,
    Value.slice
    o141
    n142
    n143,
    Value.int
    IntKind.i64
    i144,
    Value.int
    IntKind.i64
    i145])]
    (fun
    v154 =>
    T.asI
    IntKind.i64
    v154
    fun
    i155 =>
    T.chk
    [(Addr.mk
    n97
    4
    none,
    Value.int
    IntKind.i64
    i148),
    (Addr.mk
    n97
    5
    none,
    Value.slice
    o149
    n150
    n151),
    (Addr.mk
    n97
    6
    none,
    Value.int
    IntKind.i64
    i152),
    (Addr.mk
    n97
    7
    none,
    Value.int
    IntKind.i64
    i153),
    (Addr.mk
    n97
    1
    none,
    Value.int
    IntKind.i64
    i147),
    (Addr.mk
    n97
    0
    none,
    Value.int
    IntKind.i64
    i146)]
    (T.call2
    12
    [Value.pointer
    o77,
    Value.int
    IntKind.i64
    i146,
    Value.int
    IntKind.i64
    i147,
    Value.agg
    (Array.mk
    [Value.int
    IntKind.i64
    i148,
    Value.slice
    o149
    n150
    n151,
    Value.int
    IntKind.i64
    i152,
    Value.int
    IntKind.i64
    i153])]
    (fun
    v156 =>
    T.asI
    IntKind.i64
    v156
    fun
    i157 =>
    T.chk
    []
    (T.ite
    (i155 !=
    i157)
    (T.col
    n71
    (T.ret
    (Value.bool
    false)))
    (T.next
    0
    [Value.int
    IntKind.i64
    (IntKind.wrap
    IntKind.i64
    (i83 +
    1))]
    ([Value.pointer
    o7,
    Value.pointer
    o77,
    Value.slice
    o3
    n4
    n5,
    Value.int
    IntKind.i64
    (↑n4 :
    Int)] =
    [Value.pointer
    o7,
    Value.pointer
    o77,
    Value.slice
    o3
    n4
    n5,
    Value.int
    IntKind.i64
    (↑n4 :
    Int)] ∧
    [Deferred.mk
    (Target.collected
    n71)
    (Array.mk
    [])] =
    [Deferred.mk
    (Target.collected
    n71)
    (Array.mk
    [])]))))
    fun
    v158 =>
    T.bad))
    fun
    v159 =>
    T.bad))))
    fun
    v160 =>
    T.bad))))))))
    fun v161 =>
    T.col n71
    (T.pan v161))))))))
    fun v162 => T.col n71 (T.pan v162))))))))))))
    (T.call2 15 [Value.pointer o7]
    (fun v163 =>
    T.asI IntKind.i64 v163 fun i164 =>
    T.call2 15 [Value.pointer o77]
    (fun v165 => T.asI IntKind.i64 v165 fun i166 => T.col n71 (T.ret (Value.bool (i164 == i166))))
    fun v167 => T.col n71 (T.pan v167))
    fun v168 => T.col n71 (T.pan v168)))
    (T.ite (i78 != 0) (T.col n71 (T.ret (Value.bool false)))
    (T.ite (Option.isNone o77) (T.col n71 (T.ret (Value.bool false)))
    (T.next 0 []
    ([Value.slice o3 n4 n5, Value.pointer o7, Value.pointer o77] =
    [Value.slice o3 n4 n5, Value.pointer o7, Value.pointer o77] ∧
    [Deferred.mk (Target.collected n71) (Array.mk [])] =
    [Deferred.mk (Target.collected n71) (Array.mk [])]))))))
    fun v169 => T.col n71 (T.pan v169))
    (fun n170 => T.col n170 (T.ret (Value.bool b10))) [])))
    (T.ite (Option.isNone o7) (T.ret (Value.bool false))
    (T.call 11 [] fun v171 =>
    T.asB v171 fun b172 =>
    T.ite (!b172) (T.ret (Value.bool false))
    (T.next 0 [Value.bool false]
    ([Value.slice o0 n1 n2, Value.slice o3 n4 n5, Value.pointer o7] = [Value.slice o0 n1 n2, Value.slice o3 n4 n5, Value.pointer o7] ∧ ([] : List Deferred) = []))))
theorem e7 (o0 : Option Addr) (n1 n2 : Nat) (o3 : Option Addr) (n4 n5 : Nat) : treeOf Try.prog Try.f7 (codeOf Try.f7) (.s .n (.s .n (.c [(4, .bool)] [0, 1, 5] .n (.s (.s .n (.u (.l [(27, .int .i64)] [1, 4, 5, 25, 26] .n))) (.s .n (.s (.s .n (.u (.f [.agg [.int .i64, .int .i64, .int .i64, .slice, .int .i64, .int .i64]] .n .n))) (.s .n (.c [] [1, 5, 10] .n (.s (.s .n (.u (.l [(60, .int .i64)] [5, 10, 58, 59] (.s .n (.s .n (.s (.u (.s .n (.s .n (.s .n (.s (.p [0, 1, 2, 3, 4, 5, 6, 7, 8, 9, 10, 11, 12, 13, 14, 15, 16, 18, 19, 20, 21, 22, 23, 24, 17, 25, 26, 27]) .n))))) .n)))))) .n))))))))) [.v (.slice o0 n1 n2), .v (.slice o3 n4 n5)] = (t7 o0 n1 n2 o3 n4 n5) := by kernel_rfl
theorem c7 (o0 : Option Addr) (n1 n2 : Nat) (o3 : Option Addr) (n4 n5 : Nat) {w : World} {R : Ending → World → Prop} (h : (t7 o0 n1 n2 o3 n4 n5).sem Try.prog R ρ0 w) : Calls Try.prog 7 #[.slice o0 n1 n2, .slice o3 n4 n5] w R :=
  calls_of mixed Try.func7 rfl rfl (e7 o0 n1 n2 o3 n4 n5) h
def t8 (o0 : Option Addr) (n1 n2 : Nat) : T :=
  T.call 10 [] fun v3 =>
  T.asP v3 fun o4 =>
    T.new (Obj.cells (Array.mk [Value.slice none 0 0]) 50) fun n5 =>
    T.blk 0
    (fun l6 j7 =>
    T.loop 0 [Value.pointer o4, Value.int IntKind.i64 0] fun l8 j9 =>
    T.asP (List.headD l8 (Value.tuple (Array.mk []))) fun o10 =>
    T.asI IntKind.i64 (List.headD (List.tail l8) (Value.tuple (Array.mk []))) fun i11 =>
    T.ite (decide (i11 < (↑n1 : Int)))
    (T.req (0 ≤ i11 ∧ i11 < (↑n1 : Int))
    (T.sm o0 fun n12 n13 =>
    T.ldI IntKind.i64 n12 (n13 + Int.toNat i11 * 9) fun i14 =>
    T.ldI IntKind.i64 n12 (n13 + Int.toNat i11 * 9 + 1) fun i15 =>
    T.ldB n12 (n13 + Int.toNat i11 * 9 + 2) fun b16 =>
    T.ldB n12 (n13 + Int.toNat i11 * 9 + 3) fun b17 =>
    T.ldI IntKind.i64 n12 (n13 + Int.toNat i11 * 9 + 4) fun i18 =>
    T.ldS n12 (n13 + Int.toNat i11 * 9 + 5) fun o19 n20 n21 =>
    T.ldI IntKind.i64 n12 (n13 + Int.toNat i11 * 9 + 6) fun i22 =>
    T.ldI IntKind.i64 n12 (n13 + Int.toNat i11 * 9 + 7) fun i23 =>
    T.ldI IntKind.i64 n12 (n13 + Int.toNat i11 * 9 + 8) fun i24 =>
    T.new
    (Obj.cells
    (Array.mk
    [Value.int IntKind.i64 0, Value.int IntKind.i64 0, Value.bool false, Value.bool false, Value.int IntKind.i64 0,
    Value.slice none 0 0, Value.int IntKind.i64 0, Value.int IntKind.i64 0, Value.int IntKind.i64 0])
    32)
    fun n25 =>
    T.st n25 0 (Value.int IntKind.i64 i14)
    (T.st n25 1 (Value.int IntKind.i64 i15)
    (T.st n25 2 (Value.bool b16)
    (T.st n25 3 (Value.bool b17)
    (T.st n25 4 (Value.int IntKind.i64 i18)
    (T.st n25 5 (Value.slice o19 n20 n21)
    (T.st n25 6 (Value.int IntKind.i64 i22)
    (T.st n25 7 (Value.int IntKind.i64 i23)
    (T.st n25 8 (Value.int IntKind.i64 i24)
    (T.blk 1
    (fun l26 j27 =>
    T.asP (List.headD l26 (Value.tuple (Array.mk []))) fun o28 =>
    T.ldI IntKind.i64 n25 0 fun i29 =>
    T.ldI IntKind.i64 n25 1 fun i30 =>
    T.call 13 [Value.pointer o28, Value.int IntKind.i64 i29, Value.int IntKind.i64 i30]
    fun v31 =>
    T.asU v31 fun l32 =>
    T.req (List.length l32 = 2)
    (T.asA (List.headD l32 (Value.tuple (Array.mk []))) fun l33 =>
    T.req (List.length l33 = 4)
    (T.asI IntKind.i64 (List.headD l33 (Value.tuple (Array.mk []))) fun i34 =>
    T.asS (List.headD (List.tail l33) (Value.tuple (Array.mk [])))
    fun o35 n36 n37 =>
    T.asI IntKind.i64
    (List.headD (List.tail (List.tail l33)) (Value.tuple (Array.mk [])))
    fun i38 =>
    T.asI IntKind.i64
    (List.headD (List.tail (List.tail (List.tail l33)))
    (Value.tuple (Array.mk [])))
    fun i39 =>
    T.asI IntKind.i64
    (List.headD (List.tail l32) (Value.tuple (Array.mk []))) fun i40 =>
    T.new
    (Obj.cells
    (Array.mk
    [Value.int IntKind.i64 0, Value.slice none 0 0,
    Value.int IntKind.i64 0, Value.int IntKind.i64 0])
    30)
    fun n41 =>
    T.st n41 0 (Value.int IntKind.i64 i34)
    (T.st n41 1 (Value.slice o35 n36 n37)
    (T.st n41 2 (Value.int IntKind.i64 i38)
    (T.st n41 3 (Value.int IntKind.i64 i39)
    (T.ldI IntKind.i64 n25 0 fun i42 =>
    T.ldI IntKind.i64 n25 1 fun i43 =>
    T.call 21
    [Value.pointer (some (Addr.mk n5 0 none)),
    Value.int IntKind.i64 i42,
    Value.int IntKind.i64 i43]
    fun v44 =>
    T.asU v44 fun l45 =>
    T.req (List.length l45 = 2)
    (T.asA
    (List.headD l45 (Value.tuple (Array.mk [])))
    fun l46 =>
    T.req (List.length l46 = 4)
    (T.asI IntKind.i64
    (List.headD l46 (Value.tuple (Array.mk [])))
    fun i47 =>
    T.asS
    (List.headD (List.tail l46)
    (Value.tuple (Array.mk [])))
    fun o48 n49 n50 =>
    T.asI IntKind.i64
    (List.headD (List.tail (List.tail l46))
    (Value.tuple (Array.mk [])))
    fun i51 =>
    T.asI IntKind.i64
    (List.headD
    (List.tail
    (List.tail (List.tail l46)))
    (Value.tuple (Array.mk [])))
    fun i52 =>
    T.asI IntKind.i64
    (List.headD (List.tail l45)
    (Value.tuple (Array.mk [])))
    fun i53 =>
    T.new
    (Obj.cells
    (Array.mk
    [Value.int IntKind.i64 0,
    Value.slice none 0 0,
    Value.int IntKind.i64 0,
    Value.int IntKind.i64 0])
    30)
    fun n54 =>
    T.st n54 0
    (Value.int IntKind.i64 i47)
    (T.st n54 1
    (Value.slice o48 n49 n50)
    (T.st n54 2
    (Value.int IntKind.i64 i51)
    (T.st n54 3
    (Value.int IntKind.i64
    i52)
    (T.blk 1
    (fun l55 j56 =>
    T.blk 1
    (fun l57 j58 =>
    T.drew
    (T.ldI
    IntKind.i64
    n25 0
    fun i59 =>
    T.ldI
    IntKind.i64
    n25 0
    fun i60 =>
    T.call 23
    [Value.pointer
    o28,
    Value.int
    IntKind.i64
    i59]
    fun v61 =>
    T.asI
    IntKind.i64
    v61
    fun
    i62 =>
    T.chk
    [(Addr.mk
    n25
    0
    none,
    Value.int
    IntKind.i64
    i60)]
    (T.call
    24
    [Value.pointer
    (some
    (Addr.mk
    n5
    0
    none)),
    Value.int
    IntKind.i64
    i60]
    fun
    v63 =>
    T.asI
    IntKind.i64
    v63
    fun
    i64 =>
    T.chk
    []
    (T.ite
    (i62 !=
    i64)
    (T.chk
    []
    (T.ret
    (Value.bool
    false)))
    (T.ldS
    n5
    0
    fun
    o65
    n66
    n67 =>
    T.ldI
    IntKind.i64
    n25
    8
    fun
    i68 =>
    T.call
    18
    [Value.pointer
    o28,
    Value.slice
    o65
    n66
    n67,
    Value.int
    IntKind.i64
    i68]
    fun
    v69 =>
    T.asB
    v69
    fun
    b70 =>
    T.chk
    []
    (T.ite
    (!b70)
    (T.ret
    (Value.bool
    false))
    (T.next
    0
    [Value.pointer
    o28,
    Value.int
    IntKind.i64
    (IntKind.wrap
    IntKind.i64
    (i11 +
    1))]
    ([Value.pointer
    (some
    (Addr.mk
    n5
    0
    none)),
    Value.slice
    o0
    n1
    n2,
    Value.int
    IntKind.i64
    (↑n1 :
    Int)] =
    [Value.pointer
    (some
    (Addr.mk
    n5
    0
    none)),
    Value.slice
    o0
    n1
    n2,
    Value.int
    IntKind.i64
    (↑n1 :
    Int)] ∧ ([] : List Deferred) = []))))))))
    (T.drew
    (T.ldB n25 2
    fun b71 =>
    T.ite b71
    (T.ldI
    IntKind.i64
    n25 0
    fun i72 =>
    T.ldI
    IntKind.i64
    n25 1
    fun i73 =>
    T.ldI
    IntKind.i64
    n25 4
    fun
    i74 =>
    T.ldS
    n25 5
    fun
    o75
    n76
    n77 =>
    T.ldI
    IntKind.i64
    n25
    6
    fun
    i78 =>
    T.ldI
    IntKind.i64
    n25
    7
    fun
    i79 =>
    T.ldI
    IntKind.i64
    n25
    0
    fun
    i80 =>
    T.ldI
    IntKind.i64
    n25
    1
    fun
    i81 =>
    T.ldI
    IntKind.i64
    n25
    4
    fun
    i82 =>
    T.ldS
    n25
    5
    fun
    o83
    n84
    n85 =>
    T.ldI
    IntKind.i64
    n25
    6
    fun
    i86 =>
    T.ldI
    IntKind.i64
    n25
    7
    fun
    i87 =>
    T.call
    12
    [Value.pointer
    o28,
    Value.int
    IntKind.i64
    i72,
    Value.int
    IntKind.i64
    i73,
    Value.agg
    (Array.mk
    [Value.int
    IntKind.i64
    i74,
    Value.slice
    o75
    n76
    n77,
    Value.int
    IntKind.i64
    i78,
    Value.int
    IntKind.i64
    i79])]
    fun
    v88 =>
    T.asI
    IntKind.i64
    v88
    fun
    i89 =>
    T.chk
    [(Addr.mk
    n25
    4
    none,
    Value.int
    IntKind.i64
    i82),
    (Addr.mk
    n25
    5
    none,
    Value.slice
    o83
    n84
    n85),
    (Addr.mk
    n25
    6
    none,
    Value.int
    IntKind.i64
    i86),
    (Addr.mk
    n25
    7
    none,
    Value.int
    IntKind.i64
    i87),
    (Addr.mk
    n25
    1
    none,
    Value.int
    IntKind.i64
    i81),
    (Addr.mk
    n25
    0
    none,
    Value.int
    IntKind.i64
    i80),
    (Addr.mk
    n25
    2
    none,
    Value.bool
    b71)]
    (T.call
    22
    [Value.pointer
    (some
    (Addr.mk
    n5
    0
    none)),
    Value.int
    IntKind.i64
    i80,
    Value.int
    IntKind.i64
    i81,
    Value.agg
    (Array.mk
    [Value.int
    IntKind.i64
    i82,
    Value.slice
    o83
    n84
    n85,
    Value.int
    IntKind.i64
    i86,
    Value.int
    IntKind.i64
    i87])]
    fun
    v90 =>
    T.asI
    IntKind.i64
    v90
    fun
    i91 =>
    T.chk
    [(Addr.mk
    n25
    2
    none,
    Value.bool
    b71)]
    (T.ite
    (i89 !=
    i91)
    (T.ret
    (Value.bool
    false))
    (T.next
    1
    []
    ([Value.pointer
    o28,
    Value.pointer
    (some
    (Addr.mk
    n5
    0
    none)),
    Value.pointer
    (some
    (Addr.mk
    n25
    0
    none)),
    Value.slice
    o0
    n1
    n2,
    Value.int
    IntKind.i64
    (↑n1 :
    Int),
    Value.int
    IntKind.i64
    i11] =
    [Value.pointer
    o28,
    Value.pointer
    (some
    (Addr.mk
    n5
    0
    none)),
    Value.pointer
    (some
    (Addr.mk
    n25
    0
    none)),
    Value.slice
    o0
    n1
    n2,
    Value.int
    IntKind.i64
    (↑n1 :
    Int),
    Value.int
    IntKind.i64
    i11] ∧ ([] : List Deferred) = [])))))
    (T.chk
    [(Addr.mk
    n25 2
    none,
    Value.bool
    b71)]
    (T.chk
    [(Addr.mk
    n25
    2
    none,
    Value.bool
    b71)]
    (T.next 1
    []
    ([Value.pointer
    o28,
    Value.pointer
    (some
    (Addr.mk
    n5
    0
    none)),
    Value.pointer
    (some
    (Addr.mk
    n25
    0
    none)),
    Value.slice
    o0
    n1
    n2,
    Value.int
    IntKind.i64
    (↑n1 :
    Int),
    Value.int
    IntKind.i64
    i11] =
    [Value.pointer
    o28,
    Value.pointer
    (some
    (Addr.mk
    n5
    0
    none)),
    Value.pointer
    (some
    (Addr.mk
    n25
    0
    none)),
    Value.slice
    o0
    n1
    n2,
    Value.int
    IntKind.i64
    (↑n1 :
    Int),
    Value.int
    IntKind.i64
    i11] ∧ ([] : List Deferred) = [])))))))
    (T.ldI IntKind.i64 n41 0
    fun i92 =>
    T.ldS n41 1
    fun o93 n94 n95 =>
    T.ldI IntKind.i64
    n41 2 fun i96 =>
    T.ldI IntKind.i64
    n41 3 fun i97 =>
    T.ldI
    IntKind.i64
    n54 0
    fun i98 =>
    T.ldS n54 1
    fun o99 n100
    n101 =>
    T.ldI
    IntKind.i64
    n54 2
    fun
    i102 =>
    T.ldI
    IntKind.i64
    n54 3
    fun
    i103 =>
    T.call
    14
    [Value.agg
    (Array.mk
    [Value.int
    IntKind.i64
    i92,
    Value.slice
    o93
    n94
    n95,
    Value.int
    IntKind.i64
    i96,
    Value.int
    IntKind.i64
    i97]),
    Value.agg
    (Array.mk
    [Value.int
    IntKind.i64
    i98,
    Value.slice
    o99
    n100
    n101,
    Value.int
    IntKind.i64
    i102,
    Value.int
    IntKind.i64
    i103])]
    fun
    v104 =>
    T.asB
    v104
    fun
    b105 =>
    T.ite
    (!b105)
    (T.ret
    (Value.bool
    false))
    (T.ite
    (i40 !=
    i53)
    (T.ret
    (Value.bool
    false))
    (T.next
    1
    []
    ([Value.pointer
    o28,
    Value.pointer
    (some
    (Addr.mk
    n5
    0
    none)),
    Value.pointer
    (some
    (Addr.mk
    n25
    0
    none)),
    Value.slice
    o0
    n1
    n2,
    Value.int
    IntKind.i64
    (↑n1 :
    Int),
    Value.int
    IntKind.i64
    i11] =
    [Value.pointer
    o28,
    Value.pointer
    (some
    (Addr.mk
    n5
    0
    none)),
    Value.pointer
    (some
    (Addr.mk
    n25
    0
    none)),
    Value.slice
    o0
    n1
    n2,
    Value.int
    IntKind.i64
    (↑n1 :
    Int),
    Value.int
    IntKind.i64
    i11] ∧ ([] : List Deferred) = [])))))))))))))))))
    (T.ldB n25 3 fun b106 =>
    T.ite b106
    (T.call 20 [Value.pointer o10] fun v107 =>
    T.asP v107 fun o108 =>
    T.ite (Option.isNone o108) (T.ret (Value.bool false))
    (T.ldI IntKind.i64 n25 0 fun i109 =>
    T.ldI IntKind.i64 n25 1 fun i110 =>
    T.ldI IntKind.i64 n25 4 fun i111 =>
    T.ldS n25 5 fun o112 n113 n114 =>
    T.ldI IntKind.i64 n25 6 fun i115 =>
    T.ldI IntKind.i64 n25 7 fun i116 =>
    T.call 12
    [Value.pointer o10, Value.int IntKind.i64 i109,
    Value.int IntKind.i64 i110,
    Value.agg
    (Array.mk
    [Value.int IntKind.i64 i111, Value.slice o112 n113 n114,
    Value.int IntKind.i64 i115, Value.int IntKind.i64 i116])]
    fun v117 =>
    T.asI IntKind.i64 v117 fun i118 =>
    T.next 1 [Value.pointer o108]
    ([Value.pointer (some (Addr.mk n5 0 none)),
    Value.pointer (some (Addr.mk n25 0 none)), Value.slice o0 n1 n2,
    Value.int IntKind.i64 (↑n1 : Int), Value.int IntKind.i64 i11] =
    [Value.pointer (some (Addr.mk n5 0 none)),
    Value.pointer (some (Addr.mk n25 0 none)), Value.slice o0 n1 n2,
    Value.int IntKind.i64 (↑n1 : Int), Value.int IntKind.i64 i11] ∧ ([] : List Deferred) = [])))
    (T.next 1 [Value.pointer o10]
    ([Value.pointer (some (Addr.mk n5 0 none)), Value.pointer (some (Addr.mk n25 0 none)),
    Value.slice o0 n1 n2, Value.int IntKind.i64 (↑n1 : Int), Value.int IntKind.i64 i11] =
    [Value.pointer (some (Addr.mk n5 0 none)), Value.pointer (some (Addr.mk n25 0 none)),
    Value.slice o0 n1 n2, Value.int IntKind.i64 (↑n1 : Int), Value.int IntKind.i64 i11] ∧ ([] : List Deferred) = []))))))))))))))
    (T.ret (Value.bool true)))
    (T.ite (Option.isNone o4) (T.ret (Value.bool false))
    (T.call 11 [] fun v119 =>
    T.asB v119 fun b120 =>
    T.ite (!b120) (T.ret (Value.bool false))
    (T.next 0 []
    ([Value.slice o0 n1 n2, Value.pointer o4, Value.pointer (some (Addr.mk n5 0 none))] =
    [Value.slice o0 n1 n2, Value.pointer o4, Value.pointer (some (Addr.mk n5 0 none))] ∧ ([] : List Deferred) = []))))
theorem e8 (o0 : Option Addr) (n1 n2 : Nat) : treeOf Try.prog Try.f8 (codeOf Try.f8) (.s .n (.s .n (.s .n (.c [] [0, 3, 4] .n (.s (.s .n (.u (.l [(3, .ptr), (23, .int .i64)] [4, 21, 22] (.s .n (.s .n (.s (.u (.s .n (.c [(3, .ptr)] [4, 6, 21, 22, 23] .n (.s .n (.s .n (.c [] [3, 4, 6, 21, 22, 23] .n (.c [] [3, 4, 6, 21, 22, 23] (.s (.p [0, 1, 2, 3, 4, 5, 6, 7, 8, 9, 11, 12, 13, 14, 15, 16, 17, 10, 18, 19, 20]) .n) (.s (.p [0, 1, 2, 4, 5, 6, 3, 7, 8, 9, 10, 11, 12, 13, 14, 15, 16, 17, 18, 19]) .n)))))))) .n)))))) .n))))) [.v (.slice o0 n1 n2)] = (t8 o0 n1 n2) := by kernel_rfl
theorem c8 (o0 : Option Addr) (n1 n2 : Nat) {w : World} {R : Ending → World → Prop} (h : (t8 o0 n1 n2).sem Try.prog R ρ0 w) : Calls Try.prog 8 #[.slice o0 n1 n2] w R :=
  calls_of mixed Try.func8 rfl rfl (e8 o0 n1 n2) h
end Go.Proofs.Ytcmdbaafnbdpbaa
