/- The functions' trees, printed by a program (wip/tools/Emit.lean) and checked by the kernel against the model's own code. -/
import Derived.Test.YtndkffhlheaepaaTreesO
import Derived.Test.YtndkffhlheaepaaProg
namespace Go.Proofs.Ytndkffhlheaepaa
open Go hiding Expr
open Go.Proofs.Ytndkffhlheaepaa.Tr
set_option linter.unusedVariables false
set_option maxRecDepth 100000
def t3 (o0 : Option Addr) (n1 n2 : Nat) (i3 : Int) : T :=
  T.run (biV Builtin.min (Array.mk [3, 3]) 3 (Array.mk [Value.int IntKind.i64 (↑n1 : Int), Value.int IntKind.i64 40])) fun v4 =>
  T.asI IntKind.i64 v4 fun i5 =>
    T.req (0 ≤ i5 ∧ i5 ≤ (↑n2 : Int))
    (T.call 9 [Value.slice (sliceBase o0 0 n2 6) (Int.toNat i5) n2] fun v6 =>
    T.asS v6 fun o7 n8 n9 =>
    T.blk 0
    (fun l10 j11 =>
    T.drew
    (T.ite (decide ((↑(Int.toNat i5) : Int) < 2)) (T.chk [] (T.chk [] (T.chk [] (T.chk [] (T.ret (Value.bool true))))))
    (T.req ((0 : Int) ≤ 0 ∧ (0 : Int) < (↑(Int.toNat i5) : Int))
    (T.sm (sliceBase o0 0 n2 6) fun n12 n13 =>
    T.ldI IntKind.i64 n12 n13 fun i14 =>
    T.ldI IntKind.i64 n12 (n13 + 1) fun i15 =>
    T.ldS n12 (n13 + 2) fun o16 n17 n18 =>
    T.ldS n12 (n13 + 3) fun o19 n20 n21 =>
    T.ldS n12 (n13 + 4) fun o22 n23 n24 =>
    T.ldS n12 (n13 + 5) fun o25 n26 n27 =>
    T.req ((0 : Int) ≤ 1 ∧ (1 : Int) < (↑(Int.toNat i5) : Int))
    (T.sm (sliceBase o0 0 n2 6) fun n28 n29 =>
    T.ldI IntKind.i64 n28 (n29 + 6) fun i30 =>
    T.ldI IntKind.i64 n28 (n29 + 7) fun i31 =>
    T.ldS n28 (n29 + 8) fun o32 n33 n34 =>
    T.ldS n28 (n29 + 9) fun o35 n36 n37 =>
    T.ldS n28 (n29 + 10) fun o38 n39 n40 =>
    T.ldS n28 (n29 + 11) fun o41 n42 n43 =>
    T.req ((0 : Int) ≤ 0 ∧ (0 : Int) < (↑(Int.toNat i5) : Int))
    (T.sm (sliceBase o0 0 n2 6) fun n44 n45 =>
    T.ldI IntKind.i64 n44 n45 fun i46 =>
    T.ldI IntKind.i64 n44 (n45 + 1) fun i47 =>
    T.ldS n44 (n45 + 2) fun o48 n49 n50 =>
    T.ldS n44 (n45 + 3) fun o51 n52 n53 =>
    T.ldS n44 (n45 + 4) fun o54 n55 n56 =>
    T.ldS n44 (n45 + 5) fun o57 n58 n59 =>
    T.req ((0 : Int) ≤ 1 ∧ (1 : Int) < (↑(Int.toNat i5) : Int))
    (T.sm (sliceBase o0 0 n2 6) fun n60 n61 =>
    T.ldI IntKind.i64 n60 (n61 + 6) fun i62 =>
    T.ldI IntKind.i64 n60 (n61 + 7) fun i63 =>
    T.ldS n60 (n61 + 8) fun o64 n65 n66 =>
    T.ldS n60 (n61 + 9) fun o67 n68 n69 =>
    T.ldS n60 (n61 + 10) fun o70 n71 n72 =>
    T.ldS n60 (n61 + 11) fun o73 n74 n75 =>
    T.call 16
    [Value.agg
    (Array.mk
    [Value.int IntKind.i64 i14, Value.int IntKind.i64 i15,
    Value.slice o16 n17 n18, Value.slice o19 n20 n21,
    Value.slice o22 n23 n24, Value.slice o25 n26 n27]),
    Value.agg
    (Array.mk
    [Value.int IntKind.i64 i30, Value.int IntKind.i64 i31,
    Value.slice o32 n33 n34, Value.slice o35 n36 n37,
    Value.slice o38 n39 n40, Value.slice o41 n42 n43])]
    fun v76 =>
    T.asB v76 fun b77 =>
    T.chk
    [(Addr.mk n60 (n61 + 6) none, Value.int IntKind.i64 i62),
    (Addr.mk n60 (n61 + 7) none, Value.int IntKind.i64 i63),
    (Addr.mk n60 (n61 + 8) none, Value.slice o64 n65 n66),
    (Addr.mk n60 (n61 + 9) none, Value.slice o67 n68 n69),
    (Addr.mk n60 (n61 + 10) none, Value.slice o70 n71 n72),
    (Addr.mk n60 (n61 + 11) none, Value.slice o73 n74 n75),
    (Addr.mk n44 n45 none, Value.int IntKind.i64 i46),
    (Addr.mk n44 (n45 + 1) none, Value.int IntKind.i64 i47),
    (Addr.mk n44 (n45 + 2) none, Value.slice o48 n49 n50),
    (Addr.mk n44 (n45 + 3) none, Value.slice o51 n52 n53),
    (Addr.mk n44 (n45 + 4) none, Value.slice o54 n55 n56),
    (Addr.mk n44 (n45 + 5) none, Value.slice o57 n58 n59)]
    (T.call 17
    [Value.agg
    (Array.mk
    [Value.int IntKind.i64 i46, Value.int IntKind.i64 i47,
    Value.slice o48 n49 n50, Value.slice o51 n52 n53,
    Value.slice o54 n55 n56, Value.slice o57 n58 n59]),
    Value.agg
    (Array.mk
    [Value.int IntKind.i64 i62, Value.int IntKind.i64 i63,
    Value.slice o64 n65 n66, Value.slice o67 n68 n69,
    Value.slice o70 n71 n72, Value.slice o73 n74 n75])]
    fun v78 =>
    T.asB v78 fun b79 =>
    T.chk []
    (T.ite (b77 == b79)
    (T.req ((0 : Int) ≤ 1 ∧ (1 : Int) < (↑(Int.toNat i5) : Int))
    (T.sm (sliceBase o0 0 n2 6) fun n80 n81 =>
    T.ldI IntKind.i64 n80 (n81 + 6) fun i82 =>
    T.ldI IntKind.i64 n80 (n81 + 7) fun i83 =>
    T.ldS n80 (n81 + 8) fun o84 n85 n86 =>
    T.ldS n80 (n81 + 9) fun o87 n88 n89 =>
    T.ldS n80 (n81 + 10) fun o90 n91 n92 =>
    T.ldS n80 (n81 + 11) fun o93 n94 n95 =>
    T.req ((0 : Int) ≤ 0 ∧ (0 : Int) < (↑(Int.toNat i5) : Int))
    (T.sm (sliceBase o0 0 n2 6) fun n96 n97 =>
    T.ldI IntKind.i64 n96 n97 fun i98 =>
    T.ldI IntKind.i64 n96 (n97 + 1) fun i99 =>
    T.ldS n96 (n97 + 2)
    fun o100 n101 n102 =>
    T.ldS n96 (n97 + 3)
    fun o103 n104 n105 =>
    T.ldS n96 (n97 + 4)
    fun o106 n107 n108 =>
    T.ldS n96 (n97 + 5)
    fun o109 n110 n111 =>
    T.req
    ((0 : Int) ≤ 0 ∧ (0 : Int) < (↑(Int.toNat i5) : Int))
    (T.sm (sliceBase o0 0 n2 6)
    fun n112 n113 =>
    T.ldI IntKind.i64 n112 n113
    fun i114 =>
    T.ldI IntKind.i64 n112
    (n113 + 1) fun i115 =>
    T.ldS n112 (n113 + 2)
    fun o116 n117 n118 =>
    T.ldS n112 (n113 + 3)
    fun o119 n120
    n121 =>
    T.ldS n112
    (n113 + 4)
    fun o122 n123
    n124 =>
    T.ldS n112
    (n113 + 5)
    fun o125 n126
    n127 =>
    T.req
    ((0 : Int) ≤ 1 ∧ (1 : Int) <     (↑(Int.toNat
    i5) :
    Int))
    (T.sm
    (sliceBase
    o0 0 n2 6)
    fun n128
    n129 =>
    T.ldI
    IntKind.i64
    n128
    (n129 + 6)
    fun
    i130 =>
    T.ldI
    IntKind.i64
    n128
    (n129 +
    7)
    fun
    i131 =>
    T.ldS
    n128
    (n129 +
    8)
    fun
    o132
    n133
    n134 =>
    T.ldS
    n128
    (n129 +
    9)
    fun
    o135
    n136
    n137 =>
    T.ldS
    n128
    (n129 +
    10)
    fun
    o138
    n139
    n140 =>
    T.ldS
    n128
    (n129 +
    11)
    fun
    o141
    n142
    n143 =>
    T.call
    16
    [Value.agg
    (Array.mk
    [Value.int
    IntKind.i64
    i82,
    Value.int
    IntKind.i64
    i83,
    Value.slice
    o84
    n85
    n86,
    Value.slice
    o87
    n88
    n89,
    Value.slice
    o90
    n91
    n92,
    Value.slice
    o93
    n94
    n95]),
    Value.agg
    (Array.mk
    [Value.int
    IntKind.i64
    i98,
    Value.int
    IntKind.i64
    i99,
    Value.slice
    o100
    n101
    n102,
    Value.slice
    o103
    n104
    n105,
    Value.slice
    o106
    n107
    n108,
    Value.slice
    o109
    n110
    n111])]
    fun
    v144 =>
    T.asB
    v144
    fun
    b145 =>
    T.chk
    [(Addr.mk
    n128
    (n129 +
    6)
    none,
    Value.int
    IntKind.i64
    i130),
    (Addr.mk
    n128
    (n129 +
    7)
    none,
    Value.int
    IntKind.i64
    i131),
    (Addr.mk
    n128
    (n129 +
    8)
    none,
    Value.slice
    o132
    n133
    n134),
    (Addr.mk
    n128
    (n129 +
    9)
    none,
    Value.slice
    o135
    n136
    n137),
    (Addr.mk
    n128
    (n129 +
    10)
    none,
    Value.slice
    o138
    n139
    n140),
    (Addr.mk
    n128
    (n129 +
    11)
    none,
    Value.slice
    o141
    n142
    n143),
    (Addr.mk
    n112
    n113
    none,
    Value.int
    IntKind.i64
    i114),
    (Addr.mk
    n112
    (n113 +
    1)
    none,
    Value.int
    IntKind.i64
    i115),
    (Addr.mk
    n112
    (n113 +
    2)
    none,
    Value.slice
    o116
    n117
    n118),
    (Addr.mk
    n112
    (n113 +
    3)
    none,
    Value.slice
    o119
    n120
    n121),
    (Addr.mk
    n112
    (n113 +
    4)
    none,
    Value.slice
    o122
    n123
    n124),
    (Addr.mk
    n112
    (n113 +
    5)
    none,
    Value.slice
    o125
    n126
    n127)]
    (T.call
    16
    [Value.agg
    (Array.mk
    [Value.int
    IntKind.i64
    i114,
    Value.int
    IntKind.i64
    i115,
    Value.slice
    o116
    n117
    n118,
    Value.slice
    o119
    n120
    n121,
    Value.slice
    o122
    n123
    n124,
    Value.slice
    o125
    n126
    n127]),
    Value.agg
    (Array.mk
    [Value.int
    IntKind.i64
    i130,
    Value.int
    IntKind.i64
    i131,
    Value.slice
    o132
    n133
    n134,
    Value.slice
    o135
    n136
    n137,
    Value.slice
    o138
    n139
    n140,
    Value.slice
    o141
    n142
    n143])]
    fun
    v146 =>
    T.asB
    v146
    fun
    b147 =>
    T.chk
    []
    (T.ret
    (Value.bool
    (b145 ==
    b147)))))))))
    (T.chk [] (T.chk [] (T.ret (Value.bool false)))))))))))))
    (T.call 10 [] fun v148 =>
    T.asB v148 fun b149 =>
    T.ite (!b149) (T.ret (Value.bool false))
    (T.call 12 [Value.slice (sliceBase o0 0 n2 6) (Int.toNat i5) n2] fun v150 =>
    T.asC 34 v150 fun l151 =>
    T.req (List.length l151 = 1)
    (T.asP (List.headD l151 (Value.tuple (Array.mk []))) fun o152 =>
    T.call 11 [Value.func (Fn.func 34) (Array.mk []) (Array.mk [Value.pointer o152]), Value.slice o7 n8 n9, Value.int IntKind.i64 i3]
    fun v153 =>
    T.asB v153 fun b154 =>
    T.ite (!b154) (T.ret (Value.bool false))
    (T.call 12 [Value.slice (sliceBase o0 0 n2 6) (Int.toNat i5) n2] fun v155 =>
    T.asC 34 v155 fun l156 =>
    T.req (List.length l156 = 1)
    (T.asP (List.headD l156 (Value.tuple (Array.mk []))) fun o157 =>
    T.call 11
    [Value.func (Fn.func 34) (Array.mk []) (Array.mk [Value.pointer o157]), Value.slice o7 n8 n9, Value.int IntKind.i64 0]
    fun v158 =>
    T.asB v158 fun b159 =>
    T.ite (!b159) (T.ret (Value.bool false))
    (T.call 14 [Value.slice (sliceBase o0 0 n2 6) (Int.toNat i5) n2] fun v160 =>
    T.asS v160 fun o161 n162 n163 =>
    T.call 15 [Value.slice (sliceBase o0 0 n2 6) (Int.toNat i5) n2] fun v164 =>
    T.asS v164 fun o165 n166 n167 =>
    T.call 13 [Value.slice o161 n162 n163, Value.slice o165 n166 n167] fun v168 =>
    T.asB v168 fun b169 =>
    T.ite (!b169) (T.ret (Value.bool false))
    (T.next 0 []
    ([Value.slice (sliceBase o0 0 n2 6) (Int.toNat i5) n2] =
    [Value.slice (sliceBase o0 0 n2 6) (Int.toNat i5) n2] ∧ ([] : List Deferred) = [])))))))))
theorem e3 (o0 : Option Addr) (n1 n2 : Nat) (i3 : Int) : treeOf Try.prog Try.f3 (codeOf Try.f3) (.s .n (.s .n (.s .n (.c [] [0] .n (.s (.p [0, 1, 2, 3, 4, 5, 6, 7, 8, 9, 11, 12, 13, 14, 15, 16, 10, 17, 18, 19, 20, 21, 22, 23, 24, 25, 27, 28, 29, 30, 31, 32, 26, 33, 34, 35, 36, 37]) .n))))) [.v (.slice o0 n1 n2), .v (.int .i64 i3)] = (t3 o0 n1 n2 i3) := by kernel_rfl
theorem c3 (o0 : Option Addr) (n1 n2 : Nat) (i3 : Int) {w : World} {R : Ending → World → Prop} (h : (t3 o0 n1 n2 i3).sem Try.prog R ρ0 w) : Calls Try.prog 3 #[.slice o0 n1 n2, .int .i64 i3] w R :=
  calls_of mixed Try.func3 rfl rfl (e3 o0 n1 n2 i3) h
def t4 (o0 : Option Addr) (n1 n2 : Nat) : T :=
  T.run (biV Builtin.min (Array.mk [3, 3]) 3 (Array.mk [Value.int IntKind.i64 (↑n1 : Int), Value.int IntKind.i64 40])) fun v3 =>
  T.asI IntKind.i64 v3 fun i4 =>
    T.req (0 ≤ i4 ∧ i4 ≤ (↑n2 : Int))
    (T.call 14 [Value.slice (sliceBase o0 0 n2 6) (Int.toNat i4) n2] fun v5 =>
    T.asS v5 fun o6 n7 n8 =>
    T.blk 0
    (fun l9 j10 =>
    T.loop 0 [Value.int IntKind.i64 0] fun l11 j12 =>
    T.asI IntKind.i64 (List.headD l11 (Value.tuple (Array.mk []))) fun i13 =>
    T.ite (decide (i13 < (↑(Int.toNat i4) : Int)))
    (T.req (0 ≤ i13 ∧ i13 < (↑n7 : Int))
    (T.sm o6 fun n14 n15 =>
    T.ldI IntKind.i64 n14 (n15 + Int.toNat i13 * 1) fun i16 =>
    T.loop 1 [Value.bool (i16 == 0), Value.int IntKind.i64 0] fun l17 j18 =>
    T.asB (List.headD l17 (Value.tuple (Array.mk []))) fun b19 =>
    T.asI IntKind.i64 (List.headD (List.tail l17) (Value.tuple (Array.mk []))) fun i20 =>
    T.ite (decide (i20 < i13))
    (T.drew
    (T.req (0 ≤ i20 ∧ i20 < (↑(Int.toNat i4) : Int))
    (T.sm (sliceBase o0 0 n2 6) fun n21 n22 =>
    T.ldI IntKind.i64 n21 (n22 + Int.toNat i20 * 6) fun i23 =>
    T.ldI IntKind.i64 n21 (n22 + Int.toNat i20 * 6 + 1) fun i24 =>
    T.ldS n21 (n22 + Int.toNat i20 * 6 + 2) fun o25 n26 n27 =>
    T.ldS n21 (n22 + Int.toNat i20 * 6 + 3) fun o28 n29 n30 =>
    T.ldS n21 (n22 + Int.toNat i20 * 6 + 4) fun o31 n32 n33 =>
    T.ldS n21 (n22 + Int.toNat i20 * 6 + 5) fun o34 n35 n36 =>
    T.req (0 ≤ i13 ∧ i13 < (↑(Int.toNat i4) : Int))
    (T.sm (sliceBase o0 0 n2 6) fun n37 n38 =>
    T.ldI IntKind.i64 n37 (n38 + Int.toNat i13 * 6) fun i39 =>
    T.ldI IntKind.i64 n37 (n38 + Int.toNat i13 * 6 + 1) fun i40 =>
    T.ldS n37 (n38 + Int.toNat i13 * 6 + 2) fun o41 n42 n43 =>
    T.ldS n37 (n38 + Int.toNat i13 * 6 + 3) fun o44 n45 n46 =>
    T.ldS n37 (n38 + Int.toNat i13 * 6 + 4) fun o47 n48 n49 =>
    T.ldS n37 (n38 + Int.toNat i13 * 6 + 5) fun o50 n51 n52 =>
    T.call 16
    [Value.agg
    (Array.mk
    [Value.int IntKind.i64 i23, Value.int IntKind.i64 i24, Value.slice o25 n26 n27,
    Value.slice o28 n29 n30, Value.slice o31 n32 n33, Value.slice o34 n35 n36]),
    Value.agg
    (Array.mk
    [Value.int IntKind.i64 i39, Value.int IntKind.i64 i40, Value.slice o41 n42 n43,
    Value.slice o44 n45 n46, Value.slice o47 n48 n49, Value.slice o50 n51 n52])]
    fun v53 =>
    T.asB v53 fun b54 =>
    T.chk []
    (T.blk 2
    (fun l55 j56 =>
    T.drew
    (T.ite b19
    (T.next 1
    [Value.bool true,
    Value.int IntKind.i64 (IntKind.wrap IntKind.i64 (i20 + 1))]
    ([Value.slice (sliceBase o0 0 n2 6) (Int.toNat i4) n2, Value.slice o6 n7 n8,
    Value.int IntKind.i64 i13,
    Value.int IntKind.i64 (↑(Int.toNat i4) : Int),
    Value.int IntKind.i64 i13, Value.int IntKind.i64 i13] =
    [Value.slice (sliceBase o0 0 n2 6) (Int.toNat i4) n2,
    Value.slice o6 n7 n8, Value.int IntKind.i64 i13,
    Value.int IntKind.i64 (↑(Int.toNat i4) : Int),
    Value.int IntKind.i64 i13, Value.int IntKind.i64 i13] ∧ ([] : List Deferred) = []))
    (T.ite b54
    (T.req (0 ≤ i20 ∧ i20 < (↑n7 : Int))
    (T.sm o6 fun n57 n58 =>
    T.ldI IntKind.i64 n57 (n58 + Int.toNat i20 * 1) fun i59 =>
    T.req (0 ≤ i13 ∧ i13 < (↑n7 : Int))
    (T.sm o6 fun n60 n61 =>
    T.ldI IntKind.i64 n60 (n61 + Int.toNat i13 * 1) fun i62 =>
    T.next 1
    [Value.bool (i59 == IntKind.wrap IntKind.i64 (i62 - 1)),
    Value.int IntKind.i64 (IntKind.wrap IntKind.i64 (i20 + 1))]
    ([Value.slice (sliceBase o0 0 n2 6) (Int.toNat i4) n2,
    Value.slice o6 n7 n8, Value.int IntKind.i64 i13,
    Value.int IntKind.i64 (↑(Int.toNat i4) : Int),
    Value.int IntKind.i64 i13, Value.int IntKind.i64 i13] =
    [Value.slice (sliceBase o0 0 n2 6) (Int.toNat i4) n2,
    Value.slice o6 n7 n8, Value.int IntKind.i64 i13,
    Value.int IntKind.i64 (↑(Int.toNat i4) : Int),
    Value.int IntKind.i64 i13, Value.int IntKind.i64 i13] ∧ ([] : List Deferred) = []))))
    (T.next 1
    [Value.bool false,
    Value.int IntKind.i64 (IntKind.wrap IntKind.i64 (i20 + 1))]
    ([Value.slice (sliceBase o0 0 n2 6) (Int.toNat i4) n2,
    Value.slice o6 n7 n8, Value.int IntKind.i64 i13,
    Value.int IntKind.i64 (↑(Int.toNat i4) : Int),
    Value.int IntKind.i64 i13, Value.int IntKind.i64 i13] =
    [Value.slice (sliceBase o0 0 n2 6) (Int.toNat i4) n2,
    Value.slice o6 n7 n8, Value.int IntKind.i64 i13,
    Value.int IntKind.i64 (↑(Int.toNat i4) : Int),
    Value.int IntKind.i64 i13, Value.int IntKind.i64 i13] ∧ ([] : List Deferred) = [])))))
    (T.drew
    (T.ite b54
    (T.req (0 ≤ i20 ∧ i20 < (↑n7 : Int))
    (T.sm o6 fun n63 n64 =>
    T.ldI IntKind.i64 n63 (n64 + Int.toNat i20 * 1) fun i65 =>
    T.req (0 ≤ i13 ∧ i13 < (↑n7 : Int))
    (T.sm o6 fun n66 n67 =>
    T.ldI IntKind.i64 n66 (n67 + Int.toNat i13 * 1) fun i68 =>
    T.ite (decide (i65 ≥ i68)) (T.ret (Value.bool false))
    (T.next 2 []
    ([Value.slice (sliceBase o0 0 n2 6) (Int.toNat i4) n2,
    Value.slice o6 n7 n8, Value.int IntKind.i64 i13,
    Value.bool b19, Value.int IntKind.i64 i20, Value.bool b54,
    Value.int IntKind.i64 (↑(Int.toNat i4) : Int),
    Value.int IntKind.i64 i13, Value.int IntKind.i64 i13,
    Value.int IntKind.i64 i20] =
    [Value.slice (sliceBase o0 0 n2 6) (Int.toNat i4) n2,
    Value.slice o6 n7 n8, Value.int IntKind.i64 i13,
    Value.bool b19, Value.int IntKind.i64 i20, Value.bool b54,
    Value.int IntKind.i64 (↑(Int.toNat i4) : Int),
    Value.int IntKind.i64 i13, Value.int IntKind.i64 i13,
    Value.int IntKind.i64 i20] ∧ ([] : List Deferred) = [])))))
    (T.next 2 []
    ([Value.slice (sliceBase o0 0 n2 6) (Int.toNat i4) n2, Value.slice o6 n7 n8,
    Value.int IntKind.i64 i13, Value.bool b19, Value.int IntKind.i64 i20,
    Value.bool b54, Value.int IntKind.i64 (↑(Int.toNat i4) : Int),
    Value.int IntKind.i64 i13, Value.int IntKind.i64 i13,
    Value.int IntKind.i64 i20] =
    [Value.slice (sliceBase o0 0 n2 6) (Int.toNat i4) n2,
    Value.slice o6 n7 n8, Value.int IntKind.i64 i13, Value.bool b19,
    Value.int IntKind.i64 i20, Value.bool b54,
    Value.int IntKind.i64 (↑(Int.toNat i4) : Int),
    Value.int IntKind.i64 i13, Value.int IntKind.i64 i13,
    Value.int IntKind.i64 i20] ∧ ([] : List Deferred) = [])))))))))
    (T.ite (!b19) (T.ret (Value.bool false))
    (T.next 0 [Value.int IntKind.i64 (IntKind.wrap IntKind.i64 (i13 + 1))]
    ([Value.slice (sliceBase o0 0 n2 6) (Int.toNat i4) n2, Value.slice o6 n7 n8,
    Value.int IntKind.i64 (↑(Int.toNat i4) : Int)] =
    [Value.slice (sliceBase o0 0 n2 6) (Int.toNat i4) n2, Value.slice o6 n7 n8,
    Value.int IntKind.i64 (↑(Int.toNat i4) : Int)] ∧ ([] : List Deferred) = [])))))
    (T.ret (Value.bool true)))
    (T.ite ((↑n7 : Int) != (↑(Int.toNat i4) : Int)) (T.ret (Value.bool false))
    (T.call 10 [] fun v69 =>
    T.asB v69 fun b70 =>
    T.ite (!b70) (T.ret (Value.bool false))
    (T.next 0 []
    ([Value.slice (sliceBase o0 0 n2 6) (Int.toNat i4) n2, Value.slice o6 n7 n8] =
    [Value.slice (sliceBase o0 0 n2 6) (Int.toNat i4) n2, Value.slice o6 n7 n8] ∧ ([] : List Deferred) = [])))))
theorem e4 (o0 : Option Addr) (n1 n2 : Nat) : treeOf Try.prog Try.f4 (codeOf Try.f4) (.s .n (.s .n (.s .n (.c [] [0, 3] .n (.s (.s .n (.u (.l [(26, .int .i64)] [0, 3, 25] (.s .n (.s .n (.s (.u (.s .n (.s .n (.s (.s .n (.u (.l [(5, .bool), (35, .int .i64)] [0, 3, 4, 25, 26, 34] (.s .n (.s .n (.s (.u (.s .n (.s (.p [0, 1, 2, 3, 4, 5, 6, 7, 8, 9]) (.c [] [0, 3, 4, 5, 6, 7, 25, 26, 34, 35] (.s (.p [0, 1, 2, 3, 4, 5, 6, 7, 8, 9, 10, 11]) .n) (.p [0, 1, 2, 3, 4, 5, 6, 7, 8, 9, 10, 11, 12, 13, 14, 15, 16]))))) .n)))))) .n)))) .n)))))) .n))))) [.v (.slice o0 n1 n2)] = (t4 o0 n1 n2) := by kernel_rfl
theorem c4 (o0 : Option Addr) (n1 n2 : Nat) {w : World} {R : Ending → World → Prop} (h : (t4 o0 n1 n2).sem Try.prog R ρ0 w) : Calls Try.prog 4 #[.slice o0 n1 n2] w R :=
  calls_of mixed Try.func4 rfl rfl (e4 o0 n1 n2) h
def t5 (i0 : Int) (i1 : Int) (o2 : Option Addr) (n3 n4 : Nat) (o5 : Option Addr) (n6 n7 : Nat) (o8 : Option Addr) (n9 n10 : Nat) (o11 : Option Addr) (n12 n13 : Nat) (i14 : Int) (i15 : Int) : T :=
  T.new
  (Obj.cells
    (Array.mk [Value.int IntKind.i64 i0, Value.int IntKind.i64 i1, Value.slice o2 n3 n4, Value.slice o5 n6 n7, Value.slice o8 n9 n10, Value.slice o11 n12 n13])
    39)
  fun n16 =>
  T.drew
    (T.call 10 [] fun v17 =>
    T.asB v17 fun b18 =>
    T.chk []
    (T.ite b18
    (T.ldI IntKind.i64 n16 0 fun i19 =>
    T.ldI IntKind.i64 n16 1 fun i20 =>
    T.ldS n16 2 fun o21 n22 n23 =>
    T.ldS n16 3 fun o24 n25 n26 =>
    T.ldS n16 4 fun o27 n28 n29 =>
    T.ldS n16 5 fun o30 n31 n32 =>
    T.ldI IntKind.i64 n16 0 fun i33 =>
    T.ldI IntKind.i64 n16 1 fun i34 =>
    T.ldS n16 2 fun o35 n36 n37 =>
    T.ldS n16 3 fun o38 n39 n40 =>
    T.ldS n16 4 fun o41 n42 n43 =>
    T.ldS n16 5 fun o44 n45 n46 =>
    T.call 19
    [Value.agg
    (Array.mk
    [Value.int IntKind.i64 i19, Value.int IntKind.i64 i20, Value.slice o21 n22 n23, Value.slice o24 n25 n26,
    Value.slice o27 n28 n29, Value.slice o30 n31 n32]),
    Value.int IntKind.i64 i14]
    fun v47 =>
    T.asA v47 fun l48 =>
    T.req (List.length l48 = 18)
    (T.asS (List.headD l48 (Value.tuple (Array.mk []))) fun o49 n50 n51 =>
    T.asS (List.headD (List.tail l48) (Value.tuple (Array.mk []))) fun o52 n53 n54 =>
    T.asS (List.headD (List.tail (List.tail l48)) (Value.tuple (Array.mk []))) fun o55 n56 n57 =>
    T.asS (List.headD (List.tail (List.tail (List.tail l48))) (Value.tuple (Array.mk []))) fun o58 n59 n60 =>
    T.asS (List.headD (List.tail (List.tail (List.tail (List.tail l48)))) (Value.tuple (Array.mk [])))
    fun o61 n62 n63 =>
    T.asS
    (List.headD (List.tail (List.tail (List.tail (List.tail (List.tail l48))))) (Value.tuple (Array.mk [])))
    fun o64 n65 n66 =>
    T.asS
    (List.headD (List.tail (List.tail (List.tail (List.tail (List.tail (List.tail l48))))))
    (Value.tuple (Array.mk [])))
    fun o67 n68 n69 =>
    T.asS
    (List.headD (List.tail (List.tail (List.tail (List.tail (List.tail (List.tail (List.tail l48)))))))
    (Value.tuple (Array.mk [])))
    fun o70 n71 n72 =>
    T.asS
    (List.headD
    (List.tail
    (List.tail (List.tail (List.tail (List.tail (List.tail (List.tail (List.tail l48))))))))
    (Value.tuple (Array.mk [])))
    fun o73 n74 n75 =>
    T.asS
    (List.headD
    (List.tail
    (List.tail
    (List.tail (List.tail (List.tail (List.tail (List.tail (List.tail (List.tail l48)))))))))
    (Value.tuple (Array.mk [])))
    fun o76 n77 n78 =>
    T.asS
    (List.headD
    (List.tail
    (List.tail
    (List.tail
    (List.tail
    (List.tail (List.tail (List.tail (List.tail (List.tail (List.tail l48))))))))))
    (Value.tuple (Array.mk [])))
    fun o79 n80 n81 =>
    T.asS
    (List.headD
    (List.tail
    (List.tail
    (List.tail
    (List.tail
    (List.tail
    (List.tail (List.tail (List.tail (List.tail (List.tail (List.tail l48)))))))))))
    (Value.tuple (Array.mk [])))
    fun o82 n83 n84 =>
    T.asS
    (List.headD
    (List.tail
    (List.tail
    (List.tail
    (List.tail
    (List.tail
    (List.tail
    (List.tail
    (List.tail (List.tail (List.tail (List.tail (List.tail l48))))))))))))
    (Value.tuple (Array.mk [])))
    fun o85 n86 n87 =>
    T.asS
    (List.headD
    (List.tail
    (List.tail
    (List.tail
    (List.tail
    (List.tail
    (List.tail
    (List.tail
    (List.tail
    (List.tail (List.tail (List.tail (List.tail (List.tail l48)))))))))))))
    (Value.tuple (Array.mk [])))
    fun o88 n89 n90 =>
    T.asS
    (List.headD
    (List.tail
    (List.tail
    (List.tail
    (List.tail
    (List.tail
    (List.tail
    (List.tail
    (List.tail
    (List.tail
    (List.tail
    (List.tail (List.tail (List.tail (List.tail l48))))))))))))))
    (Value.tuple (Array.mk [])))
    fun o91 n92 n93 =>
    T.asS
    (List.headD
    (List.tail
    (List.tail
    (List.tail
    (List.tail
    (List.tail
    (List.tail
    (List.tail
    (List.tail
    (List.tail
    (List.tail
    (List.tail
    (List.tail (List.tail (List.tail (List.tail l48)))))))))))))))
    (Value.tuple (Array.mk [])))
    fun o94 n95 n96 =>
    T.asS
    (List.headD
    (List.tail
    (List.tail
    (List.tail
    (List.tail
    (List.tail
    (List.tail
    (List.tail
    (List.tail
    (List.tail
    (List.tail
    (List.tail
    (List.tail
    (List.tail
    (List.tail (List.tail (List.tail l48))))))))))))))))
    (Value.tuple (Array.mk [])))
    fun o97 n98 n99 =>
    T.asS
    (List.headD
    (List.tail
    (List.tail
    (List.tail
    (List.tail
    (List.tail
    (List.tail
    (List.tail
    (List.tail
    (List.tail
    (List.tail
    (List.tail
    (List.tail
    (List.tail
    (List.tail
    (List.tail
    (List.tail (List.tail l48)))))))))))))))))
    (Value.tuple (Array.mk [])))
    fun o100 n101 n102 =>
    T.chk
    [(Addr.mk n16 0 none, Value.int IntKind.i64 i33),
    (Addr.mk n16 1 none, Value.int IntKind.i64 i34),
    (Addr.mk n16 2 none, Value.slice o35 n36 n37),
    (Addr.mk n16 3 none, Value.slice o38 n39 n40),
    (Addr.mk n16 4 none, Value.slice o41 n42 n43),
    (Addr.mk n16 5 none, Value.slice o44 n45 n46)]
    (T.call 20
    [Value.agg
    (Array.mk
    [Value.int IntKind.i64 i33, Value.int IntKind.i64 i34,
    Value.slice o35 n36 n37, Value.slice o38 n39 n40,
    Value.slice o41 n42 n43, Value.slice o44 n45 n46]),
    Value.int IntKind.i64 i14]
    fun v103 =>
    T.asA v103 fun l104 =>
    T.req (List.length l104 = 18)
    (T.asS (List.headD l104 (Value.tuple (Array.mk []))) fun o105 n106 n107 =>
    T.asS (List.headD (List.tail l104) (Value.tuple (Array.mk [])))
    fun o108 n109 n110 =>
    T.asS
    (List.headD (List.tail (List.tail l104))
    (Value.tuple (Array.mk [])))
    fun o111 n112 n113 =>
    T.asS
    (List.headD (List.tail (List.tail (List.tail l104)))
    (Value.tuple (Array.mk [])))
    fun o114 n115 n116 =>
    T.asS
    (List.headD (List.tail (List.tail (List.tail (List.tail l104))))
    (Value.tuple (Array.mk [])))
    fun o117 n118 n119 =>
    T.asS
    (List.headD
    (List.tail
    (List.tail (List.tail (List.tail (List.tail l104)))))
    (Value.tuple (Array.mk [])))
    fun o120 n121 n122 =>
    T.asS
    (List.headD
    (List.tail
    (List.tail
    (List.tail (List.tail (List.tail (List.tail l104))))))
    (Value.tuple (Array.mk [])))
    fun o123 n124 n125 =>
    T.asS
    (List.headD
    (List.tail
    (List.tail
    (List.tail
    (List.tail
    (List.tail (List.tail (List.tail l104)))))))
    (Value.tuple (Array.mk [])))
    fun o126 n127 n128 =>
    T.asS
    (List.headD
    (List.tail
    (List.tail
    (List.tail
    (List.tail
    (List.tail
    (List.tail
    (List.tail (List.tail l104))))))))
    (Value.tuple (Array.mk [])))
    fun o129 n130 n131 =>
    T.asS
    (List.headD
    (List.tail
    (List.tail
    (List.tail
    (List.tail
    (List.tail
    (List.tail
    (List.tail
    (List.tail (List.tail l104)))))))))
    (Value.tuple (Array.mk [])))
    fun o132 n133 n134 =>
    T.asS
    (List.headD
    (List.tail
    (List.tail
    (List.tail
    (List.tail
    (List.tail
    (List.tail
    (List.tail
    (List.tail
    (List.tail
    (List.tail l104))))))))))
    (Value.tuple (Array.mk [])))
    fun o135 n136 n137 =>
    T.asS
    (List.headD
    (List.tail
    (List.tail
    (List.tail
    (List.tail
    (List.tail
    (List.tail
    (List.tail
    (List.tail
    (List.tail
    (List.tail
    (List.tail l104)))))))))))
    (Value.tuple (Array.mk [])))
    fun o138 n139 n140 =>
    T.asS
    (List.headD
    (List.tail
    (List.tail
    (List.tail
    (List.tail
    (List.tail
    (List.tail
    (List.tail
    (List.tail
    (List.tail
    (List.tail
    (List.tail
    (List.tail
    l104))))))))))))
    (Value.tuple (Array.mk [])))
    fun o141 n142 n143 =>
    T.asS
    (List.headD
    (List.tail
    (List.tail
    (List.tail
    (List.tail
    (List.tail
    (List.tail
    (List.tail
    (List.tail
    (List.tail
    (List.tail
    (List.tail
    (List.tail
    (List.tail
    l104)))))))))))))
    (Value.tuple (Array.mk [])))
    fun o144 n145 n146 =>
    T.asS
    (List.headD
    (List.tail
    (List.tail
    (List.tail
    (List.tail
    (List.tail
    (List.tail
    (List.tail
    (List.tail
    (List.tail
    (List.tail
    (List.tail
    (List.tail
    (List.tail
    (List.tail
    l104))))))))))))))
    (Value.tuple (Array.mk [])))
    fun o147 n148 n149 =>
    T.asS
    (List.headD
    (List.tail
    (List.tail
    (List.tail
    (List.tail
    (List.tail
    (List.tail
    (List.tail
    (List.tail
    (List.tail
    (List.tail
    (List.tail
    (List.tail
    (List.tail
    (List.tail
    (List.tail
    l104)))))))))))))))
    (Value.tuple (Array.mk [])))
    fun o150 n151 n152 =>
    T.asS
    (List.headD
    (List.tail
    (List.tail
    (List.tail
    (List.tail
    (List.tail
    (List.tail
    (List.tail
    (List.tail
    (List.tail
    (List.tail
    (List.tail
    (List.tail
    (List.tail
    (List.tail
    (List.tail
    (List.tail
    l104))))))))))))))))
    (Value.tuple (Array.mk [])))
    fun o153 n154 n155 =>
    T.asS
    (List.headD
    (List.tail
    (List.tail
    (List.tail
    (List.tail
    (List.tail
    (List.tail
    (List.tail
    (List.tail
    (List.tail
    (List.tail
    (List.tail
    (List.tail
    (List.tail
    (List.tail
    (List.tail
    (List.tail
    (List.tail
    l104)))))))))))))))))
    (Value.tuple (Array.mk [])))
    fun o156 n157 n158 =>
    T.chk []
    (T.call 18
    [Value.agg
    (Array.mk
    [Value.slice o49 n50 n51,
    Value.slice o52 n53 n54,
    Value.slice o55 n56 n57,
    Value.slice o58 n59 n60,
    Value.slice o61 n62 n63,
    Value.slice o64 n65 n66,
    Value.slice o67 n68 n69,
    Value.slice o70 n71 n72,
    Value.slice o73 n74 n75,
    Value.slice o76 n77 n78,
    Value.slice o79 n80 n81,
    Value.slice o82 n83 n84,
    Value.slice o85 n86 n87,
    Value.slice o88 n89 n90,
    Value.slice o91 n92 n93,
    Value.slice o94 n95 n96,
    Value.slice o97 n98 n99,
    Value.slice o100 n101
    n102]),
    Value.agg
    (Array.mk
    [Value.slice o105 n106 n107,
    Value.slice o108 n109
    n110,
    Value.slice o111 n112
    n113,
    Value.slice o114 n115
    n116,
    Value.slice o117 n118
    n119,
    Value.slice o120 n121
    n122,
    Value.slice o123 n124
    n125,
    Value.slice o126 n127
    n128,
    Value.slice o129 n130
    n131,
    Value.slice o132 n133
    n134,
    Value.slice o135 n136
    n137,
    Value.slice o138 n139
    n140,
    Value.slice o141 n142
    n143,
    Value.slice o144 n145
    n146,
    Value.slice o147 n148
    n149,
    Value.slice o150 n151
    n152,
    Value.slice o153 n154
    n155,
    Value.slice o156 n157
    n158])]
    fun v159 =>
    T.asB v159 fun b160 =>
    T.chk []
    (T.ite b160
    (T.ldI IntKind.i64 n16 0
    fun i161 =>
    T.ldI IntKind.i64 n16 1
    fun i162 =>
    T.ldS n16 2
    fun o163 n164 n165 =>
    T.ldS n16 3
    fun o166 n167
    n168 =>
    T.ldS n16 4
    fun o169 n170
    n171 =>
    T.ldS n16 5
    fun o172 n173
    n174 =>
    T.ldI
    IntKind.i64
    n16 0
    fun i175 =>
    T.ldI
    IntKind.i64
    n16 1
    fun i176 =>
    T.ldS n16 2
    fun o177
    n178
    n179 =>
    T.ldS n16
    3
    fun o180
    n181
    n182 =>
    T.ldS
    n16 4
    fun
    o183
    n184
    n185 =>
    T.ldS
    n16
    5
    fun
    o186
    n187
    n188 =>
    T.call
    22
    [Value.agg
    (Array.mk
    [Value.int
    IntKind.i64
    i161,
    Value.int
    IntKind.i64
    i162,
    Value.slice
    o163
    n164
    n165,
    Value.slice
    o166
    n167
    n168,
    Value.slice
    o169
    n170
    n171,
    Value.slice
    o172
    n173
    n174])]
    fun
    v189 =>
    T.asS
    v189
    fun
    o190
    n191
    n192 =>
    T.chk
    [(Addr.mk
    n16
    0
    none,
    Value.int
    IntKind.i64
    i175),
    (Addr.mk
    n16
    1
    none,
    Value.int
    IntKind.i64
    i176),
    (Addr.mk
    n16
    2
    none,
    Value.slice
    o177
    n178
    n179),
    (Addr.mk
    n16
    3
    none,
    Value.slice
    o180
    n181
    n182),
    (Addr.mk
    n16
    4
    none,
    Value.slice
    o183
    n184
    n185),
    (Addr.mk
    n16
    5
    none,
    Value.slice
    o186
    n187
    n188)]
    (T.call
    23
    [Value.agg
    (Array.mk
    [Value.int
    IntKind.i64
    i175,
    Value.int
    IntKind.i64
    i176,
    Value.slice
    o177
    n178
    n179,
    Value.slice
    o180
    n181
    n182,
    Value.slice
    o183
    n184
    n185,
    Value.slice
    o186
    n187
    n188])]
    fun
    v193 =>
    T.asS
    v193
    fun
    o194
    n195
    n196 =>
    T.chk
    []
    (T.call
    21
    [Value.slice
    o190
    n191
    n192,
    Value.slice
    o194
    n195
    n196]
    fun
    v197 =>
    T.asB
    v197
    fun
    b198 =>
    T.chk
    []
    (T.ite
    b198
    (T.ldI
    IntKind.i64
    n16
    0
    fun
    i199 =>
    T.ldI
    IntKind.i64
    n16
    1
    fun
    i200 =>
    T.ldS
    n16
    2
    fun
    o201
    n202
    n203 =>
    T.ldS
    n16
    3
    fun
    o204
    n205
    n206 =>
    T.ldS
    n16
    4
    fun
    o207
    n208
    n209 =>
    T.ldS
    n16
    5
    fun
    o210
    n211
    n212 =>
    T.ldI
    IntKind.i64
    n16
    0
    fun
    i213 =>
    T.ldI
    IntKind.i64
    n16
    1
    fun
    i214 =>
    T.ldS
    n16
    2
    fun
    o215
    n216
    n217 =>
    T.ldS
    n16
    3
    fun
    o218
    n219
    n220 =>
    T.ldS
    n16
    4
    fun
    o221
    n222
    n223 =>
    T.ldS
    n16
    5
    fun
    o224
    n225
    n226 =>
    T.call
    24
    [Value.agg
    (Array.mk
    [Value.int
    IntKind.i64
    i199,
    Value.int
    IntKind.i64
    i200,
    Value.slice
    o201
    n202
    n203,
    Value.slice
    o204
    n205
    n206,
    Value.slice
    o207
    n208
    n209,
    Value.slice
    o210
    n211
    n212]),
    Value.int
    IntKind.i64
    i15,
    Value.int
    IntKind.i64
    i14]
    fun
    v227 =>
    T.asS
    v227
    fun
    o228
    n229
    n230 =>
    T.chk
    [(Addr.mk
    n16
    0
    none,
    Value.int
    IntKind.i64
    i213),
    (Addr.mk
    n16
    1
    none,
    Value.int
    IntKind.i64
    i214),
    (Addr.mk
    n16
    2
    none,
    Value.slice
    o215
    n216
    n217),
    (Addr.mk
    n16
    3
    none,
    Value.slice
    o218
    n219
    n220),
    (Addr.mk
    n16
    4
    none,
    Value.slice
    o221
    n222
    n223),
    (Addr.mk
    n16
    5
    none,
    Value.slice
    o224
    n225
    n226)]
    (T.call
    25
    [Value.agg
    (Array.mk
    [Value.int
    IntKind.i64
    i213,
    Value.int
    IntKind.i64
    i214,
    Value.slice
    o215
    n216
    n217,
    Value.slice
    o218
    n219
    n220,
    Value.slice
    o221
    n222
    n223,
    Value.slice
    o224
    n225
    n226]),
    Value.int
    IntKind.i64
    i15,
    Value.int
    IntKind.i64
    i14]
    fun
    v231 =>
    T.asS
    v231
    fun
    o232
    n233
    n234 =>
    T.chk
    []
    (T.call
    21
    [Value.slice
    o228
    n229
    n230,
    Value.slice
    o232
    n233
    n234]
    fun
    v235 =>
    T.asB
    v235
    fun
    b236 =>
    T.chk
    []
    (T.ret
    (Value.bool
    b236)))))
    (T.chk
    []
    (T.chk
    []
    (T.chk
    []
    (T.ret
    (Value.bool
    false)))))))))
    (T.chk []
    (T.chk []
    (T.chk []
    (T.chk []
    (T.chk []
    (T.chk []
    (T.ret
    (Value.bool
    false))))))))))))))
    (T.chk [] (T.chk [] (T.chk [] (T.chk [] (T.chk [] (T.chk [] (T.chk [] (T.chk [] (T.chk [] (T.ret (Value.bool false)))))))))))))
theorem e5 (i0 : Int) (i1 : Int) (o2 : Option Addr) (n3 n4 : Nat) (o5 : Option Addr) (n6 n7 : Nat) (o8 : Option Addr) (n9 n10 : Nat) (o11 : Option Addr) (n12 n13 : Nat) (i14 : Int) (i15 : Int) : treeOf Try.prog Try.f5 (codeOf Try.f5) (.s .n (.s (.p [0, 1, 2, 3, 5, 6, 4, 7, 8, 9, 10, 11, 13, 12, 14, 15, 16, 17, 18, 19, 20, 22, 23, 24, 21, 25, 26, 27, 28]) .n)) [.v (.agg #[.int .i64 i0, .int .i64 i1, .slice o2 n3 n4, .slice o5 n6 n7, .slice o8 n9 n10, .slice o11 n12 n13]), .v (.int .i64 i14), .v (.int .i64 i15)] = (t5 i0 i1 o2 n3 n4 o5 n6 n7 o8 n9 n10 o11 n12 n13 i14 i15) := by kernel_rfl
theorem c5 (i0 : Int) (i1 : Int) (o2 : Option Addr) (n3 n4 : Nat) (o5 : Option Addr) (n6 n7 : Nat) (o8 : Option Addr) (n9 n10 : Nat) (o11 : Option Addr) (n12 n13 : Nat) (i14 : Int) (i15 : Int) {w : World} {R : Ending → World → Prop} (h : (t5 i0 i1 o2 n3 n4 o5 n6 n7 o8 n9 n10 o11 n12 n13 i14 i15).sem Try.prog R ρ0 w) : Calls Try.prog 5 #[.agg #[.int .i64 i0, .int .i64 i1, .slice o2 n3 n4, .slice o5 n6 n7, .slice o8 n9 n10, .slice o11 n12 n13], .int .i64 i14, .int .i64 i15] w R :=
  calls_of mixed Try.func5 rfl rfl (e5 i0 i1 o2 n3 n4 o5 n6 n7 o8 n9 n10 o11 n12 n13 i14 i15) h
def t6 (i0 : Int) (i1 : Int) (o2 : Option Addr) (n3 n4 : Nat) (o5 : Option Addr) (n6 n7 : Nat) (o8 : Option Addr) (n9 n10 : Nat) (o11 : Option Addr) (n12 n13 : Nat) : T :=
  T.new
  (Obj.cells
    (Array.mk [Value.int IntKind.i64 i0, Value.int IntKind.i64 i1, Value.slice o2 n3 n4, Value.slice o5 n6 n7, Value.slice o8 n9 n10, Value.slice o11 n12 n13])
    39)
  fun n14 =>
  T.drew
    (T.ldS n14 4 fun o15 n16 n17 =>
    T.ldS n14 5 fun o18 n19 n20 =>
    T.call 26 [Value.slice o15 n16 n17] fun v21 =>
    T.asS v21 fun o22 n23 n24 =>
    T.chk [(Addr.mk n14 5 none, Value.slice o18 n19 n20)]
    (T.call 26 [Value.slice o18 n19 n20] fun v25 =>
    T.asS v25 fun o26 n27 n28 =>
    T.chk []
    (T.ldI IntKind.i64 n14 0 fun i29 =>
    T.ldI IntKind.i64 n14 1 fun i30 =>
    T.ldS n14 2 fun o31 n32 n33 =>
    T.ldS n14 3 fun o34 n35 n36 =>
    T.ldS n14 4 fun o37 n38 n39 =>
    T.ldS n14 5 fun o40 n41 n42 =>
    T.call 19
    [Value.agg
    (Array.mk
    [Value.int IntKind.i64 i29, Value.int IntKind.i64 i30, Value.slice o31 n32 n33, Value.slice o34 n35 n36,
    Value.slice o37 n38 n39, Value.slice o40 n41 n42]),
    Value.int IntKind.i64 2]
    fun v43 =>
    T.asA v43 fun l44 =>
    T.req (List.length l44 = 18)
    (T.asS (List.headD l44 (Value.tuple (Array.mk []))) fun o45 n46 n47 =>
    T.asS (List.headD (List.tail l44) (Value.tuple (Array.mk []))) fun o48 n49 n50 =>
    T.asS (List.headD (List.tail (List.tail l44)) (Value.tuple (Array.mk []))) fun o51 n52 n53 =>
    T.asS (List.headD (List.tail (List.tail (List.tail l44))) (Value.tuple (Array.mk []))) fun o54 n55 n56 =>
    T.asS (List.headD (List.tail (List.tail (List.tail (List.tail l44)))) (Value.tuple (Array.mk [])))
    fun o57 n58 n59 =>
    T.asS (List.headD (List.tail (List.tail (List.tail (List.tail (List.tail l44))))) (Value.tuple (Array.mk [])))
    fun o60 n61 n62 =>
    T.asS
    (List.headD (List.tail (List.tail (List.tail (List.tail (List.tail (List.tail l44))))))
    (Value.tuple (Array.mk [])))
    fun o63 n64 n65 =>
    T.asS
    (List.headD (List.tail (List.tail (List.tail (List.tail (List.tail (List.tail (List.tail l44)))))))
    (Value.tuple (Array.mk [])))
    fun o66 n67 n68 =>
    T.asS
    (List.headD
    (List.tail (List.tail (List.tail (List.tail (List.tail (List.tail (List.tail (List.tail l44))))))))
    (Value.tuple (Array.mk [])))
    fun o69 n70 n71 =>
    T.asS
    (List.headD
    (List.tail
    (List.tail
    (List.tail (List.tail (List.tail (List.tail (List.tail (List.tail (List.tail l44)))))))))
    (Value.tuple (Array.mk [])))
    fun o72 n73 n74 =>
    T.asS
    (List.headD
    (List.tail
    (List.tail
    (List.tail
    (List.tail (List.tail (List.tail (List.tail (List.tail (List.tail (List.tail l44))))))))))
    (Value.tuple (Array.mk [])))
    fun o75 n76 n77 =>
    T.asS
    (List.headD
    (List.tail
    (List.tail
    (List.tail
    (List.tail
    (List.tail
    (List.tail (List.tail (List.tail (List.tail (List.tail (List.tail l44)))))))))))
    (Value.tuple (Array.mk [])))
    fun o78 n79 n80 =>
    T.asS
    (List.headD
    (List.tail
    (List.tail
    (List.tail
    (List.tail
    (List.tail
    (List.tail
    (List.tail (List.tail (List.tail (List.tail (List.tail (List.tail l44))))))))))))
    (Value.tuple (Array.mk [])))
    fun o81 n82 n83 =>
    T.asS
    (List.headD
    (List.tail
    (List.tail
    (List.tail
    (List.tail
    (List.tail
    (List.tail
    (List.tail
    (List.tail
    (List.tail (List.tail (List.tail (List.tail (List.tail l44)))))))))))))
    (Value.tuple (Array.mk [])))
    fun o84 n85 n86 =>
    T.asS
    (List.headD
    (List.tail
    (List.tail
    (List.tail
    (List.tail
    (List.tail
    (List.tail
    (List.tail
    (List.tail
    (List.tail
    (List.tail (List.tail (List.tail (List.tail (List.tail l44))))))))))))))
    (Value.tuple (Array.mk [])))
    fun o87 n88 n89 =>
    T.asS
    (List.headD
    (List.tail
    (List.tail
    (List.tail
    (List.tail
    (List.tail
    (List.tail
    (List.tail
    (List.tail
    (List.tail
    (List.tail
    (List.tail
    (List.tail (List.tail (List.tail (List.tail l44)))))))))))))))
    (Value.tuple (Array.mk [])))
    fun o90 n91 n92 =>
    T.asS
    (List.headD
    (List.tail
    (List.tail
    (List.tail
    (List.tail
    (List.tail
    (List.tail
    (List.tail
    (List.tail
    (List.tail
    (List.tail
    (List.tail
    (List.tail
    (List.tail
    (List.tail (List.tail (List.tail l44))))))))))))))))
    (Value.tuple (Array.mk [])))
    fun o93 n94 n95 =>
    T.asS
    (List.headD
    (List.tail
    (List.tail
    (List.tail
    (List.tail
    (List.tail
    (List.tail
    (List.tail
    (List.tail
    (List.tail
    (List.tail
    (List.tail
    (List.tail
    (List.tail
    (List.tail
    (List.tail (List.tail (List.tail l44)))))))))))))))))
    (Value.tuple (Array.mk [])))
    fun o96 n97 n98 =>
    T.new
    (Obj.cells
    (Array.mk
    [Value.slice none 0 0, Value.slice none 0 0, Value.slice none 0 0,
    Value.slice none 0 0, Value.slice none 0 0, Value.slice none 0 0,
    Value.slice none 0 0, Value.slice none 0 0, Value.slice none 0 0,
    Value.slice none 0 0, Value.slice none 0 0, Value.slice none 0 0,
    Value.slice none 0 0, Value.slice none 0 0, Value.slice none 0 0,
    Value.slice none 0 0, Value.slice none 0 0, Value.slice none 0 0])
    45)
    fun n99 =>
    T.st n99 0 (Value.slice o45 n46 n47)
    (T.st n99 1 (Value.slice o48 n49 n50)
    (T.st n99 2 (Value.slice o51 n52 n53)
    (T.st n99 3 (Value.slice o54 n55 n56)
    (T.st n99 4 (Value.slice o57 n58 n59)
    (T.st n99 5 (Value.slice o60 n61 n62)
    (T.st n99 6 (Value.slice o63 n64 n65)
    (T.st n99 7 (Value.slice o66 n67 n68)
    (T.st n99 8 (Value.slice o69 n70 n71)
    (T.st n99 9 (Value.slice o72 n73 n74)
    (T.st n99 10 (Value.slice o75 n76 n77)
    (T.st n99 11 (Value.slice o78 n79 n80)
    (T.st n99 12 (Value.slice o81 n82 n83)
    (T.st n99 13 (Value.slice o84 n85 n86)
    (T.st n99 14 (Value.slice o87 n88 n89)
    (T.st n99 15 (Value.slice o90 n91 n92)
    (T.st n99 16 (Value.slice o93 n94 n95)
    (T.st n99 17 (Value.slice o96 n97 n98)
    (T.loop 0 [Value.int IntKind.i64 0]
    fun l100 j101 =>
    T.asI IntKind.i64
    (List.headD l100
    (Value.tuple (Array.mk [])))
    fun i102 =>
    T.ite (decide (i102 < 8))
    (T.req (0 ≤ i102 ∧ i102 < 8)
    (T.ldS n99 (0 + Int.toNat i102 * 1)
    fun o103 n104 n105 =>
    T.loop 1 [Value.int IntKind.i64 0]
    fun l106 j107 =>
    T.asI IntKind.i64
    (List.headD l106
    (Value.tuple (Array.mk [])))
    fun i108 =>
    T.ite
    (decide (i108 < (↑n104 : Int)))
    (T.req (0 ≤ i102 ∧ i102 < 8)
    (T.ldS n99
    (0 + Int.toNat i102 * 1)
    fun o109 n110 n111 =>
    T.req
    (0 ≤ i108 ∧
    i108 < (↑n110 : Int))
    (T.sm o109
    fun n112 n113 =>
    T.st n112
    (n113 +
    Int.toNat i108 *
    2 +
    1)
    (Value.int IntKind.i64
    (-9))
    (T.next 1
    [Value.int
    IntKind.i64
    (IntKind.wrap
    IntKind.i64
    (i108 + 1))]
    ([Value.pointer
    (some
    (Addr.mk
    n14 0
    none)),
    Value.slice
    o22 n23 n24,
    Value.slice
    o26 n27 n28,
    Value.pointer
    (some
    (Addr.mk
    n99 0
    none)),
    Value.int
    IntKind.i64
    i102,
    Value.int
    IntKind.i64
    i102,
    Value.int
    IntKind.i64
    (↑n104 :
    Int)] =
    [Value.pointer
    (some
    (Addr.mk
    n14 0
    none)),
    Value.slice
    o22 n23 n24,
    Value.slice
    o26 n27 n28,
    Value.pointer
    (some
    (Addr.mk
    n99 0
    none)),
    Value.int
    IntKind.i64
    i102,
    Value.int
    IntKind.i64
    i102,
    Value.int
    IntKind.i64
    (↑n104 :
    Int)] ∧ ([] : List Deferred) = [])))))
    (T.req (0 ≤ i102 ∧ i102 < 8)
    (T.ldS n99
    (8 + Int.toNat i102 * 1)
    fun o114 n115 n116 =>
    T.loop 1
    [Value.int IntKind.i64 0]
    fun l117 j118 =>
    T.asI IntKind.i64
    (List.headD l117
    (Value.tuple
    (Array.mk [])))
    fun i119 =>
    T.ite
    (decide
    (i119 <
    (↑n115 : Int)))
    (T.req
    (0 ≤ i102 ∧
    i102 < 8)
    (T.ldS n99
    (8 +
    Int.toNat i102 *
    1)
    fun o120 n121
    n122 =>
    T.req
    (0 ≤ i119 ∧
    i119 <
    (↑n121 :
    Int))
    (T.sm o120
    fun n123
    n124 =>
    T.st n123
    (n124 +
    Int.toNat
    i119 *
    2 +
    1)
    (Value.int
    IntKind.i64
    (-9))
    (T.next 1
    [Value.int
    IntKind.i64
    (IntKind.wrap
    IntKind.i64
    (i119 +
    1))]
    ([Value.pointer
    (some
    (Addr.mk
    n14
    0
    none)),
    Value.slice
    o22
    n23
    n24,
    Value.slice
    o26
    n27
    n28,
    Value.pointer
    (some
    (Addr.mk
    n99
    0
    none)),
    Value.int
    IntKind.i64
    i102,
    Value.int
    IntKind.i64
    i102,
    Value.int
    IntKind.i64
    (↑n115 :
    Int)] =
    [Value.pointer
    (some
    (Addr.mk
    n14
    0
    none)),
    Value.slice
    o22
    n23
    n24,
    Value.slice
    o26
    n27
    n28,
    Value.pointer
    (some
    (Addr.mk
    n99
    0
    none)),
    Value.int
    IntKind.i64
    i102,
    Value.int
    IntKind.i64
    i102,
    Value.int
    IntKind.i64
    (↑n115 :
    Int)] ∧ ([] : List Deferred) = [])))))
    (T.next 0
    [Value.int
    IntKind.i64
    (IntKind.wrap
    IntKind.i64
    (i102 + 1))]
    ([Value.pointer
    (some
    (Addr.mk
    n14 0
    none)),
    Value.slice
    o22 n23 n24,
    Value.slice
    o26 n27 n28,
    Value.pointer
    (some
    (Addr.mk
    n99 0
    none))] =
    [Value.pointer
    (some
    (Addr.mk
    n14 0
    none)),
    Value.slice
    o22 n23 n24,
    Value.slice
    o26 n27 n28,
    Value.pointer
    (some
    (Addr.mk
    n99 0
    none))] ∧ ([] : List Deferred) = []))))))
    (T.drew
    (T.ldI IntKind.i64 n14 0 fun i125 =>
    T.ldI IntKind.i64 n14 1 fun i126 =>
    T.ldS n14 2 fun o127 n128 n129 =>
    T.ldS n14 3 fun o130 n131 n132 =>
    T.ldS n14 4
    fun o133 n134 n135 =>
    T.ldS n14 5
    fun o136 n137 n138 =>
    T.ldI IntKind.i64 n14 0
    fun i139 =>
    T.ldI IntKind.i64 n14 1
    fun i140 =>
    T.ldS n14 2
    fun o141 n142 n143 =>
    T.ldS n14 3
    fun o144 n145
    n146 =>
    T.ldS n14 4
    fun o147 n148
    n149 =>
    T.ldS n14 5
    fun o150 n151
    n152 =>
    T.call 22
    [Value.agg
    (Array.mk
    [Value.int
    IntKind.i64
    i125,
    Value.int
    IntKind.i64
    i126,
    Value.slice
    o127
    n128
    n129,
    Value.slice
    o130
    n131
    n132,
    Value.slice
    o133
    n134
    n135,
    Value.slice
    o136
    n137
    n138])]
    fun v153 =>
    T.asS v153
    fun o154
    n155
    n156 =>
    T.chk
    [(Addr.mk
    n14
    0
    none,
    Value.int
    IntKind.i64
    i139),
    (Addr.mk
    n14
    1
    none,
    Value.int
    IntKind.i64
    i140),
    (Addr.mk
    n14
    2
    none,
    Value.slice
    o141
    n142
    n143),
    (Addr.mk
    n14
    3
    none,
    Value.slice
    o144
    n145
    n146),
    (Addr.mk
    n14
    4
    none,
    Value.slice
    o147
    n148
    n149),
    (Addr.mk
    n14
    5
    none,
    Value.slice
    o150
    n151
    n152)]
    (T.call 24
    [Value.agg
    (Array.mk
    [Value.int
    IntKind.i64
    i139,
    Value.int
    IntKind.i64
    i140,
    Value.slice
    o141
    n142
    n143,
    Value.slice
    o144
    n145
    n146,
    Value.slice
    o147
    n148
    n149,
    Value.slice
    o150
    n151
    n152]),
    Value.int
    IntKind.i64
    0,
    Value.int
    IntKind.i64
    1]
    fun
    v157 =>
    T.asS
    v157
    fun
    o158
    n159
    n160 =>
    T.chk
    []
    (T.new
    (Obj.cells
    (Array.mk
    [Value.slice
    o154
    n155
    n156,
    Value.slice
    o158
    n159
    n160])
    48)
    fun
    n161 =>
    T.chk
    []
    (T.loop
    0
    [Value.int
    IntKind.i64
    0]
    fun
    l162
    j163 =>
    T.asI
    IntKind.i64
    (List.headD
    l162
    (Value.tuple
    (Array.mk
    [])))
    fun
    i164 =>
    T.ite
    (decide
    (i164 <
    2))
    (T.req
    (0 ≤
    i164 ∧
    i164 <
    2)
    (T.sm
    (some
    (Addr.mk
    n161
    0
    none))
    fun
    n165
    n166 =>
    T.ldS
    n165
    (n166 +
    Int.toNat
    i164 *
    1)
    fun
    o167
    n168
    n169 =>
    T.loop
    1
    [Value.int
    IntKind.i64
    0]
    fun
    l170
    j171 =>
    T.asI
    IntKind.i64
    (List.headD
    l170
    (Value.tuple
    (Array.mk
    [])))
    fun
    i172 =>
    T.ite
    (decide
    (i172 <
    (↑n168 :
    Int)))
    (T.req
    (0 ≤
    i172 ∧
    i172 <
    (↑n168 :
    Int))
    (T.sm
    o167
    fun
    n173
    n174 =>
    T.st
    n173
    (n174 +
    Int.toNat
    i172 *
    3 +
    1)
    (Value.int
    IntKind.i64
    (-9))
    (T.next
    1
    [Value.int
    IntKind.i64
    (IntKind.wrap
    IntKind.i64
    (i172 +
    1))]
    ([Value.pointer
    (some
    (Addr.mk
    n14
    0
    none)),
    Value.slice
    o22
    n23
    n24,
    Value.slice
    o26
    n27
    n28,
    Value.slice
    o167
    n168
    n169,
    Value.slice
    (some
    (Addr.mk
    n161
    0
    none))
    2
    2,
    Value.int
    IntKind.i64
    2,
    Value.int
    IntKind.i64
    i164,
    Value.int
    IntKind.i64
    (↑n168 :
    Int)] =
    [Value.pointer
    (some
    (Addr.mk
    n14
    0
    none)),
    Value.slice
    o22
    n23
    n24,
    Value.slice
    o26
    n27
    n28,
    Value.slice
    o167
    n168
    n169,
    Value.slice
    (some
    (Addr.mk
    n161
    0
    none))
    2
    2,
    Value.int
    IntKind.i64
    2,
    Value.int
    IntKind.i64
    i164,
    Value.int
    IntKind.i64
    (↑n168 :
    Int)] ∧ ([] : List Deferred) = []))))
    (T.next
    0
    [Value.int
    IntKind.i64
    (IntKind.wrap
    IntKind.i64
    (i164 +
    1))]
    ([Value.pointer
    (some
    (Addr.mk
    n14
    0
    none)),
    Value.slice
    o22
    n23
    n24,
    Value.slice
    o26
    n27
    n28,
    Value.slice
    (some
    (Addr.mk
    n161
    0
    none))
    2
    2,
    Value.int
    IntKind.i64
    2] =
    [Value.pointer
    (some
    (Addr.mk
    n14
    0
    none)),
    Value.slice
    o22
    n23
    n24,
    Value.slice
    o26
    n27
    n28,
    Value.slice
    (some
    (Addr.mk
    n161
    0
    none))
    2
    2,
    Value.int
    IntKind.i64
    2] ∧ ([] : List Deferred) = []))))
    (T.call
    10
    []
    fun
    v175 =>
    T.asB
    v175
    fun
    b176 =>
    T.ite
    b176
    (T.ldS
    n14
    4
    fun
    o177
    n178
    n179 =>
    T.call
    27
    [Value.slice
    o177
    n178
    n179,
    Value.slice
    o22
    n23
    n24]
    fun
    v180 =>
    T.asB
    v180
    fun
    b181 =>
    T.ite
    b181
    (T.ldS
    n14
    5
    fun
    o182
    n183
    n184 =>
    T.call
    27
    [Value.slice
    o182
    n183
    n184,
    Value.slice
    o26
    n27
    n28]
    fun
    v185 =>
    T.asB
    v185
    fun
    b186 =>
    T.ret
    (Value.bool
    b186))
    (T.ret
    (Value.bool
    false)))
    (T.ret
    (Value.bool
    false))))))))))))))))))))))))))))))
theorem e6 (i0 : Int) (i1 : Int) (o2 : Option Addr) (n3 n4 : Nat) (o5 : Option Addr) (n6 n7 : Nat) (o8 : Option Addr) (n9 n10 : Nat) (o11 : Option Addr) (n12 n13 : Nat) : treeOf Try.prog Try.f6 (codeOf Try.f6) (.s .n (.s (.p [0, 1, 3, 4, 2, 5, 6, 7]) (.s .n (.s (.s .n (.u (.l [(20, .int .i64)] [1, 3, 4, 5] (.s .n (.s .n (.s (.u (.s .n (.s (.s .n (.u (.l [(28, .int .i64)] [1, 3, 4, 5, 6, 20, 27] .n))) (.s .n (.u (.l [(44, .int .i64)] [1, 3, 4, 5, 6, 20, 43] .n)))))) .n)))))) (.s (.s (.p [0, 2, 6, 1, 3, 4, 5]) (.u (.l [(62, .int .i64)] [1, 3, 4, 60, 61] (.s .n (.s .n (.s (.u (.s .n (.s .n (.u (.l [(68, .int .i64)] [1, 3, 4, 10, 60, 61, 62, 67] .n))))) .n)))))) .n))))) [.v (.agg #[.int .i64 i0, .int .i64 i1, .slice o2 n3 n4, .slice o5 n6 n7, .slice o8 n9 n10, .slice o11 n12 n13])] = (t6 i0 i1 o2 n3 n4 o5 n6 n7 o8 n9 n10 o11 n12 n13) := by kernel_rfl
theorem c6 (i0 : Int) (i1 : Int) (o2 : Option Addr) (n3 n4 : Nat) (o5 : Option Addr) (n6 n7 : Nat) (o8 : Option Addr) (n9 n10 : Nat) (o11 : Option Addr) (n12 n13 : Nat) {w : World} {R : Ending → World → Prop} (h : (t6 i0 i1 o2 n3 n4 o5 n6 n7 o8 n9 n10 o11 n12 n13).sem Try.prog R ρ0 w) : Calls Try.prog 6 #[.agg #[.int .i64 i0, .int .i64 i1, .slice o2 n3 n4, .slice o5 n6 n7, .slice o8 n9 n10, .slice o11 n12 n13]] w R :=
  calls_of mixed Try.func6 rfl rfl (e6 i0 i1 o2 n3 n4 o5 n6 n7 o8 n9 n10 o11 n12 n13) h
def t8 (i0 : Int) (i1 : Int) (o2 : Option Addr) (n3 n4 : Nat) (o5 : Option Addr) (n6 n7 : Nat) (o8 : Option Addr) (n9 n10 : Nat) (o11 : Option Addr) (n12 n13 : Nat) (i14 : Int) : T :=
  T.new
  (Obj.cells
    (Array.mk [Value.int IntKind.i64 i0, Value.int IntKind.i64 i1, Value.slice o2 n3 n4, Value.slice o5 n6 n7, Value.slice o8 n9 n10, Value.slice o11 n12 n13])
    39)
  fun n15 =>
  T.ldI IntKind.i64 n15 0 fun i16 =>
    T.ldI IntKind.i64 n15 1 fun i17 =>
    T.ldS n15 2 fun o18 n19 n20 =>
    T.ldS n15 3 fun o21 n22 n23 =>
    T.ldS n15 4 fun o24 n25 n26 =>
    T.ldS n15 5 fun o27 n28 n29 =>
    T.call 19
    [Value.agg
    (Array.mk
    [Value.int IntKind.i64 i16, Value.int IntKind.i64 i17, Value.slice o18 n19 n20, Value.slice o21 n22 n23, Value.slice o24 n25 n26,
    Value.slice o27 n28 n29]),
    Value.int IntKind.i64 i14]
    fun v30 =>
    T.asA v30 fun l31 =>
    T.req (List.length l31 = 18)
    (T.asS (List.headD l31 (Value.tuple (Array.mk []))) fun o32 n33 n34 =>
    T.asS (List.headD (List.tail l31) (Value.tuple (Array.mk []))) fun o35 n36 n37 =>
    T.asS (List.headD (List.tail (List.tail l31)) (Value.tuple (Array.mk []))) fun o38 n39 n40 =>
    T.asS (List.headD (List.tail (List.tail (List.tail l31))) (Value.tuple (Array.mk []))) fun o41 n42 n43 =>
    T.asS (List.headD (List.tail (List.tail (List.tail (List.tail l31)))) (Value.tuple (Array.mk []))) fun o44 n45 n46 =>
    T.asS (List.headD (List.tail (List.tail (List.tail (List.tail (List.tail l31))))) (Value.tuple (Array.mk []))) fun o47 n48 n49 =>
    T.asS (List.headD (List.tail (List.tail (List.tail (List.tail (List.tail (List.tail l31)))))) (Value.tuple (Array.mk [])))
    fun o50 n51 n52 =>
    T.asS
    (List.headD (List.tail (List.tail (List.tail (List.tail (List.tail (List.tail (List.tail l31)))))))
    (Value.tuple (Array.mk [])))
    fun o53 n54 n55 =>
    T.asS
    (List.headD (List.tail (List.tail (List.tail (List.tail (List.tail (List.tail (List.tail (List.tail l31))))))))
    (Value.tuple (Array.mk [])))
    fun o56 n57 n58 =>
    T.asS
    (List.headD
    (List.tail (List.tail (List.tail (List.tail (List.tail (List.tail (List.tail (List.tail (List.tail l31)))))))))
    (Value.tuple (Array.mk [])))
    fun o59 n60 n61 =>
    T.asS
    (List.headD
    (List.tail
    (List.tail (List.tail (List.tail (List.tail (List.tail (List.tail (List.tail (List.tail (List.tail l31))))))))))
    (Value.tuple (Array.mk [])))
    fun o62 n63 n64 =>
    T.asS
    (List.headD
    (List.tail
    (List.tail
    (List.tail
    (List.tail (List.tail (List.tail (List.tail (List.tail (List.tail (List.tail (List.tail l31)))))))))))
    (Value.tuple (Array.mk [])))
    fun o65 n66 n67 =>
    T.asS
    (List.headD
    (List.tail
    (List.tail
    (List.tail
    (List.tail
    (List.tail (List.tail (List.tail (List.tail (List.tail (List.tail (List.tail (List.tail l31))))))))))))
    (Value.tuple (Array.mk [])))
    fun o68 n69 n70 =>
    T.asS
    (List.headD
    (List.tail
    (List.tail
    (List.tail
    (List.tail
    (List.tail
    (List.tail
    (List.tail (List.tail (List.tail (List.tail (List.tail (List.tail (List.tail l31)))))))))))))
    (Value.tuple (Array.mk [])))
    fun o71 n72 n73 =>
    T.asS
    (List.headD
    (List.tail
    (List.tail
    (List.tail
    (List.tail
    (List.tail
    (List.tail
    (List.tail
    (List.tail (List.tail (List.tail (List.tail (List.tail (List.tail (List.tail l31))))))))))))))
    (Value.tuple (Array.mk [])))
    fun o74 n75 n76 =>
    T.asS
    (List.headD
    (List.tail
    (List.tail
    (List.tail
    (List.tail
    (List.tail
    (List.tail
    (List.tail
    (List.tail
    (List.tail
    (List.tail (List.tail (List.tail (List.tail (List.tail (List.tail l31)))))))))))))))
    (Value.tuple (Array.mk [])))
    fun o77 n78 n79 =>
    T.asS
    (List.headD
    (List.tail
    (List.tail
    (List.tail
    (List.tail
    (List.tail
    (List.tail
    (List.tail
    (List.tail
    (List.tail
    (List.tail
    (List.tail
    (List.tail (List.tail (List.tail (List.tail (List.tail l31))))))))))))))))
    (Value.tuple (Array.mk [])))
    fun o80 n81 n82 =>
    T.asS
    (List.headD
    (List.tail
    (List.tail
    (List.tail
    (List.tail
    (List.tail
    (List.tail
    (List.tail
    (List.tail
    (List.tail
    (List.tail
    (List.tail
    (List.tail
    (List.tail (List.tail (List.tail (List.tail (List.tail l31)))))))))))))))))
    (Value.tuple (Array.mk [])))
    fun o83 n84 n85 =>
    T.new
    (Obj.cells
    (Array.mk
    [Value.slice none 0 0, Value.slice none 0 0, Value.slice none 0 0, Value.slice none 0 0,
    Value.slice none 0 0, Value.slice none 0 0, Value.slice none 0 0, Value.slice none 0 0,
    Value.slice none 0 0, Value.slice none 0 0, Value.slice none 0 0, Value.slice none 0 0,
    Value.slice none 0 0, Value.slice none 0 0, Value.slice none 0 0, Value.slice none 0 0,
    Value.slice none 0 0, Value.slice none 0 0])
    45)
    fun n86 =>
    T.st n86 0 (Value.slice o32 n33 n34)
    (T.st n86 1 (Value.slice o35 n36 n37)
    (T.st n86 2 (Value.slice o38 n39 n40)
    (T.st n86 3 (Value.slice o41 n42 n43)
    (T.st n86 4 (Value.slice o44 n45 n46)
    (T.st n86 5 (Value.slice o47 n48 n49)
    (T.st n86 6 (Value.slice o50 n51 n52)
    (T.st n86 7 (Value.slice o53 n54 n55)
    (T.st n86 8 (Value.slice o56 n57 n58)
    (T.st n86 9 (Value.slice o59 n60 n61)
    (T.st n86 10 (Value.slice o62 n63 n64)
    (T.st n86 11 (Value.slice o65 n66 n67)
    (T.st n86 12 (Value.slice o68 n69 n70)
    (T.st n86 13 (Value.slice o71 n72 n73)
    (T.st n86 14 (Value.slice o74 n75 n76)
    (T.st n86 15 (Value.slice o77 n78 n79)
    (T.st n86 16 (Value.slice o80 n81 n82)
    (T.st n86 17 (Value.slice o83 n84 n85)
    (T.loop 0 [Value.slice none 0 0, Value.int IntKind.i64 0]
    fun l87 j88 =>
    T.asS (List.headD l87 (Value.tuple (Array.mk [])))
    fun o89 n90 n91 =>
    T.asI IntKind.i64
    (List.headD (List.tail l87) (Value.tuple (Array.mk [])))
    fun i92 =>
    T.ite (decide (i92 < 8))
    (T.ldI IntKind.i64 n15 0 fun i93 =>
    T.ldI IntKind.i64 n15 1 fun i94 =>
    T.ldS n15 2 fun o95 n96 n97 =>
    T.ldS n15 3 fun o98 n99 n100 =>
    T.ldS n15 4 fun o101 n102 n103 =>
    T.ldS n15 5 fun o104 n105 n106 =>
    T.call 24
    [Value.agg
    (Array.mk
    [Value.int IntKind.i64 i93,
    Value.int IntKind.i64 i94,
    Value.slice o95 n96 n97,
    Value.slice o98 n99 n100,
    Value.slice o101 n102 n103,
    Value.slice o104 n105 n106]),
    Value.int IntKind.i64 i92,
    Value.int IntKind.i64 i14]
    fun v107 =>
    T.asS v107 fun o108 n109 n110 =>
    T.drew
    (T.req (0 ≤ i92 ∧ i92 < 8)
    (T.ldS n86 (0 + Int.toNat i92 * 1)
    fun o111 n112 n113 =>
    T.req (0 ≤ i92 ∧ i92 < 8)
    (T.ldS n86 (8 + Int.toNat i92 * 1)
    fun o114 n115 n116 =>
    T.ite
    (!decide
    ((↑n109 : Int) > 0) ==
    decide
    (IntKind.wrap
    IntKind.i64
    ((↑n112 : Int) +
    (↑n115 : Int)) >
    0))
    (T.chk
    [(Addr.mk n86
    (8 +
    Int.toNat i92 * 1)
    none,
    Value.slice o114 n115
    n116),
    (Addr.mk n86
    (0 +
    Int.toNat i92 * 1)
    none,
    Value.slice o111 n112
    n113)]
    (T.ret (Value.bool false)))
    (T.ite
    (decide ((↑n109 : Int) > 0))
    (T.ldS n86 16
    fun o117 n118 n119 =>
    T.call 32
    [Value.slice o117 n118
    n119,
    Value.int IntKind.i64
    i92]
    fun v120 =>
    T.asB v120 fun b121 =>
    T.chk
    [(Addr.mk n86
    (8 +
    Int.toNat
    i92 *
    1)
    none,
    Value.slice o114
    n115 n116),
    (Addr.mk n86
    (0 +
    Int.toNat
    i92 *
    1)
    none,
    Value.slice o111
    n112 n113)]
    (T.ite (!b121)
    (T.ret
    (Value.bool
    false))
    (T.run
    (biV
    Builtin.append
    (Array.mk
    [48, 48])
    48
    (Array.mk
    [Value.slice
    o89 n90
    n91,
    Value.slice
    o108
    n109
    n110]))
    fun v122 =>
    T.asS v122
    fun o123 n124
    n125 =>
    T.next 0
    [Value.slice
    o123
    n124
    n125,
    Value.int
    IntKind.i64
    (IntKind.wrap
    IntKind.i64
    (i92 +
    1))]
    ([Value.int
    IntKind.i64
    i14,
    Value.pointer
    (some
    (Addr.mk
    n15
    0
    none)),
    Value.pointer
    (some
    (Addr.mk
    n86
    0
    none))] =
    [Value.int
    IntKind.i64
    i14,
    Value.pointer
    (some
    (Addr.mk
    n15
    0
    none)),
    Value.pointer
    (some
    (Addr.mk
    n86
    0
    none))] ∧ ([] : List Deferred) = []))))
    (T.chk
    [(Addr.mk n86
    (8 +
    Int.toNat i92 * 1)
    none,
    Value.slice o114 n115
    n116),
    (Addr.mk n86
    (0 +
    Int.toNat i92 * 1)
    none,
    Value.slice o111 n112
    n113)]
    (T.run
    (biV Builtin.append
    (Array.mk [48, 48]) 48
    (Array.mk
    [Value.slice o89 n90
    n91,
    Value.slice o108
    n109 n110]))
    fun v126 =>
    T.asS v126
    fun o127 n128 n129 =>
    T.next 0
    [Value.slice o127
    n128 n129,
    Value.int
    IntKind.i64
    (IntKind.wrap
    IntKind.i64
    (i92 + 1))]
    ([Value.int
    IntKind.i64
    i14,
    Value.pointer
    (some
    (Addr.mk
    n15 0
    none)),
    Value.pointer
    (some
    (Addr.mk
    n86 0
    none))] =
    [Value.int
    IntKind.i64
    i14,
    Value.pointer
    (some
    (Addr.mk
    n15 0
    none)),
    Value.pointer
    (some
    (Addr.mk
    n86 0
    none))] ∧ ([] : List Deferred) = []))))))))
    (T.ldI IntKind.i64 n15 0 fun i130 =>
    T.ldI IntKind.i64 n15 1 fun i131 =>
    T.ldS n15 2 fun o132 n133 n134 =>
    T.ldS n15 3 fun o135 n136 n137 =>
    T.ldS n15 4 fun o138 n139 n140 =>
    T.ldS n15 5 fun o141 n142 n143 =>
    T.call 22
    [Value.agg
    (Array.mk
    [Value.int IntKind.i64 i130,
    Value.int IntKind.i64 i131,
    Value.slice o132 n133 n134,
    Value.slice o135 n136 n137,
    Value.slice o138 n139 n140,
    Value.slice o141 n142 n143])]
    fun v144 =>
    T.asS v144 fun o145 n146 n147 =>
    T.loop 0 [Value.int IntKind.i64 0]
    fun l148 j149 =>
    T.asI IntKind.i64
    (List.headD l148
    (Value.tuple (Array.mk [])))
    fun i150 =>
    T.ite (decide (i150 < (↑n146 : Int)))
    (T.req
    (0 ≤ i150 ∧ i150 < (↑n146 : Int))
    (T.sm o145 fun n151 n152 =>
    T.ldI IntKind.i32 n151
    (n152 + Int.toNat i150 * 3)
    fun i153 =>
    T.ldI IntKind.i64 n151
    (n152 + Int.toNat i150 * 3 +
    1)
    fun i154 =>
    T.ldB n151
    (n152 +
    Int.toNat i150 * 3 +
    2)
    fun b155 =>
    T.new
    (Obj.cells
    (Array.mk
    [Value.int
    IntKind.i32 0,
    Value.int
    IntKind.i64 0,
    Value.bool false])
    52)
    fun n156 =>
    T.st n156 0
    (Value.int IntKind.i32
    i153)
    (T.st n156 1
    (Value.int
    IntKind.i64 i154)
    (T.st n156 2
    (Value.bool b155)
    (T.drew
    (T.ldI
    IntKind.i32
    n156 0
    fun i157 =>
    T.ldI
    IntKind.i64
    n156 1
    fun i158 =>
    T.ldB n156 2
    fun
    b159 =>
    T.call 33
    [Value.slice
    o89
    n90
    n91,
    Value.agg
    (Array.mk
    [Value.int
    IntKind.i32
    i157,
    Value.int
    IntKind.i64
    i158,
    Value.bool
    b159])]
    fun
    v160 =>
    T.asB
    v160
    fun
    b161 =>
    T.chk
    []
    (T.ite
    (!b161)
    (T.chk
    []
    (T.chk
    []
    (T.ret
    (Value.bool
    false))))
    (T.ldB
    n156
    2
    fun
    b162 =>
    T.ldI
    IntKind.i64
    n15
    0
    fun
    i163 =>
    T.ldI
    IntKind.i64
    n15
    1
    fun
    i164 =>
    T.ldS
    n15
    2
    fun
    o165
    n166
    n167 =>
    T.ldS
    n15
    3
    fun
    o168
    n169
    n170 =>
    T.ldS
    n15
    4
    fun
    o171
    n172
    n173 =>
    T.ldS
    n15
    5
    fun
    o174
    n175
    n176 =>
    T.ldI
    IntKind.i32
    n156
    0
    fun
    i177 =>
    T.ldI
    IntKind.i64
    n156
    1
    fun
    i178 =>
    T.call
    30
    [Value.agg
    (Array.mk
    [Value.int
    IntKind.i64
    i163,
    Value.int
    IntKind.i64
    i164,
    Value.slice
    o165
    n166
    n167,
    Value.slice
    o168
    n169
    n170,
    Value.slice
    o171
    n172
    n173,
    Value.slice
    o174
    n175
    n176]),
    Value.agg
    (Array.mk
    [Value.int
    IntKind.i32
    i177,
    Value.int
    IntKind.i64
    i178])]
    fun
    v179 =>
    T.asB
    v179
    fun
    b180 =>
    T.chk
    [(Addr.mk
    n156
    2
    none,
    Value.bool
    b162)]
    (T.ite
    (!b162 ==
    b180)
    (T.chk
    [(Addr.mk
    n156
    2
    none,
    Value.bool
    b162)]
    (T.ret
    (Value.bool
    false)))
    (T.ldB
    n156
    2
    fun
    b181 =>
    T.ite
    (!b181)
    (T.ldI
    IntKind.i64
    n15
    0
    fun
    i182 =>
    T.ldI
    IntKind.i64
    n15
    1
    fun
    i183 =>
    T.ldS
    n15
    2
    fun
    o184
    n185
    n186 =>
    T.ldS
    n15
    3
    fun
    o187
    n188
    n189 =>
    T.ldS
    n15
    4
    fun
    o190
    n191
    n192 =>
    T.ldS
    n15
    5
    fun
    o193
    n194
    n195 =>
    T.ldI
    IntKind.i32
    n156
    0
    fun
    i196 =>
    T.ldI
    IntKind.i64
    n156
    1
    fun
    i197 =>
    T.call
    28
    [Value.agg
    (Array.mk
    [Value.int
    IntKind.i64
    i182,
    Value.int
    IntKind.i64
    i183,
    Value.slice
    o184
    n185
    n186,
    Value.slice
    o187
    n188
    n189,
    Value.slice
    o190
    n191
    n192,
    Value.slice
    o193
    n194
    n195]),
    Value.agg
    (Array.mk
    [Value.int
    IntKind.i32
    i196,
    Value.int
    IntKind.i64
    i197])]
    fun
    v198 =>
    T.asB
    v198
    fun
    b199 =>
    T.chk
    [(Addr.mk
    n156
    2
    none,
    Value.bool
    b181),
    (Addr.mk
    n156
    2
    none,
    Value.bool
    b162)]
    (T.ite
    (!b199)
    (T.ret
    (Value.bool
    false))
    (T.next
    0
    [Value.int
    IntKind.i64
    (IntKind.wrap
    IntKind.i64
    (i150 +
    1))]
    ([Value.pointer
    (some
    (Addr.mk
    n15
    0
    none)),
    Value.slice
    o89
    n90
    n91,
    Value.pointer
    (some
    (Addr.mk
    n86
    0
    none)),
    Value.slice
    o145
    n146
    n147,
    Value.slice
    o145
    n146
    n147,
    Value.int
    IntKind.i64
    (↑n146 :
    Int)] =
    [Value.pointer
    (some
    (Addr.mk
    n15
    0
    none)),
    Value.slice
    o89
    n90
    n91,
    Value.pointer
    (some
    (Addr.mk
    n86
    0
    none)),
    Value.slice
    o145
    n146
    n147,
    Value.slice
    o145
    n146
    n147,
    Value.int
    IntKind.i64
    (↑n146 :
    Int)] ∧ ([] : List Deferred) = []))))
    (T.chk
    [(Addr.mk
    n156
    2
    none,
    Value.bool
    b181),
    (Addr.mk
    n156
    2
    none,
    Value.bool
    b162)]
    (T.next
    0
    [Value.int
    IntKind.i64
    (IntKind.wrap
    IntKind.i64
    (i150 +
    1))]
    ([Value.pointer
    (some
    (Addr.mk
    n15
    0
    none)),
    Value.slice
    o89
    n90
    n91,
    Value.pointer
    (some
    (Addr.mk
    n86
    0
    none)),
    Value.slice
    o145
    n146
    n147,
    Value.slice
    o145
    n146
    n147,
    Value.int
    IntKind.i64
    (↑n146 :
    Int)] =
    [Value.pointer
    (some
    (Addr.mk
    n15
    0
    none)),
    Value.slice
    o89
    n90
    n91,
    Value.pointer
    (some
    (Addr.mk
    n86
    0
    none)),
    Value.slice
    o145
    n146
    n147,
    Value.slice
    o145
    n146
    n147,
    Value.int
    IntKind.i64
    (↑n146 :
    Int)] ∧ ([] : List Deferred) = [])))))))))))))
    (T.ldS n86 17 fun o200 n201 n202 =>
    T.loop 0 [Value.int IntKind.i64 0]
    fun l203 j204 =>
    T.asI IntKind.i64
    (List.headD l203
    (Value.tuple (Array.mk [])))
    fun i205 =>
    T.ite
    (decide
    (i205 < (↑n201 : Int)))
    (T.req
    (0 ≤ i205 ∧
    i205 < (↑n201 : Int))
    (T.sm o200
    fun n206 n207 =>
    T.ldI IntKind.i64 n206
    (n207 +
    Int.toNat i205 * 1)
    fun i208 =>
    T.ldS n86 16
    fun o209 n210
    n211 =>
    T.call 32
    [Value.slice o209
    n210 n211,
    Value.int
    IntKind.i64
    i208]
    fun v212 =>
    T.asB v212
    fun b213 =>
    T.ite (!b213)
    (T.ret
    (Value.bool
    false))
    (T.next 0
    [Value.int
    IntKind.i64
    (IntKind.wrap
    IntKind.i64
    (i205 +
    1))]
    ([Value.slice
    o89
    n90
    n91,
    Value.pointer
    (some
    (Addr.mk
    n86
    0
    none)),
    Value.slice
    o145
    n146
    n147,
    Value.slice
    o200
    n201
    n202,
    Value.int
    IntKind.i64
    (↑n201 :
    Int)] =
    [Value.slice
    o89
    n90
    n91,
    Value.pointer
    (some
    (Addr.mk
    n86
    0
    none)),
    Value.slice
    o145
    n146
    n147,
    Value.slice
    o200
    n201
    n202,
    Value.int
    IntKind.i64
    (↑n201 :
    Int)] ∧ ([] : List Deferred) = []))))
    (T.call 10 [] fun v214 =>
    T.asB v214 fun b215 =>
    T.ite b215
    (T.ite
    ((↑n90 : Int) ==
    (↑n146 : Int))
    (T.ldS n86 16
    fun o216 n217
    n218 =>
    T.ite
    (decide
    ((↑n217 :
    Int) >
    0))
    (T.ldS n86 17
    fun o219 n220
    n221 =>
    T.ret
    (Value.bool
    (decide
    ((↑n220 :
    Int) >
    0))))
    (T.ret
    (Value.bool
    false)))
    (T.ret
    (Value.bool
    false)))
    (T.ret
    (Value.bool
    false))))))))))))))))))))))))
theorem e8 (i0 : Int) (i1 : Int) (o2 : Option Addr) (n3 n4 : Nat) (o5 : Option Addr) (n6 n7 : Nat) (o8 : Option Addr) (n9 n10 : Nat) (o11 : Option Addr) (n12 n13 : Nat) (i14 : Int) : treeOf Try.prog Try.f8 (codeOf Try.f8) (.s .n (.s .n (.s .n (.s (.s .n (.u (.l [(5, .slice), (17, .int .i64)] [1, 2, 6] (.s .n (.s .n (.s (.u (.s .n (.s .n (.s (.s (.p [0, 1, 2, 3, 4, 5, 6, 7, 8, 9, 10, 11, 12, 13, 14, 15, 16, 17, 18, 19, 20, 21, 22, 23, 24, 25, 26, 27]) .n) .n)))) .n)))))) (.s .n (.s (.s .n (.u (.l [(60, .int .i64)] [2, 5, 6, 9, 58, 59] (.s .n (.s .n (.s (.u (.s .n (.s (.p [0, 1, 2, 3, 4, 5, 6, 7, 8, 9, 10, 11, 12, 13, 14, 15, 16, 17, 18, 19, 20, 21, 22, 23, 24]) .n))) .n)))))) (.s (.s .n (.u (.l [(93, .int .i64)] [5, 6, 9, 91, 92] .n))) .n))))))) [.v (.agg #[.int .i64 i0, .int .i64 i1, .slice o2 n3 n4, .slice o5 n6 n7, .slice o8 n9 n10, .slice o11 n12 n13]), .v (.int .i64 i14)] = (t8 i0 i1 o2 n3 n4 o5 n6 n7 o8 n9 n10 o11 n12 n13 i14) := by kernel_rfl
theorem c8 (i0 : Int) (i1 : Int) (o2 : Option Addr) (n3 n4 : Nat) (o5 : Option Addr) (n6 n7 : Nat) (o8 : Option Addr) (n9 n10 : Nat) (o11 : Option Addr) (n12 n13 : Nat) (i14 : Int) {w : World} {R : Ending → World → Prop} (h : (t8 i0 i1 o2 n3 n4 o5 n6 n7 o8 n9 n10 o11 n12 n13 i14).sem Try.prog R ρ0 w) : Calls Try.prog 8 #[.agg #[.int .i64 i0, .int .i64 i1, .slice o2 n3 n4, .slice o5 n6 n7, .slice o8 n9 n10, .slice o11 n12 n13], .int .i64 i14] w R :=
  calls_of mixed Try.func8 rfl rfl (e8 i0 i1 o2 n3 n4 o5 n6 n7 o8 n9 n10 o11 n12 n13 i14) h
end Go.Proofs.Ytndkffhlheaepaa
