/- The functions' trees, printed by a program (wip/tools/Emit.lean) and checked by the kernel against the model's own code. -/
import Derived.Test.YtndkffhlheaepaaTreesB
import Derived.Test.YtndkffhlheaepaaProg
namespace Go.Proofs.Ytndkffhlheaepaa
open Go hiding Expr
open Go.Proofs.Ytndkffhlheaepaa.Tr
set_option linter.unusedVariables false
set_option maxRecDepth 100000
def t19 (i0 : Int) (i1 : Int) (o2 : Option Addr) (n3 n4 : Nat) (o5 : Option Addr) (n6 n7 : Nat) (o8 : Option Addr) (n9 n10 : Nat) (o11 : Option Addr) (n12 n13 : Nat) (i14 : Int) : T :=
  T.new
  (Obj.cells
    (Array.mk [Value.int IntKind.i64 i0, Value.int IntKind.i64 i1, Value.slice o2 n3 n4, Value.slice o5 n6 n7, Value.slice o8 n9 n10, Value.slice o11 n12 n13])
    39)
  fun n15 =>
  T.new
    (Obj.cells
    (Array.mk
    [Value.slice none 0 0, Value.slice none 0 0, Value.slice none 0 0, Value.slice none 0 0, Value.slice none 0 0, Value.slice none 0 0,
    Value.slice none 0 0, Value.slice none 0 0, Value.slice none 0 0, Value.slice none 0 0, Value.slice none 0 0, Value.slice none 0 0,
    Value.slice none 0 0, Value.slice none 0 0, Value.slice none 0 0, Value.slice none 0 0, Value.slice none 0 0, Value.slice none 0 0])
    45)
    fun n16 =>
    T.new
    (Obj.cells
    (Array.mk
    [Value.slice none 0 0, Value.slice none 0 0, Value.slice none 0 0, Value.slice none 0 0, Value.slice none 0 0, Value.slice none 0 0,
    Value.slice none 0 0, Value.slice none 0 0, Value.slice none 0 0, Value.slice none 0 0, Value.slice none 0 0, Value.slice none 0 0,
    Value.slice none 0 0, Value.slice none 0 0, Value.slice none 0 0, Value.slice none 0 0, Value.slice none 0 0, Value.slice none 0 0])
    45)
    fun n17 =>
    T.drew
    (T.ldS n15 4 fun o18 n19 n20 =>
    T.call 39 [Value.int IntKind.i64 i14, Value.slice o18 n19 n20] fun v21 =>
    T.asS v21 fun o22 n23 n24 =>
    T.chk []
    (T.run (biV Builtin.copy (Array.mk [72, 72]) 3 (Array.mk [Value.slice (some (Addr.mk n17 0 none)) 8 8, Value.slice o22 n23 n24])) fun v25 =>
    T.asI IntKind.i64 v25 fun i26 =>
    T.chk []
    (T.drew
    (T.ldS n15 5 fun o27 n28 n29 =>
    T.call 39 [Value.int IntKind.i64 i14, Value.slice o27 n28 n29] fun v30 =>
    T.asS v30 fun o31 n32 n33 =>
    T.chk []
    (T.run
    (biV Builtin.copy (Array.mk [72, 72]) 3 (Array.mk [Value.slice (some (Addr.mk n17 8 none)) 8 8, Value.slice o31 n32 n33]))
    fun v34 =>
    T.asI IntKind.i64 v34 fun i35 =>
    T.chk []
    (T.loop 0 [Value.int IntKind.i64 0] fun l36 j37 =>
    T.asI IntKind.i64 (List.headD l36 (Value.tuple (Array.mk []))) fun i38 =>
    T.ite (decide (i38 < 8))
    (T.blk 1
    (fun l39 j40 =>
    T.req (0 ≤ i38 ∧ i38 < 8)
    (T.ldS n17 (8 + Int.toNat i38 * 1) fun o41 n42 n43 =>
    T.ite (decide ((↑n42 : Int) > 0))
    (T.ldS n17 17 fun o44 n45 n46 =>
    T.new (Obj.cells (Array.mk [Value.int IntKind.i64 i38]) 3) fun n47 =>
    T.run
    (biV Builtin.append (Array.mk [31, 31]) 31
    (Array.mk [Value.slice o44 n45 n46, Value.slice (some (Addr.mk n47 0 none)) 1 1]))
    fun v48 =>
    T.asS v48 fun o49 n50 n51 =>
    T.st n17 17 (Value.slice o49 n50 n51)
    (T.next 0 [Value.int IntKind.i64 (IntKind.wrap IntKind.i64 (i38 + 1))]
    ([Value.pointer (some (Addr.mk n16 0 none)), Value.pointer (some (Addr.mk n17 0 none))] =
    [Value.pointer (some (Addr.mk n16 0 none)), Value.pointer (some (Addr.mk n17 0 none))] ∧ ([] : List Deferred) = [])))
    (T.next 0 [Value.int IntKind.i64 (IntKind.wrap IntKind.i64 (i38 + 1))]
    ([Value.pointer (some (Addr.mk n16 0 none)), Value.pointer (some (Addr.mk n17 0 none))] =
    [Value.pointer (some (Addr.mk n16 0 none)), Value.pointer (some (Addr.mk n17 0 none))] ∧ ([] : List Deferred) = []))))
    (T.drew
    (T.req (0 ≤ i38 ∧ i38 < 8)
    (T.ldS n17 (0 + Int.toNat i38 * 1) fun o52 n53 n54 =>
    T.req (0 ≤ i38 ∧ i38 < 8)
    (T.ldS n17 (8 + Int.toNat i38 * 1) fun o55 n56 n57 =>
    T.ite (decide (IntKind.wrap IntKind.i64 ((↑n53 : Int) + (↑n56 : Int)) > 0))
    (T.ldS n17 16 fun o58 n59 n60 =>
    T.new (Obj.cells (Array.mk [Value.int IntKind.i64 i38]) 3) fun n61 =>
    T.run
    (biV Builtin.append (Array.mk [31, 31]) 31
    (Array.mk [Value.slice o58 n59 n60, Value.slice (some (Addr.mk n61 0 none)) 1 1]))
    fun v62 =>
    T.asS v62 fun o63 n64 n65 =>
    T.st n17 16 (Value.slice o63 n64 n65)
    (T.next 1 []
    ([Value.pointer (some (Addr.mk n16 0 none)), Value.pointer (some (Addr.mk n17 0 none)),
    Value.int IntKind.i64 i38, Value.int IntKind.i64 i38] =
    [Value.pointer (some (Addr.mk n16 0 none)), Value.pointer (some (Addr.mk n17 0 none)),
    Value.int IntKind.i64 i38, Value.int IntKind.i64 i38] ∧ ([] : List Deferred) = [])))
    (T.next 1 []
    ([Value.pointer (some (Addr.mk n16 0 none)), Value.pointer (some (Addr.mk n17 0 none)),
    Value.int IntKind.i64 i38, Value.int IntKind.i64 i38] =
    [Value.pointer (some (Addr.mk n16 0 none)), Value.pointer (some (Addr.mk n17 0 none)),
    Value.int IntKind.i64 i38, Value.int IntKind.i64 i38] ∧ ([] : List Deferred) = [])))))))
    (T.blk 0
    (fun l66 j67 =>
    T.ldS n17 17 fun o68 n69 n70 =>
    T.ite ((↑n69 : Int) == 0)
    (T.ldS n17 16 fun o71 n72 n73 =>
    T.req ((0 : Int) ≤ 0 ∧ (0 : Int) < (↑n72 : Int))
    (T.sm o71 fun n74 n75 =>
    T.ldI IntKind.i64 n74 n75 fun i76 =>
    T.new (Obj.cells (Array.mk [Value.int IntKind.i64 i76]) 3) fun n77 =>
    T.st n17 17 (Value.slice (some (Addr.mk n77 0 none)) 1 1)
    (T.ldS n17 0 fun o78 n79 n80 =>
    T.ldS n17 1 fun o81 n82 n83 =>
    T.ldS n17 2 fun o84 n85 n86 =>
    T.ldS n17 3 fun o87 n88 n89 =>
    T.ldS n17 4 fun o90 n91 n92 =>
    T.ldS n17 5 fun o93 n94 n95 =>
    T.ldS n17 6 fun o96 n97 n98 =>
    T.ldS n17 7 fun o99 n100 n101 =>
    T.ldS n17 8 fun o102 n103 n104 =>
    T.ldS n17 9 fun o105 n106 n107 =>
    T.ldS n17 10 fun o108 n109 n110 =>
    T.ldS n17 11 fun o111 n112 n113 =>
    T.ldS n17 12 fun o114 n115 n116 =>
    T.ldS n17 13 fun o117 n118 n119 =>
    T.ldS n17 14 fun o120 n121 n122 =>
    T.ldS n17 15 fun o123 n124 n125 =>
    T.ldS n17 16 fun o126 n127 n128 =>
    T.ldS n17 17 fun o129 n130 n131 =>
    T.st n16 0 (Value.slice o78 n79 n80)
    (T.st n16 1 (Value.slice o81 n82 n83)
    (T.st n16 2 (Value.slice o84 n85 n86)
    (T.st n16 3 (Value.slice o87 n88 n89)
    (T.st n16 4 (Value.slice o90 n91 n92)
    (T.st n16 5 (Value.slice o93 n94 n95)
    (T.st n16 6 (Value.slice o96 n97 n98)
    (T.st n16 7 (Value.slice o99 n100 n101)
    (T.st n16 8 (Value.slice o102 n103 n104)
    (T.st n16 9 (Value.slice o105 n106 n107)
    (T.st n16 10
    (Value.slice o108 n109 n110)
    (T.st n16 11
    (Value.slice o111 n112 n113)
    (T.st n16 12
    (Value.slice o114 n115 n116)
    (T.st n16 13
    (Value.slice o117 n118 n119)
    (T.st n16 14
    (Value.slice o120 n121 n122)
    (T.st n16 15
    (Value.slice o123 n124 n125)
    (T.st n16 16
    (Value.slice o126 n127
    n128)
    (T.st n16 17
    (Value.slice o129 n130
    n131)
    (T.ldS n16 0
    fun o132 n133 n134 =>
    T.ldS n16 1
    fun o135 n136
    n137 =>
    T.ldS n16 2
    fun o138 n139
    n140 =>
    T.ldS n16 3
    fun o141 n142
    n143 =>
    T.ldS n16 4
    fun o144 n145
    n146 =>
    T.ldS n16 5
    fun o147
    n148
    n149 =>
    T.ldS n16 6
    fun o150
    n151
    n152 =>
    T.ldS n16
    7
    fun o153
    n154
    n155 =>
    T.ldS
    n16 8
    fun
    o156
    n157
    n158 =>
    T.ldS
    n16
    9
    fun
    o159
    n160
    n161 =>
    T.ldS
    n16
    10
    fun
    o162
    n163
    n164 =>
    T.ldS
    n16
    11
    fun
    o165
    n166
    n167 =>
    T.ldS
    n16
    12
    fun
    o168
    n169
    n170 =>
    T.ldS
    n16
    13
    fun
    o171
    n172
    n173 =>
    T.ldS
    n16
    14
    fun
    o174
    n175
    n176 =>
    T.ldS
    n16
    15
    fun
    o177
    n178
    n179 =>
    T.ldS
    n16
    16
    fun
    o180
    n181
    n182 =>
    T.ldS
    n16
    17
    fun
    o183
    n184
    n185 =>
    T.ret
    (Value.agg
    (Array.mk
    [Value.slice
    o132
    n133
    n134,
    Value.slice
    o135
    n136
    n137,
    Value.slice
    o138
    n139
    n140,
    Value.slice
    o141
    n142
    n143,
    Value.slice
    o144
    n145
    n146,
    Value.slice
    o147
    n148
    n149,
    Value.slice
    o150
    n151
    n152,
    Value.slice
    o153
    n154
    n155,
    Value.slice
    o156
    n157
    n158,
    Value.slice
    o159
    n160
    n161,
    Value.slice
    o162
    n163
    n164,
    Value.slice
    o165
    n166
    n167,
    Value.slice
    o168
    n169
    n170,
    Value.slice
    o171
    n172
    n173,
    Value.slice
    o174
    n175
    n176,
    Value.slice
    o177
    n178
    n179,
    Value.slice
    o180
    n181
    n182,
    Value.slice
    o183
    n184
    n185])))))))))))))))))))))))
    (T.ldS n17 0 fun o186 n187 n188 =>
    T.ldS n17 1 fun o189 n190 n191 =>
    T.ldS n17 2 fun o192 n193 n194 =>
    T.ldS n17 3 fun o195 n196 n197 =>
    T.ldS n17 4 fun o198 n199 n200 =>
    T.ldS n17 5 fun o201 n202 n203 =>
    T.ldS n17 6 fun o204 n205 n206 =>
    T.ldS n17 7 fun o207 n208 n209 =>
    T.ldS n17 8 fun o210 n211 n212 =>
    T.ldS n17 9 fun o213 n214 n215 =>
    T.ldS n17 10 fun o216 n217 n218 =>
    T.ldS n17 11 fun o219 n220 n221 =>
    T.ldS n17 12 fun o222 n223 n224 =>
    T.ldS n17 13 fun o225 n226 n227 =>
    T.ldS n17 14 fun o228 n229 n230 =>
    T.ldS n17 15 fun o231 n232 n233 =>
    T.ldS n17 16 fun o234 n235 n236 =>
    T.ldS n17 17 fun o237 n238 n239 =>
    T.st n16 0 (Value.slice o186 n187 n188)
    (T.st n16 1 (Value.slice o189 n190 n191)
    (T.st n16 2 (Value.slice o192 n193 n194)
    (T.st n16 3 (Value.slice o195 n196 n197)
    (T.st n16 4 (Value.slice o198 n199 n200)
    (T.st n16 5 (Value.slice o201 n202 n203)
    (T.st n16 6 (Value.slice o204 n205 n206)
    (T.st n16 7 (Value.slice o207 n208 n209)
    (T.st n16 8 (Value.slice o210 n211 n212)
    (T.st n16 9 (Value.slice o213 n214 n215)
    (T.st n16 10 (Value.slice o216 n217 n218)
    (T.st n16 11 (Value.slice o219 n220 n221)
    (T.st n16 12 (Value.slice o222 n223 n224)
    (T.st n16 13 (Value.slice o225 n226 n227)
    (T.st n16 14 (Value.slice o228 n229 n230)
    (T.st n16 15 (Value.slice o231 n232 n233)
    (T.st n16 16
    (Value.slice o234 n235 n236)
    (T.st n16 17
    (Value.slice o237 n238 n239)
    (T.ldS n16 0 fun o240 n241 n242 =>
    T.ldS n16 1 fun o243 n244 n245 =>
    T.ldS n16 2
    fun o246 n247 n248 =>
    T.ldS n16 3
    fun o249 n250 n251 =>
    T.ldS n16 4
    fun o252 n253 n254 =>
    T.ldS n16 5
    fun o255 n256 n257 =>
    T.ldS n16 6
    fun o258 n259 n260 =>
    T.ldS n16 7
    fun o261 n262
    n263 =>
    T.ldS n16 8
    fun o264 n265
    n266 =>
    T.ldS n16 9
    fun o267 n268
    n269 =>
    T.ldS n16 10
    fun o270 n271
    n272 =>
    T.ldS n16 11
    fun o273
    n274
    n275 =>
    T.ldS n16 12
    fun o276
    n277
    n278 =>
    T.ldS n16
    13
    fun o279
    n280
    n281 =>
    T.ldS
    n16 14
    fun
    o282
    n283
    n284 =>
    T.ldS
    n16
    15
    fun
    o285
    n286
    n287 =>
    T.ldS
    n16
    16
    fun
    o288
    n289
    n290 =>
    T.ldS
    n16
    17
    fun
    o291
    n292
    n293 =>
    T.ret
    (Value.agg
    (Array.mk
    [Value.slice
    o240
    n241
    n242,
    Value.slice
    o243
    n244
    n245,
    Value.slice
    o246
    n247
    n248,
    Value.slice
    o249
    n250
    n251,
    Value.slice
    o252
    n253
    n254,
    Value.slice
    o255
    n256
    n257,
    Value.slice
    o258
    n259
    n260,
    Value.slice
    o261
    n262
    n263,
    Value.slice
    o264
    n265
    n266,
    Value.slice
    o267
    n268
    n269,
    Value.slice
    o270
    n271
    n272,
    Value.slice
    o273
    n274
    n275,
    Value.slice
    o276
    n277
    n278,
    Value.slice
    o279
    n280
    n281,
    Value.slice
    o282
    n283
    n284,
    Value.slice
    o285
    n286
    n287,
    Value.slice
    o288
    n289
    n290,
    Value.slice
    o291
    n292
    n293]))))))))))))))))))))))
    (T.ldS n17 16 fun o294 n295 n296 =>
    T.ite ((↑n295 : Int) == 0)
    (T.new (Obj.cells (Array.mk [Value.int IntKind.i64 0]) 3) fun n297 =>
    T.st n17 16 (Value.slice (some (Addr.mk n297 0 none)) 1 1)
    (T.next 0 []
    ([Value.pointer (some (Addr.mk n16 0 none)), Value.pointer (some (Addr.mk n17 0 none))] =
    [Value.pointer (some (Addr.mk n16 0 none)), Value.pointer (some (Addr.mk n17 0 none))] ∧ ([] : List Deferred) = [])))
    (T.next 0 []
    ([Value.pointer (some (Addr.mk n16 0 none)), Value.pointer (some (Addr.mk n17 0 none))] =
    [Value.pointer (some (Addr.mk n16 0 none)), Value.pointer (some (Addr.mk n17 0 none))] ∧ ([] : List Deferred) = []))))))))))
theorem e19 (i0 : Int) (i1 : Int) (o2 : Option Addr) (n3 n4 : Nat) (o5 : Option Addr) (n6 n7 : Nat) (o8 : Option Addr) (n9 n10 : Nat) (o11 : Option Addr) (n12 n13 : Nat) (i14 : Int) : treeOf Try.prog Try.f19 (codeOf Try.f19) (.s .n (.s .n (.s (.p [0, 1, 2, 3, 4, 5, 6]) (.s (.p [0, 1, 2, 3, 4, 5, 6]) (.s (.s .n (.u (.l [(21, .int .i64)] [4, 5] (.s .n (.s .n (.s (.u (.s .n (.c [] [4, 5, 6, 21] (.s (.p [0, 1, 2, 3, 4, 5, 6, 7, 8, 9, 10, 11]) .n) .n))) .n)))))) (.c [] [4, 5] .n .n)))))) [.v (.agg #[.int .i64 i0, .int .i64 i1, .slice o2 n3 n4, .slice o5 n6 n7, .slice o8 n9 n10, .slice o11 n12 n13]), .v (.int .i64 i14)] = (t19 i0 i1 o2 n3 n4 o5 n6 n7 o8 n9 n10 o11 n12 n13 i14) := by kernel_rfl
theorem c19 (i0 : Int) (i1 : Int) (o2 : Option Addr) (n3 n4 : Nat) (o5 : Option Addr) (n6 n7 : Nat) (o8 : Option Addr) (n9 n10 : Nat) (o11 : Option Addr) (n12 n13 : Nat) (i14 : Int) {w : World} {R : Ending → World → Prop} (h : (t19 i0 i1 o2 n3 n4 o5 n6 n7 o8 n9 n10 o11 n12 n13 i14).sem Try.prog R ρ0 w) : Calls Try.prog 19 #[.agg #[.int .i64 i0, .int .i64 i1, .slice o2 n3 n4, .slice o5 n6 n7, .slice o8 n9 n10, .slice o11 n12 n13], .int .i64 i14] w R :=
  calls_of mixed Try.func19 rfl rfl (e19 i0 i1 o2 n3 n4 o5 n6 n7 o8 n9 n10 o11 n12 n13 i14) h
def t20 (i0 : Int) (i1 : Int) (o2 : Option Addr) (n3 n4 : Nat) (o5 : Option Addr) (n6 n7 : Nat) (o8 : Option Addr) (n9 n10 : Nat) (o11 : Option Addr) (n12 n13 : Nat) (i14 : Int) : T :=
  T.new
  (Obj.cells
    (Array.mk [Value.int IntKind.i64 i0, Value.int IntKind.i64 i1, Value.slice o2 n3 n4, Value.slice o5 n6 n7, Value.slice o8 n9 n10, Value.slice o11 n12 n13])
    39)
  fun n15 =>
  T.new
    (Obj.cells
    (Array.mk
    [Value.slice none 0 0, Value.slice none 0 0, Value.slice none 0 0, Value.slice none 0 0, Value.slice none 0 0, Value.slice none 0 0,
    Value.slice none 0 0, Value.slice none 0 0, Value.slice none 0 0, Value.slice none 0 0, Value.slice none 0 0, Value.slice none 0 0,
    Value.slice none 0 0, Value.slice none 0 0, Value.slice none 0 0, Value.slice none 0 0, Value.slice none 0 0, Value.slice none 0 0])
    45)
    fun n16 =>
    T.drew
    (T.ldS n15 4 fun o17 n18 n19 =>
    T.ldS n15 5 fun o20 n21 n22 =>
    T.both
    (T.call 40 [Value.slice o17 n18 n19, Value.int IntKind.i64 i14] fun v23 =>
    T.asA v23 fun l24 =>
    T.req (List.length l24 = 8)
    (T.asS (List.headD l24 (Value.tuple (Array.mk []))) fun o25 n26 n27 =>
    T.asS (List.headD (List.tail l24) (Value.tuple (Array.mk []))) fun o28 n29 n30 =>
    T.asS (List.headD (List.tail (List.tail l24)) (Value.tuple (Array.mk []))) fun o31 n32 n33 =>
    T.asS (List.headD (List.tail (List.tail (List.tail l24))) (Value.tuple (Array.mk []))) fun o34 n35 n36 =>
    T.asS (List.headD (List.tail (List.tail (List.tail (List.tail l24)))) (Value.tuple (Array.mk []))) fun o37 n38 n39 =>
    T.asS (List.headD (List.tail (List.tail (List.tail (List.tail (List.tail l24))))) (Value.tuple (Array.mk []))) fun o40 n41 n42 =>
    T.asS (List.headD (List.tail (List.tail (List.tail (List.tail (List.tail (List.tail l24)))))) (Value.tuple (Array.mk [])))
    fun o43 n44 n45 =>
    T.asS
    (List.headD (List.tail (List.tail (List.tail (List.tail (List.tail (List.tail (List.tail l24)))))))
    (Value.tuple (Array.mk [])))
    fun o46 n47 n48 =>
    T.chk [(Addr.mk n15 5 none, Value.slice o20 n21 n22)]
    (T.both
    (T.call 40 [Value.slice o20 n21 n22, Value.int IntKind.i64 i14] fun v49 =>
    T.asA v49 fun l50 =>
    T.req (List.length l50 = 8)
    (T.asS (List.headD l50 (Value.tuple (Array.mk []))) fun o51 n52 n53 =>
    T.asS (List.headD (List.tail l50) (Value.tuple (Array.mk []))) fun o54 n55 n56 =>
    T.asS (List.headD (List.tail (List.tail l50)) (Value.tuple (Array.mk []))) fun o57 n58 n59 =>
    T.asS (List.headD (List.tail (List.tail (List.tail l50))) (Value.tuple (Array.mk []))) fun o60 n61 n62 =>
    T.asS (List.headD (List.tail (List.tail (List.tail (List.tail l50)))) (Value.tuple (Array.mk [])))
    fun o63 n64 n65 =>
    T.asS
    (List.headD (List.tail (List.tail (List.tail (List.tail (List.tail l50))))) (Value.tuple (Array.mk [])))
    fun o66 n67 n68 =>
    T.asS
    (List.headD (List.tail (List.tail (List.tail (List.tail (List.tail (List.tail l50))))))
    (Value.tuple (Array.mk [])))
    fun o69 n70 n71 =>
    T.asS
    (List.headD (List.tail (List.tail (List.tail (List.tail (List.tail (List.tail (List.tail l50)))))))
    (Value.tuple (Array.mk [])))
    fun o72 n73 n74 =>
    T.chk []
    (T.new
    (Obj.cells
    (Array.mk
    [Value.slice none 0 0, Value.slice none 0 0, Value.slice none 0 0, Value.slice none 0 0,
    Value.slice none 0 0, Value.slice none 0 0, Value.slice none 0 0, Value.slice none 0 0,
    Value.slice none 0 0, Value.slice none 0 0, Value.slice none 0 0, Value.slice none 0 0,
    Value.slice none 0 0, Value.slice none 0 0, Value.slice none 0 0, Value.slice none 0 0,
    Value.slice none 0 0, Value.slice none 0 0])
    45)
    fun n75 =>
    T.chk []
    (T.st n75 0 (Value.slice o25 n26 n27)
    (T.st n75 1 (Value.slice o28 n29 n30)
    (T.st n75 2 (Value.slice o31 n32 n33)
    (T.st n75 3 (Value.slice o34 n35 n36)
    (T.st n75 4 (Value.slice o37 n38 n39)
    (T.st n75 5 (Value.slice o40 n41 n42)
    (T.st n75 6 (Value.slice o43 n44 n45)
    (T.st n75 7 (Value.slice o46 n47 n48)
    (T.st n75 8 (Value.slice o51 n52 n53)
    (T.st n75 9 (Value.slice o54 n55 n56)
    (T.st n75 10 (Value.slice o57 n58 n59)
    (T.st n75 11 (Value.slice o60 n61 n62)
    (T.st n75 12 (Value.slice o63 n64 n65)
    (T.st n75 13 (Value.slice o66 n67 n68)
    (T.st n75 14 (Value.slice o69 n70 n71)
    (T.st n75 15 (Value.slice o72 n73 n74)
    (T.st n75 16 (Value.slice none 0 0)
    (T.st n75 17 (Value.slice none 0 0)
    (T.chk []
    (T.loop 0 [Value.int IntKind.i64 0] fun l76 j77 =>
    T.asI IntKind.i64
    (List.headD l76 (Value.tuple (Array.mk [])))
    fun i78 =>
    T.ite (decide (i78 < 8))
    (T.blk 1
    (fun l79 j80 =>
    T.req (0 ≤ i78 ∧ i78 < 8)
    (T.ldS n75 (8 + Int.toNat i78 * 1)
    fun o81 n82 n83 =>
    T.ite (decide ((↑n82 : Int) > 0))
    (T.ldS n75 17 fun o84 n85 n86 =>
    T.new
    (Obj.cells
    (Array.mk
    [Value.int IntKind.i64 i78])
    3)
    fun n87 =>
    T.run
    (biV Builtin.append
    (Array.mk [31, 31]) 31
    (Array.mk
    [Value.slice o84 n85 n86,
    Value.slice
    (some
    (Addr.mk n87 0 none))
    1 1]))
    fun v88 =>
    T.asS v88 fun o89 n90 n91 =>
    T.st n75 17
    (Value.slice o89 n90 n91)
    (T.next 0
    [Value.int IntKind.i64
    (IntKind.wrap
    IntKind.i64
    (i78 + 1))]
    ([Value.pointer
    (some
    (Addr.mk n16 0
    none)),
    Value.pointer
    (some
    (Addr.mk n75 0
    none))] =
    [Value.pointer
    (some
    (Addr.mk n16 0
    none)),
    Value.pointer
    (some
    (Addr.mk n75 0
    none))] ∧ ([] : List Deferred) = [])))
    (T.next 0
    [Value.int IntKind.i64
    (IntKind.wrap IntKind.i64
    (i78 + 1))]
    ([Value.pointer
    (some (Addr.mk n16 0 none)),
    Value.pointer
    (some (Addr.mk n75 0 none))] =
    [Value.pointer
    (some (Addr.mk n16 0 none)),
    Value.pointer
    (some (Addr.mk n75 0 none))] ∧ ([] : List Deferred) = []))))
    (T.drew
    (T.req (0 ≤ i78 ∧ i78 < 8)
    (T.ldS n75 (0 + Int.toNat i78 * 1)
    fun o92 n93 n94 =>
    T.req (0 ≤ i78 ∧ i78 < 8)
    (T.ldS n75 (8 + Int.toNat i78 * 1)
    fun o95 n96 n97 =>
    T.ite
    (decide
    (IntKind.wrap IntKind.i64
    ((↑n93 : Int) +
    (↑n96 : Int)) >
    0))
    (T.ldS n75 16 fun o98 n99 n100 =>
    T.new
    (Obj.cells
    (Array.mk
    [Value.int IntKind.i64 i78])
    3)
    fun n101 =>
    T.run
    (biV Builtin.append
    (Array.mk [31, 31]) 31
    (Array.mk
    [Value.slice o98 n99 n100,
    Value.slice
    (some
    (Addr.mk n101 0
    none))
    1 1]))
    fun v102 =>
    T.asS v102
    fun o103 n104 n105 =>
    T.st n75 16
    (Value.slice o103 n104
    n105)
    (T.next 1 []
    ([Value.pointer
    (some
    (Addr.mk n16 0
    none)),
    Value.pointer
    (some
    (Addr.mk n75 0
    none)),
    Value.int
    IntKind.i64
    i78] =
    [Value.pointer
    (some
    (Addr.mk n16 0
    none)),
    Value.pointer
    (some
    (Addr.mk n75 0
    none)),
    Value.int
    IntKind.i64
    i78] ∧ ([] : List Deferred) = [])))
    (T.next 1 []
    ([Value.pointer
    (some
    (Addr.mk n16 0 none)),
    Value.pointer
    (some
    (Addr.mk n75 0 none)),
    Value.int IntKind.i64 i78] =
    [Value.pointer
    (some
    (Addr.mk n16 0 none)),
    Value.pointer
    (some
    (Addr.mk n75 0 none)),
    Value.int IntKind.i64 i78] ∧ ([] : List Deferred) = [])))))))
    (T.blk 0
    (fun l106 j107 =>
    T.ldS n75 17 fun o108 n109 n110 =>
    T.ite ((↑n109 : Int) == 0)
    (T.drew
    (T.ldS n75 17 fun o111 n112 n113 =>
    T.ldS n75 16 fun o114 n115 n116 =>
    T.req ((0 : Int) ≤ 0 ∧ (0 : Int) < (↑n115 : Int))
    (T.sm o114 fun n117 n118 =>
    T.ldI IntKind.i64 n117 n118
    fun i119 =>
    T.new
    (Obj.cells
    (Array.mk
    [Value.int IntKind.i64
    i119])
    3)
    fun n120 =>
    T.chk
    [(Addr.mk n75 16 none,
    Value.slice o114 n115
    n116),
    (Addr.mk n75 17 none,
    Value.slice o111 n112
    n113)]
    (T.run
    (biV Builtin.append
    (Array.mk [31, 31]) 31
    (Array.mk
    [Value.slice o111
    n112 n113,
    Value.slice
    (some
    (Addr.mk n120
    0 none))
    1 1]))
    fun v121 =>
    T.asS v121
    fun o122 n123 n124 =>
    T.chk
    [(Addr.mk n75 16
    none,
    Value.slice o114
    n115 n116)]
    (T.st n75 17
    (Value.slice o122
    n123 n124)
    (T.chk []
    (T.ldS n75 0
    fun o125 n126
    n127 =>
    T.ldS n75 1
    fun o128
    n129
    n130 =>
    T.ldS n75 2
    fun o131
    n132
    n133 =>
    T.ldS n75
    3
    fun o134
    n135
    n136 =>
    T.ldS
    n75 4
    fun
    o137
    n138
    n139 =>
    T.ldS
    n75
    5
    fun
    o140
    n141
    n142 =>
    T.ldS
    n75
    6
    fun
    o143
    n144
    n145 =>
    T.ldS
    n75
    7
    fun
    o146
    n147
    n148 =>
    T.ldS
    n75
    8
    fun
    o149
    n150
    n151 =>
    T.ldS
    n75
    9
    fun
    o152
    n153
    n154 =>
    T.ldS
    n75
    10
    fun
    o155
    n156
    n157 =>
    T.ldS
    n75
    11
    fun
    o158
    n159
    n160 =>
    T.ldS
    n75
    12
    fun
    o161
    n162
    n163 =>
    T.ldS
    n75
    13
    fun
    o164
    n165
    n166 =>
    T.ldS
    n75
    14
    fun
    o167
    n168
    n169 =>
    T.ldS
    n75
    15
    fun
    o170
    n171
    n172 =>
    T.ldS
    n75
    16
    fun
    o173
    n174
    n175 =>
    T.ldS
    n75
    17
    fun
    o176
    n177
    n178 =>
    T.st
    n16
    0
    (Value.slice
    o125
    n126
    n127)
    (T.st
    n16
    1
    (Value.slice
    o128
    n129
    n130)
    (T.st
    n16
    2
    (Value.slice
    o131
    n132
    n133)
    (T.st
    n16
    3
    (Value.slice
    o134
    n135
    n136)
    (T.st
    n16
    4
    (Value.slice
    o137
    n138
    n139)
    (T.st
    n16
    5
    (Value.slice
    o140
    n141
    n142)
    (T.st
    n16
    6
    (Value.slice
    o143
    n144
    n145)
    (T.st
    n16
    7
    (Value.slice
    o146
    n147
    n148)
    (T.st
    n16
    8
    (Value.slice
    o149
    n150
    n151)
    (T.st
    n16
    9
    (Value.slice
    o152
    n153
    n154)
    (T.st
    n16
    10
    (Value.slice
    o155
    n156
    n157)
    (T.st
    n16
    11
    (Value.slice
    o158
    n159
    n160)
    (T.st
    n16
    12
    (Value.slice
    o161
    n162
    n163)
    (T.st
    n16
    13
    (Value.slice
    o164
    n165
    n166)
    (T.st
    n16
    14
    (Value.slice
    o167
    n168
    n169)
    (T.st
    n16
    15
    (Value.slice
    o170
    n171
    n172)
    (T.st
    n16
    16
    (Value.slice
    o173
    n174
    n175)
    (T.st
    n16
    17
    (Value.slice
    o176
    n177
    n178)
    (T.ldS
    n16
    0
    fun
    o179
    n180
    n181 =>
    T.ldS
    n16
    1
    fun
    o182
    n183
    n184 =>
    T.ldS
    n16
    2
    fun
    o185
    n186
    n187 =>
    T.ldS
    n16
    3
    fun
    o188
    n189
    n190 =>
    T.ldS
    n16
    4
    fun
    o191
    n192
    n193 =>
    T.ldS
    n16
    5
    fun
    o194
    n195
    n196 =>
    T.ldS
    n16
    6
    fun
    o197
    n198
    n199 =>
    T.ldS
    n16
    7
    fun
    o200
    n201
    n202 =>
    T.ldS
    n16
    8
    fun
    o203
    n204
    n205 =>
    T.ldS
    n16
    9
    fun
    o206
    n207
    n208 =>
    T.ldS
    n16
    10
    fun
    o209
    n210
    n211 =>
    T.ldS
    n16
    11
    fun
    o212
    n213
    n214 =>
    T.ldS
    n16
    12
    fun
    o215
    n216
    n217 =>
    T.ldS
    n16
    13
    fun
    o218
    n219
    n220 =>
    T.ldS
    n16
    14
    fun
    o221
    n222
    n223 =>
    T.ldS
    n16
    15
    fun
    o224
    n225
    n226 =>
    T.ldS
    n16
    16
    fun
    o227
    n228
    n229 =>
    T.ldS
    n16
    17
    fun
    o230
    n231
    n232 =>
    T.ret
    (Value.agg
    (Array.mk
    [Value.slice
    o179
    n180
    n181,
    Value.slice
    o182
    n183
    n184,
    Value.slice
    o185
    n186
    n187,
    Value.slice
    o188
    n189
    n190,
    Value.slice
    o191
    n192
    n193,
    Value.slice
    o194
    n195
    n196,
    Value.slice
    o197
    n198
    n199,
    Value.slice
    o200
    n201
    n202,
    Value.slice
    o203
    n204
    n205,
    Value.slice
    o206
    n207
    n208,
    Value.slice
    o209
    n210
    n211,
    Value.slice
    o212
    n213
    n214,
    Value.slice
    o215
    n216
    n217,
    Value.slice
    o218
    n219
    n220,
    Value.slice
    o221
    n222
    n223,
    Value.slice
    o224
    n225
    n226,
    Value.slice
    o227
    n228
    n229,
    Value.slice
    o230
    n231
    n232])))))))))))))))))))))))))))
    (T.ldS n75 0 fun o233 n234 n235 =>
    T.ldS n75 1 fun o236 n237 n238 =>
    T.ldS n75 2 fun o239 n240 n241 =>
    T.ldS n75 3 fun o242 n243 n244 =>
    T.ldS n75 4 fun o245 n246 n247 =>
    T.ldS n75 5
    fun o248 n249 n250 =>
    T.ldS n75 6
    fun o251 n252 n253 =>
    T.ldS n75 7
    fun o254 n255 n256 =>
    T.ldS n75 8
    fun o257 n258 n259 =>
    T.ldS n75 9
    fun o260 n261 n262 =>
    T.ldS n75 10
    fun o263 n264
    n265 =>
    T.ldS n75 11
    fun o266 n267
    n268 =>
    T.ldS n75 12
    fun o269 n270
    n271 =>
    T.ldS n75 13
    fun o272 n273
    n274 =>
    T.ldS n75 14
    fun o275
    n276
    n277 =>
    T.ldS n75 15
    fun o278
    n279
    n280 =>
    T.ldS n75
    16
    fun o281
    n282
    n283 =>
    T.ldS
    n75 17
    fun
    o284
    n285
    n286 =>
    T.st
    n16
    0
    (Value.slice
    o233
    n234
    n235)
    (T.st
    n16
    1
    (Value.slice
    o236
    n237
    n238)
    (T.st
    n16
    2
    (Value.slice
    o239
    n240
    n241)
    (T.st
    n16
    3
    (Value.slice
    o242
    n243
    n244)
    (T.st
    n16
    4
    (Value.slice
    o245
    n246
    n247)
    (T.st
    n16
    5
    (Value.slice
    o248
    n249
    n250)
    (T.st
    n16
    6
    (Value.slice
    o251
    n252
    n253)
    (T.st
    n16
    7
    (Value.slice
    o254
    n255
    n256)
    (T.st
    n16
    8
    (Value.slice
    o257
    n258
    n259)
    (T.st
    n16
    9
    (Value.slice
    o260
    n261
    n262)
    (T.st
    n16
    10
    (Value.slice
    o263
    n264
    n265)
    (T.st
    n16
    11
    (Value.slice
    o266
    n267
    n268)
    (T.st
    n16
    12
    (Value.slice
    o269
    n270
    n271)
    (T.st
    n16
    13
    (Value.slice
    o272
    n273
    n274)
    (T.st
    n16
    14
    (Value.slice
    o275
    n276
    n277)
    (T.st
    n16
    15
    (Value.slice
    o278
    n279
    n280)
    (T.st
    n16
    16
    (Value.slice
    o281
    n282
    n283)
    (T.st
    n16
    17
    (Value.slice
    o284
    n285
    n286)
    (T.ldS
    n16
    0
    fun
    o287
    n288
    n289 =>
    T.ldS
    n16
    1
    fun
    o290
    n291
    n292 =>
    T.ldS
    n16
    2
    fun
    o293
    n294
    n295 =>
    T.ldS
    n16
    3
    fun
    o296
    n297
    n298 =>
    T.ldS
    n16
    4
    fun
    o299
    n300
    n301 =>
    T.ldS
    n16
    5
    fun
    o302
    n303
    n304 =>
    T.ldS
    n16
    6
    fun
    o305
    n306
    n307 =>
    T.ldS
    n16
    7
    fun
    o308
    n309
    n310 =>
    T.ldS
    n16
    8
    fun
    o311
    n312
    n313 =>
    T.ldS
    n16
    9
    fun
    o314
    n315
    n316 =>
    T.ldS
    n16
    10
    fun
    o317
    n318
    n319 =>
    T.ldS
    n16
    11
    fun
    o320
    n321
    n322 =>
    T.ldS
    n16
    12
    fun
    o323
    n324
    n325 =>
    T.ldS
    n16
    13
    fun
    o326
    n327
    n328 =>
    T.ldS
    n16
    14
    fun
    o329
    n330
    n331 =>
    T.ldS
    n16
    15
    fun
    o332
    n333
    n334 =>
    T.ldS
    n16
    16
    fun
    o335
    n336
    n337 =>
    T.ldS
    n16
    17
    fun
    o338
    n339
    n340 =>
    T.ret
    (Value.agg
    (Array.mk
    [Value.slice
    o287
    n288
    n289,
    Value.slice
    o290
    n291
    n292,
    Value.slice
    o293
    n294
    n295,
    Value.slice
    o296
    n297
    n298,
    Value.slice
    o299
    n300
    n301,
    Value.slice
    o302
    n303
    n304,
    Value.slice
    o305
    n306
    n307,
    Value.slice
    o308
    n309
    n310,
    Value.slice
    o311
    n312
    n313,
    Value.slice
    o314
    n315
    n316,
    Value.slice
    o317
    n318
    n319,
    Value.slice
    o320
    n321
    n322,
    Value.slice
    o323
    n324
    n325,
    Value.slice
    o326
    n327
    n328,
    Value.slice
    o329
    n330
    n331,
    Value.slice
    o332
    n333
    n334,
    Value.slice
    o335
    n336
    n337,
    Value.slice
    o338
    n339
    n340]))))))))))))))))))))))
    (T.ldS n75 16 fun o341 n342 n343 =>
    T.ite ((↑n342 : Int) == 0)
    (T.ldS n75 16 fun o344 n345 n346 =>
    T.new
    (Obj.cells
    (Array.mk [Value.int IntKind.i64 0])
    3)
    fun n347 =>
    T.run
    (biV Builtin.append
    (Array.mk [31, 31]) 31
    (Array.mk
    [Value.slice o344 n345 n346,
    Value.slice
    (some (Addr.mk n347 0 none)) 1
    1]))
    fun v348 =>
    T.asS v348 fun o349 n350 n351 =>
    T.st n75 16
    (Value.slice o349 n350 n351)
    (T.next 0 []
    ([Value.pointer
    (some
    (Addr.mk n16 0 none)),
    Value.pointer
    (some
    (Addr.mk n75 0
    none))] =
    [Value.pointer
    (some
    (Addr.mk n16 0 none)),
    Value.pointer
    (some
    (Addr.mk n75 0
    none))] ∧ ([] : List Deferred) = [])))
    (T.next 0 []
    ([Value.pointer
    (some (Addr.mk n16 0 none)),
    Value.pointer
    (some (Addr.mk n75 0 none))] =
    [Value.pointer
    (some (Addr.mk n16 0 none)),
    Value.pointer
    (some (Addr.mk n75 0 none))] ∧ ([] : List Deferred) = [])))))))))))))))))))))))))))
    (T.new
    (Obj.cells
    (Array.mk
    [Value.slice none 0 0, Value.slice none 0 0, Value.slice none 0 0, Value.slice none 0 0, Value.slice none 0 0,
    Value.slice none 0 0, Value.slice none 0 0, Value.slice none 0 0, Value.slice none 0 0, Value.slice none 0 0,
    Value.slice none 0 0, Value.slice none 0 0, Value.slice none 0 0, Value.slice none 0 0, Value.slice none 0 0,
    Value.slice none 0 0, Value.slice none 0 0, Value.slice none 0 0])
    45)
    fun n352 =>
    T.chk [(Addr.mk n15 5 none, Value.slice o20 n21 n22)]
    (T.call 40 [Value.slice o20 n21 n22, Value.int IntKind.i64 i14] fun v353 =>
    T.asA v353 fun l354 =>
    T.req (List.length l354 = 8)
    (T.asS (List.headD l354 (Value.tuple (Array.mk []))) fun o355 n356 n357 =>
    T.asS (List.headD (List.tail l354) (Value.tuple (Array.mk []))) fun o358 n359 n360 =>
    T.asS (List.headD (List.tail (List.tail l354)) (Value.tuple (Array.mk []))) fun o361 n362 n363 =>
    T.asS (List.headD (List.tail (List.tail (List.tail l354))) (Value.tuple (Array.mk [])))
    fun o364 n365 n366 =>
    T.asS (List.headD (List.tail (List.tail (List.tail (List.tail l354)))) (Value.tuple (Array.mk [])))
    fun o367 n368 n369 =>
    T.asS
    (List.headD (List.tail (List.tail (List.tail (List.tail (List.tail l354)))))
    (Value.tuple (Array.mk [])))
    fun o370 n371 n372 =>
    T.asS
    (List.headD (List.tail (List.tail (List.tail (List.tail (List.tail (List.tail l354))))))
    (Value.tuple (Array.mk [])))
    fun o373 n374 n375 =>
    T.asS
    (List.headD
    (List.tail (List.tail (List.tail (List.tail (List.tail (List.tail (List.tail l354)))))))
    (Value.tuple (Array.mk [])))
    fun o376 n377 n378 =>
    T.chk []
    (T.st n352 0 (Value.slice o25 n26 n27)
    (T.st n352 1 (Value.slice o28 n29 n30)
    (T.st n352 2 (Value.slice o31 n32 n33)
    (T.st n352 3 (Value.slice o34 n35 n36)
    (T.st n352 4 (Value.slice o37 n38 n39)
    (T.st n352 5 (Value.slice o40 n41 n42)
    (T.st n352 6 (Value.slice o43 n44 n45)
    (T.st n352 7 (Value.slice o46 n47 n48)
    (T.st n352 8 (Value.slice o355 n356 n357)
    (T.st n352 9 (Value.slice o358 n359 n360)
    (T.st n352 10 (Value.slice o361 n362 n363)
    (T.st n352 11 (Value.slice o364 n365 n366)
    (T.st n352 12 (Value.slice o367 n368 n369)
    (T.st n352 13 (Value.slice o370 n371 n372)
    (T.st n352 14 (Value.slice o373 n374 n375)
    (T.st n352 15 (Value.slice o376 n377 n378)
    (T.st n352 16 (Value.slice none 0 0)
    (T.st n352 17 (Value.slice none 0 0)
    (T.chk []
    (T.loop 0 [Value.int IntKind.i64 0] fun l379 j380 =>
    T.asI IntKind.i64
    (List.headD l379 (Value.tuple (Array.mk [])))
    fun i381 =>
    T.ite (decide (i381 < 8))
    (T.blk 1
    (fun l382 j383 =>
    T.req (0 ≤ i381 ∧ i381 < 8)
    (T.ldS n352 (8 + Int.toNat i381 * 1)
    fun o384 n385 n386 =>
    T.ite (decide ((↑n385 : Int) > 0))
    (T.ldS n352 17 fun o387 n388 n389 =>
    T.new
    (Obj.cells
    (Array.mk
    [Value.int IntKind.i64 i381])
    3)
    fun n390 =>
    T.run
    (biV Builtin.append
    (Array.mk [31, 31]) 31
    (Array.mk
    [Value.slice o387 n388 n389,
    Value.slice
    (some
    (Addr.mk n390 0 none))
    1 1]))
    fun v391 =>
    T.asS v391 fun o392 n393 n394 =>
    T.st n352 17
    (Value.slice o392 n393 n394)
    (T.next 0
    [Value.int IntKind.i64
    (IntKind.wrap
    IntKind.i64
    (i381 + 1))]
    ([Value.pointer
    (some
    (Addr.mk n16 0
    none)),
    Value.pointer
    (some
    (Addr.mk n352 0
    none))] =
    [Value.pointer
    (some
    (Addr.mk n16 0
    none)),
    Value.pointer
    (some
    (Addr.mk n352 0
    none))] ∧ ([] : List Deferred) = [])))
    (T.next 0
    [Value.int IntKind.i64
    (IntKind.wrap IntKind.i64
    (i381 + 1))]
    ([Value.pointer
    (some (Addr.mk n16 0 none)),
    Value.pointer
    (some
    (Addr.mk n352 0 none))] =
    [Value.pointer
    (some (Addr.mk n16 0 none)),
    Value.pointer
    (some
    (Addr.mk n352 0 none))] ∧ ([] : List Deferred) = []))))
    (T.drew
    (T.req (0 ≤ i381 ∧ i381 < 8)
    (T.ldS n352 (0 + Int.toNat i381 * 1)
    fun o395 n396 n397 =>
    T.req (0 ≤ i381 ∧ i381 < 8)
    (T.ldS n352 (8 + Int.toNat i381 * 1)
    fun o398 n399 n400 =>
    T.ite
    (decide
    (IntKind.wrap IntKind.i64
    ((↑n396 : Int) +
    (↑n399 : Int)) >
    0))
    (T.ldS n352 16 fun o401 n402 n403 =>
    T.new
    (Obj.cells
    (Array.mk
    [Value.int IntKind.i64
    i381])
    3)
    fun n404 =>
    T.run
    (biV Builtin.append
    (Array.mk [31, 31]) 31
    (Array.mk
    [Value.slice o401 n402
    n403,
    Value.slice
    (some
    (Addr.mk n404 0
    none))
    1 1]))
    fun v405 =>
    T.asS v405
    fun o406 n407 n408 =>
    T.st n352 16
    (Value.slice o406 n407
    n408)
    (T.next 1 []
    ([Value.pointer
    (some
    (Addr.mk n16 0
    none)),
    Value.pointer
    (some
    (Addr.mk n352
    0 none)),
    Value.int
    IntKind.i64
    i381] =
    [Value.pointer
    (some
    (Addr.mk n16 0
    none)),
    Value.pointer
    (some
    (Addr.mk n352
    0 none)),
    Value.int
    IntKind.i64
    i381] ∧ ([] : List Deferred) = [])))
    (T.next 1 []
    ([Value.pointer
    (some
    (Addr.mk n16 0 none)),
    Value.pointer
    (some
    (Addr.mk n352 0 none)),
    Value.int IntKind.i64
    i381] =
    [Value.pointer
    (some
    (Addr.mk n16 0 none)),
    Value.pointer
    (some
    (Addr.mk n352 0 none)),
    Value.int IntKind.i64
    i381] ∧ ([] : List Deferred) = [])))))))
    (T.blk 0
    (fun l409 j410 =>
    T.ldS n352 17 fun o411 n412 n413 =>
    T.ite ((↑n412 : Int) == 0)
    (T.drew
    (T.ldS n352 17 fun o414 n415 n416 =>
    T.ldS n352 16 fun o417 n418 n419 =>
    T.req ((0 : Int) ≤ 0 ∧ (0 : Int) < (↑n418 : Int))
    (T.sm o417 fun n420 n421 =>
    T.ldI IntKind.i64 n420 n421
    fun i422 =>
    T.new
    (Obj.cells
    (Array.mk
    [Value.int IntKind.i64
    i422])
    3)
    fun n423 =>
    T.chk
    [(Addr.mk n352 16 none,
    Value.slice o417 n418
    n419),
    (Addr.mk n352 17 none,
    Value.slice o414 n415
    n416)]
    (T.run
    (biV Builtin.append
    (Array.mk [31, 31]) 31
    (Array.mk
    [Value.slice o414
    n415 n416,
    Value.slice
    (some
    (Addr.mk n423
    0 none))
    1 1]))
    fun v424 =>
    T.asS v424
    fun o425 n426 n427 =>
    T.chk
    [(Addr.mk n352 16
    none,
    Value.slice o417
    n418 n419)]
    (T.st n352 17
    (Value.slice o425
    n426 n427)
    (T.chk []
    (T.ldS n352 0
    fun o428 n429
    n430 =>
    T.ldS n352 1
    fun o431
    n432
    n433 =>
    T.ldS n352 2
    fun o434
    n435
    n436 =>
    T.ldS n352
    3
    fun o437
    n438
    n439 =>
    T.ldS
    n352 4
    fun
    o440
    n441
    n442 =>
    T.ldS
    n352
    5
    fun
    o443
    n444
    n445 =>
    T.ldS
    n352
    6
    fun
    o446
    n447
    n448 =>
    T.ldS
    n352
    7
    fun
    o449
    n450
    n451 =>
    T.ldS
    n352
    8
    fun
    o452
    n453
    n454 =>
    T.ldS
    n352
    9
    fun
    o455
    n456
    n457 =>
    T.ldS
    n352
    10
    fun
    o458
    n459
    n460 =>
    T.ldS
    n352
    11
    fun
    o461
    n462
    n463 =>
    T.ldS
    n352
    12
    fun
    o464
    n465
    n466 =>
    T.ldS
    n352
    13
    fun
    o467
    n468
    n469 =>
    T.ldS
    n352
    14
    fun
    o470
    n471
    n472 =>
    T.ldS
    n352
    15
    fun
    o473
    n474
    n475 =>
    T.ldS
    n352
    16
    fun
    o476
    n477
    n478 =>
    T.ldS
    n352
    17
    fun
    o479
    n480
    n481 =>
    T.st
    n16
    0
    (Value.slice
    o428
    n429
    n430)
    (T.st
    n16
    1
    (Value.slice
    o431
    n432
    n433)
    (T.st
    n16
    2
    (Value.slice
    o434
    n435
    n436)
    (T.st
    n16
    3
    (Value.slice
    o437
    n438
    n439)
    (T.st
    n16
    4
    (Value.slice
    o440
    n441
    n442)
    (T.st
    n16
    5
    (Value.slice
    o443
    n444
    n445)
    (T.st
    n16
    6
    (Value.slice
    o446
    n447
    n448)
    (T.st
    n16
    7
    (Value.slice
    o449
    n450
    n451)
    (T.st
    n16
    8
    (Value.slice
    o452
    n453
    n454)
    (T.st
    n16
    9
    (Value.slice
    o455
    n456
    n457)
    (T.st
    n16
    10
    (Value.slice
    o458
    n459
    n460)
    (T.st
    n16
    11
    (Value.slice
    o461
    n462
    n463)
    (T.st
    n16
    12
    (Value.slice
    o464
    n465
    n466)
    (T.st
    n16
    13
    (Value.slice
    o467
    n468
    n469)
    (T.st
    n16
    14
    (Value.slice
    o470
    n471
    n472)
    (T.st
    n16
    15
    (Value.slice
    o473
    n474
    n475)
    (T.st
    n16
    16
    (Value.slice
    o476
    n477
    n478)
    (T.st
    n16
    17
    (Value.slice
    o479
    n480
    n481)
    (T.ldS
    n16
    0
    fun
    o482
    n483
    n484 =>
    T.ldS
    n16
    1
    fun
    o485
    n486
    n487 =>
    T.ldS
    n16
    2
    fun
    o488
    n489
    n490 =>
    T.ldS
    n16
    3
    fun
    o491
    n492
    n493 =>
    T.ldS
    n16
    4
    fun
    o494
    n495
    n496 =>
    T.ldS
    n16
    5
    fun
    o497
    n498
    n499 =>
    T.ldS
    n16
    6
    fun
    o500
    n501
    n502 =>
    T.ldS
    n16
    7
    fun
    o503
    n504
    n505 =>
    T.ldS
    n16
    8
    fun
    o506
    n507
    n508 =>
    T.ldS
    n16
    9
    fun
    o509
    n510
    n511 =>
    T.ldS
    n16
    10
    fun
    o512
    n513
    n514 =>
    T.ldS
    n16
    11
    fun
    o515
    n516
    n517 =>
    T.ldS
    n16
    12
    fun
    o518
    n519
    n520 =>
    T.ldS
    n16
    13
    fun
    o521
    n522
    n523 =>
    T.ldS
    n16
    14
    fun
    o524
    n525
    n526 =>
    T.ldS
    n16
    15
    fun
    o527
    n528
    n529 =>
    T.ldS
    n16
    16
    fun
    o530
    n531
    n532 =>
    T.ldS
    n16
    17
    fun
    o533
    n534
    n535 =>
    T.ret
    (Value.agg
    (Array.mk
    [Value.slice
    o482
    n483
    n484,
    Value.slice
    o485
    n486
    n487,
    Value.slice
    o488
    n489
    n490,
    Value.slice
    o491
    n492
    n493,
    Value.slice
    o494
    n495
    n496,
    Value.slice
    o497
    n498
    n499,
    Value.slice
    o500
    n501
    n502,
    Value.slice
    o503
    n504
    n505,
    Value.slice
    o506
    n507
    n508,
    Value.slice
    o509
    n510
    n511,
    Value.slice
    o512
    n513
    n514,
    Value.slice
    o515
    n516
    n517,
    Value.slice
    o518
    n519
    n520,
    Value.slice
    o521
    n522
    n523,
    Value.slice
    o524
    n525
    n526,
    Value.slice
    o527
    n528
    n529,
    Value.slice
    o530
    n531
    n532,
    Value.slice
    o533
    n534
    n535])))))))))))))))))))))))))))
    (T.ldS n352 0 fun o536 n537 n538 =>
    T.ldS n352 1 fun o539 n540 n541 =>
    T.ldS n352 2 fun o542 n543 n544 =>
    T.ldS n352 3 fun o545 n546 n547 =>
    T.ldS n352 4 fun o548 n549 n550 =>
    T.ldS n352 5
    fun o551 n552 n553 =>
    T.ldS n352 6
    fun o554 n555 n556 =>
    T.ldS n352 7
    fun o557 n558 n559 =>
    T.ldS n352 8
    fun o560 n561 n562 =>
    T.ldS n352 9
    fun o563 n564 n565 =>
    T.ldS n352 10
    fun o566 n567
    n568 =>
    T.ldS n352 11
    fun o569 n570
    n571 =>
    T.ldS n352 12
    fun o572 n573
    n574 =>
    T.ldS n352 13
    fun o575 n576
    n577 =>
    T.ldS n352 14
    fun o578
    n579
    n580 =>
    T.ldS n352
    15
    fun o581
    n582
    n583 =>
    T.ldS n352
    16
    fun o584
    n585
    n586 =>
    T.ldS
    n352
    17
    fun
    o587
    n588
    n589 =>
    T.st
    n16
    0
    (Value.slice
    o536
    n537
    n538)
    (T.st
    n16
    1
    (Value.slice
    o539
    n540
    n541)
    (T.st
    n16
    2
    (Value.slice
    o542
    n543
    n544)
    (T.st
    n16
    3
    (Value.slice
    o545
    n546
    n547)
    (T.st
    n16
    4
    (Value.slice
    o548
    n549
    n550)
    (T.st
    n16
    5
    (Value.slice
    o551
    n552
    n553)
    (T.st
    n16
    6
    (Value.slice
    o554
    n555
    n556)
    (T.st
    n16
    7
    (Value.slice
    o557
    n558
    n559)
    (T.st
    n16
    8
    (Value.slice
    o560
    n561
    n562)
    (T.st
    n16
    9
    (Value.slice
    o563
    n564
    n565)
    (T.st
    n16
    10
    (Value.slice
    o566
    n567
    n568)
    (T.st
    n16
    11
    (Value.slice
    o569
    n570
    n571)
    (T.st
    n16
    12
    (Value.slice
    o572
    n573
    n574)
    (T.st
    n16
    13
    (Value.slice
    o575
    n576
    n577)
    (T.st
    n16
    14
    (Value.slice
    o578
    n579
    n580)
    (T.st
    n16
    15
    (Value.slice
    o581
    n582
    n583)
    (T.st
    n16
    16
    (Value.slice
    o584
    n585
    n586)
    (T.st
    n16
    17
    (Value.slice
    o587
    n588
    n589)
    (T.ldS
    n16
    0
    fun
    o590
    n591
    n592 =>
    T.ldS
    n16
    1
    fun
    o593
    n594
    n595 =>
    T.ldS
    n16
    2
    fun
    o596
    n597
    n598 =>
    T.ldS
    n16
    3
    fun
    o599
    n600
    n601 =>
    T.ldS
    n16
    4
    fun
    o602
    n603
    n604 =>
    T.ldS
    n16
    5
    fun
    o605
    n606
    n607 =>
    T.ldS
    n16
    6
    fun
    o608
    n609
    n610 =>
    T.ldS
    n16
    7
    fun
    o611
    n612
    n613 =>
    T.ldS
    n16
    8
    fun
    o614
    n615
    n616 =>
    T.ldS
    n16
    9
    fun
    o617
    n618
    n619 =>
    T.ldS
    n16
    10
    fun
    o620
    n621
    n622 =>
    T.ldS
    n16
    11
    fun
    o623
    n624
    n625 =>
    T.ldS
    n16
    12
    fun
    o626
    n627
    n628 =>
    T.ldS
    n16
    13
    fun
    o629
    n630
    n631 =>
    T.ldS
    n16
    14
    fun
    o632
    n633
    n634 =>
    T.ldS
    n16
    15
    fun
    o635
    n636
    n637 =>
    T.ldS
    n16
    16
    fun
    o638
    n639
    n640 =>
    T.ldS
    n16
    17
    fun
    o641
    n642
    n643 =>
    T.ret
    (Value.agg
    (Array.mk
    [Value.slice
    o590
    n591
    n592,
    Value.slice
    o593
    n594
    n595,
    Value.slice
    o596
    n597
    n598,
    Value.slice
    o599
    n600
    n601,
    Value.slice
    o602
    n603
    n604,
    Value.slice
    o605
    n606
    n607,
    Value.slice
    o608
    n609
    n610,
    Value.slice
    o611
    n612
    n613,
    Value.slice
    o614
    n615
    n616,
    Value.slice
    o617
    n618
    n619,
    Value.slice
    o620
    n621
    n622,
    Value.slice
    o623
    n624
    n625,
    Value.slice
    o626
    n627
    n628,
    Value.slice
    o629
    n630
    n631,
    Value.slice
    o632
    n633
    n634,
    Value.slice
    o635
    n636
    n637,
    Value.slice
    o638
    n639
    n640,
    Value.slice
    o641
    n642
    n643]))))))))))))))))))))))
    (T.ldS n352 16 fun o644 n645 n646 =>
    T.ite ((↑n645 : Int) == 0)
    (T.ldS n352 16 fun o647 n648 n649 =>
    T.new
    (Obj.cells
    (Array.mk [Value.int IntKind.i64 0])
    3)
    fun n650 =>
    T.run
    (biV Builtin.append
    (Array.mk [31, 31]) 31
    (Array.mk
    [Value.slice o647 n648 n649,
    Value.slice
    (some (Addr.mk n650 0 none)) 1
    1]))
    fun v651 =>
    T.asS v651 fun o652 n653 n654 =>
    T.st n352 16
    (Value.slice o652 n653 n654)
    (T.next 0 []
    ([Value.pointer
    (some
    (Addr.mk n16 0 none)),
    Value.pointer
    (some
    (Addr.mk n352 0
    none))] =
    [Value.pointer
    (some
    (Addr.mk n16 0 none)),
    Value.pointer
    (some
    (Addr.mk n352 0
    none))] ∧ ([] : List Deferred) = [])))
    (T.next 0 []
    ([Value.pointer
    (some (Addr.mk n16 0 none)),
    Value.pointer
    (some (Addr.mk n352 0 none))] =
    [Value.pointer
    (some (Addr.mk n16 0 none)),
    Value.pointer
    (some (Addr.mk n352 0 none))] ∧ ([] : List Deferred) = []))))))))))))))))))))))))))))))
    (T.new
    (Obj.cells
    (Array.mk
    [Value.slice none 0 0, Value.slice none 0 0, Value.slice none 0 0, Value.slice none 0 0, Value.slice none 0 0, Value.slice none 0 0,
    Value.slice none 0 0, Value.slice none 0 0, Value.slice none 0 0, Value.slice none 0 0, Value.slice none 0 0, Value.slice none 0 0,
    Value.slice none 0 0, Value.slice none 0 0, Value.slice none 0 0, Value.slice none 0 0, Value.slice none 0 0, Value.slice none 0 0])
    45)
    fun n655 =>
    T.chk [(Addr.mk n15 5 none, Value.slice o20 n21 n22), (Addr.mk n15 4 none, Value.slice o17 n18 n19)]
    (T.call 40 [Value.slice o17 n18 n19, Value.int IntKind.i64 i14] fun v656 =>
    T.asA v656 fun l657 =>
    T.req (List.length l657 = 8)
    (T.asS (List.headD l657 (Value.tuple (Array.mk []))) fun o658 n659 n660 =>
    T.asS (List.headD (List.tail l657) (Value.tuple (Array.mk []))) fun o661 n662 n663 =>
    T.asS (List.headD (List.tail (List.tail l657)) (Value.tuple (Array.mk []))) fun o664 n665 n666 =>
    T.asS (List.headD (List.tail (List.tail (List.tail l657))) (Value.tuple (Array.mk []))) fun o667 n668 n669 =>
    T.asS (List.headD (List.tail (List.tail (List.tail (List.tail l657)))) (Value.tuple (Array.mk []))) fun o670 n671 n672 =>
    T.asS (List.headD (List.tail (List.tail (List.tail (List.tail (List.tail l657))))) (Value.tuple (Array.mk [])))
    fun o673 n674 n675 =>
    T.asS (List.headD (List.tail (List.tail (List.tail (List.tail (List.tail (List.tail l657)))))) (Value.tuple (Array.mk [])))
    fun o676 n677 n678 =>
    T.asS
    (List.headD (List.tail (List.tail (List.tail (List.tail (List.tail (List.tail (List.tail l657)))))))
    (Value.tuple (Array.mk [])))
    fun o679 n680 n681 =>
    T.chk [(Addr.mk n15 5 none, Value.slice o20 n21 n22)]
    (T.call 40 [Value.slice o20 n21 n22, Value.int IntKind.i64 i14] fun v682 =>
    T.asA v682 fun l683 =>
    T.req (List.length l683 = 8)
    (T.asS (List.headD l683 (Value.tuple (Array.mk []))) fun o684 n685 n686 =>
    T.asS (List.headD (List.tail l683) (Value.tuple (Array.mk []))) fun o687 n688 n689 =>
    T.asS (List.headD (List.tail (List.tail l683)) (Value.tuple (Array.mk []))) fun o690 n691 n692 =>
    T.asS (List.headD (List.tail (List.tail (List.tail l683))) (Value.tuple (Array.mk [])))
    fun o693 n694 n695 =>
    T.asS (List.headD (List.tail (List.tail (List.tail (List.tail l683)))) (Value.tuple (Array.mk [])))
    fun o696 n697 n698 =>
    T.asS
    (List.headD (List.tail (List.tail (List.tail (List.tail (List.tail l683)))))
    (Value.tuple (Array.mk [])))
    fun o699 n700 n701 =>
    T.asS
    (List.headD (List.tail (List.tail (List.tail (List.tail (List.tail (List.tail l683))))))
    (Value.tuple (Array.mk [])))
    fun o702 n703 n704 =>
    T.asS
    (List.headD
    (List.tail (List.tail (List.tail (List.tail (List.tail (List.tail (List.tail l683)))))))
    (Value.tuple (Array.mk [])))
    fun o705 n706 n707 =>
    T.chk []
    (T.st n655 0 (Value.slice o658 n659 n660)
    (T.st n655 1 (Value.slice o661 n662 n663)
    (T.st n655 2 (Value.slice o664 n665 n666)
    (T.st n655 3 (Value.slice o667 n668 n669)
    (T.st n655 4 (Value.slice o670 n671 n672)
    (T.st n655 5 (Value.slice o673 n674 n675)
    (T.st n655 6 (Value.slice o676 n677 n678)
    (T.st n655 7 (Value.slice o679 n680 n681)
    (T.st n655 8 (Value.slice o684 n685 n686)
    (T.st n655 9 (Value.slice o687 n688 n689)
    (T.st n655 10 (Value.slice o690 n691 n692)
    (T.st n655 11 (Value.slice o693 n694 n695)
    (T.st n655 12 (Value.slice o696 n697 n698)
    (T.st n655 13 (Value.slice o699 n700 n701)
    (T.st n655 14 (Value.slice o702 n703 n704)
    (T.st n655 15 (Value.slice o705 n706 n707)
    (T.st n655 16 (Value.slice none 0 0)
    (T.st n655 17 (Value.slice none 0 0)
    (T.chk []
    (T.loop 0 [Value.int IntKind.i64 0] fun l708 j709 =>
    T.asI IntKind.i64
    (List.headD l708 (Value.tuple (Array.mk [])))
    fun i710 =>
    T.ite (decide (i710 < 8))
    (T.blk 1
    (fun l711 j712 =>
    T.req (0 ≤ i710 ∧ i710 < 8)
    (T.ldS n655 (8 + Int.toNat i710 * 1)
    fun o713 n714 n715 =>
    T.ite (decide ((↑n714 : Int) > 0))
    (T.ldS n655 17 fun o716 n717 n718 =>
    T.new
    (Obj.cells
    (Array.mk
    [Value.int IntKind.i64 i710])
    3)
    fun n719 =>
    T.run
    (biV Builtin.append
    (Array.mk [31, 31]) 31
    (Array.mk
    [Value.slice o716 n717 n718,
    Value.slice
    (some (Addr.mk n719 0 none))
    1 1]))
    fun v720 =>
    T.asS v720 fun o721 n722 n723 =>
    T.st n655 17
    (Value.slice o721 n722 n723)
    (T.next 0
    [Value.int IntKind.i64
    (IntKind.wrap IntKind.i64
    (i710 + 1))]
    ([Value.pointer
    (some
    (Addr.mk n16 0
    none)),
    Value.pointer
    (some
    (Addr.mk n655 0
    none))] =
    [Value.pointer
    (some
    (Addr.mk n16 0
    none)),
    Value.pointer
    (some
    (Addr.mk n655 0
    none))] ∧ ([] : List Deferred) = [])))
    (T.next 0
    [Value.int IntKind.i64
    (IntKind.wrap IntKind.i64
    (i710 + 1))]
    ([Value.pointer
    (some (Addr.mk n16 0 none)),
    Value.pointer
    (some (Addr.mk n655 0 none))] =
    [Value.pointer
    (some (Addr.mk n16 0 none)),
    Value.pointer
    (some (Addr.mk n655 0 none))] ∧ ([] : List Deferred) = []))))
    (T.drew
    (T.req (0 ≤ i710 ∧ i710 < 8)
    (T.ldS n655 (0 + Int.toNat i710 * 1)
    fun o724 n725 n726 =>
    T.req (0 ≤ i710 ∧ i710 < 8)
    (T.ldS n655 (8 + Int.toNat i710 * 1)
    fun o727 n728 n729 =>
    T.ite
    (decide
    (IntKind.wrap IntKind.i64
    ((↑n725 : Int) +
    (↑n728 : Int)) >
    0))
    (T.ldS n655 16 fun o730 n731 n732 =>
    T.new
    (Obj.cells
    (Array.mk
    [Value.int IntKind.i64 i710])
    3)
    fun n733 =>
    T.run
    (biV Builtin.append
    (Array.mk [31, 31]) 31
    (Array.mk
    [Value.slice o730 n731 n732,
    Value.slice
    (some
    (Addr.mk n733 0 none))
    1 1]))
    fun v734 =>
    T.asS v734 fun o735 n736 n737 =>
    T.st n655 16
    (Value.slice o735 n736 n737)
    (T.next 1 []
    ([Value.pointer
    (some
    (Addr.mk n16 0
    none)),
    Value.pointer
    (some
    (Addr.mk n655 0
    none)),
    Value.int
    IntKind.i64
    i710] =
    [Value.pointer
    (some
    (Addr.mk n16 0
    none)),
    Value.pointer
    (some
    (Addr.mk n655 0
    none)),
    Value.int
    IntKind.i64
    i710] ∧ ([] : List Deferred) = [])))
    (T.next 1 []
    ([Value.pointer
    (some (Addr.mk n16 0 none)),
    Value.pointer
    (some
    (Addr.mk n655 0 none)),
    Value.int IntKind.i64 i710] =
    [Value.pointer
    (some (Addr.mk n16 0 none)),
    Value.pointer
    (some
    (Addr.mk n655 0 none)),
    Value.int IntKind.i64 i710] ∧ ([] : List Deferred) = [])))))))
    (T.blk 0
    (fun l738 j739 =>
    T.ldS n655 17 fun o740 n741 n742 =>
    T.ite ((↑n741 : Int) == 0)
    (T.drew
    (T.ldS n655 17 fun o743 n744 n745 =>
    T.ldS n655 16 fun o746 n747 n748 =>
    T.req ((0 : Int) ≤ 0 ∧ (0 : Int) < (↑n747 : Int))
    (T.sm o746 fun n749 n750 =>
    T.ldI IntKind.i64 n749 n750
    fun i751 =>
    T.new
    (Obj.cells
    (Array.mk
    [Value.int IntKind.i64
    i751])
    3)
    fun n752 =>
    T.chk
    [(Addr.mk n655 16 none,
    Value.slice o746 n747
    n748),
    (Addr.mk n655 17 none,
    Value.slice o743 n744
    n745)]
    (T.run
    (biV Builtin.append
    (Array.mk [31, 31]) 31
    (Array.mk
    [Value.slice o743 n744
    n745,
    Value.slice
    (some
    (Addr.mk n752 0
    none))
    1 1]))
    fun v753 =>
    T.asS v753
    fun o754 n755 n756 =>
    T.chk
    [(Addr.mk n655 16
    none,
    Value.slice o746
    n747 n748)]
    (T.st n655 17
    (Value.slice o754
    n755 n756)
    (T.chk []
    (T.ldS n655 0
    fun o757 n758
    n759 =>
    T.ldS n655 1
    fun o760 n761
    n762 =>
    T.ldS n655 2
    fun o763
    n764
    n765 =>
    T.ldS n655 3
    fun o766
    n767
    n768 =>
    T.ldS n655
    4
    fun o769
    n770
    n771 =>
    T.ldS
    n655 5
    fun
    o772
    n773
    n774 =>
    T.ldS
    n655
    6
    fun
    o775
    n776
    n777 =>
    T.ldS
    n655
    7
    fun
    o778
    n779
    n780 =>
    T.ldS
    n655
    8
    fun
    o781
    n782
    n783 =>
    T.ldS
    n655
    9
    fun
    o784
    n785
    n786 =>
    T.ldS
    n655
    10
    fun
    o787
    n788
    n789 =>
    T.ldS
    n655
    11
    fun
    o790
    n791
    n792 =>
    T.ldS
    n655
    12
    fun
    o793
    n794
    n795 =>
    T.ldS
    n655
    13
    fun
    o796
    n797
    n798 =>
    T.ldS
    n655
    14
    fun
    o799
    n800
    n801 =>
    T.ldS
    n655
    15
    fun
    o802
    n803
    n804 =>
    T.ldS
    n655
    16
    fun
    o805
    n806
    n807 =>
    T.ldS
    n655
    17
    fun
    o808
    n809
    n810 =>
    T.st
    n16
    0
    (Value.slice
    o757
    n758
    n759)
    (T.st
    n16
    1
    (Value.slice
    o760
    n761
    n762)
    (T.st
    n16
    2
    (Value.slice
    o763
    n764
    n765)
    (T.st
    n16
    3
    (Value.slice
    o766
    n767
    n768)
    (T.st
    n16
    4
    (Value.slice
    o769
    n770
    n771)
    (T.st
    n16
    5
    (Value.slice
    o772
    n773
    n774)
    (T.st
    n16
    6
    (Value.slice
    o775
    n776
    n777)
    (T.st
    n16
    7
    (Value.slice
    o778
    n779
    n780)
    (T.st
    n16
    8
    (Value.slice
    o781
    n782
    n783)
    (T.st
    n16
    9
    (Value.slice
    o784
    n785
    n786)
    (T.st
    n16
    10
    (Value.slice
    o787
    n788
    n789)
    (T.st
    n16
    11
    (Value.slice
    o790
    n791
    n792)
    (T.st
    n16
    12
    (Value.slice
    o793
    n794
    n795)
    (T.st
    n16
    13
    (Value.slice
    o796
    n797
    n798)
    (T.st
    n16
    14
    (Value.slice
    o799
    n800
    n801)
    (T.st
    n16
    15
    (Value.slice
    o802
    n803
    n804)
    (T.st
    n16
    16
    (Value.slice
    o805
    n806
    n807)
    (T.st
    n16
    17
    (Value.slice
    o808
    n809
    n810)
    (T.ldS
    n16
    0
    fun
    o811
    n812
    n813 =>
    T.ldS
    n16
    1
    fun
    o814
    n815
    n816 =>
    T.ldS
    n16
    2
    fun
    o817
    n818
    n819 =>
    T.ldS
    n16
    3
    fun
    o820
    n821
    n822 =>
    T.ldS
    n16
    4
    fun
    o823
    n824
    n825 =>
    T.ldS
    n16
    5
    fun
    o826
    n827
    n828 =>
    T.ldS
    n16
    6
    fun
    o829
    n830
    n831 =>
    T.ldS
    n16
    7
    fun
    o832
    n833
    n834 =>
    T.ldS
    n16
    8
    fun
    o835
    n836
    n837 =>
    T.ldS
    n16
    9
    fun
    o838
    n839
    n840 =>
    T.ldS
    n16
    10
    fun
    o841
    n842
    n843 =>
    T.ldS
    n16
    11
    fun
    o844
    n845
    n846 =>
    T.ldS
    n16
    12
    fun
    o847
    n848
    n849 =>
    T.ldS
    n16
    13
    fun
    o850
    n851
    n852 =>
    T.ldS
    n16
    14
    fun
    o853
    n854
    n855 =>
    T.ldS
    n16
    15
    fun
    o856
    n857
    n858 =>
    T.ldS
    n16
    16
    fun
    o859
    n860
    n861 =>
    T.ldS
    n16
    17
    fun
    o862
    n863
    n864 =>
    T.ret
    (Value.agg
    (Array.mk
    [Value.slice
    o811
    n812
    n813,
    Value.slice
    o814
    n815
    n816,
    Value.slice
    o817
    n818
    n819,
    Value.slice
    o820
    n821
    n822,
    Value.slice
    o823
    n824
    n825,
    Value.slice
    o826
    n827
    n828,
    Value.slice
    o829
    n830
    n831,
    Value.slice
    o832
    n833
    n834,
    Value.slice
    o835
    n836
    n837,
    Value.slice
    o838
    n839
    n840,
    Value.slice
    o841
    n842
    n843,
    Value.slice
    o844
    n845
    n846,
    Value.slice
    o847
    n848
    n849,
    Value.slice
    o850
    n851
    n852,
    Value.slice
    o853
    n854
    n855,
    Value.slice
    o856
    n857
    n858,
    Value.slice
    o859
    n860
    n861,
    Value.slice
    o862
    n863
    n864])))))))))))))))))))))))))))
    (T.ldS n655 0 fun o865 n866 n867 =>
    T.ldS n655 1 fun o868 n869 n870 =>
    T.ldS n655 2 fun o871 n872 n873 =>
    T.ldS n655 3 fun o874 n875 n876 =>
    T.ldS n655 4 fun o877 n878 n879 =>
    T.ldS n655 5 fun o880 n881 n882 =>
    T.ldS n655 6
    fun o883 n884 n885 =>
    T.ldS n655 7
    fun o886 n887 n888 =>
    T.ldS n655 8
    fun o889 n890 n891 =>
    T.ldS n655 9
    fun o892 n893 n894 =>
    T.ldS n655 10
    fun o895 n896 n897 =>
    T.ldS n655 11
    fun o898 n899
    n900 =>
    T.ldS n655 12
    fun o901 n902
    n903 =>
    T.ldS n655 13
    fun o904 n905
    n906 =>
    T.ldS n655 14
    fun o907 n908
    n909 =>
    T.ldS n655 15
    fun o910
    n911
    n912 =>
    T.ldS n655
    16
    fun o913
    n914
    n915 =>
    T.ldS n655
    17
    fun o916
    n917
    n918 =>
    T.st n16
    0
    (Value.slice
    o865
    n866
    n867)
    (T.st
    n16
    1
    (Value.slice
    o868
    n869
    n870)
    (T.st
    n16
    2
    (Value.slice
    o871
    n872
    n873)
    (T.st
    n16
    3
    (Value.slice
    o874
    n875
    n876)
    (T.st
    n16
    4
    (Value.slice
    o877
    n878
    n879)
    (T.st
    n16
    5
    (Value.slice
    o880
    n881
    n882)
    (T.st
    n16
    6
    (Value.slice
    o883
    n884
    n885)
    (T.st
    n16
    7
    (Value.slice
    o886
    n887
    n888)
    (T.st
    n16
    8
    (Value.slice
    o889
    n890
    n891)
    (T.st
    n16
    9
    (Value.slice
    o892
    n893
    n894)
    (T.st
    n16
    10
    (Value.slice
    o895
    n896
    n897)
    (T.st
    n16
    11
    (Value.slice
    o898
    n899
    n900)
    (T.st
    n16
    12
    (Value.slice
    o901
    n902
    n903)
    (T.st
    n16
    13
    (Value.slice
    o904
    n905
    n906)
    (T.st
    n16
    14
    (Value.slice
    o907
    n908
    n909)
    (T.st
    n16
    15
    (Value.slice
    o910
    n911
    n912)
    (T.st
    n16
    16
    (Value.slice
    o913
    n914
    n915)
    (T.st
    n16
    17
    (Value.slice
    o916
    n917
    n918)
    (T.ldS
    n16
    0
    fun
    o919
    n920
    n921 =>
    T.ldS
    n16
    1
    fun
    o922
    n923
    n924 =>
    T.ldS
    n16
    2
    fun
    o925
    n926
    n927 =>
    T.ldS
    n16
    3
    fun
    o928
    n929
    n930 =>
    T.ldS
    n16
    4
    fun
    o931
    n932
    n933 =>
    T.ldS
    n16
    5
    fun
    o934
    n935
    n936 =>
    T.ldS
    n16
    6
    fun
    o937
    n938
    n939 =>
    T.ldS
    n16
    7
    fun
    o940
    n941
    n942 =>
    T.ldS
    n16
    8
    fun
    o943
    n944
    n945 =>
    T.ldS
    n16
    9
    fun
    o946
    n947
    n948 =>
    T.ldS
    n16
    10
    fun
    o949
    n950
    n951 =>
    T.ldS
    n16
    11
    fun
    o952
    n953
    n954 =>
    T.ldS
    n16
    12
    fun
    o955
    n956
    n957 =>
    T.ldS
    n16
    13
    fun
    o958
    n959
    n960 =>
    T.ldS
    n16
    14
    fun
    o961
    n962
    n963 =>
    T.ldS
    n16
    15
    fun
    o964
    n965
    n966 =>
    T.ldS
    n16
    16
    fun
    o967
    n968
    n969 =>
    T.ldS
    n16
    17
    fun
    o970
    n971
    n972 =>
    T.ret
    (Value.agg
    (Array.mk
    [Value.slice
    o919
    n920
    n921,
    Value.slice
    o922
    n923
    n924,
    Value.slice
    o925
    n926
    n927,
    Value.slice
    o928
    n929
    n930,
    Value.slice
    o931
    n932
    n933,
    Value.slice
    o934
    n935
    n936,
    Value.slice
    o937
    n938
    n939,
    Value.slice
    o940
    n941
    n942,
    Value.slice
    o943
    n944
    n945,
    Value.slice
    o946
    n947
    n948,
    Value.slice
    o949
    n950
    n951,
    Value.slice
    o952
    n953
    n954,
    Value.slice
    o955
    n956
    n957,
    Value.slice
    o958
    n959
    n960,
    Value.slice
    o961
    n962
    n963,
    Value.slice
    o964
    n965
    n966,
    Value.slice
    o967
    n968
    n969,
    Value.slice
    o970
    n971
    n972]))))))))))))))))))))))
    (T.ldS n655 16 fun o973 n974 n975 =>
    T.ite ((↑n974 : Int) == 0)
    (T.ldS n655 16 fun o976 n977 n978 =>
    T.new
    (Obj.cells
    (Array.mk [Value.int IntKind.i64 0]) 3)
    fun n979 =>
    T.run
    (biV Builtin.append (Array.mk [31, 31])
    31
    (Array.mk
    [Value.slice o976 n977 n978,
    Value.slice
    (some (Addr.mk n979 0 none)) 1
    1]))
    fun v980 =>
    T.asS v980 fun o981 n982 n983 =>
    T.st n655 16
    (Value.slice o981 n982 n983)
    (T.next 0 []
    ([Value.pointer
    (some
    (Addr.mk n16 0 none)),
    Value.pointer
    (some
    (Addr.mk n655 0
    none))] =
    [Value.pointer
    (some
    (Addr.mk n16 0 none)),
    Value.pointer
    (some
    (Addr.mk n655 0
    none))] ∧ ([] : List Deferred) = [])))
    (T.next 0 []
    ([Value.pointer (some (Addr.mk n16 0 none)),
    Value.pointer
    (some (Addr.mk n655 0 none))] =
    [Value.pointer
    (some (Addr.mk n16 0 none)),
    Value.pointer
    (some (Addr.mk n655 0 none))] ∧ ([] : List Deferred) = []))))))))))))))))))))))))))))))
theorem e20 (i0 : Int) (i1 : Int) (o2 : Option Addr) (n3 n4 : Nat) (o5 : Option Addr) (n6 n7 : Nat) (o8 : Option Addr) (n9 n10 : Nat) (o11 : Option Addr) (n12 n13 : Nat) (i14 : Int) : treeOf Try.prog Try.f20 (codeOf Try.f20) (.s .n (.s (.p [0, 1, 2, 4, 5, 6, 3, 7, 8, 9, 10]) (.s (.s .n (.u (.l [(6, .int .i64)] [4, 5] (.s .n (.s (.u (.c [] [4, 5, 6] (.s (.p [0, 1, 2, 3, 4, 5, 6, 7, 8, 9, 10, 11]) .n) .n)) .n))))) (.c [] [4, 5] .n (.s (.s .n (.s (.p [0, 1, 2, 3, 4, 5, 6, 7, 8, 9]) .n)) .n))))) [.v (.agg #[.int .i64 i0, .int .i64 i1, .slice o2 n3 n4, .slice o5 n6 n7, .slice o8 n9 n10, .slice o11 n12 n13]), .v (.int .i64 i14)] = (t20 i0 i1 o2 n3 n4 o5 n6 n7 o8 n9 n10 o11 n12 n13 i14) := by kernel_rfl
theorem c20 (i0 : Int) (i1 : Int) (o2 : Option Addr) (n3 n4 : Nat) (o5 : Option Addr) (n6 n7 : Nat) (o8 : Option Addr) (n9 n10 : Nat) (o11 : Option Addr) (n12 n13 : Nat) (i14 : Int) {w : World} {R : Ending → World → Prop} (h : (t20 i0 i1 o2 n3 n4 o5 n6 n7 o8 n9 n10 o11 n12 n13 i14).sem Try.prog R ρ0 w) : Calls Try.prog 20 #[.agg #[.int .i64 i0, .int .i64 i1, .slice o2 n3 n4, .slice o5 n6 n7, .slice o8 n9 n10, .slice o11 n12 n13], .int .i64 i14] w R :=
  calls_of mixed Try.func20 rfl rfl (e20 i0 i1 o2 n3 n4 o5 n6 n7 o8 n9 n10 o11 n12 n13 i14) h
def t31 (o0 : Option Addr) (n1 n2 : Nat) (o3 : Option Addr) (n4 n5 : Nat) (o6 : Option Addr) (n7 n8 : Nat) (o9 : Option Addr) (n10 n11 : Nat) (o12 : Option Addr) (n13 n14 : Nat) (o15 : Option Addr) (n16 n17 : Nat) (o18 : Option Addr) (n19 n20 : Nat) (o21 : Option Addr) (n22 n23 : Nat) (o24 : Option Addr) (n25 n26 : Nat) (o27 : Option Addr) (n28 n29 : Nat) (o30 : Option Addr) (n31 n32 : Nat) (o33 : Option Addr) (n34 n35 : Nat) (o36 : Option Addr) (n37 n38 : Nat) (o39 : Option Addr) (n40 n41 : Nat) (o42 : Option Addr) (n43 n44 : Nat) (o45 : Option Addr) (n46 n47 : Nat) (o48 : Option Addr) (n49 n50 : Nat) (o51 : Option Addr) (n52 n53 : Nat) (o54 : Option Addr) (n55 n56 : Nat) (o57 : Option Addr) (n58 n59 : Nat) (o60 : Option Addr) (n61 n62 : Nat) (o63 : Option Addr) (n64 n65 : Nat) (o66 : Option Addr) (n67 n68 : Nat) (o69 : Option Addr) (n70 n71 : Nat) (o72 : Option Addr) (n73 n74 : Nat) (o75 : Option Addr) (n76 n77 : Nat) (o78 : Option Addr) (n79 n80 : Nat) (o81 : Option Addr) (n82 n83 : Nat) (o84 : Option Addr) (n85 n86 : Nat) (o87 : Option Addr) (n88 n89 : Nat) (o90 : Option Addr) (n91 n92 : Nat) (o93 : Option Addr) (n94 n95 : Nat) (o96 : Option Addr) (n97 n98 : Nat) (o99 : Option Addr) (n100 n101 : Nat) (o102 : Option Addr) (n103 n104 : Nat) (o105 : Option Addr) (n106 n107 : Nat) : T :=
  T.new
  (Obj.cells
    (Array.mk
    [Value.slice o0 n1 n2, Value.slice o3 n4 n5, Value.slice o6 n7 n8, Value.slice o9 n10 n11, Value.slice o12 n13 n14, Value.slice o15 n16 n17,
    Value.slice o18 n19 n20, Value.slice o21 n22 n23, Value.slice o24 n25 n26, Value.slice o27 n28 n29, Value.slice o30 n31 n32, Value.slice o33 n34 n35,
    Value.slice o36 n37 n38, Value.slice o39 n40 n41, Value.slice o42 n43 n44, Value.slice o45 n46 n47, Value.slice o48 n49 n50, Value.slice o51 n52 n53])
    45)
  fun n108 =>
  T.new
    (Obj.cells
    (Array.mk
    [Value.slice o54 n55 n56, Value.slice o57 n58 n59, Value.slice o60 n61 n62, Value.slice o63 n64 n65, Value.slice o66 n67 n68, Value.slice o69 n70 n71,
    Value.slice o72 n73 n74, Value.slice o75 n76 n77, Value.slice o78 n79 n80, Value.slice o81 n82 n83, Value.slice o84 n85 n86, Value.slice o87 n88 n89,
    Value.slice o90 n91 n92, Value.slice o93 n94 n95, Value.slice o96 n97 n98, Value.slice o99 n100 n101, Value.slice o102 n103 n104,
    Value.slice o105 n106 n107])
    45)
    fun n109 =>
    T.loop 0 [Value.int IntKind.i64 0] fun l110 j111 =>
    T.asI IntKind.i64 (List.headD l110 (Value.tuple (Array.mk []))) fun i112 =>
    T.ite (decide (i112 < 8))
    (T.drew
    (T.req (0 ≤ i112 ∧ i112 < 8)
    (T.ldS n108 (0 + Int.toNat i112 * 1) fun o113 n114 n115 =>
    T.req (0 ≤ i112 ∧ i112 < 8)
    (T.ldS n109 (0 + Int.toNat i112 * 1) fun o116 n117 n118 =>
    T.call 27 [Value.slice o113 n114 n115, Value.slice o116 n117 n118] fun v119 =>
    T.asB v119 fun b120 =>
    T.chk []
    (T.ite (!b120) (T.chk [] (T.ret (Value.bool false)))
    (T.req (0 ≤ i112 ∧ i112 < 8)
    (T.ldS n108 (8 + Int.toNat i112 * 1) fun o121 n122 n123 =>
    T.req (0 ≤ i112 ∧ i112 < 8)
    (T.ldS n109 (8 + Int.toNat i112 * 1) fun o124 n125 n126 =>
    T.call 27 [Value.slice o121 n122 n123, Value.slice o124 n125 n126] fun v127 =>
    T.asB v127 fun b128 =>
    T.chk []
    (T.ite (!b128) (T.ret (Value.bool false))
    (T.next 0 [Value.int IntKind.i64 (IntKind.wrap IntKind.i64 (i112 + 1))]
    ([Value.pointer (some (Addr.mk n108 0 none)), Value.pointer (some (Addr.mk n109 0 none))] =
    [Value.pointer (some (Addr.mk n108 0 none)), Value.pointer (some (Addr.mk n109 0 none))] ∧ ([] : List Deferred) = [])))))))))))
    (T.ldS n108 16 fun o129 n130 n131 =>
    T.ldS n109 16 fun o132 n133 n134 =>
    T.call 13 [Value.slice o129 n130 n131, Value.slice o132 n133 n134] fun v135 =>
    T.asB v135 fun b136 =>
    T.ite b136
    (T.ldS n108 17 fun o137 n138 n139 =>
    T.ldS n109 17 fun o140 n141 n142 =>
    T.call 13 [Value.slice o137 n138 n139, Value.slice o140 n141 n142] fun v143 => T.asB v143 fun b144 => T.ret (Value.bool b144))
    (T.ret (Value.bool false)))
theorem e31 (o0 : Option Addr) (n1 n2 : Nat) (o3 : Option Addr) (n4 n5 : Nat) (o6 : Option Addr) (n7 n8 : Nat) (o9 : Option Addr) (n10 n11 : Nat) (o12 : Option Addr) (n13 n14 : Nat) (o15 : Option Addr) (n16 n17 : Nat) (o18 : Option Addr) (n19 n20 : Nat) (o21 : Option Addr) (n22 n23 : Nat) (o24 : Option Addr) (n25 n26 : Nat) (o27 : Option Addr) (n28 n29 : Nat) (o30 : Option Addr) (n31 n32 : Nat) (o33 : Option Addr) (n34 n35 : Nat) (o36 : Option Addr) (n37 n38 : Nat) (o39 : Option Addr) (n40 n41 : Nat) (o42 : Option Addr) (n43 n44 : Nat) (o45 : Option Addr) (n46 n47 : Nat) (o48 : Option Addr) (n49 n50 : Nat) (o51 : Option Addr) (n52 n53 : Nat) (o54 : Option Addr) (n55 n56 : Nat) (o57 : Option Addr) (n58 n59 : Nat) (o60 : Option Addr) (n61 n62 : Nat) (o63 : Option Addr) (n64 n65 : Nat) (o66 : Option Addr) (n67 n68 : Nat) (o69 : Option Addr) (n70 n71 : Nat) (o72 : Option Addr) (n73 n74 : Nat) (o75 : Option Addr) (n76 n77 : Nat) (o78 : Option Addr) (n79 n80 : Nat) (o81 : Option Addr) (n82 n83 : Nat) (o84 : Option Addr) (n85 n86 : Nat) (o87 : Option Addr) (n88 n89 : Nat) (o90 : Option Addr) (n91 n92 : Nat) (o93 : Option Addr) (n94 n95 : Nat) (o96 : Option Addr) (n97 n98 : Nat) (o99 : Option Addr) (n100 n101 : Nat) (o102 : Option Addr) (n103 n104 : Nat) (o105 : Option Addr) (n106 n107 : Nat) : treeOf Try.prog Try.f31 (codeOf Try.f31) (.s .n (.s (.s .n (.u (.l [(6, .int .i64)] [2, 3] (.s .n (.s .n (.s (.u (.s .n (.s (.p [0, 1, 2, 3, 4, 5, 6, 7, 8, 9, 10, 11, 12, 13, 14, 15, 16, 17, 18, 19, 20, 21]) .n))) .n)))))) .n)) [.v (.agg #[.slice o0 n1 n2, .slice o3 n4 n5, .slice o6 n7 n8, .slice o9 n10 n11, .slice o12 n13 n14, .slice o15 n16 n17, .slice o18 n19 n20, .slice o21 n22 n23, .slice o24 n25 n26, .slice o27 n28 n29, .slice o30 n31 n32, .slice o33 n34 n35, .slice o36 n37 n38, .slice o39 n40 n41, .slice o42 n43 n44, .slice o45 n46 n47, .slice o48 n49 n50, .slice o51 n52 n53]), .v (.agg #[.slice o54 n55 n56, .slice o57 n58 n59, .slice o60 n61 n62, .slice o63 n64 n65, .slice o66 n67 n68, .slice o69 n70 n71, .slice o72 n73 n74, .slice o75 n76 n77, .slice o78 n79 n80, .slice o81 n82 n83, .slice o84 n85 n86, .slice o87 n88 n89, .slice o90 n91 n92, .slice o93 n94 n95, .slice o96 n97 n98, .slice o99 n100 n101, .slice o102 n103 n104, .slice o105 n106 n107])] = (t31 o0 n1 n2 o3 n4 n5 o6 n7 n8 o9 n10 n11 o12 n13 n14 o15 n16 n17 o18 n19 n20 o21 n22 n23 o24 n25 n26 o27 n28 n29 o30 n31 n32 o33 n34 n35 o36 n37 n38 o39 n40 n41 o42 n43 n44 o45 n46 n47 o48 n49 n50 o51 n52 n53 o54 n55 n56 o57 n58 n59 o60 n61 n62 o63 n64 n65 o66 n67 n68 o69 n70 n71 o72 n73 n74 o75 n76 n77 o78 n79 n80 o81 n82 n83 o84 n85 n86 o87 n88 n89 o90 n91 n92 o93 n94 n95 o96 n97 n98 o99 n100 n101 o102 n103 n104 o105 n106 n107) := by kernel_rfl
theorem c31 (o0 : Option Addr) (n1 n2 : Nat) (o3 : Option Addr) (n4 n5 : Nat) (o6 : Option Addr) (n7 n8 : Nat) (o9 : Option Addr) (n10 n11 : Nat) (o12 : Option Addr) (n13 n14 : Nat) (o15 : Option Addr) (n16 n17 : Nat) (o18 : Option Addr) (n19 n20 : Nat) (o21 : Option Addr) (n22 n23 : Nat) (o24 : Option Addr) (n25 n26 : Nat) (o27 : Option Addr) (n28 n29 : Nat) (o30 : Option Addr) (n31 n32 : Nat) (o33 : Option Addr) (n34 n35 : Nat) (o36 : Option Addr) (n37 n38 : Nat) (o39 : Option Addr) (n40 n41 : Nat) (o42 : Option Addr) (n43 n44 : Nat) (o45 : Option Addr) (n46 n47 : Nat) (o48 : Option Addr) (n49 n50 : Nat) (o51 : Option Addr) (n52 n53 : Nat) (o54 : Option Addr) (n55 n56 : Nat) (o57 : Option Addr) (n58 n59 : Nat) (o60 : Option Addr) (n61 n62 : Nat) (o63 : Option Addr) (n64 n65 : Nat) (o66 : Option Addr) (n67 n68 : Nat) (o69 : Option Addr) (n70 n71 : Nat) (o72 : Option Addr) (n73 n74 : Nat) (o75 : Option Addr) (n76 n77 : Nat) (o78 : Option Addr) (n79 n80 : Nat) (o81 : Option Addr) (n82 n83 : Nat) (o84 : Option Addr) (n85 n86 : Nat) (o87 : Option Addr) (n88 n89 : Nat) (o90 : Option Addr) (n91 n92 : Nat) (o93 : Option Addr) (n94 n95 : Nat) (o96 : Option Addr) (n97 n98 : Nat) (o99 : Option Addr) (n100 n101 : Nat) (o102 : Option Addr) (n103 n104 : Nat) (o105 : Option Addr) (n106 n107 : Nat) {w : World} {R : Ending → World → Prop} (h : (t31 o0 n1 n2 o3 n4 n5 o6 n7 n8 o9 n10 n11 o12 n13 n14 o15 n16 n17 o18 n19 n20 o21 n22 n23 o24 n25 n26 o27 n28 n29 o30 n31 n32 o33 n34 n35 o36 n37 n38 o39 n40 n41 o42 n43 n44 o45 n46 n47 o48 n49 n50 o51 n52 n53 o54 n55 n56 o57 n58 n59 o60 n61 n62 o63 n64 n65 o66 n67 n68 o69 n70 n71 o72 n73 n74 o75 n76 n77 o78 n79 n80 o81 n82 n83 o84 n85 n86 o87 n88 n89 o90 n91 n92 o93 n94 n95 o96 n97 n98 o99 n100 n101 o102 n103 n104 o105 n106 n107).sem Try.prog R ρ0 w) : Calls Try.prog 31 #[.agg #[.slice o0 n1 n2, .slice o3 n4 n5, .slice o6 n7 n8, .slice o9 n10 n11, .slice o12 n13 n14, .slice o15 n16 n17, .slice o18 n19 n20, .slice o21 n22 n23, .slice o24 n25 n26, .slice o27 n28 n29, .slice o30 n31 n32, .slice o33 n34 n35, .slice o36 n37 n38, .slice o39 n40 n41, .slice o42 n43 n44, .slice o45 n46 n47, .slice o48 n49 n50, .slice o51 n52 n53], .agg #[.slice o54 n55 n56, .slice o57 n58 n59, .slice o60 n61 n62, .slice o63 n64 n65, .slice o66 n67 n68, .slice o69 n70 n71, .slice o72 n73 n74, .slice o75 n76 n77, .slice o78 n79 n80, .slice o81 n82 n83, .slice o84 n85 n86, .slice o87 n88 n89, .slice o90 n91 n92, .slice o93 n94 n95, .slice o96 n97 n98, .slice o99 n100 n101, .slice o102 n103 n104, .slice o105 n106 n107]] w R :=
  calls_of mixed Try.func31 rfl rfl (e31 o0 n1 n2 o3 n4 n5 o6 n7 n8 o9 n10 n11 o12 n13 n14 o15 n16 n17 o18 n19 n20 o21 n22 n23 o24 n25 n26 o27 n28 n29 o30 n31 n32 o33 n34 n35 o36 n37 n38 o39 n40 n41 o42 n43 n44 o45 n46 n47 o48 n49 n50 o51 n52 n53 o54 n55 n56 o57 n58 n59 o60 n61 n62 o63 n64 n65 o66 n67 n68 o69 n70 n71 o72 n73 n74 o75 n76 n77 o78 n79 n80 o81 n82 n83 o84 n85 n86 o87 n88 n89 o90 n91 n92 o93 n94 n95 o96 n97 n98 o99 n100 n101 o102 n103 n104 o105 n106 n107) h
def t18 (o0 : Option Addr) (n1 n2 : Nat) (o3 : Option Addr) (n4 n5 : Nat) (o6 : Option Addr) (n7 n8 : Nat) (o9 : Option Addr) (n10 n11 : Nat) (o12 : Option Addr) (n13 n14 : Nat) (o15 : Option Addr) (n16 n17 : Nat) (o18 : Option Addr) (n19 n20 : Nat) (o21 : Option Addr) (n22 n23 : Nat) (o24 : Option Addr) (n25 n26 : Nat) (o27 : Option Addr) (n28 n29 : Nat) (o30 : Option Addr) (n31 n32 : Nat) (o33 : Option Addr) (n34 n35 : Nat) (o36 : Option Addr) (n37 n38 : Nat) (o39 : Option Addr) (n40 n41 : Nat) (o42 : Option Addr) (n43 n44 : Nat) (o45 : Option Addr) (n46 n47 : Nat) (o48 : Option Addr) (n49 n50 : Nat) (o51 : Option Addr) (n52 n53 : Nat) (o54 : Option Addr) (n55 n56 : Nat) (o57 : Option Addr) (n58 n59 : Nat) (o60 : Option Addr) (n61 n62 : Nat) (o63 : Option Addr) (n64 n65 : Nat) (o66 : Option Addr) (n67 n68 : Nat) (o69 : Option Addr) (n70 n71 : Nat) (o72 : Option Addr) (n73 n74 : Nat) (o75 : Option Addr) (n76 n77 : Nat) (o78 : Option Addr) (n79 n80 : Nat) (o81 : Option Addr) (n82 n83 : Nat) (o84 : Option Addr) (n85 n86 : Nat) (o87 : Option Addr) (n88 n89 : Nat) (o90 : Option Addr) (n91 n92 : Nat) (o93 : Option Addr) (n94 n95 : Nat) (o96 : Option Addr) (n97 n98 : Nat) (o99 : Option Addr) (n100 n101 : Nat) (o102 : Option Addr) (n103 n104 : Nat) (o105 : Option Addr) (n106 n107 : Nat) : T :=
  T.new
  (Obj.cells
    (Array.mk
    [Value.slice o0 n1 n2, Value.slice o3 n4 n5, Value.slice o6 n7 n8, Value.slice o9 n10 n11, Value.slice o12 n13 n14, Value.slice o15 n16 n17,
    Value.slice o18 n19 n20, Value.slice o21 n22 n23, Value.slice o24 n25 n26, Value.slice o27 n28 n29, Value.slice o30 n31 n32, Value.slice o33 n34 n35,
    Value.slice o36 n37 n38, Value.slice o39 n40 n41, Value.slice o42 n43 n44, Value.slice o45 n46 n47, Value.slice o48 n49 n50, Value.slice o51 n52 n53])
    45)
  fun n108 =>
  T.new
    (Obj.cells
    (Array.mk
    [Value.slice o54 n55 n56, Value.slice o57 n58 n59, Value.slice o60 n61 n62, Value.slice o63 n64 n65, Value.slice o66 n67 n68, Value.slice o69 n70 n71,
    Value.slice o72 n73 n74, Value.slice o75 n76 n77, Value.slice o78 n79 n80, Value.slice o81 n82 n83, Value.slice o84 n85 n86, Value.slice o87 n88 n89,
    Value.slice o90 n91 n92, Value.slice o93 n94 n95, Value.slice o96 n97 n98, Value.slice o99 n100 n101, Value.slice o102 n103 n104,
    Value.slice o105 n106 n107])
    45)
    fun n109 =>
    T.loop 0 [Value.int IntKind.i64 0] fun l110 j111 =>
    T.asI IntKind.i64 (List.headD l110 (Value.tuple (Array.mk []))) fun i112 =>
    T.ite (decide (i112 < 8))
    (T.drew
    (T.req (0 ≤ i112 ∧ i112 < 8)
    (T.ldS n108 (0 + Int.toNat i112 * 1) fun o113 n114 n115 =>
    T.req (0 ≤ i112 ∧ i112 < 8)
    (T.ldS n109 (0 + Int.toNat i112 * 1) fun o116 n117 n118 =>
    T.call 37 [Value.slice o113 n114 n115, Value.slice o116 n117 n118] fun v119 =>
    T.asB v119 fun b120 =>
    T.chk []
    (T.ite (!b120) (T.chk [] (T.ret (Value.bool false)))
    (T.req (0 ≤ i112 ∧ i112 < 8)
    (T.ldS n108 (8 + Int.toNat i112 * 1) fun o121 n122 n123 =>
    T.req (0 ≤ i112 ∧ i112 < 8)
    (T.ldS n109 (8 + Int.toNat i112 * 1) fun o124 n125 n126 =>
    T.call 37 [Value.slice o121 n122 n123, Value.slice o124 n125 n126] fun v127 =>
    T.asB v127 fun b128 =>
    T.chk []
    (T.ite (!b128) (T.ret (Value.bool false))
    (T.next 0 [Value.int IntKind.i64 (IntKind.wrap IntKind.i64 (i112 + 1))]
    ([Value.pointer (some (Addr.mk n108 0 none)), Value.pointer (some (Addr.mk n109 0 none))] =
    [Value.pointer (some (Addr.mk n108 0 none)), Value.pointer (some (Addr.mk n109 0 none))] ∧ ([] : List Deferred) = [])))))))))))
    (T.ldS n108 16 fun o129 n130 n131 =>
    T.ldS n109 16 fun o132 n133 n134 =>
    T.call 38 [Value.slice o129 n130 n131, Value.slice o132 n133 n134] fun v135 =>
    T.asB v135 fun b136 =>
    T.ite b136
    (T.ldS n108 17 fun o137 n138 n139 =>
    T.ldS n109 17 fun o140 n141 n142 =>
    T.call 38 [Value.slice o137 n138 n139, Value.slice o140 n141 n142] fun v143 => T.asB v143 fun b144 => T.ret (Value.bool b144))
    (T.ret (Value.bool false)))
theorem e18 (o0 : Option Addr) (n1 n2 : Nat) (o3 : Option Addr) (n4 n5 : Nat) (o6 : Option Addr) (n7 n8 : Nat) (o9 : Option Addr) (n10 n11 : Nat) (o12 : Option Addr) (n13 n14 : Nat) (o15 : Option Addr) (n16 n17 : Nat) (o18 : Option Addr) (n19 n20 : Nat) (o21 : Option Addr) (n22 n23 : Nat) (o24 : Option Addr) (n25 n26 : Nat) (o27 : Option Addr) (n28 n29 : Nat) (o30 : Option Addr) (n31 n32 : Nat) (o33 : Option Addr) (n34 n35 : Nat) (o36 : Option Addr) (n37 n38 : Nat) (o39 : Option Addr) (n40 n41 : Nat) (o42 : Option Addr) (n43 n44 : Nat) (o45 : Option Addr) (n46 n47 : Nat) (o48 : Option Addr) (n49 n50 : Nat) (o51 : Option Addr) (n52 n53 : Nat) (o54 : Option Addr) (n55 n56 : Nat) (o57 : Option Addr) (n58 n59 : Nat) (o60 : Option Addr) (n61 n62 : Nat) (o63 : Option Addr) (n64 n65 : Nat) (o66 : Option Addr) (n67 n68 : Nat) (o69 : Option Addr) (n70 n71 : Nat) (o72 : Option Addr) (n73 n74 : Nat) (o75 : Option Addr) (n76 n77 : Nat) (o78 : Option Addr) (n79 n80 : Nat) (o81 : Option Addr) (n82 n83 : Nat) (o84 : Option Addr) (n85 n86 : Nat) (o87 : Option Addr) (n88 n89 : Nat) (o90 : Option Addr) (n91 n92 : Nat) (o93 : Option Addr) (n94 n95 : Nat) (o96 : Option Addr) (n97 n98 : Nat) (o99 : Option Addr) (n100 n101 : Nat) (o102 : Option Addr) (n103 n104 : Nat) (o105 : Option Addr) (n106 n107 : Nat) : treeOf Try.prog Try.f18 (codeOf Try.f18) (.s .n (.s (.s .n (.u (.l [(5, .int .i64)] [2, 3] (.s .n (.s (.u (.s (.p [0, 1, 2, 3, 4, 5, 6, 7, 8, 9, 10, 11, 12, 13, 14, 15, 16, 17, 18, 19, 20, 21]) .n)) .n))))) .n)) [.v (.agg #[.slice o0 n1 n2, .slice o3 n4 n5, .slice o6 n7 n8, .slice o9 n10 n11, .slice o12 n13 n14, .slice o15 n16 n17, .slice o18 n19 n20, .slice o21 n22 n23, .slice o24 n25 n26, .slice o27 n28 n29, .slice o30 n31 n32, .slice o33 n34 n35, .slice o36 n37 n38, .slice o39 n40 n41, .slice o42 n43 n44, .slice o45 n46 n47, .slice o48 n49 n50, .slice o51 n52 n53]), .v (.agg #[.slice o54 n55 n56, .slice o57 n58 n59, .slice o60 n61 n62, .slice o63 n64 n65, .slice o66 n67 n68, .slice o69 n70 n71, .slice o72 n73 n74, .slice o75 n76 n77, .slice o78 n79 n80, .slice o81 n82 n83, .slice o84 n85 n86, .slice o87 n88 n89, .slice o90 n91 n92, .slice o93 n94 n95, .slice o96 n97 n98, .slice o99 n100 n101, .slice o102 n103 n104, .slice o105 n106 n107])] = (t18 o0 n1 n2 o3 n4 n5 o6 n7 n8 o9 n10 n11 o12 n13 n14 o15 n16 n17 o18 n19 n20 o21 n22 n23 o24 n25 n26 o27 n28 n29 o30 n31 n32 o33 n34 n35 o36 n37 n38 o39 n40 n41 o42 n43 n44 o45 n46 n47 o48 n49 n50 o51 n52 n53 o54 n55 n56 o57 n58 n59 o60 n61 n62 o63 n64 n65 o66 n67 n68 o69 n70 n71 o72 n73 n74 o75 n76 n77 o78 n79 n80 o81 n82 n83 o84 n85 n86 o87 n88 n89 o90 n91 n92 o93 n94 n95 o96 n97 n98 o99 n100 n101 o102 n103 n104 o105 n106 n107) := by kernel_rfl
theorem c18 (o0 : Option Addr) (n1 n2 : Nat) (o3 : Option Addr) (n4 n5 : Nat) (o6 : Option Addr) (n7 n8 : Nat) (o9 : Option Addr) (n10 n11 : Nat) (o12 : Option Addr) (n13 n14 : Nat) (o15 : Option Addr) (n16 n17 : Nat) (o18 : Option Addr) (n19 n20 : Nat) (o21 : Option Addr) (n22 n23 : Nat) (o24 : Option Addr) (n25 n26 : Nat) (o27 : Option Addr) (n28 n29 : Nat) (o30 : Option Addr) (n31 n32 : Nat) (o33 : Option Addr) (n34 n35 : Nat) (o36 : Option Addr) (n37 n38 : Nat) (o39 : Option Addr) (n40 n41 : Nat) (o42 : Option Addr) (n43 n44 : Nat) (o45 : Option Addr) (n46 n47 : Nat) (o48 : Option Addr) (n49 n50 : Nat) (o51 : Option Addr) (n52 n53 : Nat) (o54 : Option Addr) (n55 n56 : Nat) (o57 : Option Addr) (n58 n59 : Nat) (o60 : Option Addr) (n61 n62 : Nat) (o63 : Option Addr) (n64 n65 : Nat) (o66 : Option Addr) (n67 n68 : Nat) (o69 : Option Addr) (n70 n71 : Nat) (o72 : Option Addr) (n73 n74 : Nat) (o75 : Option Addr) (n76 n77 : Nat) (o78 : Option Addr) (n79 n80 : Nat) (o81 : Option Addr) (n82 n83 : Nat) (o84 : Option Addr) (n85 n86 : Nat) (o87 : Option Addr) (n88 n89 : Nat) (o90 : Option Addr) (n91 n92 : Nat) (o93 : Option Addr) (n94 n95 : Nat) (o96 : Option Addr) (n97 n98 : Nat) (o99 : Option Addr) (n100 n101 : Nat) (o102 : Option Addr) (n103 n104 : Nat) (o105 : Option Addr) (n106 n107 : Nat) {w : World} {R : Ending → World → Prop} (h : (t18 o0 n1 n2 o3 n4 n5 o6 n7 n8 o9 n10 n11 o12 n13 n14 o15 n16 n17 o18 n19 n20 o21 n22 n23 o24 n25 n26 o27 n28 n29 o30 n31 n32 o33 n34 n35 o36 n37 n38 o39 n40 n41 o42 n43 n44 o45 n46 n47 o48 n49 n50 o51 n52 n53 o54 n55 n56 o57 n58 n59 o60 n61 n62 o63 n64 n65 o66 n67 n68 o69 n70 n71 o72 n73 n74 o75 n76 n77 o78 n79 n80 o81 n82 n83 o84 n85 n86 o87 n88 n89 o90 n91 n92 o93 n94 n95 o96 n97 n98 o99 n100 n101 o102 n103 n104 o105 n106 n107).sem Try.prog R ρ0 w) : Calls Try.prog 18 #[.agg #[.slice o0 n1 n2, .slice o3 n4 n5, .slice o6 n7 n8, .slice o9 n10 n11, .slice o12 n13 n14, .slice o15 n16 n17, .slice o18 n19 n20, .slice o21 n22 n23, .slice o24 n25 n26, .slice o27 n28 n29, .slice o30 n31 n32, .slice o33 n34 n35, .slice o36 n37 n38, .slice o39 n40 n41, .slice o42 n43 n44, .slice o45 n46 n47, .slice o48 n49 n50, .slice o51 n52 n53], .agg #[.slice o54 n55 n56, .slice o57 n58 n59, .slice o60 n61 n62, .slice o63 n64 n65, .slice o66 n67 n68, .slice o69 n70 n71, .slice o72 n73 n74, .slice o75 n76 n77, .slice o78 n79 n80, .slice o81 n82 n83, .slice o84 n85 n86, .slice o87 n88 n89, .slice o90 n91 n92, .slice o93 n94 n95, .slice o96 n97 n98, .slice o99 n100 n101, .slice o102 n103 n104, .slice o105 n106 n107]] w R :=
  calls_of mixed Try.func18 rfl rfl (e18 o0 n1 n2 o3 n4 n5 o6 n7 n8 o9 n10 n11 o12 n13 n14 o15 n16 n17 o18 n19 n20 o21 n22 n23 o24 n25 n26 o27 n28 n29 o30 n31 n32 o33 n34 n35 o36 n37 n38 o39 n40 n41 o42 n43 n44 o45 n46 n47 o48 n49 n50 o51 n52 n53 o54 n55 n56 o57 n58 n59 o60 n61 n62 o63 n64 n65 o66 n67 n68 o69 n70 n71 o72 n73 n74 o75 n76 n77 o78 n79 n80 o81 n82 n83 o84 n85 n86 o87 n88 n89 o90 n91 n92 o93 n94 n95 o96 n97 n98 o99 n100 n101 o102 n103 n104 o105 n106 n107) h
def t40 (o0 : Option Addr) (n1 n2 : Nat) (i3 : Int) : T :=
  T.new
  (Obj.cells
    (Array.mk
    [Value.slice none 0 0, Value.slice none 0 0, Value.slice none 0 0, Value.slice none 0 0, Value.slice none 0 0, Value.slice none 0 0, Value.slice none 0 0,
    Value.slice none 0 0])
    43)
  fun n4 =>
  T.new
    (Obj.cells
    (Array.mk
    [Value.slice none 0 0, Value.slice none 0 0, Value.slice none 0 0, Value.slice none 0 0, Value.slice none 0 0, Value.slice none 0 0,
    Value.slice none 0 0, Value.slice none 0 0])
    43)
    fun n5 =>
    T.call 53 [Value.int IntKind.i64 i3, Value.slice o0 n1 n2] fun v6 =>
    T.asS v6 fun o7 n8 n9 =>
    T.loop 0 [Value.int IntKind.i64 0] fun l10 j11 =>
    T.asI IntKind.i64 (List.headD l10 (Value.tuple (Array.mk []))) fun i12 =>
    T.ite (decide (i12 < (↑n8 : Int)))
    (T.req (0 ≤ i12 ∧ i12 < (↑n8 : Int))
    (T.sm o7 fun n13 n14 =>
    T.ldS n13 (n14 + Int.toNat i12 * 1) fun o15 n16 n17 =>
    T.req (0 ≤ i12 ∧ i12 < 8)
    (T.st n5 (0 + Int.toNat i12 * 1) (Value.slice o15 n16 n17)
    (T.next 0 [Value.int IntKind.i64 (IntKind.wrap IntKind.i64 (i12 + 1))]
    ([Value.pointer (some (Addr.mk n4 0 none)), Value.pointer (some (Addr.mk n5 0 none)), Value.slice o7 n8 n9] =
    [Value.pointer (some (Addr.mk n4 0 none)), Value.pointer (some (Addr.mk n5 0 none)), Value.slice o7 n8 n9] ∧ ([] : List Deferred) = [])))))
    (T.ldS n5 0 fun o18 n19 n20 =>
    T.ldS n5 1 fun o21 n22 n23 =>
    T.ldS n5 2 fun o24 n25 n26 =>
    T.ldS n5 3 fun o27 n28 n29 =>
    T.ldS n5 4 fun o30 n31 n32 =>
    T.ldS n5 5 fun o33 n34 n35 =>
    T.ldS n5 6 fun o36 n37 n38 =>
    T.ldS n5 7 fun o39 n40 n41 =>
    T.st n4 0 (Value.slice o18 n19 n20)
    (T.st n4 1 (Value.slice o21 n22 n23)
    (T.st n4 2 (Value.slice o24 n25 n26)
    (T.st n4 3 (Value.slice o27 n28 n29)
    (T.st n4 4 (Value.slice o30 n31 n32)
    (T.st n4 5 (Value.slice o33 n34 n35)
    (T.st n4 6 (Value.slice o36 n37 n38)
    (T.st n4 7 (Value.slice o39 n40 n41)
    (T.ldS n4 0 fun o42 n43 n44 =>
    T.ldS n4 1 fun o45 n46 n47 =>
    T.ldS n4 2 fun o48 n49 n50 =>
    T.ldS n4 3 fun o51 n52 n53 =>
    T.ldS n4 4 fun o54 n55 n56 =>
    T.ldS n4 5 fun o57 n58 n59 =>
    T.ldS n4 6 fun o60 n61 n62 =>
    T.ldS n4 7 fun o63 n64 n65 =>
    T.ret
    (Value.agg
    (Array.mk
    [Value.slice o42 n43 n44, Value.slice o45 n46 n47, Value.slice o48 n49 n50,
    Value.slice o51 n52 n53, Value.slice o54 n55 n56, Value.slice o57 n58 n59,
    Value.slice o60 n61 n62, Value.slice o63 n64 n65])))))))))))
theorem e40 (o0 : Option Addr) (n1 n2 : Nat) (i3 : Int) : treeOf Try.prog Try.f40 (codeOf Try.f40) (.s .n (.s .n (.s .n (.s (.s .n (.u (.l [(7, .int .i64)] [4, 5, 6] .n))) .n)))) [.v (.slice o0 n1 n2), .v (.int .i64 i3)] = (t40 o0 n1 n2 i3) := by kernel_rfl
theorem c40 (o0 : Option Addr) (n1 n2 : Nat) (i3 : Int) {w : World} {R : Ending → World → Prop} (h : (t40 o0 n1 n2 i3).sem Try.prog R ρ0 w) : Calls Try.prog 40 #[.slice o0 n1 n2, .int .i64 i3] w R :=
  calls_of mixed Try.func40 rfl rfl (e40 o0 n1 n2 i3) h
def t10  : T :=
  T.new (Obj.cells (Array.mk [Value.int IntKind.i32 0, Value.int IntKind.i64 0]) 50) fun n0 =>
  T.new (Obj.cells (Array.mk [Value.int IntKind.i32 0, Value.int IntKind.i64 0]) 50) fun n1 =>
    T.st n0 0 (Value.int IntKind.i32 0)
    (T.st n0 1 (Value.int IntKind.i64 1)
    (T.st n1 0 (Value.int IntKind.i32 0)
    (T.st n1 1 (Value.int IntKind.i64 2)
    (T.ldI IntKind.i32 n0 0 fun i2 =>
    T.ldI IntKind.i64 n0 1 fun i3 =>
    T.ldI IntKind.i32 n1 0 fun i4 =>
    T.ldI IntKind.i64 n1 1 fun i5 =>
    T.new (Obj.cells (Array.mk [Value.int IntKind.i32 i2, Value.int IntKind.i64 i3, Value.int IntKind.i32 i4, Value.int IntKind.i64 i5]) 50)
    fun n6 =>
    T.ldI IntKind.i32 n1 0 fun i7 =>
    T.ldI IntKind.i64 n1 1 fun i8 =>
    T.new (Obj.cells (Array.mk [Value.int IntKind.i32 i7, Value.int IntKind.i64 i8]) 50) fun n9 =>
    T.new
    (Obj.cells
    (Array.mk
    [Value.int IntKind.i64 0, Value.int IntKind.i64 0, Value.slice none 0 0, Value.slice none 0 0, Value.slice none 0 0,
    Value.slice none 0 0])
    39)
    fun n10 =>
    T.st n10 0 (Value.int IntKind.i64 0)
    (T.st n10 1 (Value.int IntKind.i64 0)
    (T.st n10 2 (Value.slice none 0 0)
    (T.st n10 3 (Value.slice none 0 0)
    (T.st n10 4 (Value.slice (some (Addr.mk n6 0 none)) 2 2)
    (T.st n10 5 (Value.slice (some (Addr.mk n9 0 none)) 1 1)
    (T.call 19
    [Value.agg
    (Array.mk
    [Value.int IntKind.i64 0, Value.int IntKind.i64 0, Value.slice none 0 0, Value.slice none 0 0,
    Value.slice none 0 0, Value.slice none 0 0]),
    Value.int IntKind.i64 4]
    fun v11 =>
    T.asA v11 fun l12 =>
    T.req (List.length l12 = 18)
    (T.asS (List.headD l12 (Value.tuple (Array.mk []))) fun o13 n14 n15 =>
    T.asS (List.headD (List.tail l12) (Value.tuple (Array.mk []))) fun o16 n17 n18 =>
    T.asS (List.headD (List.tail (List.tail l12)) (Value.tuple (Array.mk []))) fun o19 n20 n21 =>
    T.asS (List.headD (List.tail (List.tail (List.tail l12))) (Value.tuple (Array.mk []))) fun o22 n23 n24 =>
    T.asS (List.headD (List.tail (List.tail (List.tail (List.tail l12)))) (Value.tuple (Array.mk [])))
    fun o25 n26 n27 =>
    T.asS
    (List.headD (List.tail (List.tail (List.tail (List.tail (List.tail l12)))))
    (Value.tuple (Array.mk [])))
    fun o28 n29 n30 =>
    T.asS
    (List.headD (List.tail (List.tail (List.tail (List.tail (List.tail (List.tail l12))))))
    (Value.tuple (Array.mk [])))
    fun o31 n32 n33 =>
    T.asS
    (List.headD
    (List.tail (List.tail (List.tail (List.tail (List.tail (List.tail (List.tail l12)))))))
    (Value.tuple (Array.mk [])))
    fun o34 n35 n36 =>
    T.asS
    (List.headD
    (List.tail
    (List.tail (List.tail (List.tail (List.tail (List.tail (List.tail (List.tail l12))))))))
    (Value.tuple (Array.mk [])))
    fun o37 n38 n39 =>
    T.asS
    (List.headD
    (List.tail
    (List.tail
    (List.tail
    (List.tail (List.tail (List.tail (List.tail (List.tail (List.tail l12)))))))))
    (Value.tuple (Array.mk [])))
    fun o40 n41 n42 =>
    T.asS
    (List.headD
    (List.tail
    (List.tail
    (List.tail
    (List.tail
    (List.tail (List.tail (List.tail (List.tail (List.tail (List.tail l12))))))))))
    (Value.tuple (Array.mk [])))
    fun o43 n44 n45 =>
    T.asS
    (List.headD
    (List.tail
    (List.tail
    (List.tail
    (List.tail
    (List.tail
    (List.tail
    (List.tail (List.tail (List.tail (List.tail (List.tail l12)))))))))))
    (Value.tuple (Array.mk [])))
    fun o46 n47 n48 =>
    T.asS
    (List.headD
    (List.tail
    (List.tail
    (List.tail
    (List.tail
    (List.tail
    (List.tail
    (List.tail
    (List.tail (List.tail (List.tail (List.tail (List.tail l12))))))))))))
    (Value.tuple (Array.mk [])))
    fun o49 n50 n51 =>
    T.asS
    (List.headD
    (List.tail
    (List.tail
    (List.tail
    (List.tail
    (List.tail
    (List.tail
    (List.tail
    (List.tail
    (List.tail
    (List.tail (List.tail (List.tail (List.tail l12)))))))))))))
    (Value.tuple (Array.mk [])))
    fun o52 n53 n54 =>
    T.asS
    (List.headD
    (List.tail
    (List.tail
    (List.tail
    (List.tail
    (List.tail
    (List.tail
    (List.tail
    (List.tail
    (List.tail
    (List.tail
    (List.tail
    (List.tail (List.tail (List.tail l12))))))))))))))
    (Value.tuple (Array.mk [])))
    fun o55 n56 n57 =>
    T.asS
    (List.headD
    (List.tail
    (List.tail
    (List.tail
    (List.tail
    (List.tail
    (List.tail
    (List.tail
    (List.tail
    (List.tail
    (List.tail
    (List.tail
    (List.tail
    (List.tail (List.tail (List.tail l12)))))))))))))))
    (Value.tuple (Array.mk [])))
    fun o58 n59 n60 =>
    T.asS
    (List.headD
    (List.tail
    (List.tail
    (List.tail
    (List.tail
    (List.tail
    (List.tail
    (List.tail
    (List.tail
    (List.tail
    (List.tail
    (List.tail
    (List.tail
    (List.tail
    (List.tail
    (List.tail (List.tail l12))))))))))))))))
    (Value.tuple (Array.mk [])))
    fun o61 n62 n63 =>
    T.asS
    (List.headD
    (List.tail
    (List.tail
    (List.tail
    (List.tail
    (List.tail
    (List.tail
    (List.tail
    (List.tail
    (List.tail
    (List.tail
    (List.tail
    (List.tail
    (List.tail
    (List.tail
    (List.tail
    (List.tail (List.tail l12)))))))))))))))))
    (Value.tuple (Array.mk [])))
    fun o64 n65 n66 =>
    T.new
    (Obj.cells
    (Array.mk
    [Value.slice none 0 0, Value.slice none 0 0, Value.slice none 0 0,
    Value.slice none 0 0, Value.slice none 0 0, Value.slice none 0 0,
    Value.slice none 0 0, Value.slice none 0 0, Value.slice none 0 0,
    Value.slice none 0 0, Value.slice none 0 0, Value.slice none 0 0,
    Value.slice none 0 0, Value.slice none 0 0, Value.slice none 0 0,
    Value.slice none 0 0, Value.slice none 0 0, Value.slice none 0 0])
    45)
    fun n67 =>
    T.st n67 0 (Value.slice o13 n14 n15)
    (T.st n67 1 (Value.slice o16 n17 n18)
    (T.st n67 2 (Value.slice o19 n20 n21)
    (T.st n67 3 (Value.slice o22 n23 n24)
    (T.st n67 4 (Value.slice o25 n26 n27)
    (T.st n67 5 (Value.slice o28 n29 n30)
    (T.st n67 6 (Value.slice o31 n32 n33)
    (T.st n67 7 (Value.slice o34 n35 n36)
    (T.st n67 8 (Value.slice o37 n38 n39)
    (T.st n67 9 (Value.slice o40 n41 n42)
    (T.st n67 10 (Value.slice o43 n44 n45)
    (T.st n67 11 (Value.slice o46 n47 n48)
    (T.st n67 12 (Value.slice o49 n50 n51)
    (T.st n67 13 (Value.slice o52 n53 n54)
    (T.st n67 14 (Value.slice o55 n56 n57)
    (T.st n67 15 (Value.slice o58 n59 n60)
    (T.st n67 16 (Value.slice o61 n62 n63)
    (T.st n67 17 (Value.slice o64 n65 n66)
    (T.drew
    (T.ldI IntKind.i64 n10 0 fun i68 =>
    T.ldI IntKind.i64 n10 1 fun i69 =>
    T.ldS n10 2 fun o70 n71 n72 =>
    T.ldS n10 3 fun o73 n74 n75 =>
    T.ldS n10 4
    fun o76 n77 n78 =>
    T.ldS n10 5
    fun o79 n80 n81 =>
    T.ldI IntKind.i32 n0 0
    fun i82 =>
    T.ldI IntKind.i64 n0 1
    fun i83 =>
    T.ldI IntKind.i32 n1
    0 fun i84 =>
    T.ldI IntKind.i64
    n1 1 fun i85 =>
    T.both
    (T.call 22
    [Value.agg
    (Array.mk
    [Value.int
    IntKind.i64
    i68,
    Value.int
    IntKind.i64
    i69,
    Value.slice
    o70
    n71
    n72,
    Value.slice
    o73
    n74
    n75,
    Value.slice
    o76
    n77
    n78,
    Value.slice
    o79
    n80
    n81])]
    fun v86 =>
    T.asS v86
    fun o87
    n88
    n89 =>
    T.chk
    [(Addr.mk
    n1
    0
    none,
    Value.int
    IntKind.i32
    i84),
    (Addr.mk
    n1
    1
    none,
    Value.int
    IntKind.i64
    i85),
    (Addr.mk
    n0
    0
    none,
    Value.int
    IntKind.i32
    i82),
    (Addr.mk
    n0
    1
    none,
    Value.int
    IntKind.i64
    i83)]
    (T.new
    (Obj.cells
    (Array.mk
    [Value.int
    IntKind.i32
    i82,
    Value.int
    IntKind.i64
    i83,
    Value.bool
    false,
    Value.int
    IntKind.i32
    i84,
    Value.int
    IntKind.i64
    i85,
    Value.bool
    true])
    52)
    fun
    n90 =>
    T.chk
    [(Addr.mk
    n1
    0
    none,
    Value.int
    IntKind.i32
    i84),
    (Addr.mk
    n1
    1
    none,
    Value.int
    IntKind.i64
    i85),
    (Addr.mk
    n0
    0
    none,
    Value.int
    IntKind.i32
    i82),
    (Addr.mk
    n0
    1
    none,
    Value.int
    IntKind.i64
    i83)]
    (T.call
    21
    [Value.slice
    o87
    n88
    n89,
    Value.slice
    (some
    (Addr.mk
    n90
    0
    none))
    2
    2]
    fun
    v91 =>
    T.asB
    v91
    fun
    b92 =>
    T.chk
    [(Addr.mk
    n1
    0
    none,
    Value.int
    IntKind.i32
    i84),
    (Addr.mk
    n1
    1
    none,
    Value.int
    IntKind.i64
    i85),
    (Addr.mk
    n0
    0
    none,
    Value.int
    IntKind.i32
    i82),
    (Addr.mk
    n0
    1
    none,
    Value.int
    IntKind.i64
    i83)]
    (T.ite
    b92
    (T.ldS
    n67
    16
    fun
    o93
    n94
    n95 =>
    T.new
    (Obj.cells
    (Array.mk
    [Value.int
    IntKind.i64
    0])
    3)
    fun
    n96 =>
    T.chk
    [(Addr.mk
    n67
    16
    none,
    Value.slice
    o93
    n94
    n95),
    (Addr.mk
    n1
    0
    none,
    Value.int
    IntKind.i32
    i84),
    (Addr.mk
    n1
    1
    none,
    Value.int
    IntKind.i64
    i85),
    (Addr.mk
    n0
    0
    none,
    Value.int
    IntKind.i32
    i82),
    (Addr.mk
    n0
    1
    none,
    Value.int
    IntKind.i64
    i83)]
    (T.call
    13
    [Value.slice
    o93
    n94
    n95,
    Value.slice
    (some
    (Addr.mk
    n96
    0
    none))
    1
    1]
    fun
    v97 =>
    T.asB
    v97
    fun
    b98 =>
    T.chk
    [(Addr.mk
    n1
    0
    none,
    Value.int
    IntKind.i32
    i84),
    (Addr.mk
    n1
    1
    none,
    Value.int
    IntKind.i64
    i85),
    (Addr.mk
    n0
    0
    none,
    Value.int
    IntKind.i32
    i82),
    (Addr.mk
    n0
    1
    none,
    Value.int
    IntKind.i64
    i83)]
    (T.ite
    b98
    (T.ldI
    IntKind.i64
    n10
    0
    fun
    i99 =>
    T.ldI
    IntKind.i64
    n10
    1
    fun
    i100 =>
    T.ldS
    n10
    2
    fun
    o101
    n102
    n103 =>
    T.ldS
    n10
    3
    fun
    o104
    n105
    n106 =>
    T.ldS
    n10
    4
    fun
    o107
    n108
    n109 =>
    T.ldS
    n10
    5
    fun
    o110
    n111
    n112 =>
    T.ldI
    IntKind.i64
    n10
    0
    fun
    i113 =>
    T.ldI
    IntKind.i64
    n10
    1
    fun
    i114 =>
    T.ldS
    n10
    2
    fun
    o115
    n116
    n117 =>
    T.ldS
    n10
    3
    fun
    o118
    n119
    n120 =>
    T.ldS
    n10
    4
    fun
    o121
    n122
    n123 =>
    T.ldS
    n10
    5
    fun
    o124
    n125
    n126 =>
    T.ldI
    IntKind.i64
    n10
    0
    fun
    i127 =>
    T.ldI
    IntKind.i64
    n10
    1
    fun
    i128 =>
    T.ldS
    n10
    2
    fun
    o129
    n130
    n131 =>
    T.ldS
    n10
    3
    fun
    o132
    n133
    n134 =>
    T.ldS
    n10
    4
    fun
    o135
    n136
    n137 =>
    T.ldS
    n10
    5
    fun
    o138
    n139
    n140 =>
    T.both
    (T.new
    (Obj.cells
    (Array.mk
    [Value.int
    IntKind.i64
    i99,
    Value.int
    IntKind.i64
    i100,
    Value.slice
    o101
    n102
    n103,
    Value.slice
    o104
    n105
    n106,
    Value.slice
    o107
    n108
    n109,
    Value.slice
    o110
    n111
    n112,
    Value.int
    IntKind.i64
    i113,
    Value.int
    IntKind.i64
    i114,
    Value.slice
    o115
    n116
    n117,
    Value.slice
    o118
    n119
    n120,
    Value.slice
    o121
    n122
    n123,
    Value.slice
    o124
    n125
    n126,
    Value.int
    IntKind.i64
    i127,
    Value.int
    IntKind.i64
    i128,
    Value.slice
    o129
    n130
    n131,
    Value.slice
    o132
    n133
    n134,
    Value.slice
    o135
    n136
    n137,
    Value.slice
    o138
    n139
    n140])
    39)
    fun
    n141 =>
    T.chk
    [(Addr.mk
    n1
    0
    none,
    Value.int
    IntKind.i32
    i84),
    (Addr.mk
    n1
    1
    none,
    Value.int
    IntKind.i64
    i85),
    (Addr.mk
    n0
    0
    none,
    Value.int
    IntKind.i32
    i82),
    (Addr.mk
    n0
    1
    none,
    Value.int
    IntKind.i64
    i83)]
    (T.both
    (T.call
    14
    [Value.slice
    (some
    (Addr.mk
    n141
    0
    none))
    3
    3]
    fun
    v142 =>
    T.asS
    v142
    fun
    o143
    n144
    n145 =>
    T.chk
    [(Addr.mk
    n1
    0
    none,
    Value.int
    IntKind.i32
    i84),
    (Addr.mk
    n1
    1
    none,
    Value.int
    IntKind.i64
    i85),
    (Addr.mk
    n0
    0
    none,
    Value.int
    IntKind.i32
    i82),
    (Addr.mk
    n0
    1
    none,
    Value.int
    IntKind.i64
    i83)]
    (T.new
    (Obj.cells
    (Array.mk
    [Value.int
    IntKind.i64
    0,
    Value.int
    IntKind.i64
    1,
    Value.int
    IntKind.i64
    2])
    3)
    fun
    n146 =>
    T.chk
    [(Addr.mk
    n1
    0
    none,
    Value.int
    IntKind.i32
    i84),
    (Addr.mk
    n1
    1
    none,
    Value.int
    IntKind.i64
    i85),
    (Addr.mk
    n0
    0
    none,
    Value.int
    IntKind.i32
    i82),
    (Addr.mk
    n0
    1
    none,
    Value.int
    IntKind.i64
    i83)]
    (T.call
    13
    [Value.slice
    o143
    n144
    n145,
    Value.slice
    (some
    (Addr.mk
    n146
    0
    none))
    3
    3]
    fun
    v147 =>
    T.asB
    v147
    fun
    b148 =>
    T.chk
    [(Addr.mk
    n1
    0
    none,
    Value.int
    IntKind.i32
    i84),
    (Addr.mk
    n1
    1
    none,
    Value.int
    IntKind.i64
    i85),
    (Addr.mk
    n0
    0
    none,
    Value.int
    IntKind.i32
    i82),
    (Addr.mk
    n0
    1
    none,
    Value.int
    IntKind.i64
    i83)]
    (T.ret
    (Value.bool
    b148)))))
    (T.new
    (Obj.cells
    (Array.mk
    [Value.int
    IntKind.i64
    0,
    Value.int
    IntKind.i64
    1,
    Value.int
    IntKind.i64
    2])
    3)
    fun
    n149 =>
    T.chk
    [(Addr.mk
    n1
    0
    none,
    Value.int
    IntKind.i32
    i84),
    (Addr.mk
    n1
    1
    none,
    Value.int
    IntKind.i64
    i85),
    (Addr.mk
    n0
    0
    none,
    Value.int
    IntKind.i32
    i82),
    (Addr.mk
    n0
    1
    none,
    Value.int
    IntKind.i64
    i83)]
    (T.call
    14
    [Value.slice
    (some
    (Addr.mk
    n141
    0
    none))
    3
    3]
    fun
    v150 =>
    T.asS
    v150
    fun
    o151
    n152
    n153 =>
    T.chk
    [(Addr.mk
    n1
    0
    none,
    Value.int
    IntKind.i32
    i84),
    (Addr.mk
    n1
    1
    none,
    Value.int
    IntKind.i64
    i85),
    (Addr.mk
    n0
    0
    none,
    Value.int
    IntKind.i32
    i82),
    (Addr.mk
    n0
    1
    none,
    Value.int
    IntKind.i64
    i83)]
    (T.call
    13
    [Value.slice
    o151
    n152
    n153,
    Value.slice
    (some
    (Addr.mk
    n149
    0
    none))
    3
    3]
    fun
    v154 =>
    T.asB
    v154
    fun
    b155 =>
    T.chk
    [(Addr.mk
    n1
    0
    none,
    Value.int
    IntKind.i32
    i84),
    (Addr.mk
    n1
    1
    none,
    Value.int
    IntKind.i64
    i85),
    (Addr.mk
    n0
    0
    none,
    Value.int
    IntKind.i32
    i82),
    (Addr.mk
    n0
    1
    none,
    Value.int
    IntKind.i64
    i83)]
    (T.ret
    (Value.bool
    b155)))))))
    (T.new
    (Obj.cells
    (Array.mk
    [Value.int
    IntKind.i64
    0,
    Value.int
    IntKind.i64
    1,
    Value.int
    IntKind.i64
    2])
    3)
    fun
    n156 =>
    T.chk
    [(Addr.mk
    n10
    0
    none,
    Value.int
    IntKind.i64
    i127),
    (Addr.mk
    n10
    1
    none,
    Value.int
    IntKind.i64
    i128),
    (Addr.mk
    n10
    2
    none,
    Value.slice
    o129
    n130
    n131),
    (Addr.mk
    n10
    3
    none,
    Value.slice
    o132
    n133
    n134),
    (Addr.mk
    n10
    4
    none,
    Value.slice
    o135
    n136
    n137),
    (Addr.mk
    n10
    5
    none,
    Value.slice
    o138
    n139
    n140),
    (Addr.mk
    n10
    0
    none,
    Value.int
    IntKind.i64
    i113),
    (Addr.mk
    n10
    1
    none,
    Value.int
    IntKind.i64
    i114),
    (Addr.mk
    n10
    2
    none,
    Value.slice
    o115
    n116
    n117),
    (Addr.mk
    n10
    3
    none,
    Value.slice
    o118
    n119
    n120),
    (Addr.mk
    n10
    4
    none,
    Value.slice
    o121
    n122
    n123),
    (Addr.mk
    n10
    5
    none,
    Value.slice
    o124
    n125
    n126),
    (Addr.mk
    n10
    0
    none,
    Value.int
    IntKind.i64
    i99),
    (Addr.mk
    n10
    1
    none,
    Value.int
    IntKind.i64
    i100),
    (Addr.mk
    n10
    2
    none,
    Value.slice
    o101
    n102
    n103),
    (Addr.mk
    n10
    3
    none,
    Value.slice
    o104
    n105
    n106),
    (Addr.mk
    n10
    4
    none,
    Value.slice
    o107
    n108
    n109),
    (Addr.mk
    n10
    5
    none,
    Value.slice
    o110
    n111
    n112),
    (Addr.mk
    n1
    0
    none,
    Value.int
    IntKind.i32
    i84),
    (Addr.mk
    n1
    1
    none,
    Value.int
    IntKind.i64
    i85),
    (Addr.mk
    n0
    0
    none,
    Value.int
    IntKind.i32
    i82),
    (Addr.mk
    n0
    1
    none,
    Value.int
    IntKind.i64
    i83)]
    (T.new
    (Obj.cells
    (Array.mk
    [Value.int
    IntKind.i64
    i99,
    Value.int
    IntKind.i64
    i100,
    Value.slice
    o101
    n102
    n103,
    Value.slice
    o104
    n105
    n106,
    Value.slice
    o107
    n108
    n109,
    Value.slice
    o110
    n111
    n112,
    Value.int
    IntKind.i64
    i113,
    Value.int
    IntKind.i64
    i114,
    Value.slice
    o115
    n116
    n117,
    Value.slice
    o118
    n119
    n120,
    Value.slice
    o121
    n122
    n123,
    Value.slice
    o124
    n125
    n126,
    Value.int
    IntKind.i64
    i127,
    Value.int
    IntKind.i64
    i128,
    Value.slice
    o129
    n130
    n131,
    Value.slice
    o132
    n133
    n134,
    Value.slice
    o135
    n136
    n137,
    Value.slice
    o138
    n139
    n140])
    39)
    fun
    n157 =>
    T.chk
    [(Addr.mk
    n1
    0
    none,
    Value.int
    IntKind.i32
    i84),
    (Addr.mk
    n1
    1
    none,
    Value.int
    IntKind.i64
    i85),
    (Addr.mk
    n0
    0
    none,
    Value.int
    IntKind.i32
    i82),
    (Addr.mk
    n0
    1
    none,
    Value.int
    IntKind.i64
    i83)]
    (T.call
    14
    [Value.slice
    (some
    (Addr.mk
    n157
    0
    none))
    3
    3]
    fun
    v158 =>
    T.asS
    v158
    fun
    o159
    n160
    n161 =>
    T.chk
    [(Addr.mk
    n1
    0
    none,
    Value.int
    IntKind.i32
    i84),
    (Addr.mk
    n1
    1
    none,
    Value.int
    IntKind.i64
    i85),
    (Addr.mk
    n0
    0
    none,
    Value.int
    IntKind.i32
    i82),
    (Addr.mk
    n0
    1
    none,
    Value.int
    IntKind.i64
    i83)]
    (T.call
    13
    [Value.slice
    o159
    n160
    n161,
    Value.slice
    (some
    (Addr.mk
    n156
    0
    none))
    3
    3]
    fun
    v162 =>
    T.asB
    v162
    fun
    b163 =>
    T.chk
    [(Addr.mk
    n1
    0
    none,
    Value.int
    IntKind.i32
    i84),
    (Addr.mk
    n1
    1
    none,
    Value.int
    IntKind.i64
    i85),
    (Addr.mk
    n0
    0
    none,
    Value.int
    IntKind.i32
    i82),
    (Addr.mk
    n0
    1
    none,
    Value.int
    IntKind.i64
    i83)]
    (T.ret
    (Value.bool
    b163)))))))
    (T.both
    (T.chk
    [(Addr.mk
    n1
    0
    none,
    Value.int
    IntKind.i32
    i84),
    (Addr.mk
    n1
    1
    none,
    Value.int
    IntKind.i64
    i85),
    (Addr.mk
    n0
    0
    none,
    Value.int
    IntKind.i32
    i82),
    (Addr.mk
    n0
    1
    none,
    Value.int
    IntKind.i64
    i83)]
    (T.both
    (T.chk
    [(Addr.mk
    n1
    0
    none,
    Value.int
    IntKind.i32
    i84),
    (Addr.mk
    n1
    1
    none,
    Value.int
    IntKind.i64
    i85),
    (Addr.mk
    n0
    0
    none,
    Value.int
    IntKind.i32
    i82),
    (Addr.mk
    n0
    1
    none,
    Value.int
    IntKind.i64
    i83)]
    (T.chk
    [(Addr.mk
    n1
    0
    none,
    Value.int
    IntKind.i32
    i84),
    (Addr.mk
    n1
    1
    none,
    Value.int
    IntKind.i64
    i85),
    (Addr.mk
    n0
    0
    none,
    Value.int
    IntKind.i32
    i82),
    (Addr.mk
    n0
    1
    none,
    Value.int
    IntKind.i64
    i83)]
    (T.chk
    [(Addr.mk
    n1
    0
    none,
    Value.int
    IntKind.i32
    i84),
    (Addr.mk
    n1
    1
    none,
    Value.int
    IntKind.i64
    i85),
    (Addr.mk
    n0
    0
    none,
    Value.int
    IntKind.i32
    i82),
    (Addr.mk
    n0
    1
    none,
    Value.int
    IntKind.i64
    i83)]
    (T.ret
    (Value.bool
    false)))))
    (T.chk
    [(Addr.mk
    n1
    0
    none,
    Value.int
    IntKind.i32
    i84),
    (Addr.mk
    n1
    1
    none,
    Value.int
    IntKind.i64
    i85),
    (Addr.mk
    n0
    0
    none,
    Value.int
    IntKind.i32
    i82),
    (Addr.mk
    n0
    1
    none,
    Value.int
    IntKind.i64
    i83)]
    (T.chk
    [(Addr.mk
    n1
    0
    none,
    Value.int
    IntKind.i32
    i84),
    (Addr.mk
    n1
    1
    none,
    Value.int
    IntKind.i64
    i85),
    (Addr.mk
    n0
    0
    none,
    Value.int
    IntKind.i32
    i82),
    (Addr.mk
    n0
    1
    none,
    Value.int
    IntKind.i64
    i83)]
    (T.chk
    [(Addr.mk
    n1
    0
    none,
    Value.int
    IntKind.i32
    i84),
    (Addr.mk
    n1
    1
    none,
    Value.int
    IntKind.i64
    i85),
    (Addr.mk
    n0
    0
    none,
    Value.int
    IntKind.i32
    i82),
    (Addr.mk
    n0
    1
    none,
    Value.int
    IntKind.i64
    i83)]
    (T.ret
    (Value.bool
    false)))))))
    (T.chk
    [(Addr.mk
    n1
    0
    none,
    Value.int
    IntKind.i32
    i84),
    (Addr.mk
    n1
    1
    none,
    Value.int
    IntKind.i64
    i85),
    (Addr.mk
    n0
    0
    none,
    Value.int
    IntKind.i32
    i82),
    (Addr.mk
    n0
    1
    none,
    Value.int
    IntKind.i64
    i83)]
    (T.chk
    [(Addr.mk
    n1
    0
    none,
    Value.int
    IntKind.i32
    i84),
    (Addr.mk
    n1
    1
    none,
    Value.int
    IntKind.i64
    i85),
    (Addr.mk
    n0
    0
    none,
    Value.int
    IntKind.i32
    i82),
    (Addr.mk
    n0
    1
    none,
    Value.int
    IntKind.i64
    i83)]
    (T.chk
    [(Addr.mk
    n1
    0
    none,
    Value.int
    IntKind.i32
    i84),
    (Addr.mk
    n1
    1
    none,
    Value.int
    IntKind.i64
    i85),
    (Addr.mk
    n0
    0
    none,
    Value.int
    IntKind.i32
    i82),
    (Addr.mk
    n0
    1
    none,
    Value.int
    IntKind.i64
    i83)]
    (T.chk
    [(Addr.mk
    n1
    0
    none,
    Value.int
    IntKind.i32
    i84),
    (Addr.mk
    n1
    1
    none,
    Value.int
    IntKind.i64
    i85),
    (Addr.mk
    n0
    0
    none,
    Value.int
    IntKind.i32
    i82),
    (Addr.mk
    n0
    1
    none,
    Value.int
    IntKind.i64
    i83)]
    (T.ret
    (Value.bool
    false))))))))))
    (T.chk
    [(Addr.mk
    n1
    0
    none,
    Value.int
    IntKind.i32
    i84),
    (Addr.mk
    n1
    1
    none,
    Value.int
    IntKind.i64
    i85),
    (Addr.mk
    n0
    0
    none,
    Value.int
    IntKind.i32
    i82),
    (Addr.mk
    n0
    1
    none,
    Value.int
    IntKind.i64
    i83)]
    (T.chk
    [(Addr.mk
    n1
    0
    none,
    Value.int
    IntKind.i32
    i84),
    (Addr.mk
    n1
    1
    none,
    Value.int
    IntKind.i64
    i85),
    (Addr.mk
    n0
    0
    none,
    Value.int
    IntKind.i32
    i82),
    (Addr.mk
    n0
    1
    none,
    Value.int
    IntKind.i64
    i83)]
    (T.both
    (T.chk
    [(Addr.mk
    n1
    0
    none,
    Value.int
    IntKind.i32
    i84),
    (Addr.mk
    n1
    1
    none,
    Value.int
    IntKind.i64
    i85),
    (Addr.mk
    n0
    0
    none,
    Value.int
    IntKind.i32
    i82),
    (Addr.mk
    n0
    1
    none,
    Value.int
    IntKind.i64
    i83)]
    (T.both
    (T.chk
    [(Addr.mk
    n1
    0
    none,
    Value.int
    IntKind.i32
    i84),
    (Addr.mk
    n1
    1
    none,
    Value.int
    IntKind.i64
    i85),
    (Addr.mk
    n0
    0
    none,
    Value.int
    IntKind.i32
    i82),
    (Addr.mk
    n0
    1
    none,
    Value.int
    IntKind.i64
    i83)]
    (T.chk
    [(Addr.mk
    n1
    0
    none,
    Value.int
    IntKind.i32
    i84),
    (Addr.mk
    n1
    1
    none,
    Value.int
    IntKind.i64
    i85),
    (Addr.mk
    n0
    0
    none,
    Value.int
    IntKind.i32
    i82),
    (Addr.mk
    n0
    1
    none,
    Value.int
    IntKind.i64
    i83)]
    (T.chk
    [(Addr.mk
    n1
    0
    none,
    Value.int
    IntKind.i32
    i84),
    (Addr.mk
    n1
    1
    none,
    Value.int
    IntKind.i64
    i85),
    (Addr.mk
    n0
    0
    none,
    Value.int
    IntKind.i32
    i82),
    (Addr.mk
    n0
    1
    none,
    Value.int
    IntKind.i64
    i83)]
    (T.ret
    (Value.bool
    false)))))
    (T.chk
    [(Addr.mk
    n1
    0
    none,
    Value.int
    IntKind.i32
    i84),
    (Addr.mk
    n1
    1
    none,
    Value.int
    IntKind.i64
    i85),
    (Addr.mk
    n0
    0
    none,
    Value.int
    IntKind.i32
    i82),
    (Addr.mk
    n0
    1
    none,
    Value.int
    IntKind.i64
    i83)]
    (T.chk
    [(Addr.mk
    n1
    0
    none,
    Value.int
    IntKind.i32
    i84),
    (Addr.mk
    n1
    1
    none,
    Value.int
    IntKind.i64
    i85),
    (Addr.mk
    n0
    0
    none,
    Value.int
    IntKind.i32
    i82),
    (Addr.mk
    n0
    1
    none,
    Value.int
    IntKind.i64
    i83)]
    (T.chk
    [(Addr.mk
    n1
    0
    none,
    Value.int
    IntKind.i32
    i84),
    (Addr.mk
    n1
    1
    none,
    Value.int
    IntKind.i64
    i85),
    (Addr.mk
    n0
    0
    none,
    Value.int
    IntKind.i32
    i82),
    (Addr.mk
    n0
    1
    none,
    Value.int
    IntKind.i64
    i83)]
    (T.ret
    (Value.bool
    false)))))))
    (T.chk
    [(Addr.mk
    n1
    0
    none,
    Value.int
    IntKind.i32
    i84),
    (Addr.mk
    n1
    1
    none,
    Value.int
    IntKind.i64
    i85),
    (Addr.mk
    n0
    0
    none,
    Value.int
    IntKind.i32
    i82),
    (Addr.mk
    n0
    1
    none,
    Value.int
    IntKind.i64
    i83)]
    (T.chk
    [(Addr.mk
    n1
    0
    none,
    Value.int
    IntKind.i32
    i84),
    (Addr.mk
    n1
    1
    none,
    Value.int
    IntKind.i64
    i85),
    (Addr.mk
    n0
    0
    none,
    Value.int
    IntKind.i32
    i82),
    (Addr.mk
    n0
    1
    none,
    Value.int
    IntKind.i64
    i83)]
    (T.chk
    [(Addr.mk
    n1
    0
    none,
    Value.int
    IntKind.i32
    i84),
    (Addr.mk
    n1
    1
    none,
    Value.int
    IntKind.i64
    i85),
    (Addr.mk
    n0
    0
    none,
    Value.int
    IntKind.i32
    i82),
    (Addr.mk
    n0
    1
    none,
    Value.int
    IntKind.i64
    i83)]
    (T.chk
    [(Addr.mk
    n1
    0
    none,
    Value.int
    IntKind.i32
    i84),
    (Addr.mk
    n1
    1
    none,
    Value.int
    IntKind.i64
    i85),
    (Addr.mk
    n0
    0
    none,
    Value.int
    IntKind.i32
    i82),
    (Addr.mk
    n0
    1
    none,
    Value.int
    IntKind.i64
    i83)]
    (T.ret
    (Value.bool
    false)))))))))))))
    (T.new
    (Obj.cells
    (Array.mk
    [Value.int
    IntKind.i32
    i82,
    Value.int
    IntKind.i64
    i83,
    Value.bool
    false,
    Value.int
    IntKind.i32
    i84,
    Value.int
    IntKind.i64
    i85,
    Value.bool
    true])
    52)
    fun n164 =>
    T.chk
    [(Addr.mk
    n1 0
    none,
    Value.int
    IntKind.i32
    i84),
    (Addr.mk
    n1 1
    none,
    Value.int
    IntKind.i64
    i85),
    (Addr.mk
    n0 0
    none,
    Value.int
    IntKind.i32
    i82),
    (Addr.mk
    n0 1
    none,
    Value.int
    IntKind.i64
    i83),
    (Addr.mk
    n10
    0
    none,
    Value.int
    IntKind.i64
    i68),
    (Addr.mk
    n10
    1
    none,
    Value.int
    IntKind.i64
    i69),
    (Addr.mk
    n10
    2
    none,
    Value.slice
    o70
    n71
    n72),
    (Addr.mk
    n10
    3
    none,
    Value.slice
    o73
    n74
    n75),
    (Addr.mk
    n10
    4
    none,
    Value.slice
    o76
    n77
    n78),
    (Addr.mk
    n10
    5
    none,
    Value.slice
    o79
    n80
    n81)]
    (T.call 22
    [Value.agg
    (Array.mk
    [Value.int
    IntKind.i64
    i68,
    Value.int
    IntKind.i64
    i69,
    Value.slice
    o70
    n71
    n72,
    Value.slice
    o73
    n74
    n75,
    Value.slice
    o76
    n77
    n78,
    Value.slice
    o79
    n80
    n81])]
    fun
    v165 =>
    T.asS
    v165
    fun
    o166
    n167
    n168 =>
    T.chk
    [(Addr.mk
    n1
    0
    none,
    Value.int
    IntKind.i32
    i84),
    (Addr.mk
    n1
    1
    none,
    Value.int
    IntKind.i64
    i85),
    (Addr.mk
    n0
    0
    none,
    Value.int
    IntKind.i32
    i82),
    (Addr.mk
    n0
    1
    none,
    Value.int
    IntKind.i64
    i83)]
    (T.call
    21
    [Value.slice
    o166
    n167
    n168,
    Value.slice
    (some
    (Addr.mk
    n164
    0
    none))
    2
    2]
    fun
    v169 =>
    T.asB
    v169
    fun
    b170 =>
    T.chk
    [(Addr.mk
    n1
    0
    none,
    Value.int
    IntKind.i32
    i84),
    (Addr.mk
    n1
    1
    none,
    Value.int
    IntKind.i64
    i85),
    (Addr.mk
    n0
    0
    none,
    Value.int
    IntKind.i32
    i82),
    (Addr.mk
    n0
    1
    none,
    Value.int
    IntKind.i64
    i83)]
    (T.ite
    b170
    (T.ldS
    n67
    16
    fun
    o171
    n172
    n173 =>
    T.new
    (Obj.cells
    (Array.mk
    [Value.int
    IntKind.i64
    0])
    3)
    fun
    n174 =>
    T.chk
    [(Addr.mk
    n67
    16
    none,
    Value.slice
    o171
    n172
    n173),
    (Addr.mk
    n1
    0
    none,
    Value.int
    IntKind.i32
    i84),
    (Addr.mk
    n1
    1
    none,
    Value.int
    IntKind.i64
    i85),
    (Addr.mk
    n0
    0
    none,
    Value.int
    IntKind.i32
    i82),
    (Addr.mk
    n0
    1
    none,
    Value.int
    IntKind.i64
    i83)]
    (T.call
    13
    [Value.slice
    o171
    n172
    n173,
    Value.slice
    (some
    (Addr.mk
    n174
    0
    none))
    1
    1]
    fun
    v175 =>
    T.asB
    v175
    fun
    b176 =>
    T.chk
    [(Addr.mk
    n1
    0
    none,
    Value.int
    IntKind.i32
    i84),
    (Addr.mk
    n1
    1
    none,
    Value.int
    IntKind.i64
    i85),
    (Addr.mk
    n0
    0
    none,
    Value.int
    IntKind.i32
    i82),
    (Addr.mk
    n0
    1
    none,
    Value.int
    IntKind.i64
    i83)]
    (T.ite
    b176
    (T.ldI
    IntKind.i64
    n10
    0
    fun
    i177 =>
    T.ldI
    IntKind.i64
    n10
    1
    fun
    i178 =>
    T.ldS
    n10
    2
    fun
    o179
    n180
    n181 =>
    T.ldS
    n10
    3
    fun
    o182
    n183
    n184 =>
    T.ldS
    n10
    4
    fun
    o185
    n186
    n187 =>
    T.ldS
    n10
    5
    fun
    o188
    n189
    n190 =>
    T.ldI
    IntKind.i64
    n10
    0
    fun
    i191 =>
    T.ldI
    IntKind.i64
    n10
    1
    fun
    i192 =>
    T.ldS
    n10
    2
    fun
    o193
    n194
    n195 =>
    T.ldS
    n10
    3
    fun
    o196
    n197
    n198 =>
    T.ldS
    n10
    4
    fun
    o199
    n200
    n201 =>
    T.ldS
    n10
    5
    fun
    o202
    n203
    n204 =>
    T.ldI
    IntKind.i64
    n10
    0
    fun
    i205 =>
    T.ldI
    IntKind.i64
    n10
    1
    fun
    i206 =>
    T.ldS
    n10
    2
    fun
    o207
    n208
    n209 =>
    T.ldS
    n10
    3
    fun
    o210
    n211
    n212 =>
    T.ldS
    n10
    4
    fun
    o213
    n214
    n215 =>
    T.ldS
    n10
    5
    fun
    o216
    n217
    n218 =>
    T.both
    (T.new
    (Obj.cells
    (Array.mk
    [Value.int
    IntKind.i64
    i177,
    Value.int
    IntKind.i64
    i178,
    Value.slice
    o179
    n180
    n181,
    Value.slice
    o182
    n183
    n184,
    Value.slice
    o185
    n186
    n187,
    Value.slice
    o188
    n189
    n190,
    Value.int
    IntKind.i64
    i191,
    Value.int
    IntKind.i64
    i192,
    Value.slice
    o193
    n194
    n195,
    Value.slice
    o196
    n197
    n198,
    Value.slice
    o199
    n200
    n201,
    Value.slice
    o202
    n203
    n204,
    Value.int
    IntKind.i64
    i205,
    Value.int
    IntKind.i64
    i206,
    Value.slice
    o207
    n208
    n209,
    Value.slice
    o210
    n211
    n212,
    Value.slice
    o213
    n214
    n215,
    Value.slice
    o216
    n217
    n218])
    39)
    fun
    n219 =>
    T.chk
    [(Addr.mk
    n1
    0
    none,
    Value.int
    IntKind.i32
    i84),
    (Addr.mk
    n1
    1
    none,
    Value.int
    IntKind.i64
    i85),
    (Addr.mk
    n0
    0
    none,
    Value.int
    IntKind.i32
    i82),
    (Addr.mk
    n0
    1
    none,
    Value.int
    IntKind.i64
    i83)]
    (T.both
    (T.call
    14
    [Value.slice
    (some
    (Addr.mk
    n219
    0
    none))
    3
    3]
    fun
    v220 =>
    T.asS
    v220
    fun
    o221
    n222
    n223 =>
    T.chk
    [(Addr.mk
    n1
    0
    none,
    Value.int
    IntKind.i32
    i84),
    (Addr.mk
    n1
    1
    none,
    Value.int
    IntKind.i64
    i85),
    (Addr.mk
    n0
    0
    none,
    Value.int
    IntKind.i32
    i82),
    (Addr.mk
    n0
    1
    none,
    Value.int
    IntKind.i64
    i83)]
    (T.new
    (Obj.cells
    (Array.mk
    [Value.int
    IntKind.i64
    0,
    Value.int
    IntKind.i64
    1,
    Value.int
    IntKind.i64
    2])
    3)
    fun
    n224 =>
    T.chk
    [(Addr.mk
    n1
    0
    none,
    Value.int
    IntKind.i32
    i84),
    (Addr.mk
    n1
    1
    none,
    Value.int
    IntKind.i64
    i85),
    (Addr.mk
    n0
    0
    none,
    Value.int
    IntKind.i32
    i82),
    (Addr.mk
    n0
    1
    none,
    Value.int
    IntKind.i64
    i83)]
    (T.call
    13
    [Value.slice
    o221
    n222
    n223,
    Value.slice
    (some
    (Addr.mk
    n224
    0
    none))
    3
    3]
    fun
    v225 =>
    T.asB
    v225
    fun
    b226 =>
    T.chk
    [(Addr.mk
    n1
    0
    none,
    Value.int
    IntKind.i32
    i84),
    (Addr.mk
    n1
    1
    none,
    Value.int
    IntKind.i64
    i85),
    (Addr.mk
    n0
    0
    none,
    Value.int
    IntKind.i32
    i82),
    (Addr.mk
    n0
    1
    none,
    Value.int
    IntKind.i64
    i83)]
    (T.ret
    (Value.bool
    b226)))))
    (T.new
    (Obj.cells
    (Array.mk
    [Value.int
    IntKind.i64
    0,
    Value.int
    IntKind.i64
    1,
    Value.int
    IntKind.i64
    2])
    3)
    fun
    n227 =>
    T.chk
    [(Addr.mk
    n1
    0
    none,
    Value.int
    IntKind.i32
    i84),
    (Addr.mk
    n1
    1
    none,
    Value.int
    IntKind.i64
    i85),
    (Addr.mk
    n0
    0
    none,
    Value.int
    IntKind.i32
    i82),
    (Addr.mk
    n0
    1
    none,
    Value.int
    IntKind.i64
    i83)]
    (T.call
    14
    [Value.slice
    (some
    (Addr.mk
    n219
    0
    none))
    3
    3]
    fun
    v228 =>
    T.asS
    v228
    fun
    o229
    n230
    n231 =>
    T.chk
    [(Addr.mk
    n1
    0
    none,
    Value.int
    IntKind.i32
    i84),
    (Addr.mk
    n1
    1
    none,
    Value.int
    IntKind.i64
    i85),
    (Addr.mk
    n0
    0
    none,
    Value.int
    IntKind.i32
    i82),
    (Addr.mk
    n0
    1
    none,
    Value.int
    IntKind.i64
    i83)]
    (T.call
    13
    [Value.slice
    o229
    n230
    n231,
    Value.slice
    (some
    (Addr.mk
    n227
    0
    none))
    3
    3]
    fun
    v232 =>
    T.asB
    v232
    fun
    b233 =>
    T.chk
    [(Addr.mk
    n1
    0
    none,
    Value.int
    IntKind.i32
    i84),
    (Addr.mk
    n1
    1
    none,
    Value.int
    IntKind.i64
    i85),
    (Addr.mk
    n0
    0
    none,
    Value.int
    IntKind.i32
    i82),
    (Addr.mk
    n0
    1
    none,
    Value.int
    IntKind.i64
    i83)]
    (T.ret
    (Value.bool
    b233)))))))
    (T.new
    (Obj.cells
    (Array.mk
    [Value.int
    IntKind.i64
    0,
    Value.int
    IntKind.i64
    1,
    Value.int
    IntKind.i64
    2])
    3)
    fun
    n234 =>
    T.chk
    [(Addr.mk
    n10
    0
    none,
    Value.int
    IntKind.i64
    i205),
    (Addr.mk
    n10
    1
    none,
    Value.int
    IntKind.i64
    i206),
    (Addr.mk
    n10
    2
    none,
    Value.slice
    o207
    n208
    n209),
    (Addr.mk
    n10
    3
    none,
    Value.slice
    o210
    n211
    n212),
    (Addr.mk
    n10
    4
    none,
    Value.slice
    o213
    n214
    n215),
    (Addr.mk
    n10
    5
    none,
    Value.slice
    o216
    n217
    n218),
    (Addr.mk
    n10
    0
    none,
    Value.int
    IntKind.i64
    i191),
    (Addr.mk
    n10
    1
    none,
    Value.int
    IntKind.i64
    i192),
    (Addr.mk
    n10
    2
    none,
    Value.slice
    o193
    n194
    n195),
    (Addr.mk
    n10
    3
    none,
    Value.slice
    o196
    n197
    n198),
    (Addr.mk
    n10
    4
    none,
    Value.slice
    o199
    n200
    n201),
    (Addr.mk
    n10
    5
    none,
    Value.slice
    o202
    n203
    n204),
    (Addr.mk
    n10
    0
    none,
    Value.int
    IntKind.i64
    i177),
    (Addr.mk
    n10
    1
    none,
    Value.int
    IntKind.i64
    i178),
    (Addr.mk
    n10
    2
    none,
    Value.slice
    o179
    n180
    n181),
    (Addr.mk
    n10
    3
    none,
    Value.slice
    o182
    n183
    n184),
    (Addr.mk
    n10
    4
    none,
    Value.slice
    o185
    n186
    n187),
    (Addr.mk
    n10
    5
    none,
    Value.slice
    o188
    n189
    n190),
    (Addr.mk
    n1
    0
    none,
    Value.int
    IntKind.i32
    i84),
    (Addr.mk
    n1
    1
    none,
    Value.int
    IntKind.i64
    i85),
    (Addr.mk
    n0
    0
    none,
    Value.int
    IntKind.i32
    i82),
    (Addr.mk
    n0
    1
    none,
    Value.int
    IntKind.i64
    i83)]
    (T.new
    (Obj.cells
    (Array.mk
    [Value.int
    IntKind.i64
    i177,
    Value.int
    IntKind.i64
    i178,
    Value.slice
    o179
    n180
    n181,
    Value.slice
    o182
    n183
    n184,
    Value.slice
    o185
    n186
    n187,
    Value.slice
    o188
    n189
    n190,
    Value.int
    IntKind.i64
    i191,
    Value.int
    IntKind.i64
    i192,
    Value.slice
    o193
    n194
    n195,
    Value.slice
    o196
    n197
    n198,
    Value.slice
    o199
    n200
    n201,
    Value.slice
    o202
    n203
    n204,
    Value.int
    IntKind.i64
    i205,
    Value.int
    IntKind.i64
    i206,
    Value.slice
    o207
    n208
    n209,
    Value.slice
    o210
    n211
    n212,
    Value.slice
    o213
    n214
    n215,
    Value.slice
    o216
    n217
    n218])
    39)
    fun
    n235 =>
    T.chk
    [(Addr.mk
    n1
    0
    none,
    Value.int
    IntKind.i32
    i84),
    (Addr.mk
    n1
    1
    none,
    Value.int
    IntKind.i64
    i85),
    (Addr.mk
    n0
    0
    none,
    Value.int
    IntKind.i32
    i82),
    (Addr.mk
    n0
    1
    none,
    Value.int
    IntKind.i64
    i83)]
    (T.call
    14
    [Value.slice
    (some
    (Addr.mk
    n235
    0
    none))
    3
    3]
    fun
    v236 =>
    T.asS
    v236
    fun
    o237
    n238
    n239 =>
    T.chk
    [(Addr.mk
    n1
    0
    none,
    Value.int
    IntKind.i32
    i84),
    (Addr.mk
    n1
    1
    none,
    Value.int
    IntKind.i64
    i85),
    (Addr.mk
    n0
    0
    none,
    Value.int
    IntKind.i32
    i82),
    (Addr.mk
    n0
    1
    none,
    Value.int
    IntKind.i64
    i83)]
    (T.call
    13
    [Value.slice
    o237
    n238
    n239,
    Value.slice
    (some
    (Addr.mk
    n234
    0
    none))
    3
    3]
    fun
    v240 =>
    T.asB
    v240
    fun
    b241 =>
    T.chk
    [(Addr.mk
    n1
    0
    none,
    Value.int
    IntKind.i32
    i84),
    (Addr.mk
    n1
    1
    none,
    Value.int
    IntKind.i64
    i85),
    (Addr.mk
    n0
    0
    none,
    Value.int
    IntKind.i32
    i82),
    (Addr.mk
    n0
    1
    none,
    Value.int
    IntKind.i64
    i83)]
    (T.ret
    (Value.bool
    b241)))))))
    (T.both
    (T.chk
    [(Addr.mk
    n1
    0
    none,
    Value.int
    IntKind.i32
    i84),
    (Addr.mk
    n1
    1
    none,
    Value.int
    IntKind.i64
    i85),
    (Addr.mk
    n0
    0
    none,
    Value.int
    IntKind.i32
    i82),
    (Addr.mk
    n0
    1
    none,
    Value.int
    IntKind.i64
    i83)]
    (T.both
    (T.chk
    [(Addr.mk
    n1
    0
    none,
    Value.int
    IntKind.i32
    i84),
    (Addr.mk
    n1
    1
    none,
    Value.int
    IntKind.i64
    i85),
    (Addr.mk
    n0
    0
    none,
    Value.int
    IntKind.i32
    i82),
    (Addr.mk
    n0
    1
    none,
    Value.int
    IntKind.i64
    i83)]
    (T.chk
    [(Addr.mk
    n1
    0
    none,
    Value.int
    IntKind.i32
    i84),
    (Addr.mk
    n1
    1
    none,
    Value.int
    IntKind.i64
    i85),
    (Addr.mk
    n0
    0
    none,
    Value.int
    IntKind.i32
    i82),
    (Addr.mk
    n0
    1
    none,
    Value.int
    IntKind.i64
    i83)]
    (T.chk
    [(Addr.mk
    n1
    0
    none,
    Value.int
    IntKind.i32
    i84),
    (Addr.mk
    n1
    1
    none,
    Value.int
    IntKind.i64
    i85),
    (Addr.mk
    n0
    0
    none,
    Value.int
    IntKind.i32
    i82),
    (Addr.mk
    n0
    1
    none,
    Value.int
    IntKind.i64
    i83)]
    (T.ret
    (Value.bool
    false)))))
    (T.chk
    [(Addr.mk
    n1
    0
    none,
    Value.int
    IntKind.i32
    i84),
    (Addr.mk
    n1
    1
    none,
    Value.int
    IntKind.i64
    i85),
    (Addr.mk
    n0
    0
    none,
    Value.int
    IntKind.i32
    i82),
    (Addr.mk
    n0
    1
    none,
    Value.int
    IntKind.i64
    i83)]
    (T.chk
    [(Addr.mk
    n1
    0
    none,
    Value.int
    IntKind.i32
    i84),
    (Addr.mk
    n1
    1
    none,
    Value.int
    IntKind.i64
    i85),
    (Addr.mk
    n0
    0
    none,
    Value.int
    IntKind.i32
    i82),
    (Addr.mk
    n0
    1
    none,
    Value.int
    IntKind.i64
    i83)]
    (T.chk
    [(Addr.mk
    n1
    0
    none,
    Value.int
    IntKind.i32
    i84),
    (Addr.mk
    n1
    1
    none,
    Value.int
    IntKind.i64
    i85),
    (Addr.mk
    n0
    0
    none,
    Value.int
    IntKind.i32
    i82),
    (Addr.mk
    n0
    1
    none,
    Value.int
    IntKind.i64
    i83)]
    (T.ret
    (Value.bool
    false)))))))
    (T.chk
    [(Addr.mk
    n1
    0
    none,
    Value.int
    IntKind.i32
    i84),
    (Addr.mk
    n1
    1
    none,
    Value.int
    IntKind.i64
    i85),
    (Addr.mk
    n0
    0
    none,
    Value.int
    IntKind.i32
    i82),
    (Addr.mk
    n0
    1
    none,
    Value.int
    IntKind.i64
    i83)]
    (T.chk
    [(Addr.mk
    n1
    0
    none,
    Value.int
    IntKind.i32
    i84),
    (Addr.mk
    n1
    1
    none,
    Value.int
    IntKind.i64
    i85),
    (Addr.mk
    n0
    0
    none,
    Value.int
    IntKind.i32
    i82),
    (Addr.mk
    n0
    1
    none,
    Value.int
    IntKind.i64
    i83)]
    (T.chk
    [(Addr.mk
    n1
    0
    none,
    Value.int
    IntKind.i32
    i84),
    (Addr.mk
    n1
    1
    none,
    Value.int
    IntKind.i64
    i85),
    (Addr.mk
    n0
    0
    none,
    Value.int
    IntKind.i32
    i82),
    (Addr.mk
    n0
    1
    none,
    Value.int
    IntKind.i64
    i83)]
    (T.chk
    [(Addr.mk
    n1
    0
    none,
    Value.int
    IntKind.i32
    i84),
    (Addr.mk
    n1
    1
    none,
    Value.int
    IntKind.i64
    i85),
    (Addr.mk
    n0
    0
    none,
    Value.int
    IntKind.i32
    i82),
    (Addr.mk
    n0
    1
    none,
    Value.int
    IntKind.i64
    i83)]
    (T.ret
    (Value.bool
    false))))))))))
    (T.chk
    [(Addr.mk
    n1
    0
    none,
    Value.int
    IntKind.i32
    i84),
    (Addr.mk
    n1
    1
    none,
    Value.int
    IntKind.i64
    i85),
    (Addr.mk
    n0
    0
    none,
    Value.int
    IntKind.i32
    i82),
    (Addr.mk
    n0
    1
    none,
    Value.int
    IntKind.i64
    i83)]
    (T.chk
    [(Addr.mk
    n1
    0
    none,
    Value.int
    IntKind.i32
    i84),
    (Addr.mk
    n1
    1
    none,
    Value.int
    IntKind.i64
    i85),
    (Addr.mk
    n0
    0
    none,
    Value.int
    IntKind.i32
    i82),
    (Addr.mk
    n0
    1
    none,
    Value.int
    IntKind.i64
    i83)]
    (T.both
    (T.chk
    [(Addr.mk
    n1
    0
    none,
    Value.int
    IntKind.i32
    i84),
    (Addr.mk
    n1
    1
    none,
    Value.int
    IntKind.i64
    i85),
    (Addr.mk
    n0
    0
    none,
    Value.int
    IntKind.i32
    i82),
    (Addr.mk
    n0
    1
    none,
    Value.int
    IntKind.i64
    i83)]
    (T.both
    (T.chk
    [(Addr.mk
    n1
    0
    none,
    Value.int
    IntKind.i32
    i84),
    (Addr.mk
    n1
    1
    none,
    Value.int
    IntKind.i64
    i85),
    (Addr.mk
    n0
    0
    none,
    Value.int
    IntKind.i32
    i82),
    (Addr.mk
    n0
    1
    none,
    Value.int
    IntKind.i64
    i83)]
    (T.chk
    [(Addr.mk
    n1
    0
    none,
    Value.int
    IntKind.i32
    i84),
    (Addr.mk
    n1
    1
    none,
    Value.int
    IntKind.i64
    i85),
    (Addr.mk
    n0
    0
    none,
    Value.int
    IntKind.i32
    i82),
    (Addr.mk
    n0
    1
    none,
    Value.int
    IntKind.i64
    i83)]
    (T.chk
    [(Addr.mk
    n1
    0
    none,
    Value.int
    IntKind.i32
    i84),
    (Addr.mk
    n1
    1
    none,
    Value.int
    IntKind.i64
    i85),
    (Addr.mk
    n0
    0
    none,
    Value.int
    IntKind.i32
    i82),
    (Addr.mk
    n0
    1
    none,
    Value.int
    IntKind.i64
    i83)]
    (T.ret
    (Value.bool
    false)))))
    (T.chk
    [(Addr.mk
    n1
    0
    none,
    Value.int
    IntKind.i32
    i84),
    (Addr.mk
    n1
    1
    none,
    Value.int
    IntKind.i64
    i85),
    (Addr.mk
    n0
    0
    none,
    Value.int
    IntKind.i32
    i82),
    (Addr.mk
    n0
    1
    none,
    Value.int
    IntKind.i64
    i83)]
    (T.chk
    [(Addr.mk
    n1
    0
    none,
    Value.int
    IntKind.i32
    i84),
    (Addr.mk
    n1
    1
    none,
    Value.int
    IntKind.i64
    i85),
    (Addr.mk
    n0
    0
    none,
    Value.int
    IntKind.i32
    i82),
    (Addr.mk
    n0
    1
    none,
    Value.int
    IntKind.i64
    i83)]
    (T.chk
    [(Addr.mk
    n1
    0
    none,
    Value.int
    IntKind.i32
    i84),
    (Addr.mk
    n1
    1
    none,
    Value.int
    IntKind.i64
    i85),
    (Addr.mk
    n0
    0
    none,
    Value.int
    IntKind.i32
    i82),
    (Addr.mk
    n0
    1
    none,
    Value.int
    IntKind.i64
    i83)]
    (T.ret
    (Value.bool
    false)))))))
    (T.chk
    [(Addr.mk
    n1
    0
    none,
    Value.int
    IntKind.i32
    i84),
    (Addr.mk
    n1
    1
    none,
    Value.int
    IntKind.i64
    i85),
    (Addr.mk
    n0
    0
    none,
    Value.int
    IntKind.i32
    i82),
    (Addr.mk
    n0
    1
    none,
    Value.int
    IntKind.i64
    i83)]
    (T.chk
    [(Addr.mk
    n1
    0
    none,
    Value.int
    IntKind.i32
    i84),
    (Addr.mk
    n1
    1
    none,
    Value.int
    IntKind.i64
    i85),
    (Addr.mk
    n0
    0
    none,
    Value.int
    IntKind.i32
    i82),
    (Addr.mk
    n0
    1
    none,
    Value.int
    IntKind.i64
    i83)]
    (T.chk
    [(Addr.mk
    n1
    0
    none,
    Value.int
    IntKind.i32
    i84),
    (Addr.mk
    n1
    1
    none,
    Value.int
    IntKind.i64
    i85),
    (Addr.mk
    n0
    0
    none,
    Value.int
    IntKind.i32
    i82),
    (Addr.mk
    n0
    1
    none,
    Value.int
    IntKind.i64
    i83)]
    (T.chk
    [(Addr.mk
    n1
    0
    none,
    Value.int
    IntKind.i32
    i84),
    (Addr.mk
    n1
    1
    none,
    Value.int
    IntKind.i64
    i85),
    (Addr.mk
    n0
    0
    none,
    Value.int
    IntKind.i32
    i82),
    (Addr.mk
    n0
    1
    none,
    Value.int
    IntKind.i64
    i83)]
    (T.ret
    (Value.bool
    false)))))))))))))))))))))))))))))))))))))))))))
theorem e10  : treeOf Try.prog Try.f10 (codeOf Try.f10) (.s .n (.s .n (.s .n (.s .n (.s (.p [0, 2, 3, 4, 5, 1, 6, 7, 8, 9, 10, 11, 12, 13, 14, 15, 16, 17, 18, 19, 20, 21, 22, 23]) .n))))) [] = t10 := by kernel_rfl
theorem c10  {w : World} {R : Ending → World → Prop} (h : t10.sem Try.prog R ρ0 w) : Calls Try.prog 10 #[] w R :=
  calls_of mixed Try.func10 rfl rfl (e10 ) h
end Go.Proofs.Ytndkffhlheaepaa
