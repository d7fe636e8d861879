/- The functions' trees, printed by a program (wip/tools/Emit.lean) and checked by the kernel against the model's own code. -/
import Derived.Test.YtfgfabjbebdnjaaTrees
import Derived.Test.YtfgfabjbebdnjaaProg
namespace Go.Proofs.Ytfgfabjbebdnjaa
open Go hiding Expr
open Go.Proofs.Ytfgfabjbebdnjaa.Tr
set_option linter.unusedVariables false
set_option maxRecDepth 100000
def t4 (i0 : Int) (i1 : Int) (i2 : Int) (o3 : Option Addr) (n4 n5 : Nat) (o6 : Option Addr) (n7 n8 : Nat) : T :=
  T.new (Obj.cells (Array.mk [Value.int IntKind.i64 i0, Value.int IntKind.i64 i1]) 23) fun n9 =>
  T.ldI IntKind.i64 n9 0 fun i10 =>
    T.ldI IntKind.i64 n9 1 fun i11 =>
    T.call 7 [Value.agg (Array.mk [Value.int IntKind.i64 i10, Value.int IntKind.i64 i11]), Value.int IntKind.i64 i2] fun v12 =>
    T.asU v12 fun l13 =>
    T.req (List.length l13 = 2)
    (T.asP (List.headD l13 (Value.tuple (Array.mk []))) fun o14 =>
    T.asI IntKind.i64 (List.headD (List.tail l13) (Value.tuple (Array.mk []))) fun i15 =>
    T.ldI IntKind.i64 n9 0 fun i16 =>
    T.ldI IntKind.i64 n9 1 fun i17 =>
    T.call 7 [Value.agg (Array.mk [Value.int IntKind.i64 i16, Value.int IntKind.i64 i17]), Value.int IntKind.i64 i2] fun v18 =>
    T.asU v18 fun l19 =>
    T.req (List.length l19 = 2)
    (T.asP (List.headD l19 (Value.tuple (Array.mk []))) fun o20 =>
    T.asI IntKind.i64 (List.headD (List.tail l19) (Value.tuple (Array.mk []))) fun i21 =>
    T.call 8 [] fun v22 =>
    T.asB v22 fun b23 =>
    T.ite (!b23) (T.ret (Value.bool false))
    (T.ite (i15 != i21) (T.ret (Value.bool false))
    (T.ite (i15 != 0) (T.ite (Option.isNone o14) (T.ret (Value.bool (Option.isNone o20))) (T.ret (Value.bool false)))
    (T.run (biV Builtin.append (Array.mk [24, 24]) 24 (Array.mk [Value.slice none 0 0, Value.slice o3 n4 n5])) fun v24 =>
    T.asS v24 fun o25 n26 n27 =>
    T.loop 0 [Value.int IntKind.i64 0] fun l28 j29 =>
    T.asI IntKind.i64 (List.headD l28 (Value.tuple (Array.mk []))) fun i30 =>
    T.ite (decide (i30 < (↑n26 : Int)))
    (T.ite (decide (i30 < (↑n7 : Int)))
    (T.req (0 ≤ i30 ∧ i30 < (↑n7 : Int))
    (T.sm o6 fun n31 n32 =>
    T.ldI IntKind.u8 n31 (n32 + Int.toNat i30 * 1) fun i33 =>
    T.req ((↑n26 : Int) ≠ 0)
    (T.drew
    (T.req
    (0 ≤ Int.tmod (IntKind.wrap IntKind.i64 i33) (↑n26 : Int) ∧
    Int.tmod (IntKind.wrap IntKind.i64 i33) (↑n26 : Int) < (↑n26 : Int))
    (T.sm o25 fun n34 n35 =>
    T.ldI IntKind.i64 n34
    (n35 + Int.toNat (Int.tmod (IntKind.wrap IntKind.i64 i33) (↑n26 : Int)) * 3) fun i36 =>
    T.ldI IntKind.i64 n34
    (n35 + Int.toNat (Int.tmod (IntKind.wrap IntKind.i64 i33) (↑n26 : Int)) * 3 + 1)
    fun i37 =>
    T.ldI IntKind.i64 n34
    (n35 + Int.toNat (Int.tmod (IntKind.wrap IntKind.i64 i33) (↑n26 : Int)) * 3 + 2)
    fun i38 =>
    T.req (0 ≤ i30 ∧ i30 < (↑n26 : Int))
    (T.sm o25 fun n39 n40 =>
    T.ldI IntKind.i64 n39 (n40 + Int.toNat i30 * 3) fun i41 =>
    T.ldI IntKind.i64 n39 (n40 + Int.toNat i30 * 3 + 1) fun i42 =>
    T.ldI IntKind.i64 n39 (n40 + Int.toNat i30 * 3 + 2) fun i43 =>
    T.req (0 ≤ i30 ∧ i30 < (↑n26 : Int))
    (T.sm o25 fun n44 n45 =>
    T.st n44 (n45 + Int.toNat i30 * 3) (Value.int IntKind.i64 i36)
    (T.st n44 (n45 + Int.toNat i30 * 3 + 1) (Value.int IntKind.i64 i37)
    (T.st n44 (n45 + Int.toNat i30 * 3 + 2) (Value.int IntKind.i64 i38)
    (T.chk []
    (T.req
    (0 ≤ Int.tmod (IntKind.wrap IntKind.i64 i33) (↑n26 : Int) ∧
    Int.tmod (IntKind.wrap IntKind.i64 i33) (↑n26 : Int) <
    (↑n26 : Int))
    (T.sm o25 fun n46 n47 =>
    T.st n46
    (n47 +
    Int.toNat
    (Int.tmod (IntKind.wrap IntKind.i64 i33)
    (↑n26 : Int)) *
    3)
    (Value.int IntKind.i64 i41)
    (T.st n46
    (n47 +
    Int.toNat
    (Int.tmod (IntKind.wrap IntKind.i64 i33)
    (↑n26 : Int)) *
    3 +
    1)
    (Value.int IntKind.i64 i42)
    (T.st n46
    (n47 +
    Int.toNat
    (Int.tmod (IntKind.wrap IntKind.i64 i33)
    (↑n26 : Int)) *
    3 +
    2)
    (Value.int IntKind.i64 i43)
    (T.chk []
    (T.next 0
    [Value.int IntKind.i64
    (IntKind.wrap IntKind.i64 (i30 + 1))]
    ([Value.slice o3 n4 n5, Value.slice o6 n7 n8,
    Value.pointer (some (Addr.mk n9 0 none)),
    Value.pointer o14, Value.pointer o20,
    Value.slice o25 n26 n27,
    Value.int IntKind.i64 (↑n26 : Int)] =
    [Value.slice o3 n4 n5, Value.slice o6 n7 n8,
    Value.pointer (some (Addr.mk n9 0 none)),
    Value.pointer o14, Value.pointer o20,
    Value.slice o25 n26 n27,
    Value.int IntKind.i64 (↑n26 : Int)] ∧ ([] : List Deferred) = [])))))))))))))))))
    (T.next 0 [Value.int IntKind.i64 (IntKind.wrap IntKind.i64 (i30 + 1))]
    ([Value.slice o3 n4 n5, Value.slice o6 n7 n8, Value.pointer (some (Addr.mk n9 0 none)), Value.pointer o14,
    Value.pointer o20, Value.slice o25 n26 n27, Value.int IntKind.i64 (↑n26 : Int)] =
    [Value.slice o3 n4 n5, Value.slice o6 n7 n8, Value.pointer (some (Addr.mk n9 0 none)),
    Value.pointer o14, Value.pointer o20, Value.slice o25 n26 n27, Value.int IntKind.i64 (↑n26 : Int)] ∧ ([] : List Deferred) = [])))
    (T.loop 0 [Value.int IntKind.i64 0] fun l48 j49 =>
    T.asI IntKind.i64 (List.headD l48 (Value.tuple (Array.mk []))) fun i50 =>
    T.ite (decide (i50 < (↑n4 : Int)))
    (T.drew
    (T.req (0 ≤ i50 ∧ i50 < (↑n4 : Int))
    (T.sm o3 fun n51 n52 =>
    T.ldI IntKind.i64 n51 (n52 + Int.toNat i50 * 3 + 1) fun i53 =>
    T.req (0 ≤ i50 ∧ i50 < (↑n4 : Int))
    (T.sm o3 fun n54 n55 =>
    T.ldI IntKind.i64 n54 (n55 + Int.toNat i50 * 3) fun i56 =>
    T.req (0 ≤ i50 ∧ i50 < (↑n4 : Int))
    (T.sm o3 fun n57 n58 =>
    T.ldI IntKind.i64 n57 (n58 + Int.toNat i50 * 3 + 2) fun i59 =>
    T.call 9
    [Value.pointer o14, Value.int IntKind.i64 i53, Value.bool (i56 != 3),
    Value.int IntKind.i64 i59]
    fun v60 =>
    T.asU v60 fun l61 =>
    T.req (List.length l61 = 2)
    (T.asB (List.headD l61 (Value.tuple (Array.mk []))) fun b62 =>
    T.asI IntKind.i64 (List.headD (List.tail l61) (Value.tuple (Array.mk [])))
    fun i63 =>
    T.chk
    [(Addr.mk n54 (n55 + Int.toNat i50 * 3) none,
    Value.int IntKind.i64 i56)]
    (T.drew
    (T.req (0 ≤ i50 ∧ i50 < (↑n26 : Int))
    (T.sm o25 fun n64 n65 =>
    T.ldI IntKind.i64 n64 (n65 + Int.toNat i50 * 3 + 1) fun i66 =>
    T.req (0 ≤ i50 ∧ i50 < (↑n26 : Int))
    (T.sm o25 fun n67 n68 =>
    T.ldI IntKind.i64 n67 (n68 + Int.toNat i50 * 3) fun i69 =>
    T.req (0 ≤ i50 ∧ i50 < (↑n26 : Int))
    (T.sm o25 fun n70 n71 =>
    T.ldI IntKind.i64 n70 (n71 + Int.toNat i50 * 3 + 2)
    fun i72 =>
    T.call 9
    [Value.pointer o20, Value.int IntKind.i64 i66,
    Value.bool (i69 != 3),
    Value.int IntKind.i64 i72]
    fun v73 =>
    T.asU v73 fun l74 =>
    T.req (List.length l74 = 2)
    (T.asB
    (List.headD l74 (Value.tuple (Array.mk [])))
    fun b75 =>
    T.asI IntKind.i64
    (List.headD (List.tail l74)
    (Value.tuple (Array.mk [])))
    fun i76 =>
    T.chk
    [(Addr.mk n67 (n68 + Int.toNat i50 * 3)
    none,
    Value.int IntKind.i64 i69)]
    (T.next 0
    [Value.int IntKind.i64
    (IntKind.wrap IntKind.i64
    (i50 + 1))]
    ([Value.slice o3 n4 n5,
    Value.pointer
    (some (Addr.mk n9 0 none)),
    Value.pointer o14,
    Value.pointer o20,
    Value.slice o25 n26 n27,
    Value.int IntKind.i64
    (↑n4 : Int)] =
    [Value.slice o3 n4 n5,
    Value.pointer
    (some (Addr.mk n9 0 none)),
    Value.pointer o14,
    Value.pointer o20,
    Value.slice o25 n26 n27,
    Value.int IntKind.i64
    (↑n4 : Int)] ∧ ([] : List Deferred) = []))))))))))))))
    (T.ldI IntKind.i64 n9 0 fun i77 =>
    T.loop 0 [Value.int IntKind.i64 0] fun l78 j79 =>
    T.asI IntKind.i64 (List.headD l78 (Value.tuple (Array.mk []))) fun i80 =>
    T.ite (decide (i80 < i77))
    (T.call 10 [Value.pointer o14, Value.int IntKind.i64 i80] fun v81 =>
    T.asI IntKind.i64 v81 fun i82 =>
    T.call 10 [Value.pointer o20, Value.int IntKind.i64 i80] fun v83 =>
    T.asI IntKind.i64 v83 fun i84 =>
    T.ite (i82 != i84) (T.ret (Value.bool false))
    (T.next 0 [Value.int IntKind.i64 (IntKind.wrap IntKind.i64 (i80 + 1))]
    ([Value.pointer o14, Value.pointer o20, Value.int IntKind.i64 i77] =
    [Value.pointer o14, Value.pointer o20, Value.int IntKind.i64 i77] ∧ ([] : List Deferred) = [])))
    (T.call 11 [Value.pointer o14] fun v85 =>
    T.asI IntKind.i64 v85 fun i86 =>
    T.call 11 [Value.pointer o20] fun v87 =>
    T.asI IntKind.i64 v87 fun i88 => T.ret (Value.bool (i86 == i88))))))))))
theorem e4 (i0 : Int) (i1 : Int) (i2 : Int) (o3 : Option Addr) (n4 n5 : Nat) (o6 : Option Addr) (n7 n8 : Nat) : treeOf Try.prog Try.f4 (codeOf Try.f4) (.s .n (.s .n (.s .n (.s .n (.s .n (.s .n (.s (.s .n (.u (.l [(49, .int .i64)] [2, 3, 4, 9, 11, 13, 48] (.s .n (.s .n (.s (.u (.s .n (.s .n (.s (.s .n (.p [0, 1, 2, 3, 4, 5, 6, 7, 8, 9, 10, 11, 12, 13, 14, 15])) .n)))) .n)))))) (.s (.s .n (.u (.l [(81, .int .i64)] [2, 4, 9, 11, 13, 80] (.s .n (.s .n (.s (.u (.s .n (.s (.p [0, 1, 2, 3, 4, 5, 6, 7, 8, 9, 10, 11, 12, 13, 14, 15, 16, 17]) (.p [0, 1, 2, 3, 4, 5, 6, 7, 8, 9, 10, 11, 12, 13, 14, 15, 16, 17])))) .n)))))) (.s (.s .n (.u (.l [(123, .int .i64)] [9, 11, 122] .n))) .n))))))))) [.v (.agg #[.int .i64 i0, .int .i64 i1]), .v (.int .i64 i2), .v (.slice o3 n4 n5), .v (.slice o6 n7 n8)] = (t4 i0 i1 i2 o3 n4 n5 o6 n7 n8) := by kernel_rfl
theorem c4 (i0 : Int) (i1 : Int) (i2 : Int) (o3 : Option Addr) (n4 n5 : Nat) (o6 : Option Addr) (n7 n8 : Nat) {w : World} {R : Ending → World → Prop} (h : (t4 i0 i1 i2 o3 n4 n5 o6 n7 n8).sem Try.prog R ρ0 w) : Calls Try.prog 4 #[.agg #[.int .i64 i0, .int .i64 i1], .int .i64 i2, .slice o3 n4 n5, .slice o6 n7 n8] w R :=
  calls_of mixed Try.func4 rfl rfl (e4 i0 i1 i2 o3 n4 n5 o6 n7 n8) h
end Go.Proofs.Ytfgfabjbebdnjaa
