/- The functions' trees, printed by a program (wip/tools/Emit.lean) and checked by the kernel against the model's own code. -/
import Derived.Test.YtfgfabjbebdnjaaTrees
import Derived.Test.YtfgfabjbebdnjaaProg
namespace Go.Proofs.Ytfgfabjbebdnjaa
open Go hiding Expr
open Go.Proofs.Ytfgfabjbebdnjaa.Tr
set_option linter.unusedVariables false
set_option maxRecDepth 100000
def t27 (o0 : Option Addr) (n1 n2 : Nat) (i3 : Int) (i4 : Int) (i5 : Int) : T :=
  T.loop 0 [Value.int IntKind.i64 i3, Value.int IntKind.i64 i4, Value.int IntKind.i64 i5, Value.bool true, Value.bool true] fun l6 j7 =>
  T.asI IntKind.i64 (List.headD l6 (Value.tuple (Array.mk []))) fun i8 =>
    T.asI IntKind.i64 (List.headD (List.tail l6) (Value.tuple (Array.mk []))) fun i9 =>
    T.asI IntKind.i64 (List.headD (List.tail (List.tail l6)) (Value.tuple (Array.mk []))) fun i10 =>
    T.asB (List.headD (List.tail (List.tail (List.tail l6))) (Value.tuple (Array.mk []))) fun b11 =>
    T.asB (List.headD (List.tail (List.tail (List.tail (List.tail l6)))) (Value.tuple (Array.mk []))) fun b12 =>
    T.ite (decide (IntKind.wrap IntKind.i64 (i9 - i8) ≤ 12))
    (T.call 29 [Value.slice o0 n1 n2, Value.int IntKind.i64 i8, Value.int IntKind.i64 i9] fun v13 => T.ret (Value.tuple (Array.mk [])))
    (T.ite (i10 == 0)
    (T.call 30 [Value.slice o0 n1 n2, Value.int IntKind.i64 i8, Value.int IntKind.i64 i9] fun v14 => T.ret (Value.tuple (Array.mk [])))
    (T.ite (!b11)
    (T.call 31 [Value.slice o0 n1 n2, Value.int IntKind.i64 i8, Value.int IntKind.i64 i9] fun v15 =>
    T.call 32 [Value.slice o0 n1 n2, Value.int IntKind.i64 i8, Value.int IntKind.i64 i9] fun v16 =>
    T.asU v16 fun l17 =>
    T.req (List.length l17 = 2)
    (T.asI IntKind.i64 (List.headD l17 (Value.tuple (Array.mk []))) fun i18 =>
    T.asI IntKind.i64 (List.headD (List.tail l17) (Value.tuple (Array.mk []))) fun i19 =>
    T.ite (i19 == 2)
    (T.call 33 [Value.slice o0 n1 n2, Value.int IntKind.i64 i8, Value.int IntKind.i64 i9] fun v20 =>
    T.ite b11
    (T.ite b12
    (T.ite true
    (T.call 34 [Value.slice o0 n1 n2, Value.int IntKind.i64 i8, Value.int IntKind.i64 i9] fun v21 =>
    T.asB v21 fun b22 =>
    T.ite b22 (T.ret (Value.tuple (Array.mk [])))
    (T.drew
    (T.ite (decide (i8 > 0))
    (T.req (0 ≤ IntKind.wrap IntKind.i64 (i8 - 1) ∧ IntKind.wrap IntKind.i64 (i8 - 1) < (↑n1 : Int))
    (T.sm o0 fun n23 n24 =>
    T.ldI IntKind.i64 n23 (n24 + Int.toNat (IntKind.wrap IntKind.i64 (i8 - 1)) * 1) fun i25 =>
    T.req
    (0 ≤
    IntKind.wrap IntKind.i64
    (IntKind.wrap IntKind.i64 (i9 - 1) - IntKind.wrap IntKind.i64 (i18 - i8)) ∧
    IntKind.wrap IntKind.i64 (IntKind.wrap IntKind.i64 (i9 - 1) - IntKind.wrap IntKind.i64 (i18 - i8)) <
    (↑n1 : Int))
    (T.sm o0 fun n26 n27 =>
    T.ldI IntKind.i64 n26
    (n27 +
    Int.toNat
    (IntKind.wrap IntKind.i64
    (IntKind.wrap IntKind.i64 (i9 - 1) - IntKind.wrap IntKind.i64 (i18 - i8))) *
    1)
    fun i28 =>
    T.call 35 [Value.int IntKind.i64 i25, Value.int IntKind.i64 i28] fun v29 =>
    T.asB v29 fun b30 =>
    T.chk []
    (T.ite (!b30)
    (T.call 36
    [Value.slice o0 n1 n2, Value.int IntKind.i64 i8, Value.int IntKind.i64 i9,
    Value.int IntKind.i64
    (IntKind.wrap IntKind.i64
    (IntKind.wrap IntKind.i64 (i9 - 1) - IntKind.wrap IntKind.i64 (i18 - i8)))]
    fun v31 =>
    T.asI IntKind.i64 v31 fun i32 =>
    T.next 0
    [Value.int IntKind.i64 i32, Value.int IntKind.i64 i9,
    Value.int IntKind.i64 (IntKind.wrap IntKind.i64 (i10 - 1)), Value.bool b11,
    Value.bool b12]
    ([Value.slice o0 n1 n2] = [Value.slice o0 n1 n2] ∧ ([] : List Deferred) = []))
    (T.call 37
    [Value.slice o0 n1 n2, Value.int IntKind.i64 i8, Value.int IntKind.i64 i9,
    Value.int IntKind.i64
    (IntKind.wrap IntKind.i64
    (IntKind.wrap IntKind.i64 (i9 - 1) - IntKind.wrap IntKind.i64 (i18 - i8)))]
    fun v33 =>
    T.asU v33 fun l34 =>
    T.req (List.length l34 = 2)
    (T.asI IntKind.i64 (List.headD l34 (Value.tuple (Array.mk []))) fun i35 =>
    T.asB (List.headD (List.tail l34) (Value.tuple (Array.mk []))) fun b36 =>
    T.req ((8 : Int) ≠ 0)
    (T.ite
    (decide
    (IntKind.wrap IntKind.i64 (i35 - i8) <
    IntKind.wrap IntKind.i64 (i9 - i35)))
    (T.call 27
    [Value.slice o0 n1 n2, Value.int IntKind.i64 i8,
    Value.int IntKind.i64 i35,
    Value.int IntKind.i64 (IntKind.wrap IntKind.i64 (i10 - 1))]
    fun v37 =>
    T.next 0
    [Value.int IntKind.i64 (IntKind.wrap IntKind.i64 (i35 + 1)),
    Value.int IntKind.i64 i9,
    Value.int IntKind.i64 (IntKind.wrap IntKind.i64 (i10 - 1)),
    Value.bool
    (decide
    (IntKind.wrap IntKind.i64 (i35 - i8) ≥
    IntKind.wrap IntKind.i64
    (Int.tdiv (IntKind.wrap IntKind.i64 (i9 - i8)) 8))),
    Value.bool b36]
    ([Value.slice o0 n1 n2] = [Value.slice o0 n1 n2] ∧ ([] : List Deferred) = []))
    (T.call 27
    [Value.slice o0 n1 n2,
    Value.int IntKind.i64 (IntKind.wrap IntKind.i64 (i35 + 1)),
    Value.int IntKind.i64 i9,
    Value.int IntKind.i64 (IntKind.wrap IntKind.i64 (i10 - 1))]
    fun v38 =>
    T.next 0
    [Value.int IntKind.i64 i8, Value.int IntKind.i64 i35,
    Value.int IntKind.i64 (IntKind.wrap IntKind.i64 (i10 - 1)),
    Value.bool
    (decide
    (IntKind.wrap IntKind.i64 (i9 - i35) ≥
    IntKind.wrap IntKind.i64
    (Int.tdiv (IntKind.wrap IntKind.i64 (i9 - i8)) 8))),
    Value.bool b36]
    ([Value.slice o0 n1 n2] = [Value.slice o0 n1 n2] ∧ ([] : List Deferred) = [])))))))))
    (T.chk []
    (T.call 37
    [Value.slice o0 n1 n2, Value.int IntKind.i64 i8, Value.int IntKind.i64 i9,
    Value.int IntKind.i64
    (IntKind.wrap IntKind.i64 (IntKind.wrap IntKind.i64 (i9 - 1) - IntKind.wrap IntKind.i64 (i18 - i8)))]
    fun v39 =>
    T.asU v39 fun l40 =>
    T.req (List.length l40 = 2)
    (T.asI IntKind.i64 (List.headD l40 (Value.tuple (Array.mk []))) fun i41 =>
    T.asB (List.headD (List.tail l40) (Value.tuple (Array.mk []))) fun b42 =>
    T.req ((8 : Int) ≠ 0)
    (T.ite (decide (IntKind.wrap IntKind.i64 (i41 - i8) < IntKind.wrap IntKind.i64 (i9 - i41)))
    (T.call 27
    [Value.slice o0 n1 n2, Value.int IntKind.i64 i8, Value.int IntKind.i64 i41,
    Value.int IntKind.i64 (IntKind.wrap IntKind.i64 (i10 - 1))]
    fun v43 =>
    T.next 0
    [Value.int IntKind.i64 (IntKind.wrap IntKind.i64 (i41 + 1)), Value.int IntKind.i64 i9,
    Value.int IntKind.i64 (IntKind.wrap IntKind.i64 (i10 - 1)),
    Value.bool
    (decide
    (IntKind.wrap IntKind.i64 (i41 - i8) ≥
    IntKind.wrap IntKind.i64 (Int.tdiv (IntKind.wrap IntKind.i64 (i9 - i8)) 8))),
    Value.bool b42]
    ([Value.slice o0 n1 n2] = [Value.slice o0 n1 n2] ∧ ([] : List Deferred) = []))
    (T.call 27
    [Value.slice o0 n1 n2, Value.int IntKind.i64 (IntKind.wrap IntKind.i64 (i41 + 1)),
    Value.int IntKind.i64 i9, Value.int IntKind.i64 (IntKind.wrap IntKind.i64 (i10 - 1))]
    fun v44 =>
    T.next 0
    [Value.int IntKind.i64 i8, Value.int IntKind.i64 i41,
    Value.int IntKind.i64 (IntKind.wrap IntKind.i64 (i10 - 1)),
    Value.bool
    (decide
    (IntKind.wrap IntKind.i64 (i9 - i41) ≥
    IntKind.wrap IntKind.i64 (Int.tdiv (IntKind.wrap IntKind.i64 (i9 - i8)) 8))),
    Value.bool b42]
    ([Value.slice o0 n1 n2] = [Value.slice o0 n1 n2] ∧ ([] : List Deferred) = [])))))))))
    (T.drew
    (T.ite (decide (i8 > 0))
    (T.req (0 ≤ IntKind.wrap IntKind.i64 (i8 - 1) ∧ IntKind.wrap IntKind.i64 (i8 - 1) < (↑n1 : Int))
    (T.sm o0 fun n45 n46 =>
    T.ldI IntKind.i64 n45 (n46 + Int.toNat (IntKind.wrap IntKind.i64 (i8 - 1)) * 1) fun i47 =>
    T.req
    (0 ≤ IntKind.wrap IntKind.i64 (IntKind.wrap IntKind.i64 (i9 - 1) - IntKind.wrap IntKind.i64 (i18 - i8)) ∧
    IntKind.wrap IntKind.i64 (IntKind.wrap IntKind.i64 (i9 - 1) - IntKind.wrap IntKind.i64 (i18 - i8)) <
    (↑n1 : Int))
    (T.sm o0 fun n48 n49 =>
    T.ldI IntKind.i64 n48
    (n49 +
    Int.toNat
    (IntKind.wrap IntKind.i64
    (IntKind.wrap IntKind.i64 (i9 - 1) - IntKind.wrap IntKind.i64 (i18 - i8))) *
    1)
    fun i50 =>
    T.call 35 [Value.int IntKind.i64 i47, Value.int IntKind.i64 i50] fun v51 =>
    T.asB v51 fun b52 =>
    T.chk []
    (T.ite (!b52)
    (T.call 36
    [Value.slice o0 n1 n2, Value.int IntKind.i64 i8, Value.int IntKind.i64 i9,
    Value.int IntKind.i64
    (IntKind.wrap IntKind.i64
    (IntKind.wrap IntKind.i64 (i9 - 1) - IntKind.wrap IntKind.i64 (i18 - i8)))]
    fun v53 =>
    T.asI IntKind.i64 v53 fun i54 =>
    T.next 0
    [Value.int IntKind.i64 i54, Value.int IntKind.i64 i9,
    Value.int IntKind.i64 (IntKind.wrap IntKind.i64 (i10 - 1)), Value.bool b11,
    Value.bool b12]
    ([Value.slice o0 n1 n2] = [Value.slice o0 n1 n2] ∧ ([] : List Deferred) = []))
    (T.call 37
    [Value.slice o0 n1 n2, Value.int IntKind.i64 i8, Value.int IntKind.i64 i9,
    Value.int IntKind.i64
    (IntKind.wrap IntKind.i64
    (IntKind.wrap IntKind.i64 (i9 - 1) - IntKind.wrap IntKind.i64 (i18 - i8)))]
    fun v55 =>
    T.asU v55 fun l56 =>
    T.req (List.length l56 = 2)
    (T.asI IntKind.i64 (List.headD l56 (Value.tuple (Array.mk []))) fun i57 =>
    T.asB (List.headD (List.tail l56) (Value.tuple (Array.mk []))) fun b58 =>
    T.req ((8 : Int) ≠ 0)
    (T.ite
    (decide
    (IntKind.wrap IntKind.i64 (i57 - i8) < IntKind.wrap IntKind.i64 (i9 - i57)))
    (T.call 27
    [Value.slice o0 n1 n2, Value.int IntKind.i64 i8, Value.int IntKind.i64 i57,
    Value.int IntKind.i64 (IntKind.wrap IntKind.i64 (i10 - 1))]
    fun v59 =>
    T.next 0
    [Value.int IntKind.i64 (IntKind.wrap IntKind.i64 (i57 + 1)),
    Value.int IntKind.i64 i9,
    Value.int IntKind.i64 (IntKind.wrap IntKind.i64 (i10 - 1)),
    Value.bool
    (decide
    (IntKind.wrap IntKind.i64 (i57 - i8) ≥
    IntKind.wrap IntKind.i64
    (Int.tdiv (IntKind.wrap IntKind.i64 (i9 - i8)) 8))),
    Value.bool b58]
    ([Value.slice o0 n1 n2] = [Value.slice o0 n1 n2] ∧ ([] : List Deferred) = []))
    (T.call 27
    [Value.slice o0 n1 n2,
    Value.int IntKind.i64 (IntKind.wrap IntKind.i64 (i57 + 1)),
    Value.int IntKind.i64 i9,
    Value.int IntKind.i64 (IntKind.wrap IntKind.i64 (i10 - 1))]
    fun v60 =>
    T.next 0
    [Value.int IntKind.i64 i8, Value.int IntKind.i64 i57,
    Value.int IntKind.i64 (IntKind.wrap IntKind.i64 (i10 - 1)),
    Value.bool
    (decide
    (IntKind.wrap IntKind.i64 (i9 - i57) ≥
    IntKind.wrap IntKind.i64
    (Int.tdiv (IntKind.wrap IntKind.i64 (i9 - i8)) 8))),
    Value.bool b58]
    ([Value.slice o0 n1 n2] = [Value.slice o0 n1 n2] ∧ ([] : List Deferred) = [])))))))))
    (T.chk []
    (T.call 37
    [Value.slice o0 n1 n2, Value.int IntKind.i64 i8, Value.int IntKind.i64 i9,
    Value.int IntKind.i64
    (IntKind.wrap IntKind.i64 (IntKind.wrap IntKind.i64 (i9 - 1) - IntKind.wrap IntKind.i64 (i18 - i8)))]
    fun v61 =>
    T.asU v61 fun l62 =>
    T.req (List.length l62 = 2)
    (T.asI IntKind.i64 (List.headD l62 (Value.tuple (Array.mk []))) fun i63 =>
    T.asB (List.headD (List.tail l62) (Value.tuple (Array.mk []))) fun b64 =>
    T.req ((8 : Int) ≠ 0)
    (T.ite (decide (IntKind.wrap IntKind.i64 (i63 - i8) < IntKind.wrap IntKind.i64 (i9 - i63)))
    (T.call 27
    [Value.slice o0 n1 n2, Value.int IntKind.i64 i8, Value.int IntKind.i64 i63,
    Value.int IntKind.i64 (IntKind.wrap IntKind.i64 (i10 - 1))]
    fun v65 =>
    T.next 0
    [Value.int IntKind.i64 (IntKind.wrap IntKind.i64 (i63 + 1)), Value.int IntKind.i64 i9,
    Value.int IntKind.i64 (IntKind.wrap IntKind.i64 (i10 - 1)),
    Value.bool
    (decide
    (IntKind.wrap IntKind.i64 (i63 - i8) ≥
    IntKind.wrap IntKind.i64 (Int.tdiv (IntKind.wrap IntKind.i64 (i9 - i8)) 8))),
    Value.bool b64]
    ([Value.slice o0 n1 n2] = [Value.slice o0 n1 n2] ∧ ([] : List Deferred) = []))
    (T.call 27
    [Value.slice o0 n1 n2, Value.int IntKind.i64 (IntKind.wrap IntKind.i64 (i63 + 1)),
    Value.int IntKind.i64 i9, Value.int IntKind.i64 (IntKind.wrap IntKind.i64 (i10 - 1))]
    fun v66 =>
    T.next 0
    [Value.int IntKind.i64 i8, Value.int IntKind.i64 i63,
    Value.int IntKind.i64 (IntKind.wrap IntKind.i64 (i10 - 1)),
    Value.bool
    (decide
    (IntKind.wrap IntKind.i64 (i9 - i63) ≥
    IntKind.wrap IntKind.i64 (Int.tdiv (IntKind.wrap IntKind.i64 (i9 - i8)) 8))),
    Value.bool b64]
    ([Value.slice o0 n1 n2] = [Value.slice o0 n1 n2] ∧ ([] : List Deferred) = [])))))))))
    (T.drew
    (T.ite (decide (i8 > 0))
    (T.req (0 ≤ IntKind.wrap IntKind.i64 (i8 - 1) ∧ IntKind.wrap IntKind.i64 (i8 - 1) < (↑n1 : Int))
    (T.sm o0 fun n67 n68 =>
    T.ldI IntKind.i64 n67 (n68 + Int.toNat (IntKind.wrap IntKind.i64 (i8 - 1)) * 1) fun i69 =>
    T.req
    (0 ≤ IntKind.wrap IntKind.i64 (IntKind.wrap IntKind.i64 (i9 - 1) - IntKind.wrap IntKind.i64 (i18 - i8)) ∧
    IntKind.wrap IntKind.i64 (IntKind.wrap IntKind.i64 (i9 - 1) - IntKind.wrap IntKind.i64 (i18 - i8)) <
    (↑n1 : Int))
    (T.sm o0 fun n70 n71 =>
    T.ldI IntKind.i64 n70
    (n71 +
    Int.toNat
    (IntKind.wrap IntKind.i64
    (IntKind.wrap IntKind.i64 (i9 - 1) - IntKind.wrap IntKind.i64 (i18 - i8))) *
    1)
    fun i72 =>
    T.call 35 [Value.int IntKind.i64 i69, Value.int IntKind.i64 i72] fun v73 =>
    T.asB v73 fun b74 =>
    T.chk []
    (T.ite (!b74)
    (T.call 36
    [Value.slice o0 n1 n2, Value.int IntKind.i64 i8, Value.int IntKind.i64 i9,
    Value.int IntKind.i64
    (IntKind.wrap IntKind.i64
    (IntKind.wrap IntKind.i64 (i9 - 1) - IntKind.wrap IntKind.i64 (i18 - i8)))]
    fun v75 =>
    T.asI IntKind.i64 v75 fun i76 =>
    T.next 0
    [Value.int IntKind.i64 i76, Value.int IntKind.i64 i9,
    Value.int IntKind.i64 (IntKind.wrap IntKind.i64 (i10 - 1)), Value.bool b11,
    Value.bool b12]
    ([Value.slice o0 n1 n2] = [Value.slice o0 n1 n2] ∧ ([] : List Deferred) = []))
    (T.call 37
    [Value.slice o0 n1 n2, Value.int IntKind.i64 i8, Value.int IntKind.i64 i9,
    Value.int IntKind.i64
    (IntKind.wrap IntKind.i64
    (IntKind.wrap IntKind.i64 (i9 - 1) - IntKind.wrap IntKind.i64 (i18 - i8)))]
    fun v77 =>
    T.asU v77 fun l78 =>
    T.req (List.length l78 = 2)
    (T.asI IntKind.i64 (List.headD l78 (Value.tuple (Array.mk []))) fun i79 =>
    T.asB (List.headD (List.tail l78) (Value.tuple (Array.mk []))) fun b80 =>
    T.req ((8 : Int) ≠ 0)
    (T.ite
    (decide (IntKind.wrap IntKind.i64 (i79 - i8) < IntKind.wrap IntKind.i64 (i9 - i79)))
    (T.call 27
    [Value.slice o0 n1 n2, Value.int IntKind.i64 i8, Value.int IntKind.i64 i79,
    Value.int IntKind.i64 (IntKind.wrap IntKind.i64 (i10 - 1))]
    fun v81 =>
    T.next 0
    [Value.int IntKind.i64 (IntKind.wrap IntKind.i64 (i79 + 1)),
    Value.int IntKind.i64 i9,
    Value.int IntKind.i64 (IntKind.wrap IntKind.i64 (i10 - 1)),
    Value.bool
    (decide
    (IntKind.wrap IntKind.i64 (i79 - i8) ≥
    IntKind.wrap IntKind.i64
    (Int.tdiv (IntKind.wrap IntKind.i64 (i9 - i8)) 8))),
    Value.bool b80]
    ([Value.slice o0 n1 n2] = [Value.slice o0 n1 n2] ∧ ([] : List Deferred) = []))
    (T.call 27
    [Value.slice o0 n1 n2, Value.int IntKind.i64 (IntKind.wrap IntKind.i64 (i79 + 1)),
    Value.int IntKind.i64 i9,
    Value.int IntKind.i64 (IntKind.wrap IntKind.i64 (i10 - 1))]
    fun v82 =>
    T.next 0
    [Value.int IntKind.i64 i8, Value.int IntKind.i64 i79,
    Value.int IntKind.i64 (IntKind.wrap IntKind.i64 (i10 - 1)),
    Value.bool
    (decide
    (IntKind.wrap IntKind.i64 (i9 - i79) ≥
    IntKind.wrap IntKind.i64
    (Int.tdiv (IntKind.wrap IntKind.i64 (i9 - i8)) 8))),
    Value.bool b80]
    ([Value.slice o0 n1 n2] = [Value.slice o0 n1 n2] ∧ ([] : List Deferred) = [])))))))))
    (T.chk []
    (T.call 37
    [Value.slice o0 n1 n2, Value.int IntKind.i64 i8, Value.int IntKind.i64 i9,
    Value.int IntKind.i64
    (IntKind.wrap IntKind.i64 (IntKind.wrap IntKind.i64 (i9 - 1) - IntKind.wrap IntKind.i64 (i18 - i8)))]
    fun v83 =>
    T.asU v83 fun l84 =>
    T.req (List.length l84 = 2)
    (T.asI IntKind.i64 (List.headD l84 (Value.tuple (Array.mk []))) fun i85 =>
    T.asB (List.headD (List.tail l84) (Value.tuple (Array.mk []))) fun b86 =>
    T.req ((8 : Int) ≠ 0)
    (T.ite (decide (IntKind.wrap IntKind.i64 (i85 - i8) < IntKind.wrap IntKind.i64 (i9 - i85)))
    (T.call 27
    [Value.slice o0 n1 n2, Value.int IntKind.i64 i8, Value.int IntKind.i64 i85,
    Value.int IntKind.i64 (IntKind.wrap IntKind.i64 (i10 - 1))]
    fun v87 =>
    T.next 0
    [Value.int IntKind.i64 (IntKind.wrap IntKind.i64 (i85 + 1)), Value.int IntKind.i64 i9,
    Value.int IntKind.i64 (IntKind.wrap IntKind.i64 (i10 - 1)),
    Value.bool
    (decide
    (IntKind.wrap IntKind.i64 (i85 - i8) ≥
    IntKind.wrap IntKind.i64 (Int.tdiv (IntKind.wrap IntKind.i64 (i9 - i8)) 8))),
    Value.bool b86]
    ([Value.slice o0 n1 n2] = [Value.slice o0 n1 n2] ∧ ([] : List Deferred) = []))
    (T.call 27
    [Value.slice o0 n1 n2, Value.int IntKind.i64 (IntKind.wrap IntKind.i64 (i85 + 1)),
    Value.int IntKind.i64 i9, Value.int IntKind.i64 (IntKind.wrap IntKind.i64 (i10 - 1))]
    fun v88 =>
    T.next 0
    [Value.int IntKind.i64 i8, Value.int IntKind.i64 i85,
    Value.int IntKind.i64 (IntKind.wrap IntKind.i64 (i10 - 1)),
    Value.bool
    (decide
    (IntKind.wrap IntKind.i64 (i9 - i85) ≥
    IntKind.wrap IntKind.i64 (Int.tdiv (IntKind.wrap IntKind.i64 (i9 - i8)) 8))),
    Value.bool b86]
    ([Value.slice o0 n1 n2] = [Value.slice o0 n1 n2] ∧ ([] : List Deferred) = [])))))))))
    (T.drew
    (T.ite (decide (i8 > 0))
    (T.req (0 ≤ IntKind.wrap IntKind.i64 (i8 - 1) ∧ IntKind.wrap IntKind.i64 (i8 - 1) < (↑n1 : Int))
    (T.sm o0 fun n89 n90 =>
    T.ldI IntKind.i64 n89 (n90 + Int.toNat (IntKind.wrap IntKind.i64 (i8 - 1)) * 1) fun i91 =>
    T.req
    (0 ≤ IntKind.wrap IntKind.i64 (IntKind.wrap IntKind.i64 (i9 - 1) - IntKind.wrap IntKind.i64 (i18 - i8)) ∧
    IntKind.wrap IntKind.i64 (IntKind.wrap IntKind.i64 (i9 - 1) - IntKind.wrap IntKind.i64 (i18 - i8)) <
    (↑n1 : Int))
    (T.sm o0 fun n92 n93 =>
    T.ldI IntKind.i64 n92
    (n93 +
    Int.toNat
    (IntKind.wrap IntKind.i64 (IntKind.wrap IntKind.i64 (i9 - 1) - IntKind.wrap IntKind.i64 (i18 - i8))) *
    1)
    fun i94 =>
    T.call 35 [Value.int IntKind.i64 i91, Value.int IntKind.i64 i94] fun v95 =>
    T.asB v95 fun b96 =>
    T.chk []
    (T.ite (!b96)
    (T.call 36
    [Value.slice o0 n1 n2, Value.int IntKind.i64 i8, Value.int IntKind.i64 i9,
    Value.int IntKind.i64
    (IntKind.wrap IntKind.i64
    (IntKind.wrap IntKind.i64 (i9 - 1) - IntKind.wrap IntKind.i64 (i18 - i8)))]
    fun v97 =>
    T.asI IntKind.i64 v97 fun i98 =>
    T.next 0
    [Value.int IntKind.i64 i98, Value.int IntKind.i64 i9,
    Value.int IntKind.i64 (IntKind.wrap IntKind.i64 (i10 - 1)), Value.bool b11, Value.bool b12]
    ([Value.slice o0 n1 n2] = [Value.slice o0 n1 n2] ∧ ([] : List Deferred) = []))
    (T.call 37
    [Value.slice o0 n1 n2, Value.int IntKind.i64 i8, Value.int IntKind.i64 i9,
    Value.int IntKind.i64
    (IntKind.wrap IntKind.i64
    (IntKind.wrap IntKind.i64 (i9 - 1) - IntKind.wrap IntKind.i64 (i18 - i8)))]
    fun v99 =>
    T.asU v99 fun l100 =>
    T.req (List.length l100 = 2)
    (T.asI IntKind.i64 (List.headD l100 (Value.tuple (Array.mk []))) fun i101 =>
    T.asB (List.headD (List.tail l100) (Value.tuple (Array.mk []))) fun b102 =>
    T.req ((8 : Int) ≠ 0)
    (T.ite
    (decide (IntKind.wrap IntKind.i64 (i101 - i8) < IntKind.wrap IntKind.i64 (i9 - i101)))
    (T.call 27
    [Value.slice o0 n1 n2, Value.int IntKind.i64 i8, Value.int IntKind.i64 i101,
    Value.int IntKind.i64 (IntKind.wrap IntKind.i64 (i10 - 1))]
    fun v103 =>
    T.next 0
    [Value.int IntKind.i64 (IntKind.wrap IntKind.i64 (i101 + 1)),
    Value.int IntKind.i64 i9,
    Value.int IntKind.i64 (IntKind.wrap IntKind.i64 (i10 - 1)),
    Value.bool
    (decide
    (IntKind.wrap IntKind.i64 (i101 - i8) ≥
    IntKind.wrap IntKind.i64
    (Int.tdiv (IntKind.wrap IntKind.i64 (i9 - i8)) 8))),
    Value.bool b102]
    ([Value.slice o0 n1 n2] = [Value.slice o0 n1 n2] ∧ ([] : List Deferred) = []))
    (T.call 27
    [Value.slice o0 n1 n2, Value.int IntKind.i64 (IntKind.wrap IntKind.i64 (i101 + 1)),
    Value.int IntKind.i64 i9,
    Value.int IntKind.i64 (IntKind.wrap IntKind.i64 (i10 - 1))]
    fun v104 =>
    T.next 0
    [Value.int IntKind.i64 i8, Value.int IntKind.i64 i101,
    Value.int IntKind.i64 (IntKind.wrap IntKind.i64 (i10 - 1)),
    Value.bool
    (decide
    (IntKind.wrap IntKind.i64 (i9 - i101) ≥
    IntKind.wrap IntKind.i64
    (Int.tdiv (IntKind.wrap IntKind.i64 (i9 - i8)) 8))),
    Value.bool b102]
    ([Value.slice o0 n1 n2] = [Value.slice o0 n1 n2] ∧ ([] : List Deferred) = [])))))))))
    (T.chk []
    (T.call 37
    [Value.slice o0 n1 n2, Value.int IntKind.i64 i8, Value.int IntKind.i64 i9,
    Value.int IntKind.i64
    (IntKind.wrap IntKind.i64 (IntKind.wrap IntKind.i64 (i9 - 1) - IntKind.wrap IntKind.i64 (i18 - i8)))]
    fun v105 =>
    T.asU v105 fun l106 =>
    T.req (List.length l106 = 2)
    (T.asI IntKind.i64 (List.headD l106 (Value.tuple (Array.mk []))) fun i107 =>
    T.asB (List.headD (List.tail l106) (Value.tuple (Array.mk []))) fun b108 =>
    T.req ((8 : Int) ≠ 0)
    (T.ite (decide (IntKind.wrap IntKind.i64 (i107 - i8) < IntKind.wrap IntKind.i64 (i9 - i107)))
    (T.call 27
    [Value.slice o0 n1 n2, Value.int IntKind.i64 i8, Value.int IntKind.i64 i107,
    Value.int IntKind.i64 (IntKind.wrap IntKind.i64 (i10 - 1))]
    fun v109 =>
    T.next 0
    [Value.int IntKind.i64 (IntKind.wrap IntKind.i64 (i107 + 1)), Value.int IntKind.i64 i9,
    Value.int IntKind.i64 (IntKind.wrap IntKind.i64 (i10 - 1)),
    Value.bool
    (decide
    (IntKind.wrap IntKind.i64 (i107 - i8) ≥
    IntKind.wrap IntKind.i64 (Int.tdiv (IntKind.wrap IntKind.i64 (i9 - i8)) 8))),
    Value.bool b108]
    ([Value.slice o0 n1 n2] = [Value.slice o0 n1 n2] ∧ ([] : List Deferred) = []))
    (T.call 27
    [Value.slice o0 n1 n2, Value.int IntKind.i64 (IntKind.wrap IntKind.i64 (i107 + 1)),
    Value.int IntKind.i64 i9, Value.int IntKind.i64 (IntKind.wrap IntKind.i64 (i10 - 1))]
    fun v110 =>
    T.next 0
    [Value.int IntKind.i64 i8, Value.int IntKind.i64 i107,
    Value.int IntKind.i64 (IntKind.wrap IntKind.i64 (i10 - 1)),
    Value.bool
    (decide
    (IntKind.wrap IntKind.i64 (i9 - i107) ≥
    IntKind.wrap IntKind.i64 (Int.tdiv (IntKind.wrap IntKind.i64 (i9 - i8)) 8))),
    Value.bool b108]
    ([Value.slice o0 n1 n2] = [Value.slice o0 n1 n2] ∧ ([] : List Deferred) = [])))))))))
    (T.ite b11
    (T.ite b12
    (T.ite (i19 == 1)
    (T.call 34 [Value.slice o0 n1 n2, Value.int IntKind.i64 i8, Value.int IntKind.i64 i9] fun v111 =>
    T.asB v111 fun b112 =>
    T.ite b112 (T.ret (Value.tuple (Array.mk [])))
    (T.drew
    (T.ite (decide (i8 > 0))
    (T.req (0 ≤ IntKind.wrap IntKind.i64 (i8 - 1) ∧ IntKind.wrap IntKind.i64 (i8 - 1) < (↑n1 : Int))
    (T.sm o0 fun n113 n114 =>
    T.ldI IntKind.i64 n113 (n114 + Int.toNat (IntKind.wrap IntKind.i64 (i8 - 1)) * 1) fun i115 =>
    T.req (0 ≤ i18 ∧ i18 < (↑n1 : Int))
    (T.sm o0 fun n116 n117 =>
    T.ldI IntKind.i64 n116 (n117 + Int.toNat i18 * 1) fun i118 =>
    T.call 35 [Value.int IntKind.i64 i115, Value.int IntKind.i64 i118] fun v119 =>
    T.asB v119 fun b120 =>
    T.chk []
    (T.ite (!b120)
    (T.call 36
    [Value.slice o0 n1 n2, Value.int IntKind.i64 i8, Value.int IntKind.i64 i9,
    Value.int IntKind.i64 i18]
    fun v121 =>
    T.asI IntKind.i64 v121 fun i122 =>
    T.next 0
    [Value.int IntKind.i64 i122, Value.int IntKind.i64 i9,
    Value.int IntKind.i64 (IntKind.wrap IntKind.i64 (i10 - 1)), Value.bool b11,
    Value.bool b12]
    ([Value.slice o0 n1 n2] = [Value.slice o0 n1 n2] ∧ ([] : List Deferred) = []))
    (T.call 37
    [Value.slice o0 n1 n2, Value.int IntKind.i64 i8, Value.int IntKind.i64 i9,
    Value.int IntKind.i64 i18]
    fun v123 =>
    T.asU v123 fun l124 =>
    T.req (List.length l124 = 2)
    (T.asI IntKind.i64 (List.headD l124 (Value.tuple (Array.mk []))) fun i125 =>
    T.asB (List.headD (List.tail l124) (Value.tuple (Array.mk []))) fun b126 =>
    T.req ((8 : Int) ≠ 0)
    (T.ite
    (decide
    (IntKind.wrap IntKind.i64 (i125 - i8) <
    IntKind.wrap IntKind.i64 (i9 - i125)))
    (T.call 27
    [Value.slice o0 n1 n2, Value.int IntKind.i64 i8, Value.int IntKind.i64 i125,
    Value.int IntKind.i64 (IntKind.wrap IntKind.i64 (i10 - 1))]
    fun v127 =>
    T.next 0
    [Value.int IntKind.i64 (IntKind.wrap IntKind.i64 (i125 + 1)),
    Value.int IntKind.i64 i9,
    Value.int IntKind.i64 (IntKind.wrap IntKind.i64 (i10 - 1)),
    Value.bool
    (decide
    (IntKind.wrap IntKind.i64 (i125 - i8) ≥
    IntKind.wrap IntKind.i64
    (Int.tdiv (IntKind.wrap IntKind.i64 (i9 - i8)) 8))),
    Value.bool b126]
    ([Value.slice o0 n1 n2] = [Value.slice o0 n1 n2] ∧ ([] : List Deferred) = []))
    (T.call 27
    [Value.slice o0 n1 n2,
    Value.int IntKind.i64 (IntKind.wrap IntKind.i64 (i125 + 1)),
    Value.int IntKind.i64 i9,
    Value.int IntKind.i64 (IntKind.wrap IntKind.i64 (i10 - 1))]
    fun v128 =>
    T.next 0
    [Value.int IntKind.i64 i8, Value.int IntKind.i64 i125,
    Value.int IntKind.i64 (IntKind.wrap IntKind.i64 (i10 - 1)),
    Value.bool
    (decide
    (IntKind.wrap IntKind.i64 (i9 - i125) ≥
    IntKind.wrap IntKind.i64
    (Int.tdiv (IntKind.wrap IntKind.i64 (i9 - i8)) 8))),
    Value.bool b126]
    ([Value.slice o0 n1 n2] = [Value.slice o0 n1 n2] ∧ ([] : List Deferred) = [])))))))))
    (T.chk []
    (T.call 37
    [Value.slice o0 n1 n2, Value.int IntKind.i64 i8, Value.int IntKind.i64 i9, Value.int IntKind.i64 i18]
    fun v129 =>
    T.asU v129 fun l130 =>
    T.req (List.length l130 = 2)
    (T.asI IntKind.i64 (List.headD l130 (Value.tuple (Array.mk []))) fun i131 =>
    T.asB (List.headD (List.tail l130) (Value.tuple (Array.mk []))) fun b132 =>
    T.req ((8 : Int) ≠ 0)
    (T.ite (decide (IntKind.wrap IntKind.i64 (i131 - i8) < IntKind.wrap IntKind.i64 (i9 - i131)))
    (T.call 27
    [Value.slice o0 n1 n2, Value.int IntKind.i64 i8, Value.int IntKind.i64 i131,
    Value.int IntKind.i64 (IntKind.wrap IntKind.i64 (i10 - 1))]
    fun v133 =>
    T.next 0
    [Value.int IntKind.i64 (IntKind.wrap IntKind.i64 (i131 + 1)), Value.int IntKind.i64 i9,
    Value.int IntKind.i64 (IntKind.wrap IntKind.i64 (i10 - 1)),
    Value.bool
    (decide
    (IntKind.wrap IntKind.i64 (i131 - i8) ≥
    IntKind.wrap IntKind.i64 (Int.tdiv (IntKind.wrap IntKind.i64 (i9 - i8)) 8))),
    Value.bool b132]
    ([Value.slice o0 n1 n2] = [Value.slice o0 n1 n2] ∧ ([] : List Deferred) = []))
    (T.call 27
    [Value.slice o0 n1 n2, Value.int IntKind.i64 (IntKind.wrap IntKind.i64 (i131 + 1)),
    Value.int IntKind.i64 i9, Value.int IntKind.i64 (IntKind.wrap IntKind.i64 (i10 - 1))]
    fun v134 =>
    T.next 0
    [Value.int IntKind.i64 i8, Value.int IntKind.i64 i131,
    Value.int IntKind.i64 (IntKind.wrap IntKind.i64 (i10 - 1)),
    Value.bool
    (decide
    (IntKind.wrap IntKind.i64 (i9 - i131) ≥
    IntKind.wrap IntKind.i64 (Int.tdiv (IntKind.wrap IntKind.i64 (i9 - i8)) 8))),
    Value.bool b132]
    ([Value.slice o0 n1 n2] = [Value.slice o0 n1 n2] ∧ ([] : List Deferred) = [])))))))))
    (T.drew
    (T.ite (decide (i8 > 0))
    (T.req (0 ≤ IntKind.wrap IntKind.i64 (i8 - 1) ∧ IntKind.wrap IntKind.i64 (i8 - 1) < (↑n1 : Int))
    (T.sm o0 fun n135 n136 =>
    T.ldI IntKind.i64 n135 (n136 + Int.toNat (IntKind.wrap IntKind.i64 (i8 - 1)) * 1) fun i137 =>
    T.req (0 ≤ i18 ∧ i18 < (↑n1 : Int))
    (T.sm o0 fun n138 n139 =>
    T.ldI IntKind.i64 n138 (n139 + Int.toNat i18 * 1) fun i140 =>
    T.call 35 [Value.int IntKind.i64 i137, Value.int IntKind.i64 i140] fun v141 =>
    T.asB v141 fun b142 =>
    T.chk []
    (T.ite (!b142)
    (T.call 36
    [Value.slice o0 n1 n2, Value.int IntKind.i64 i8, Value.int IntKind.i64 i9,
    Value.int IntKind.i64 i18]
    fun v143 =>
    T.asI IntKind.i64 v143 fun i144 =>
    T.next 0
    [Value.int IntKind.i64 i144, Value.int IntKind.i64 i9,
    Value.int IntKind.i64 (IntKind.wrap IntKind.i64 (i10 - 1)), Value.bool b11,
    Value.bool b12]
    ([Value.slice o0 n1 n2] = [Value.slice o0 n1 n2] ∧ ([] : List Deferred) = []))
    (T.call 37
    [Value.slice o0 n1 n2, Value.int IntKind.i64 i8, Value.int IntKind.i64 i9,
    Value.int IntKind.i64 i18]
    fun v145 =>
    T.asU v145 fun l146 =>
    T.req (List.length l146 = 2)
    (T.asI IntKind.i64 (List.headD l146 (Value.tuple (Array.mk []))) fun i147 =>
    T.asB (List.headD (List.tail l146) (Value.tuple (Array.mk []))) fun b148 =>
    T.req ((8 : Int) ≠ 0)
    (T.ite
    (decide
    (IntKind.wrap IntKind.i64 (i147 - i8) < IntKind.wrap IntKind.i64 (i9 - i147)))
    (T.call 27
    [Value.slice o0 n1 n2, Value.int IntKind.i64 i8, Value.int IntKind.i64 i147,
    Value.int IntKind.i64 (IntKind.wrap IntKind.i64 (i10 - 1))]
    fun v149 =>
    T.next 0
    [Value.int IntKind.i64 (IntKind.wrap IntKind.i64 (i147 + 1)),
    Value.int IntKind.i64 i9,
    Value.int IntKind.i64 (IntKind.wrap IntKind.i64 (i10 - 1)),
    Value.bool
    (decide
    (IntKind.wrap IntKind.i64 (i147 - i8) ≥
    IntKind.wrap IntKind.i64
    (Int.tdiv (IntKind.wrap IntKind.i64 (i9 - i8)) 8))),
    Value.bool b148]
    ([Value.slice o0 n1 n2] = [Value.slice o0 n1 n2] ∧ ([] : List Deferred) = []))
    (T.call 27
    [Value.slice o0 n1 n2,
    Value.int IntKind.i64 (IntKind.wrap IntKind.i64 (i147 + 1)),
    Value.int IntKind.i64 i9,
    Value.int IntKind.i64 (IntKind.wrap IntKind.i64 (i10 - 1))]
    fun v150 =>
    T.next 0
    [Value.int IntKind.i64 i8, Value.int IntKind.i64 i147,
    Value.int IntKind.i64 (IntKind.wrap IntKind.i64 (i10 - 1)),
    Value.bool
    (decide
    (IntKind.wrap IntKind.i64 (i9 - i147) ≥
    IntKind.wrap IntKind.i64
    (Int.tdiv (IntKind.wrap IntKind.i64 (i9 - i8)) 8))),
    Value.bool b148]
    ([Value.slice o0 n1 n2] = [Value.slice o0 n1 n2] ∧ ([] : List Deferred) = [])))))))))
    (T.chk []
    (T.call 37 [Value.slice o0 n1 n2, Value.int IntKind.i64 i8, Value.int IntKind.i64 i9, Value.int IntKind.i64 i18]
    fun v151 =>
    T.asU v151 fun l152 =>
    T.req (List.length l152 = 2)
    (T.asI IntKind.i64 (List.headD l152 (Value.tuple (Array.mk []))) fun i153 =>
    T.asB (List.headD (List.tail l152) (Value.tuple (Array.mk []))) fun b154 =>
    T.req ((8 : Int) ≠ 0)
    (T.ite (decide (IntKind.wrap IntKind.i64 (i153 - i8) < IntKind.wrap IntKind.i64 (i9 - i153)))
    (T.call 27
    [Value.slice o0 n1 n2, Value.int IntKind.i64 i8, Value.int IntKind.i64 i153,
    Value.int IntKind.i64 (IntKind.wrap IntKind.i64 (i10 - 1))]
    fun v155 =>
    T.next 0
    [Value.int IntKind.i64 (IntKind.wrap IntKind.i64 (i153 + 1)), Value.int IntKind.i64 i9,
    Value.int IntKind.i64 (IntKind.wrap IntKind.i64 (i10 - 1)),
    Value.bool
    (decide
    (IntKind.wrap IntKind.i64 (i153 - i8) ≥
    IntKind.wrap IntKind.i64 (Int.tdiv (IntKind.wrap IntKind.i64 (i9 - i8)) 8))),
    Value.bool b154]
    ([Value.slice o0 n1 n2] = [Value.slice o0 n1 n2] ∧ ([] : List Deferred) = []))
    (T.call 27
    [Value.slice o0 n1 n2, Value.int IntKind.i64 (IntKind.wrap IntKind.i64 (i153 + 1)),
    Value.int IntKind.i64 i9, Value.int IntKind.i64 (IntKind.wrap IntKind.i64 (i10 - 1))]
    fun v156 =>
    T.next 0
    [Value.int IntKind.i64 i8, Value.int IntKind.i64 i153,
    Value.int IntKind.i64 (IntKind.wrap IntKind.i64 (i10 - 1)),
    Value.bool
    (decide
    (IntKind.wrap IntKind.i64 (i9 - i153) ≥
    IntKind.wrap IntKind.i64 (Int.tdiv (IntKind.wrap IntKind.i64 (i9 - i8)) 8))),
    Value.bool b154]
    ([Value.slice o0 n1 n2] = [Value.slice o0 n1 n2] ∧ ([] : List Deferred) = [])))))))))
    (T.drew
    (T.ite (decide (i8 > 0))
    (T.req (0 ≤ IntKind.wrap IntKind.i64 (i8 - 1) ∧ IntKind.wrap IntKind.i64 (i8 - 1) < (↑n1 : Int))
    (T.sm o0 fun n157 n158 =>
    T.ldI IntKind.i64 n157 (n158 + Int.toNat (IntKind.wrap IntKind.i64 (i8 - 1)) * 1) fun i159 =>
    T.req (0 ≤ i18 ∧ i18 < (↑n1 : Int))
    (T.sm o0 fun n160 n161 =>
    T.ldI IntKind.i64 n160 (n161 + Int.toNat i18 * 1) fun i162 =>
    T.call 35 [Value.int IntKind.i64 i159, Value.int IntKind.i64 i162] fun v163 =>
    T.asB v163 fun b164 =>
    T.chk []
    (T.ite (!b164)
    (T.call 36
    [Value.slice o0 n1 n2, Value.int IntKind.i64 i8, Value.int IntKind.i64 i9,
    Value.int IntKind.i64 i18]
    fun v165 =>
    T.asI IntKind.i64 v165 fun i166 =>
    T.next 0
    [Value.int IntKind.i64 i166, Value.int IntKind.i64 i9,
    Value.int IntKind.i64 (IntKind.wrap IntKind.i64 (i10 - 1)), Value.bool b11, Value.bool b12]
    ([Value.slice o0 n1 n2] = [Value.slice o0 n1 n2] ∧ ([] : List Deferred) = []))
    (T.call 37
    [Value.slice o0 n1 n2, Value.int IntKind.i64 i8, Value.int IntKind.i64 i9,
    Value.int IntKind.i64 i18]
    fun v167 =>
    T.asU v167 fun l168 =>
    T.req (List.length l168 = 2)
    (T.asI IntKind.i64 (List.headD l168 (Value.tuple (Array.mk []))) fun i169 =>
    T.asB (List.headD (List.tail l168) (Value.tuple (Array.mk []))) fun b170 =>
    T.req ((8 : Int) ≠ 0)
    (T.ite
    (decide (IntKind.wrap IntKind.i64 (i169 - i8) < IntKind.wrap IntKind.i64 (i9 - i169)))
    (T.call 27
    [Value.slice o0 n1 n2, Value.int IntKind.i64 i8, Value.int IntKind.i64 i169,
    Value.int IntKind.i64 (IntKind.wrap IntKind.i64 (i10 - 1))]
    fun v171 =>
    T.next 0
    [Value.int IntKind.i64 (IntKind.wrap IntKind.i64 (i169 + 1)),
    Value.int IntKind.i64 i9,
    Value.int IntKind.i64 (IntKind.wrap IntKind.i64 (i10 - 1)),
    Value.bool
    (decide
    (IntKind.wrap IntKind.i64 (i169 - i8) ≥
    IntKind.wrap IntKind.i64
    (Int.tdiv (IntKind.wrap IntKind.i64 (i9 - i8)) 8))),
    Value.bool b170]
    ([Value.slice o0 n1 n2] = [Value.slice o0 n1 n2] ∧ ([] : List Deferred) = []))
    (T.call 27
    [Value.slice o0 n1 n2, Value.int IntKind.i64 (IntKind.wrap IntKind.i64 (i169 + 1)),
    Value.int IntKind.i64 i9,
    Value.int IntKind.i64 (IntKind.wrap IntKind.i64 (i10 - 1))]
    fun v172 =>
    T.next 0
    [Value.int IntKind.i64 i8, Value.int IntKind.i64 i169,
    Value.int IntKind.i64 (IntKind.wrap IntKind.i64 (i10 - 1)),
    Value.bool
    (decide
    (IntKind.wrap IntKind.i64 (i9 - i169) ≥
    IntKind.wrap IntKind.i64
    (Int.tdiv (IntKind.wrap IntKind.i64 (i9 - i8)) 8))),
    Value.bool b170]
    ([Value.slice o0 n1 n2] = [Value.slice o0 n1 n2] ∧ ([] : List Deferred) = [])))))))))
    (T.chk []
    (T.call 37 [Value.slice o0 n1 n2, Value.int IntKind.i64 i8, Value.int IntKind.i64 i9, Value.int IntKind.i64 i18]
    fun v173 =>
    T.asU v173 fun l174 =>
    T.req (List.length l174 = 2)
    (T.asI IntKind.i64 (List.headD l174 (Value.tuple (Array.mk []))) fun i175 =>
    T.asB (List.headD (List.tail l174) (Value.tuple (Array.mk []))) fun b176 =>
    T.req ((8 : Int) ≠ 0)
    (T.ite (decide (IntKind.wrap IntKind.i64 (i175 - i8) < IntKind.wrap IntKind.i64 (i9 - i175)))
    (T.call 27
    [Value.slice o0 n1 n2, Value.int IntKind.i64 i8, Value.int IntKind.i64 i175,
    Value.int IntKind.i64 (IntKind.wrap IntKind.i64 (i10 - 1))]
    fun v177 =>
    T.next 0
    [Value.int IntKind.i64 (IntKind.wrap IntKind.i64 (i175 + 1)), Value.int IntKind.i64 i9,
    Value.int IntKind.i64 (IntKind.wrap IntKind.i64 (i10 - 1)),
    Value.bool
    (decide
    (IntKind.wrap IntKind.i64 (i175 - i8) ≥
    IntKind.wrap IntKind.i64 (Int.tdiv (IntKind.wrap IntKind.i64 (i9 - i8)) 8))),
    Value.bool b176]
    ([Value.slice o0 n1 n2] = [Value.slice o0 n1 n2] ∧ ([] : List Deferred) = []))
    (T.call 27
    [Value.slice o0 n1 n2, Value.int IntKind.i64 (IntKind.wrap IntKind.i64 (i175 + 1)),
    Value.int IntKind.i64 i9, Value.int IntKind.i64 (IntKind.wrap IntKind.i64 (i10 - 1))]
    fun v178 =>
    T.next 0
    [Value.int IntKind.i64 i8, Value.int IntKind.i64 i175,
    Value.int IntKind.i64 (IntKind.wrap IntKind.i64 (i10 - 1)),
    Value.bool
    (decide
    (IntKind.wrap IntKind.i64 (i9 - i175) ≥
    IntKind.wrap IntKind.i64 (Int.tdiv (IntKind.wrap IntKind.i64 (i9 - i8)) 8))),
    Value.bool b176]
    ([Value.slice o0 n1 n2] = [Value.slice o0 n1 n2] ∧ ([] : List Deferred) = [])))))))))
    (T.drew
    (T.ite (decide (i8 > 0))
    (T.req (0 ≤ IntKind.wrap IntKind.i64 (i8 - 1) ∧ IntKind.wrap IntKind.i64 (i8 - 1) < (↑n1 : Int))
    (T.sm o0 fun n179 n180 =>
    T.ldI IntKind.i64 n179 (n180 + Int.toNat (IntKind.wrap IntKind.i64 (i8 - 1)) * 1) fun i181 =>
    T.req (0 ≤ i18 ∧ i18 < (↑n1 : Int))
    (T.sm o0 fun n182 n183 =>
    T.ldI IntKind.i64 n182 (n183 + Int.toNat i18 * 1) fun i184 =>
    T.call 35 [Value.int IntKind.i64 i181, Value.int IntKind.i64 i184] fun v185 =>
    T.asB v185 fun b186 =>
    T.chk []
    (T.ite (!b186)
    (T.call 36
    [Value.slice o0 n1 n2, Value.int IntKind.i64 i8, Value.int IntKind.i64 i9,
    Value.int IntKind.i64 i18]
    fun v187 =>
    T.asI IntKind.i64 v187 fun i188 =>
    T.next 0
    [Value.int IntKind.i64 i188, Value.int IntKind.i64 i9,
    Value.int IntKind.i64 (IntKind.wrap IntKind.i64 (i10 - 1)), Value.bool b11, Value.bool b12]
    ([Value.slice o0 n1 n2] = [Value.slice o0 n1 n2] ∧ ([] : List Deferred) = []))
    (T.call 37
    [Value.slice o0 n1 n2, Value.int IntKind.i64 i8, Value.int IntKind.i64 i9,
    Value.int IntKind.i64 i18]
    fun v189 =>
    T.asU v189 fun l190 =>
    T.req (List.length l190 = 2)
    (T.asI IntKind.i64 (List.headD l190 (Value.tuple (Array.mk []))) fun i191 =>
    T.asB (List.headD (List.tail l190) (Value.tuple (Array.mk []))) fun b192 =>
    T.req ((8 : Int) ≠ 0)
    (T.ite
    (decide (IntKind.wrap IntKind.i64 (i191 - i8) < IntKind.wrap IntKind.i64 (i9 - i191)))
    (T.call 27
    [Value.slice o0 n1 n2, Value.int IntKind.i64 i8, Value.int IntKind.i64 i191,
    Value.int IntKind.i64 (IntKind.wrap IntKind.i64 (i10 - 1))]
    fun v193 =>
    T.next 0
    [Value.int IntKind.i64 (IntKind.wrap IntKind.i64 (i191 + 1)),
    Value.int IntKind.i64 i9,
    Value.int IntKind.i64 (IntKind.wrap IntKind.i64 (i10 - 1)),
    Value.bool
    (decide
    (IntKind.wrap IntKind.i64 (i191 - i8) ≥
    IntKind.wrap IntKind.i64
    (Int.tdiv (IntKind.wrap IntKind.i64 (i9 - i8)) 8))),
    Value.bool b192]
    ([Value.slice o0 n1 n2] = [Value.slice o0 n1 n2] ∧ ([] : List Deferred) = []))
    (T.call 27
    [Value.slice o0 n1 n2, Value.int IntKind.i64 (IntKind.wrap IntKind.i64 (i191 + 1)),
    Value.int IntKind.i64 i9,
    Value.int IntKind.i64 (IntKind.wrap IntKind.i64 (i10 - 1))]
    fun v194 =>
    T.next 0
    [Value.int IntKind.i64 i8, Value.int IntKind.i64 i191,
    Value.int IntKind.i64 (IntKind.wrap IntKind.i64 (i10 - 1)),
    Value.bool
    (decide
    (IntKind.wrap IntKind.i64 (i9 - i191) ≥
    IntKind.wrap IntKind.i64
    (Int.tdiv (IntKind.wrap IntKind.i64 (i9 - i8)) 8))),
    Value.bool b192]
    ([Value.slice o0 n1 n2] = [Value.slice o0 n1 n2] ∧ ([] : List Deferred) = [])))))))))
    (T.chk []
    (T.call 37 [Value.slice o0 n1 n2, Value.int IntKind.i64 i8, Value.int IntKind.i64 i9, Value.int IntKind.i64 i18]
    fun v195 =>
    T.asU v195 fun l196 =>
    T.req (List.length l196 = 2)
    (T.asI IntKind.i64 (List.headD l196 (Value.tuple (Array.mk []))) fun i197 =>
    T.asB (List.headD (List.tail l196) (Value.tuple (Array.mk []))) fun b198 =>
    T.req ((8 : Int) ≠ 0)
    (T.ite (decide (IntKind.wrap IntKind.i64 (i197 - i8) < IntKind.wrap IntKind.i64 (i9 - i197)))
    (T.call 27
    [Value.slice o0 n1 n2, Value.int IntKind.i64 i8, Value.int IntKind.i64 i197,
    Value.int IntKind.i64 (IntKind.wrap IntKind.i64 (i10 - 1))]
    fun v199 =>
    T.next 0
    [Value.int IntKind.i64 (IntKind.wrap IntKind.i64 (i197 + 1)), Value.int IntKind.i64 i9,
    Value.int IntKind.i64 (IntKind.wrap IntKind.i64 (i10 - 1)),
    Value.bool
    (decide
    (IntKind.wrap IntKind.i64 (i197 - i8) ≥
    IntKind.wrap IntKind.i64 (Int.tdiv (IntKind.wrap IntKind.i64 (i9 - i8)) 8))),
    Value.bool b198]
    ([Value.slice o0 n1 n2] = [Value.slice o0 n1 n2] ∧ ([] : List Deferred) = []))
    (T.call 27
    [Value.slice o0 n1 n2, Value.int IntKind.i64 (IntKind.wrap IntKind.i64 (i197 + 1)),
    Value.int IntKind.i64 i9, Value.int IntKind.i64 (IntKind.wrap IntKind.i64 (i10 - 1))]
    fun v200 =>
    T.next 0
    [Value.int IntKind.i64 i8, Value.int IntKind.i64 i197,
    Value.int IntKind.i64 (IntKind.wrap IntKind.i64 (i10 - 1)),
    Value.bool
    (decide
    (IntKind.wrap IntKind.i64 (i9 - i197) ≥
    IntKind.wrap IntKind.i64 (Int.tdiv (IntKind.wrap IntKind.i64 (i9 - i8)) 8))),
    Value.bool b198]
    ([Value.slice o0 n1 n2] = [Value.slice o0 n1 n2] ∧ ([] : List Deferred) = [])))))))))))
    (T.call 32 [Value.slice o0 n1 n2, Value.int IntKind.i64 i8, Value.int IntKind.i64 i9] fun v201 =>
    T.asU v201 fun l202 =>
    T.req (List.length l202 = 2)
    (T.asI IntKind.i64 (List.headD l202 (Value.tuple (Array.mk []))) fun i203 =>
    T.asI IntKind.i64 (List.headD (List.tail l202) (Value.tuple (Array.mk []))) fun i204 =>
    T.ite (i204 == 2)
    (T.call 33 [Value.slice o0 n1 n2, Value.int IntKind.i64 i8, Value.int IntKind.i64 i9] fun v205 =>
    T.ite b11
    (T.ite b12
    (T.ite true
    (T.call 34 [Value.slice o0 n1 n2, Value.int IntKind.i64 i8, Value.int IntKind.i64 i9] fun v206 =>
    T.asB v206 fun b207 =>
    T.ite b207 (T.ret (Value.tuple (Array.mk [])))
    (T.drew
    (T.ite (decide (i8 > 0))
    (T.req (0 ≤ IntKind.wrap IntKind.i64 (i8 - 1) ∧ IntKind.wrap IntKind.i64 (i8 - 1) < (↑n1 : Int))
    (T.sm o0 fun n208 n209 =>
    T.ldI IntKind.i64 n208 (n209 + Int.toNat (IntKind.wrap IntKind.i64 (i8 - 1)) * 1) fun i210 =>
    T.req
    (0 ≤
    IntKind.wrap IntKind.i64
    (IntKind.wrap IntKind.i64 (i9 - 1) - IntKind.wrap IntKind.i64 (i203 - i8)) ∧
    IntKind.wrap IntKind.i64 (IntKind.wrap IntKind.i64 (i9 - 1) - IntKind.wrap IntKind.i64 (i203 - i8)) <
    (↑n1 : Int))
    (T.sm o0 fun n211 n212 =>
    T.ldI IntKind.i64 n211
    (n212 +
    Int.toNat
    (IntKind.wrap IntKind.i64
    (IntKind.wrap IntKind.i64 (i9 - 1) - IntKind.wrap IntKind.i64 (i203 - i8))) *
    1)
    fun i213 =>
    T.call 35 [Value.int IntKind.i64 i210, Value.int IntKind.i64 i213] fun v214 =>
    T.asB v214 fun b215 =>
    T.chk []
    (T.ite (!b215)
    (T.call 36
    [Value.slice o0 n1 n2, Value.int IntKind.i64 i8, Value.int IntKind.i64 i9,
    Value.int IntKind.i64
    (IntKind.wrap IntKind.i64
    (IntKind.wrap IntKind.i64 (i9 - 1) - IntKind.wrap IntKind.i64 (i203 - i8)))]
    fun v216 =>
    T.asI IntKind.i64 v216 fun i217 =>
    T.next 0
    [Value.int IntKind.i64 i217, Value.int IntKind.i64 i9, Value.int IntKind.i64 i10,
    Value.bool b11, Value.bool b12]
    ([Value.slice o0 n1 n2] = [Value.slice o0 n1 n2] ∧ ([] : List Deferred) = []))
    (T.call 37
    [Value.slice o0 n1 n2, Value.int IntKind.i64 i8, Value.int IntKind.i64 i9,
    Value.int IntKind.i64
    (IntKind.wrap IntKind.i64
    (IntKind.wrap IntKind.i64 (i9 - 1) - IntKind.wrap IntKind.i64 (i203 - i8)))]
    fun v218 =>
    T.asU v218 fun l219 =>
    T.req (List.length l219 = 2)
    (T.asI IntKind.i64 (List.headD l219 (Value.tuple (Array.mk []))) fun i220 =>
    T.asB (List.headD (List.tail l219) (Value.tuple (Array.mk []))) fun b221 =>
    T.req ((8 : Int) ≠ 0)
    (T.ite
    (decide
    (IntKind.wrap IntKind.i64 (i220 - i8) <
    IntKind.wrap IntKind.i64 (i9 - i220)))
    (T.call 27
    [Value.slice o0 n1 n2, Value.int IntKind.i64 i8, Value.int IntKind.i64 i220,
    Value.int IntKind.i64 i10]
    fun v222 =>
    T.next 0
    [Value.int IntKind.i64 (IntKind.wrap IntKind.i64 (i220 + 1)),
    Value.int IntKind.i64 i9, Value.int IntKind.i64 i10,
    Value.bool
    (decide
    (IntKind.wrap IntKind.i64 (i220 - i8) ≥
    IntKind.wrap IntKind.i64
    (Int.tdiv (IntKind.wrap IntKind.i64 (i9 - i8)) 8))),
    Value.bool b221]
    ([Value.slice o0 n1 n2] = [Value.slice o0 n1 n2] ∧ ([] : List Deferred) = []))
    (T.call 27
    [Value.slice o0 n1 n2,
    Value.int IntKind.i64 (IntKind.wrap IntKind.i64 (i220 + 1)),
    Value.int IntKind.i64 i9, Value.int IntKind.i64 i10]
    fun v223 =>
    T.next 0
    [Value.int IntKind.i64 i8, Value.int IntKind.i64 i220,
    Value.int IntKind.i64 i10,
    Value.bool
    (decide
    (IntKind.wrap IntKind.i64 (i9 - i220) ≥
    IntKind.wrap IntKind.i64
    (Int.tdiv (IntKind.wrap IntKind.i64 (i9 - i8)) 8))),
    Value.bool b221]
    ([Value.slice o0 n1 n2] = [Value.slice o0 n1 n2] ∧ ([] : List Deferred) = [])))))))))
    (T.chk []
    (T.call 37
    [Value.slice o0 n1 n2, Value.int IntKind.i64 i8, Value.int IntKind.i64 i9,
    Value.int IntKind.i64
    (IntKind.wrap IntKind.i64 (IntKind.wrap IntKind.i64 (i9 - 1) - IntKind.wrap IntKind.i64 (i203 - i8)))]
    fun v224 =>
    T.asU v224 fun l225 =>
    T.req (List.length l225 = 2)
    (T.asI IntKind.i64 (List.headD l225 (Value.tuple (Array.mk []))) fun i226 =>
    T.asB (List.headD (List.tail l225) (Value.tuple (Array.mk []))) fun b227 =>
    T.req ((8 : Int) ≠ 0)
    (T.ite (decide (IntKind.wrap IntKind.i64 (i226 - i8) < IntKind.wrap IntKind.i64 (i9 - i226)))
    (T.call 27
    [Value.slice o0 n1 n2, Value.int IntKind.i64 i8, Value.int IntKind.i64 i226,
    Value.int IntKind.i64 i10]
    fun v228 =>
    T.next 0
    [Value.int IntKind.i64 (IntKind.wrap IntKind.i64 (i226 + 1)), Value.int IntKind.i64 i9,
    Value.int IntKind.i64 i10,
    Value.bool
    (decide
    (IntKind.wrap IntKind.i64 (i226 - i8) ≥
    IntKind.wrap IntKind.i64 (Int.tdiv (IntKind.wrap IntKind.i64 (i9 - i8)) 8))),
    Value.bool b227]
    ([Value.slice o0 n1 n2] = [Value.slice o0 n1 n2] ∧ ([] : List Deferred) = []))
    (T.call 27
    [Value.slice o0 n1 n2, Value.int IntKind.i64 (IntKind.wrap IntKind.i64 (i226 + 1)),
    Value.int IntKind.i64 i9, Value.int IntKind.i64 i10]
    fun v229 =>
    T.next 0
    [Value.int IntKind.i64 i8, Value.int IntKind.i64 i226, Value.int IntKind.i64 i10,
    Value.bool
    (decide
    (IntKind.wrap IntKind.i64 (i9 - i226) ≥
    IntKind.wrap IntKind.i64 (Int.tdiv (IntKind.wrap IntKind.i64 (i9 - i8)) 8))),
    Value.bool b227]
    ([Value.slice o0 n1 n2] = [Value.slice o0 n1 n2] ∧ ([] : List Deferred) = [])))))))))
    (T.drew
    (T.ite (decide (i8 > 0))
    (T.req (0 ≤ IntKind.wrap IntKind.i64 (i8 - 1) ∧ IntKind.wrap IntKind.i64 (i8 - 1) < (↑n1 : Int))
    (T.sm o0 fun n230 n231 =>
    T.ldI IntKind.i64 n230 (n231 + Int.toNat (IntKind.wrap IntKind.i64 (i8 - 1)) * 1) fun i232 =>
    T.req
    (0 ≤ IntKind.wrap IntKind.i64 (IntKind.wrap IntKind.i64 (i9 - 1) - IntKind.wrap IntKind.i64 (i203 - i8)) ∧
    IntKind.wrap IntKind.i64 (IntKind.wrap IntKind.i64 (i9 - 1) - IntKind.wrap IntKind.i64 (i203 - i8)) <
    (↑n1 : Int))
    (T.sm o0 fun n233 n234 =>
    T.ldI IntKind.i64 n233
    (n234 +
    Int.toNat
    (IntKind.wrap IntKind.i64
    (IntKind.wrap IntKind.i64 (i9 - 1) - IntKind.wrap IntKind.i64 (i203 - i8))) *
    1)
    fun i235 =>
    T.call 35 [Value.int IntKind.i64 i232, Value.int IntKind.i64 i235] fun v236 =>
    T.asB v236 fun b237 =>
    T.chk []
    (T.ite (!b237)
    (T.call 36
    [Value.slice o0 n1 n2, Value.int IntKind.i64 i8, Value.int IntKind.i64 i9,
    Value.int IntKind.i64
    (IntKind.wrap IntKind.i64
    (IntKind.wrap IntKind.i64 (i9 - 1) - IntKind.wrap IntKind.i64 (i203 - i8)))]
    fun v238 =>
    T.asI IntKind.i64 v238 fun i239 =>
    T.next 0
    [Value.int IntKind.i64 i239, Value.int IntKind.i64 i9, Value.int IntKind.i64 i10,
    Value.bool b11, Value.bool b12]
    ([Value.slice o0 n1 n2] = [Value.slice o0 n1 n2] ∧ ([] : List Deferred) = []))
    (T.call 37
    [Value.slice o0 n1 n2, Value.int IntKind.i64 i8, Value.int IntKind.i64 i9,
    Value.int IntKind.i64
    (IntKind.wrap IntKind.i64
    (IntKind.wrap IntKind.i64 (i9 - 1) - IntKind.wrap IntKind.i64 (i203 - i8)))]
    fun v240 =>
    T.asU v240 fun l241 =>
    T.req (List.length l241 = 2)
    (T.asI IntKind.i64 (List.headD l241 (Value.tuple (Array.mk []))) fun i242 =>
    T.asB (List.headD (List.tail l241) (Value.tuple (Array.mk []))) fun b243 =>
    T.req ((8 : Int) ≠ 0)
    (T.ite
    (decide
    (IntKind.wrap IntKind.i64 (i242 - i8) < IntKind.wrap IntKind.i64 (i9 - i242)))
    (T.call 27
    [Value.slice o0 n1 n2, Value.int IntKind.i64 i8, Value.int IntKind.i64 i242,
    Value.int IntKind.i64 i10]
    fun v244 =>
    T.next 0
    [Value.int IntKind.i64 (IntKind.wrap IntKind.i64 (i242 + 1)),
    Value.int IntKind.i64 i9, Value.int IntKind.i64 i10,
    Value.bool
    (decide
    (IntKind.wrap IntKind.i64 (i242 - i8) ≥
    IntKind.wrap IntKind.i64
    (Int.tdiv (IntKind.wrap IntKind.i64 (i9 - i8)) 8))),
    Value.bool b243]
    ([Value.slice o0 n1 n2] = [Value.slice o0 n1 n2] ∧ ([] : List Deferred) = []))
    (T.call 27
    [Value.slice o0 n1 n2,
    Value.int IntKind.i64 (IntKind.wrap IntKind.i64 (i242 + 1)),
    Value.int IntKind.i64 i9, Value.int IntKind.i64 i10]
    fun v245 =>
    T.next 0
    [Value.int IntKind.i64 i8, Value.int IntKind.i64 i242,
    Value.int IntKind.i64 i10,
    Value.bool
    (decide
    (IntKind.wrap IntKind.i64 (i9 - i242) ≥
    IntKind.wrap IntKind.i64
    (Int.tdiv (IntKind.wrap IntKind.i64 (i9 - i8)) 8))),
    Value.bool b243]
    ([Value.slice o0 n1 n2] = [Value.slice o0 n1 n2] ∧ ([] : List Deferred) = [])))))))))
    (T.chk []
    (T.call 37
    [Value.slice o0 n1 n2, Value.int IntKind.i64 i8, Value.int IntKind.i64 i9,
    Value.int IntKind.i64
    (IntKind.wrap IntKind.i64 (IntKind.wrap IntKind.i64 (i9 - 1) - IntKind.wrap IntKind.i64 (i203 - i8)))]
    fun v246 =>
    T.asU v246 fun l247 =>
    T.req (List.length l247 = 2)
    (T.asI IntKind.i64 (List.headD l247 (Value.tuple (Array.mk []))) fun i248 =>
    T.asB (List.headD (List.tail l247) (Value.tuple (Array.mk []))) fun b249 =>
    T.req ((8 : Int) ≠ 0)
    (T.ite (decide (IntKind.wrap IntKind.i64 (i248 - i8) < IntKind.wrap IntKind.i64 (i9 - i248)))
    (T.call 27
    [Value.slice o0 n1 n2, Value.int IntKind.i64 i8, Value.int IntKind.i64 i248,
    Value.int IntKind.i64 i10]
    fun v250 =>
    T.next 0
    [Value.int IntKind.i64 (IntKind.wrap IntKind.i64 (i248 + 1)), Value.int IntKind.i64 i9,
    Value.int IntKind.i64 i10,
    Value.bool
    (decide
    (IntKind.wrap IntKind.i64 (i248 - i8) ≥
    IntKind.wrap IntKind.i64 (Int.tdiv (IntKind.wrap IntKind.i64 (i9 - i8)) 8))),
    Value.bool b249]
    ([Value.slice o0 n1 n2] = [Value.slice o0 n1 n2] ∧ ([] : List Deferred) = []))
    (T.call 27
    [Value.slice o0 n1 n2, Value.int IntKind.i64 (IntKind.wrap IntKind.i64 (i248 + 1)),
    Value.int IntKind.i64 i9, Value.int IntKind.i64 i10]
    fun v251 =>
    T.next 0
    [Value.int IntKind.i64 i8, Value.int IntKind.i64 i248, Value.int IntKind.i64 i10,
    Value.bool
    (decide
    (IntKind.wrap IntKind.i64 (i9 - i248) ≥
    IntKind.wrap IntKind.i64 (Int.tdiv (IntKind.wrap IntKind.i64 (i9 - i8)) 8))),
    Value.bool b249]
    ([Value.slice o0 n1 n2] = [Value.slice o0 n1 n2] ∧ ([] : List Deferred) = [])))))))))
    (T.drew
    (T.ite (decide (i8 > 0))
    (T.req (0 ≤ IntKind.wrap IntKind.i64 (i8 - 1) ∧ IntKind.wrap IntKind.i64 (i8 - 1) < (↑n1 : Int))
    (T.sm o0 fun n252 n253 =>
    T.ldI IntKind.i64 n252 (n253 + Int.toNat (IntKind.wrap IntKind.i64 (i8 - 1)) * 1) fun i254 =>
    T.req
    (0 ≤ IntKind.wrap IntKind.i64 (IntKind.wrap IntKind.i64 (i9 - 1) - IntKind.wrap IntKind.i64 (i203 - i8)) ∧
    IntKind.wrap IntKind.i64 (IntKind.wrap IntKind.i64 (i9 - 1) - IntKind.wrap IntKind.i64 (i203 - i8)) <
    (↑n1 : Int))
    (T.sm o0 fun n255 n256 =>
    T.ldI IntKind.i64 n255
    (n256 +
    Int.toNat
    (IntKind.wrap IntKind.i64
    (IntKind.wrap IntKind.i64 (i9 - 1) - IntKind.wrap IntKind.i64 (i203 - i8))) *
    1)
    fun i257 =>
    T.call 35 [Value.int IntKind.i64 i254, Value.int IntKind.i64 i257] fun v258 =>
    T.asB v258 fun b259 =>
    T.chk []
    (T.ite (!b259)
    (T.call 36
    [Value.slice o0 n1 n2, Value.int IntKind.i64 i8, Value.int IntKind.i64 i9,
    Value.int IntKind.i64
    (IntKind.wrap IntKind.i64
    (IntKind.wrap IntKind.i64 (i9 - 1) - IntKind.wrap IntKind.i64 (i203 - i8)))]
    fun v260 =>
    T.asI IntKind.i64 v260 fun i261 =>
    T.next 0
    [Value.int IntKind.i64 i261, Value.int IntKind.i64 i9, Value.int IntKind.i64 i10,
    Value.bool b11, Value.bool b12]
    ([Value.slice o0 n1 n2] = [Value.slice o0 n1 n2] ∧ ([] : List Deferred) = []))
    (T.call 37
    [Value.slice o0 n1 n2, Value.int IntKind.i64 i8, Value.int IntKind.i64 i9,
    Value.int IntKind.i64
    (IntKind.wrap IntKind.i64
    (IntKind.wrap IntKind.i64 (i9 - 1) - IntKind.wrap IntKind.i64 (i203 - i8)))]
    fun v262 =>
    T.asU v262 fun l263 =>
    T.req (List.length l263 = 2)
    (T.asI IntKind.i64 (List.headD l263 (Value.tuple (Array.mk []))) fun i264 =>
    T.asB (List.headD (List.tail l263) (Value.tuple (Array.mk []))) fun b265 =>
    T.req ((8 : Int) ≠ 0)
    (T.ite
    (decide (IntKind.wrap IntKind.i64 (i264 - i8) < IntKind.wrap IntKind.i64 (i9 - i264)))
    (T.call 27
    [Value.slice o0 n1 n2, Value.int IntKind.i64 i8, Value.int IntKind.i64 i264,
    Value.int IntKind.i64 i10]
    fun v266 =>
    T.next 0
    [Value.int IntKind.i64 (IntKind.wrap IntKind.i64 (i264 + 1)),
    Value.int IntKind.i64 i9, Value.int IntKind.i64 i10,
    Value.bool
    (decide
    (IntKind.wrap IntKind.i64 (i264 - i8) ≥
    IntKind.wrap IntKind.i64
    (Int.tdiv (IntKind.wrap IntKind.i64 (i9 - i8)) 8))),
    Value.bool b265]
    ([Value.slice o0 n1 n2] = [Value.slice o0 n1 n2] ∧ ([] : List Deferred) = []))
    (T.call 27
    [Value.slice o0 n1 n2, Value.int IntKind.i64 (IntKind.wrap IntKind.i64 (i264 + 1)),
    Value.int IntKind.i64 i9, Value.int IntKind.i64 i10]
    fun v267 =>
    T.next 0
    [Value.int IntKind.i64 i8, Value.int IntKind.i64 i264, Value.int IntKind.i64 i10,
    Value.bool
    (decide
    (IntKind.wrap IntKind.i64 (i9 - i264) ≥
    IntKind.wrap IntKind.i64
    (Int.tdiv (IntKind.wrap IntKind.i64 (i9 - i8)) 8))),
    Value.bool b265]
    ([Value.slice o0 n1 n2] = [Value.slice o0 n1 n2] ∧ ([] : List Deferred) = [])))))))))
    (T.chk []
    (T.call 37
    [Value.slice o0 n1 n2, Value.int IntKind.i64 i8, Value.int IntKind.i64 i9,
    Value.int IntKind.i64
    (IntKind.wrap IntKind.i64 (IntKind.wrap IntKind.i64 (i9 - 1) - IntKind.wrap IntKind.i64 (i203 - i8)))]
    fun v268 =>
    T.asU v268 fun l269 =>
    T.req (List.length l269 = 2)
    (T.asI IntKind.i64 (List.headD l269 (Value.tuple (Array.mk []))) fun i270 =>
    T.asB (List.headD (List.tail l269) (Value.tuple (Array.mk []))) fun b271 =>
    T.req ((8 : Int) ≠ 0)
    (T.ite (decide (IntKind.wrap IntKind.i64 (i270 - i8) < IntKind.wrap IntKind.i64 (i9 - i270)))
    (T.call 27
    [Value.slice o0 n1 n2, Value.int IntKind.i64 i8, Value.int IntKind.i64 i270,
    Value.int IntKind.i64 i10]
    fun v272 =>
    T.next 0
    [Value.int IntKind.i64 (IntKind.wrap IntKind.i64 (i270 + 1)), Value.int IntKind.i64 i9,
    Value.int IntKind.i64 i10,
    Value.bool
    (decide
    (IntKind.wrap IntKind.i64 (i270 - i8) ≥
    IntKind.wrap IntKind.i64 (Int.tdiv (IntKind.wrap IntKind.i64 (i9 - i8)) 8))),
    Value.bool b271]
    ([Value.slice o0 n1 n2] = [Value.slice o0 n1 n2] ∧ ([] : List Deferred) = []))
    (T.call 27
    [Value.slice o0 n1 n2, Value.int IntKind.i64 (IntKind.wrap IntKind.i64 (i270 + 1)),
    Value.int IntKind.i64 i9, Value.int IntKind.i64 i10]
    fun v273 =>
    T.next 0
    [Value.int IntKind.i64 i8, Value.int IntKind.i64 i270, Value.int IntKind.i64 i10,
    Value.bool
    (decide
    (IntKind.wrap IntKind.i64 (i9 - i270) ≥
    IntKind.wrap IntKind.i64 (Int.tdiv (IntKind.wrap IntKind.i64 (i9 - i8)) 8))),
    Value.bool b271]
    ([Value.slice o0 n1 n2] = [Value.slice o0 n1 n2] ∧ ([] : List Deferred) = [])))))))))
    (T.drew
    (T.ite (decide (i8 > 0))
    (T.req (0 ≤ IntKind.wrap IntKind.i64 (i8 - 1) ∧ IntKind.wrap IntKind.i64 (i8 - 1) < (↑n1 : Int))
    (T.sm o0 fun n274 n275 =>
    T.ldI IntKind.i64 n274 (n275 + Int.toNat (IntKind.wrap IntKind.i64 (i8 - 1)) * 1) fun i276 =>
    T.req
    (0 ≤ IntKind.wrap IntKind.i64 (IntKind.wrap IntKind.i64 (i9 - 1) - IntKind.wrap IntKind.i64 (i203 - i8)) ∧
    IntKind.wrap IntKind.i64 (IntKind.wrap IntKind.i64 (i9 - 1) - IntKind.wrap IntKind.i64 (i203 - i8)) <
    (↑n1 : Int))
    (T.sm o0 fun n277 n278 =>
    T.ldI IntKind.i64 n277
    (n278 +
    Int.toNat
    (IntKind.wrap IntKind.i64 (IntKind.wrap IntKind.i64 (i9 - 1) - IntKind.wrap IntKind.i64 (i203 - i8))) *
    1)
    fun i279 =>
    T.call 35 [Value.int IntKind.i64 i276, Value.int IntKind.i64 i279] fun v280 =>
    T.asB v280 fun b281 =>
    T.chk []
    (T.ite (!b281)
    (T.call 36
    [Value.slice o0 n1 n2, Value.int IntKind.i64 i8, Value.int IntKind.i64 i9,
    Value.int IntKind.i64
    (IntKind.wrap IntKind.i64
    (IntKind.wrap IntKind.i64 (i9 - 1) - IntKind.wrap IntKind.i64 (i203 - i8)))]
    fun v282 =>
    T.asI IntKind.i64 v282 fun i283 =>
    T.next 0
    [Value.int IntKind.i64 i283, Value.int IntKind.i64 i9, Value.int IntKind.i64 i10,
    Value.bool b11, Value.bool b12]
    ([Value.slice o0 n1 n2] = [Value.slice o0 n1 n2] ∧ ([] : List Deferred) = []))
    (T.call 37
    [Value.slice o0 n1 n2, Value.int IntKind.i64 i8, Value.int IntKind.i64 i9,
    Value.int IntKind.i64
    (IntKind.wrap IntKind.i64
    (IntKind.wrap IntKind.i64 (i9 - 1) - IntKind.wrap IntKind.i64 (i203 - i8)))]
    fun v284 =>
    T.asU v284 fun l285 =>
    T.req (List.length l285 = 2)
    (T.asI IntKind.i64 (List.headD l285 (Value.tuple (Array.mk []))) fun i286 =>
    T.asB (List.headD (List.tail l285) (Value.tuple (Array.mk []))) fun b287 =>
    T.req ((8 : Int) ≠ 0)
    (T.ite
    (decide (IntKind.wrap IntKind.i64 (i286 - i8) < IntKind.wrap IntKind.i64 (i9 - i286)))
    (T.call 27
    [Value.slice o0 n1 n2, Value.int IntKind.i64 i8, Value.int IntKind.i64 i286,
    Value.int IntKind.i64 i10]
    fun v288 =>
    T.next 0
    [Value.int IntKind.i64 (IntKind.wrap IntKind.i64 (i286 + 1)),
    Value.int IntKind.i64 i9, Value.int IntKind.i64 i10,
    Value.bool
    (decide
    (IntKind.wrap IntKind.i64 (i286 - i8) ≥
    IntKind.wrap IntKind.i64
    (Int.tdiv (IntKind.wrap IntKind.i64 (i9 - i8)) 8))),
    Value.bool b287]
    ([Value.slice o0 n1 n2] = [Value.slice o0 n1 n2] ∧ ([] : List Deferred) = []))
    (T.call 27
    [Value.slice o0 n1 n2, Value.int IntKind.i64 (IntKind.wrap IntKind.i64 (i286 + 1)),
    Value.int IntKind.i64 i9, Value.int IntKind.i64 i10]
    fun v289 =>
    T.next 0
    [Value.int IntKind.i64 i8, Value.int IntKind.i64 i286, Value.int IntKind.i64 i10,
    Value.bool
    (decide
    (IntKind.wrap IntKind.i64 (i9 - i286) ≥
    IntKind.wrap IntKind.i64
    (Int.tdiv (IntKind.wrap IntKind.i64 (i9 - i8)) 8))),
    Value.bool b287]
    ([Value.slice o0 n1 n2] = [Value.slice o0 n1 n2] ∧ ([] : List Deferred) = [])))))))))
    (T.chk []
    (T.call 37
    [Value.slice o0 n1 n2, Value.int IntKind.i64 i8, Value.int IntKind.i64 i9,
    Value.int IntKind.i64
    (IntKind.wrap IntKind.i64 (IntKind.wrap IntKind.i64 (i9 - 1) - IntKind.wrap IntKind.i64 (i203 - i8)))]
    fun v290 =>
    T.asU v290 fun l291 =>
    T.req (List.length l291 = 2)
    (T.asI IntKind.i64 (List.headD l291 (Value.tuple (Array.mk []))) fun i292 =>
    T.asB (List.headD (List.tail l291) (Value.tuple (Array.mk []))) fun b293 =>
    T.req ((8 : Int) ≠ 0)
    (T.ite (decide (IntKind.wrap IntKind.i64 (i292 - i8) < IntKind.wrap IntKind.i64 (i9 - i292)))
    (T.call 27
    [Value.slice o0 n1 n2, Value.int IntKind.i64 i8, Value.int IntKind.i64 i292, Value.int IntKind.i64 i10]
    fun v294 =>
    T.next 0
    [Value.int IntKind.i64 (IntKind.wrap IntKind.i64 (i292 + 1)), Value.int IntKind.i64 i9,
    Value.int IntKind.i64 i10,
    Value.bool
    (decide
    (IntKind.wrap IntKind.i64 (i292 - i8) ≥
    IntKind.wrap IntKind.i64 (Int.tdiv (IntKind.wrap IntKind.i64 (i9 - i8)) 8))),
    Value.bool b293]
    ([Value.slice o0 n1 n2] = [Value.slice o0 n1 n2] ∧ ([] : List Deferred) = []))
    (T.call 27
    [Value.slice o0 n1 n2, Value.int IntKind.i64 (IntKind.wrap IntKind.i64 (i292 + 1)),
    Value.int IntKind.i64 i9, Value.int IntKind.i64 i10]
    fun v295 =>
    T.next 0
    [Value.int IntKind.i64 i8, Value.int IntKind.i64 i292, Value.int IntKind.i64 i10,
    Value.bool
    (decide
    (IntKind.wrap IntKind.i64 (i9 - i292) ≥
    IntKind.wrap IntKind.i64 (Int.tdiv (IntKind.wrap IntKind.i64 (i9 - i8)) 8))),
    Value.bool b293]
    ([Value.slice o0 n1 n2] = [Value.slice o0 n1 n2] ∧ ([] : List Deferred) = [])))))))))
    (T.ite b11
    (T.ite b12
    (T.ite (i204 == 1)
    (T.call 34 [Value.slice o0 n1 n2, Value.int IntKind.i64 i8, Value.int IntKind.i64 i9] fun v296 =>
    T.asB v296 fun b297 =>
    T.ite b297 (T.ret (Value.tuple (Array.mk [])))
    (T.drew
    (T.ite (decide (i8 > 0))
    (T.req (0 ≤ IntKind.wrap IntKind.i64 (i8 - 1) ∧ IntKind.wrap IntKind.i64 (i8 - 1) < (↑n1 : Int))
    (T.sm o0 fun n298 n299 =>
    T.ldI IntKind.i64 n298 (n299 + Int.toNat (IntKind.wrap IntKind.i64 (i8 - 1)) * 1) fun i300 =>
    T.req (0 ≤ i203 ∧ i203 < (↑n1 : Int))
    (T.sm o0 fun n301 n302 =>
    T.ldI IntKind.i64 n301 (n302 + Int.toNat i203 * 1) fun i303 =>
    T.call 35 [Value.int IntKind.i64 i300, Value.int IntKind.i64 i303] fun v304 =>
    T.asB v304 fun b305 =>
    T.chk []
    (T.ite (!b305)
    (T.call 36
    [Value.slice o0 n1 n2, Value.int IntKind.i64 i8, Value.int IntKind.i64 i9,
    Value.int IntKind.i64 i203]
    fun v306 =>
    T.asI IntKind.i64 v306 fun i307 =>
    T.next 0
    [Value.int IntKind.i64 i307, Value.int IntKind.i64 i9, Value.int IntKind.i64 i10,
    Value.bool b11, Value.bool b12]
    ([Value.slice o0 n1 n2] = [Value.slice o0 n1 n2] ∧ ([] : List Deferred) = []))
    (T.call 37
    [Value.slice o0 n1 n2, Value.int IntKind.i64 i8, Value.int IntKind.i64 i9,
    Value.int IntKind.i64 i203]
    fun v308 =>
    T.asU v308 fun l309 =>
    T.req (List.length l309 = 2)
    (T.asI IntKind.i64 (List.headD l309 (Value.tuple (Array.mk []))) fun i310 =>
    T.asB (List.headD (List.tail l309) (Value.tuple (Array.mk []))) fun b311 =>
    T.req ((8 : Int) ≠ 0)
    (T.ite
    (decide
    (IntKind.wrap IntKind.i64 (i310 - i8) < IntKind.wrap IntKind.i64 (i9 - i310)))
    (T.call 27
    [Value.slice o0 n1 n2, Value.int IntKind.i64 i8, Value.int IntKind.i64 i310,
    Value.int IntKind.i64 i10]
    fun v312 =>
    T.next 0
    [Value.int IntKind.i64 (IntKind.wrap IntKind.i64 (i310 + 1)),
    Value.int IntKind.i64 i9, Value.int IntKind.i64 i10,
    Value.bool
    (decide
    (IntKind.wrap IntKind.i64 (i310 - i8) ≥
    IntKind.wrap IntKind.i64
    (Int.tdiv (IntKind.wrap IntKind.i64 (i9 - i8)) 8))),
    Value.bool b311]
    ([Value.slice o0 n1 n2] = [Value.slice o0 n1 n2] ∧ ([] : List Deferred) = []))
    (T.call 27
    [Value.slice o0 n1 n2,
    Value.int IntKind.i64 (IntKind.wrap IntKind.i64 (i310 + 1)),
    Value.int IntKind.i64 i9, Value.int IntKind.i64 i10]
    fun v313 =>
    T.next 0
    [Value.int IntKind.i64 i8, Value.int IntKind.i64 i310,
    Value.int IntKind.i64 i10,
    Value.bool
    (decide
    (IntKind.wrap IntKind.i64 (i9 - i310) ≥
    IntKind.wrap IntKind.i64
    (Int.tdiv (IntKind.wrap IntKind.i64 (i9 - i8)) 8))),
    Value.bool b311]
    ([Value.slice o0 n1 n2] = [Value.slice o0 n1 n2] ∧ ([] : List Deferred) = [])))))))))
    (T.chk []
    (T.call 37
    [Value.slice o0 n1 n2, Value.int IntKind.i64 i8, Value.int IntKind.i64 i9, Value.int IntKind.i64 i203]
    fun v314 =>
    T.asU v314 fun l315 =>
    T.req (List.length l315 = 2)
    (T.asI IntKind.i64 (List.headD l315 (Value.tuple (Array.mk []))) fun i316 =>
    T.asB (List.headD (List.tail l315) (Value.tuple (Array.mk []))) fun b317 =>
    T.req ((8 : Int) ≠ 0)
    (T.ite (decide (IntKind.wrap IntKind.i64 (i316 - i8) < IntKind.wrap IntKind.i64 (i9 - i316)))
    (T.call 27
    [Value.slice o0 n1 n2, Value.int IntKind.i64 i8, Value.int IntKind.i64 i316,
    Value.int IntKind.i64 i10]
    fun v318 =>
    T.next 0
    [Value.int IntKind.i64 (IntKind.wrap IntKind.i64 (i316 + 1)), Value.int IntKind.i64 i9,
    Value.int IntKind.i64 i10,
    Value.bool
    (decide
    (IntKind.wrap IntKind.i64 (i316 - i8) ≥
    IntKind.wrap IntKind.i64 (Int.tdiv (IntKind.wrap IntKind.i64 (i9 - i8)) 8))),
    Value.bool b317]
    ([Value.slice o0 n1 n2] = [Value.slice o0 n1 n2] ∧ ([] : List Deferred) = []))
    (T.call 27
    [Value.slice o0 n1 n2, Value.int IntKind.i64 (IntKind.wrap IntKind.i64 (i316 + 1)),
    Value.int IntKind.i64 i9, Value.int IntKind.i64 i10]
    fun v319 =>
    T.next 0
    [Value.int IntKind.i64 i8, Value.int IntKind.i64 i316, Value.int IntKind.i64 i10,
    Value.bool
    (decide
    (IntKind.wrap IntKind.i64 (i9 - i316) ≥
    IntKind.wrap IntKind.i64 (Int.tdiv (IntKind.wrap IntKind.i64 (i9 - i8)) 8))),
    Value.bool b317]
    ([Value.slice o0 n1 n2] = [Value.slice o0 n1 n2] ∧ ([] : List Deferred) = [])))))))))
    (T.drew
    (T.ite (decide (i8 > 0))
    (T.req (0 ≤ IntKind.wrap IntKind.i64 (i8 - 1) ∧ IntKind.wrap IntKind.i64 (i8 - 1) < (↑n1 : Int))
    (T.sm o0 fun n320 n321 =>
    T.ldI IntKind.i64 n320 (n321 + Int.toNat (IntKind.wrap IntKind.i64 (i8 - 1)) * 1) fun i322 =>
    T.req (0 ≤ i203 ∧ i203 < (↑n1 : Int))
    (T.sm o0 fun n323 n324 =>
    T.ldI IntKind.i64 n323 (n324 + Int.toNat i203 * 1) fun i325 =>
    T.call 35 [Value.int IntKind.i64 i322, Value.int IntKind.i64 i325] fun v326 =>
    T.asB v326 fun b327 =>
    T.chk []
    (T.ite (!b327)
    (T.call 36
    [Value.slice o0 n1 n2, Value.int IntKind.i64 i8, Value.int IntKind.i64 i9,
    Value.int IntKind.i64 i203]
    fun v328 =>
    T.asI IntKind.i64 v328 fun i329 =>
    T.next 0
    [Value.int IntKind.i64 i329, Value.int IntKind.i64 i9, Value.int IntKind.i64 i10,
    Value.bool b11, Value.bool b12]
    ([Value.slice o0 n1 n2] = [Value.slice o0 n1 n2] ∧ ([] : List Deferred) = []))
    (T.call 37
    [Value.slice o0 n1 n2, Value.int IntKind.i64 i8, Value.int IntKind.i64 i9,
    Value.int IntKind.i64 i203]
    fun v330 =>
    T.asU v330 fun l331 =>
    T.req (List.length l331 = 2)
    (T.asI IntKind.i64 (List.headD l331 (Value.tuple (Array.mk []))) fun i332 =>
    T.asB (List.headD (List.tail l331) (Value.tuple (Array.mk []))) fun b333 =>
    T.req ((8 : Int) ≠ 0)
    (T.ite
    (decide (IntKind.wrap IntKind.i64 (i332 - i8) < IntKind.wrap IntKind.i64 (i9 - i332)))
    (T.call 27
    [Value.slice o0 n1 n2, Value.int IntKind.i64 i8, Value.int IntKind.i64 i332,
    Value.int IntKind.i64 i10]
    fun v334 =>
    T.next 0
    [Value.int IntKind.i64 (IntKind.wrap IntKind.i64 (i332 + 1)),
    Value.int IntKind.i64 i9, Value.int IntKind.i64 i10,
    Value.bool
    (decide
    (IntKind.wrap IntKind.i64 (i332 - i8) ≥
    IntKind.wrap IntKind.i64
    (Int.tdiv (IntKind.wrap IntKind.i64 (i9 - i8)) 8))),
    Value.bool b333]
    ([Value.slice o0 n1 n2] = [Value.slice o0 n1 n2] ∧ ([] : List Deferred) = []))
    (T.call 27
    [Value.slice o0 n1 n2, Value.int IntKind.i64 (IntKind.wrap IntKind.i64 (i332 + 1)),
    Value.int IntKind.i64 i9, Value.int IntKind.i64 i10]
    fun v335 =>
    T.next 0
    [Value.int IntKind.i64 i8, Value.int IntKind.i64 i332, Value.int IntKind.i64 i10,
    Value.bool
    (decide
    (IntKind.wrap IntKind.i64 (i9 - i332) ≥
    IntKind.wrap IntKind.i64
    (Int.tdiv (IntKind.wrap IntKind.i64 (i9 - i8)) 8))),
    Value.bool b333]
    ([Value.slice o0 n1 n2] = [Value.slice o0 n1 n2] ∧ ([] : List Deferred) = [])))))))))
    (T.chk []
    (T.call 37 [Value.slice o0 n1 n2, Value.int IntKind.i64 i8, Value.int IntKind.i64 i9, Value.int IntKind.i64 i203]
    fun v336 =>
    T.asU v336 fun l337 =>
    T.req (List.length l337 = 2)
    (T.asI IntKind.i64 (List.headD l337 (Value.tuple (Array.mk []))) fun i338 =>
    T.asB (List.headD (List.tail l337) (Value.tuple (Array.mk []))) fun b339 =>
    T.req ((8 : Int) ≠ 0)
    (T.ite (decide (IntKind.wrap IntKind.i64 (i338 - i8) < IntKind.wrap IntKind.i64 (i9 - i338)))
    (T.call 27
    [Value.slice o0 n1 n2, Value.int IntKind.i64 i8, Value.int IntKind.i64 i338,
    Value.int IntKind.i64 i10]
    fun v340 =>
    T.next 0
    [Value.int IntKind.i64 (IntKind.wrap IntKind.i64 (i338 + 1)), Value.int IntKind.i64 i9,
    Value.int IntKind.i64 i10,
    Value.bool
    (decide
    (IntKind.wrap IntKind.i64 (i338 - i8) ≥
    IntKind.wrap IntKind.i64 (Int.tdiv (IntKind.wrap IntKind.i64 (i9 - i8)) 8))),
    Value.bool b339]
    ([Value.slice o0 n1 n2] = [Value.slice o0 n1 n2] ∧ ([] : List Deferred) = []))
    (T.call 27
    [Value.slice o0 n1 n2, Value.int IntKind.i64 (IntKind.wrap IntKind.i64 (i338 + 1)),
    Value.int IntKind.i64 i9, Value.int IntKind.i64 i10]
    fun v341 =>
    T.next 0
    [Value.int IntKind.i64 i8, Value.int IntKind.i64 i338, Value.int IntKind.i64 i10,
    Value.bool
    (decide
    (IntKind.wrap IntKind.i64 (i9 - i338) ≥
    IntKind.wrap IntKind.i64 (Int.tdiv (IntKind.wrap IntKind.i64 (i9 - i8)) 8))),
    Value.bool b339]
    ([Value.slice o0 n1 n2] = [Value.slice o0 n1 n2] ∧ ([] : List Deferred) = [])))))))))
    (T.drew
    (T.ite (decide (i8 > 0))
    (T.req (0 ≤ IntKind.wrap IntKind.i64 (i8 - 1) ∧ IntKind.wrap IntKind.i64 (i8 - 1) < (↑n1 : Int))
    (T.sm o0 fun n342 n343 =>
    T.ldI IntKind.i64 n342 (n343 + Int.toNat (IntKind.wrap IntKind.i64 (i8 - 1)) * 1) fun i344 =>
    T.req (0 ≤ i203 ∧ i203 < (↑n1 : Int))
    (T.sm o0 fun n345 n346 =>
    T.ldI IntKind.i64 n345 (n346 + Int.toNat i203 * 1) fun i347 =>
    T.call 35 [Value.int IntKind.i64 i344, Value.int IntKind.i64 i347] fun v348 =>
    T.asB v348 fun b349 =>
    T.chk []
    (T.ite (!b349)
    (T.call 36
    [Value.slice o0 n1 n2, Value.int IntKind.i64 i8, Value.int IntKind.i64 i9,
    Value.int IntKind.i64 i203]
    fun v350 =>
    T.asI IntKind.i64 v350 fun i351 =>
    T.next 0
    [Value.int IntKind.i64 i351, Value.int IntKind.i64 i9, Value.int IntKind.i64 i10,
    Value.bool b11, Value.bool b12]
    ([Value.slice o0 n1 n2] = [Value.slice o0 n1 n2] ∧ ([] : List Deferred) = []))
    (T.call 37
    [Value.slice o0 n1 n2, Value.int IntKind.i64 i8, Value.int IntKind.i64 i9,
    Value.int IntKind.i64 i203]
    fun v352 =>
    T.asU v352 fun l353 =>
    T.req (List.length l353 = 2)
    (T.asI IntKind.i64 (List.headD l353 (Value.tuple (Array.mk []))) fun i354 =>
    T.asB (List.headD (List.tail l353) (Value.tuple (Array.mk []))) fun b355 =>
    T.req ((8 : Int) ≠ 0)
    (T.ite
    (decide (IntKind.wrap IntKind.i64 (i354 - i8) < IntKind.wrap IntKind.i64 (i9 - i354)))
    (T.call 27
    [Value.slice o0 n1 n2, Value.int IntKind.i64 i8, Value.int IntKind.i64 i354,
    Value.int IntKind.i64 i10]
    fun v356 =>
    T.next 0
    [Value.int IntKind.i64 (IntKind.wrap IntKind.i64 (i354 + 1)),
    Value.int IntKind.i64 i9, Value.int IntKind.i64 i10,
    Value.bool
    (decide
    (IntKind.wrap IntKind.i64 (i354 - i8) ≥
    IntKind.wrap IntKind.i64
    (Int.tdiv (IntKind.wrap IntKind.i64 (i9 - i8)) 8))),
    Value.bool b355]
    ([Value.slice o0 n1 n2] = [Value.slice o0 n1 n2] ∧ ([] : List Deferred) = []))
    (T.call 27
    [Value.slice o0 n1 n2, Value.int IntKind.i64 (IntKind.wrap IntKind.i64 (i354 + 1)),
    Value.int IntKind.i64 i9, Value.int IntKind.i64 i10]
    fun v357 =>
    T.next 0
    [Value.int IntKind.i64 i8, Value.int IntKind.i64 i354, Value.int IntKind.i64 i10,
    Value.bool
    (decide
    (IntKind.wrap IntKind.i64 (i9 - i354) ≥
    IntKind.wrap IntKind.i64
    (Int.tdiv (IntKind.wrap IntKind.i64 (i9 - i8)) 8))),
    Value.bool b355]
    ([Value.slice o0 n1 n2] = [Value.slice o0 n1 n2] ∧ ([] : List Deferred) = [])))))))))
    (T.chk []
    (T.call 37 [Value.slice o0 n1 n2, Value.int IntKind.i64 i8, Value.int IntKind.i64 i9, Value.int IntKind.i64 i203]
    fun v358 =>
    T.asU v358 fun l359 =>
    T.req (List.length l359 = 2)
    (T.asI IntKind.i64 (List.headD l359 (Value.tuple (Array.mk []))) fun i360 =>
    T.asB (List.headD (List.tail l359) (Value.tuple (Array.mk []))) fun b361 =>
    T.req ((8 : Int) ≠ 0)
    (T.ite (decide (IntKind.wrap IntKind.i64 (i360 - i8) < IntKind.wrap IntKind.i64 (i9 - i360)))
    (T.call 27
    [Value.slice o0 n1 n2, Value.int IntKind.i64 i8, Value.int IntKind.i64 i360, Value.int IntKind.i64 i10]
    fun v362 =>
    T.next 0
    [Value.int IntKind.i64 (IntKind.wrap IntKind.i64 (i360 + 1)), Value.int IntKind.i64 i9,
    Value.int IntKind.i64 i10,
    Value.bool
    (decide
    (IntKind.wrap IntKind.i64 (i360 - i8) ≥
    IntKind.wrap IntKind.i64 (Int.tdiv (IntKind.wrap IntKind.i64 (i9 - i8)) 8))),
    Value.bool b361]
    ([Value.slice o0 n1 n2] = [Value.slice o0 n1 n2] ∧ ([] : List Deferred) = []))
    (T.call 27
    [Value.slice o0 n1 n2, Value.int IntKind.i64 (IntKind.wrap IntKind.i64 (i360 + 1)),
    Value.int IntKind.i64 i9, Value.int IntKind.i64 i10]
    fun v363 =>
    T.next 0
    [Value.int IntKind.i64 i8, Value.int IntKind.i64 i360, Value.int IntKind.i64 i10,
    Value.bool
    (decide
    (IntKind.wrap IntKind.i64 (i9 - i360) ≥
    IntKind.wrap IntKind.i64 (Int.tdiv (IntKind.wrap IntKind.i64 (i9 - i8)) 8))),
    Value.bool b361]
    ([Value.slice o0 n1 n2] = [Value.slice o0 n1 n2] ∧ ([] : List Deferred) = [])))))))))
    (T.drew
    (T.ite (decide (i8 > 0))
    (T.req (0 ≤ IntKind.wrap IntKind.i64 (i8 - 1) ∧ IntKind.wrap IntKind.i64 (i8 - 1) < (↑n1 : Int))
    (T.sm o0 fun n364 n365 =>
    T.ldI IntKind.i64 n364 (n365 + Int.toNat (IntKind.wrap IntKind.i64 (i8 - 1)) * 1) fun i366 =>
    T.req (0 ≤ i203 ∧ i203 < (↑n1 : Int))
    (T.sm o0 fun n367 n368 =>
    T.ldI IntKind.i64 n367 (n368 + Int.toNat i203 * 1) fun i369 =>
    T.call 35 [Value.int IntKind.i64 i366, Value.int IntKind.i64 i369] fun v370 =>
    T.asB v370 fun b371 =>
    T.chk []
    (T.ite (!b371)
    (T.call 36
    [Value.slice o0 n1 n2, Value.int IntKind.i64 i8, Value.int IntKind.i64 i9, Value.int IntKind.i64 i203]
    fun v372 =>
    T.asI IntKind.i64 v372 fun i373 =>
    T.next 0
    [Value.int IntKind.i64 i373, Value.int IntKind.i64 i9, Value.int IntKind.i64 i10, Value.bool b11,
    Value.bool b12]
    ([Value.slice o0 n1 n2] = [Value.slice o0 n1 n2] ∧ ([] : List Deferred) = []))
    (T.call 37
    [Value.slice o0 n1 n2, Value.int IntKind.i64 i8, Value.int IntKind.i64 i9, Value.int IntKind.i64 i203]
    fun v374 =>
    T.asU v374 fun l375 =>
    T.req (List.length l375 = 2)
    (T.asI IntKind.i64 (List.headD l375 (Value.tuple (Array.mk []))) fun i376 =>
    T.asB (List.headD (List.tail l375) (Value.tuple (Array.mk []))) fun b377 =>
    T.req ((8 : Int) ≠ 0)
    (T.ite
    (decide (IntKind.wrap IntKind.i64 (i376 - i8) < IntKind.wrap IntKind.i64 (i9 - i376)))
    (T.call 27
    [Value.slice o0 n1 n2, Value.int IntKind.i64 i8, Value.int IntKind.i64 i376,
    Value.int IntKind.i64 i10]
    fun v378 =>
    T.next 0
    [Value.int IntKind.i64 (IntKind.wrap IntKind.i64 (i376 + 1)),
    Value.int IntKind.i64 i9, Value.int IntKind.i64 i10,
    Value.bool
    (decide
    (IntKind.wrap IntKind.i64 (i376 - i8) ≥
    IntKind.wrap IntKind.i64 (Int.tdiv (IntKind.wrap IntKind.i64 (i9 - i8)) 8))),
    Value.bool b377]
    ([Value.slice o0 n1 n2] = [Value.slice o0 n1 n2] ∧ ([] : List Deferred) = []))
    (T.call 27
    [Value.slice o0 n1 n2, Value.int IntKind.i64 (IntKind.wrap IntKind.i64 (i376 + 1)),
    Value.int IntKind.i64 i9, Value.int IntKind.i64 i10]
    fun v379 =>
    T.next 0
    [Value.int IntKind.i64 i8, Value.int IntKind.i64 i376, Value.int IntKind.i64 i10,
    Value.bool
    (decide
    (IntKind.wrap IntKind.i64 (i9 - i376) ≥
    IntKind.wrap IntKind.i64 (Int.tdiv (IntKind.wrap IntKind.i64 (i9 - i8)) 8))),
    Value.bool b377]
    ([Value.slice o0 n1 n2] = [Value.slice o0 n1 n2] ∧ ([] : List Deferred) = [])))))))))
    (T.chk []
    (T.call 37 [Value.slice o0 n1 n2, Value.int IntKind.i64 i8, Value.int IntKind.i64 i9, Value.int IntKind.i64 i203]
    fun v380 =>
    T.asU v380 fun l381 =>
    T.req (List.length l381 = 2)
    (T.asI IntKind.i64 (List.headD l381 (Value.tuple (Array.mk []))) fun i382 =>
    T.asB (List.headD (List.tail l381) (Value.tuple (Array.mk []))) fun b383 =>
    T.req ((8 : Int) ≠ 0)
    (T.ite (decide (IntKind.wrap IntKind.i64 (i382 - i8) < IntKind.wrap IntKind.i64 (i9 - i382)))
    (T.call 27
    [Value.slice o0 n1 n2, Value.int IntKind.i64 i8, Value.int IntKind.i64 i382, Value.int IntKind.i64 i10]
    fun v384 =>
    T.next 0
    [Value.int IntKind.i64 (IntKind.wrap IntKind.i64 (i382 + 1)), Value.int IntKind.i64 i9,
    Value.int IntKind.i64 i10,
    Value.bool
    (decide
    (IntKind.wrap IntKind.i64 (i382 - i8) ≥
    IntKind.wrap IntKind.i64 (Int.tdiv (IntKind.wrap IntKind.i64 (i9 - i8)) 8))),
    Value.bool b383]
    ([Value.slice o0 n1 n2] = [Value.slice o0 n1 n2] ∧ ([] : List Deferred) = []))
    (T.call 27
    [Value.slice o0 n1 n2, Value.int IntKind.i64 (IntKind.wrap IntKind.i64 (i382 + 1)),
    Value.int IntKind.i64 i9, Value.int IntKind.i64 i10]
    fun v385 =>
    T.next 0
    [Value.int IntKind.i64 i8, Value.int IntKind.i64 i382, Value.int IntKind.i64 i10,
    Value.bool
    (decide
    (IntKind.wrap IntKind.i64 (i9 - i382) ≥
    IntKind.wrap IntKind.i64 (Int.tdiv (IntKind.wrap IntKind.i64 (i9 - i8)) 8))),
    Value.bool b383]
    ([Value.slice o0 n1 n2] = [Value.slice o0 n1 n2] ∧ ([] : List Deferred) = [])))))))))))))
theorem e27 (o0 : Option Addr) (n1 n2 : Nat) (i3 : Int) (i4 : Int) (i5 : Int) : treeOf Try.prog Try.f27 (codeOf Try.f27) (.s .n (.s .n (.u (.l [(1, .int .i64), (2, .int .i64), (3, .int .i64), (8, .bool), (9, .bool)] [0] (.u (.s .n (.s .n (.s .n (.s .n (.s .n (.s .n (.s .n (.s (.s (.p [0, 1, 2, 3, 4, 5, 6, 7, 8, 9, 10, 11, 12, 13, 14]) .n) .n))))))))))))) [.v (.slice o0 n1 n2), .v (.int .i64 i3), .v (.int .i64 i4), .v (.int .i64 i5)] = (t27 o0 n1 n2 i3 i4 i5) := by kernel_rfl
theorem c27 (o0 : Option Addr) (n1 n2 : Nat) (i3 : Int) (i4 : Int) (i5 : Int) {w : World} {R : Ending → World → Prop} (h : (t27 o0 n1 n2 i3 i4 i5).sem Try.prog R ρ0 w) : Calls Try.prog 27 #[.slice o0 n1 n2, .int .i64 i3, .int .i64 i4, .int .i64 i5] w R :=
  calls_of mixed Try.func27 rfl rfl (e27 o0 n1 n2 i3 i4 i5) h
def t3 (i0 : Int) (i1 : Int) (i2 : Int) (o3 : Option Addr) (n4 n5 : Nat) : T :=
  T.new (Obj.cells (Array.mk [Value.int IntKind.i64 i0, Value.int IntKind.i64 i1]) 23) fun n6 =>
  T.ldI IntKind.i64 n6 0 fun i7 =>
    T.ldI IntKind.i64 n6 1 fun i8 =>
    T.call 7 [Value.agg (Array.mk [Value.int IntKind.i64 i7, Value.int IntKind.i64 i8]), Value.int IntKind.i64 i2] fun v9 =>
    T.asU v9 fun l10 =>
    T.req (List.length l10 = 2)
    (T.asP (List.headD l10 (Value.tuple (Array.mk []))) fun o11 =>
    T.asI IntKind.i64 (List.headD (List.tail l10) (Value.tuple (Array.mk []))) fun i12 =>
    T.call 8 [] fun v13 =>
    T.asB v13 fun b14 =>
    T.ite (!b14) (T.call 8 [] fun v15 => T.asB v15 fun b16 => T.ite b16 (T.ret (Value.bool (Option.isNone o11))) (T.ret (Value.bool false)))
    (T.ite (i12 != 0)
    (T.call 8 [] fun v17 => T.asB v17 fun b18 => T.ite b18 (T.ret (Value.bool (Option.isNone o11))) (T.ret (Value.bool false)))
    (T.loop 0 [Value.int IntKind.i64 0] fun l19 j20 =>
    T.asI IntKind.i64 (List.headD l19 (Value.tuple (Array.mk []))) fun i21 =>
    T.ite (decide (i21 < (↑n4 : Int)))
    (T.req (0 ≤ i21 ∧ i21 < (↑n4 : Int))
    (T.sm o3 fun n22 n23 =>
    T.ldI IntKind.i64 n22 (n23 + Int.toNat i21 * 3) fun i24 =>
    T.ldI IntKind.i64 n22 (n23 + Int.toNat i21 * 3 + 1) fun i25 =>
    T.ldI IntKind.i64 n22 (n23 + Int.toNat i21 * 3 + 2) fun i26 =>
    T.new (Obj.cells (Array.mk [Value.int IntKind.i64 0, Value.int IntKind.i64 0, Value.int IntKind.i64 0]) 31) fun n27 =>
    T.st n27 0 (Value.int IntKind.i64 i24)
    (T.st n27 1 (Value.int IntKind.i64 i25)
    (T.st n27 2 (Value.int IntKind.i64 i26)
    (T.ldI IntKind.i64 n27 1 fun i28 =>
    T.ldI IntKind.i64 n27 0 fun i29 =>
    T.ldI IntKind.i64 n27 2 fun i30 =>
    T.call 9 [Value.pointer o11, Value.int IntKind.i64 i28, Value.bool (i29 != 3), Value.int IntKind.i64 i30]
    fun v31 =>
    T.asU v31 fun l32 =>
    T.req (List.length l32 = 2)
    (T.asB (List.headD l32 (Value.tuple (Array.mk []))) fun b33 =>
    T.asI IntKind.i64 (List.headD (List.tail l32) (Value.tuple (Array.mk []))) fun i34 =>
    T.next 0 [Value.int IntKind.i64 (IntKind.wrap IntKind.i64 (i21 + 1))]
    ([Value.pointer (some (Addr.mk n6 0 none)), Value.pointer o11, Value.slice o3 n4 n5,
    Value.int IntKind.i64 (↑n4 : Int)] =
    [Value.pointer (some (Addr.mk n6 0 none)), Value.pointer o11, Value.slice o3 n4 n5,
    Value.int IntKind.i64 (↑n4 : Int)] ∧ ([] : List Deferred) = [])))))))
    (T.ldI IntKind.i64 n6 0 fun i35 =>
    T.loop 0 [Value.int IntKind.i64 0, Value.int IntKind.i64 0, Value.int IntKind.i64 0] fun l36 j37 =>
    T.asI IntKind.i64 (List.headD l36 (Value.tuple (Array.mk []))) fun i38 =>
    T.asI IntKind.i64 (List.headD (List.tail l36) (Value.tuple (Array.mk []))) fun i39 =>
    T.asI IntKind.i64 (List.headD (List.tail (List.tail l36)) (Value.tuple (Array.mk []))) fun i40 =>
    T.ite (decide (i40 < i35))
    (T.call 10 [Value.pointer o11, Value.int IntKind.i64 i40] fun v41 =>
    T.asI IntKind.i64 v41 fun i42 =>
    T.call 11 [Value.pointer o11] fun v43 =>
    T.asI IntKind.i64 v43 fun i44 =>
    T.ite (decide (i42 ≥ i44))
    (T.call 10 [Value.pointer o11, Value.int IntKind.i64 i40] fun v45 =>
    T.asI IntKind.i64 v45 fun i46 =>
    T.call 11 [Value.pointer o11] fun v47 =>
    T.asI IntKind.i64 v47 fun i48 =>
    T.ite (decide (i46 > i48))
    (T.next 0
    [Value.int IntKind.i64 (IntKind.wrap IntKind.i64 (i38 + 1)),
    Value.int IntKind.i64 (IntKind.wrap IntKind.i64 (i39 + 1)),
    Value.int IntKind.i64 (IntKind.wrap IntKind.i64 (i40 + 1))]
    ([Value.pointer (some (Addr.mk n6 0 none)), Value.pointer o11, Value.int IntKind.i64 i35] =
    [Value.pointer (some (Addr.mk n6 0 none)), Value.pointer o11, Value.int IntKind.i64 i35] ∧ ([] : List Deferred) = []))
    (T.next 0
    [Value.int IntKind.i64 (IntKind.wrap IntKind.i64 (i38 + 1)), Value.int IntKind.i64 i39,
    Value.int IntKind.i64 (IntKind.wrap IntKind.i64 (i40 + 1))]
    ([Value.pointer (some (Addr.mk n6 0 none)), Value.pointer o11, Value.int IntKind.i64 i35] =
    [Value.pointer (some (Addr.mk n6 0 none)), Value.pointer o11, Value.int IntKind.i64 i35] ∧ ([] : List Deferred) = [])))
    (T.call 10 [Value.pointer o11, Value.int IntKind.i64 i40] fun v49 =>
    T.asI IntKind.i64 v49 fun i50 =>
    T.call 11 [Value.pointer o11] fun v51 =>
    T.asI IntKind.i64 v51 fun i52 =>
    T.ite (decide (i50 > i52))
    (T.next 0
    [Value.int IntKind.i64 i38, Value.int IntKind.i64 (IntKind.wrap IntKind.i64 (i39 + 1)),
    Value.int IntKind.i64 (IntKind.wrap IntKind.i64 (i40 + 1))]
    ([Value.pointer (some (Addr.mk n6 0 none)), Value.pointer o11, Value.int IntKind.i64 i35] =
    [Value.pointer (some (Addr.mk n6 0 none)), Value.pointer o11, Value.int IntKind.i64 i35] ∧ ([] : List Deferred) = []))
    (T.next 0
    [Value.int IntKind.i64 i38, Value.int IntKind.i64 i39,
    Value.int IntKind.i64 (IntKind.wrap IntKind.i64 (i40 + 1))]
    ([Value.pointer (some (Addr.mk n6 0 none)), Value.pointer o11, Value.int IntKind.i64 i35] =
    [Value.pointer (some (Addr.mk n6 0 none)), Value.pointer o11, Value.int IntKind.i64 i35] ∧ ([] : List Deferred) = []))))
    (T.ldI IntKind.i64 n6 0 fun i53 =>
    T.ite (decide (IntKind.wrap IntKind.i64 (2 * i38) > i53))
    (T.ldI IntKind.i64 n6 0 fun i54 => T.ret (Value.bool (decide (IntKind.wrap IntKind.i64 (2 * i39) ≤ i54))))
    (T.ret (Value.bool false)))))))
theorem e3 (i0 : Int) (i1 : Int) (i2 : Int) (o3 : Option Addr) (n4 n5 : Nat) : treeOf Try.prog Try.f3 (codeOf Try.f3) (.s .n (.s .n (.s .n (.s (.s .n (.u (.l [(33, .int .i64)] [3, 7, 31, 32] .n))) (.s .n (.s (.s .n (.u (.l [(11, .int .i64), (12, .int .i64), (49, .int .i64)] [3, 7, 48] .n))) .n)))))) [.v (.agg #[.int .i64 i0, .int .i64 i1]), .v (.int .i64 i2), .v (.slice o3 n4 n5)] = (t3 i0 i1 i2 o3 n4 n5) := by kernel_rfl
theorem c3 (i0 : Int) (i1 : Int) (i2 : Int) (o3 : Option Addr) (n4 n5 : Nat) {w : World} {R : Ending → World → Prop} (h : (t3 i0 i1 i2 o3 n4 n5).sem Try.prog R ρ0 w) : Calls Try.prog 3 #[.agg #[.int .i64 i0, .int .i64 i1], .int .i64 i2, .slice o3 n4 n5] w R :=
  calls_of mixed Try.func3 rfl rfl (e3 i0 i1 i2 o3 n4 n5) h
def t5 (i0 : Int) (i1 : Int) (i2 : Int) (o3 : Option Addr) (n4 n5 : Nat) : T :=
  T.new (Obj.cells (Array.mk [Value.int IntKind.i64 i0, Value.int IntKind.i64 i1]) 23) fun n6 =>
  T.ldI IntKind.i64 n6 0 fun i7 =>
    T.ldI IntKind.i64 n6 1 fun i8 =>
    T.call 7 [Value.agg (Array.mk [Value.int IntKind.i64 i7, Value.int IntKind.i64 i8]), Value.int IntKind.i64 i2] fun v9 =>
    T.asU v9 fun l10 =>
    T.req (List.length l10 = 2)
    (T.asP (List.headD l10 (Value.tuple (Array.mk []))) fun o11 =>
    T.asI IntKind.i64 (List.headD (List.tail l10) (Value.tuple (Array.mk []))) fun i12 =>
    T.call 8 [] fun v13 =>
    T.asB v13 fun b14 =>
    T.ite (!b14) (T.call 8 [] fun v15 => T.asB v15 fun b16 => T.ite b16 (T.ret (Value.bool (Option.isNone o11))) (T.ret (Value.bool false)))
    (T.ite (i12 != 0)
    (T.call 8 [] fun v17 => T.asB v17 fun b18 => T.ite b18 (T.ret (Value.bool (Option.isNone o11))) (T.ret (Value.bool false)))
    (T.loop 0 [Value.int IntKind.i64 0] fun l19 j20 =>
    T.asI IntKind.i64 (List.headD l19 (Value.tuple (Array.mk []))) fun i21 =>
    T.ite (decide (i21 < (↑n4 : Int)))
    (T.req (0 ≤ i21 ∧ i21 < (↑n4 : Int))
    (T.sm o3 fun n22 n23 =>
    T.ldI IntKind.i64 n22 (n23 + Int.toNat i21 * 3) fun i24 =>
    T.ldI IntKind.i64 n22 (n23 + Int.toNat i21 * 3 + 1) fun i25 =>
    T.ldI IntKind.i64 n22 (n23 + Int.toNat i21 * 3 + 2) fun i26 =>
    T.new (Obj.cells (Array.mk [Value.int IntKind.i64 0, Value.int IntKind.i64 0, Value.int IntKind.i64 0]) 31) fun n27 =>
    T.st n27 0 (Value.int IntKind.i64 i24)
    (T.st n27 1 (Value.int IntKind.i64 i25)
    (T.st n27 2 (Value.int IntKind.i64 i26)
    (T.call 11 [Value.pointer o11] fun v28 =>
    T.asI IntKind.i64 v28 fun i29 =>
    T.call 12 [Value.pointer o11] fun v30 =>
    T.asI IntKind.i64 v30 fun i31 =>
    T.new
    (Obj.cells
    (Array.mk
    [Value.int IntKind.i64 0, Value.int IntKind.i64 0, Value.int IntKind.i64 0,
    Value.int IntKind.i64 0, Value.int IntKind.i64 0])
    39)
    fun n32 =>
    T.loop 1 [Value.int IntKind.i64 0] fun l33 j34 =>
    T.asI IntKind.i64 (List.headD l33 (Value.tuple (Array.mk []))) fun i35 =>
    T.ite (decide (i35 < 5))
    (T.call 10 [Value.pointer o11, Value.int IntKind.i64 i35] fun v36 =>
    T.asI IntKind.i64 v36 fun i37 =>
    T.req (0 ≤ i35 ∧ i35 < 5)
    (T.st n32 (0 + Int.toNat i35 * 1) (Value.int IntKind.i64 i37)
    (T.next 1 [Value.int IntKind.i64 (IntKind.wrap IntKind.i64 (i35 + 1))]
    ([Value.pointer o11, Value.pointer (some (Addr.mk n27 0 none)),
    Value.int IntKind.i64 i29, Value.int IntKind.i64 i31,
    Value.pointer (some (Addr.mk n32 0 none)), Value.slice o3 n4 n5,
    Value.int IntKind.i64 (↑n4 : Int), Value.int IntKind.i64 i21] =
    [Value.pointer o11, Value.pointer (some (Addr.mk n27 0 none)),
    Value.int IntKind.i64 i29, Value.int IntKind.i64 i31,
    Value.pointer (some (Addr.mk n32 0 none)), Value.slice o3 n4 n5,
    Value.int IntKind.i64 (↑n4 : Int), Value.int IntKind.i64 i21] ∧ ([] : List Deferred) = []))))
    (T.ldI IntKind.i64 n27 0 fun i38 =>
    T.ite (i38 == 0)
    (T.ldI IntKind.i64 n27 2 fun i39 =>
    T.call 13 [Value.pointer o11, Value.int IntKind.i64 i39] fun v40 =>
    T.asI IntKind.i64 v40 fun i41 =>
    T.call 11 [Value.pointer o11] fun v42 =>
    T.asI IntKind.i64 v42 fun i43 =>
    T.ite (decide (i43 < i29)) (T.ret (Value.bool false))
    (T.call 12 [Value.pointer o11] fun v44 =>
    T.asI IntKind.i64 v44 fun i45 =>
    T.ite (decide (i45 < i31)) (T.ret (Value.bool false))
    (T.loop 1 [Value.int IntKind.i64 0] fun l46 j47 =>
    T.asI IntKind.i64 (List.headD l46 (Value.tuple (Array.mk [])))
    fun i48 =>
    T.ite (decide (i48 < 5))
    (T.drew
    (T.req (0 ≤ i48 ∧ i48 < 5)
    (T.ldI IntKind.i64 n32 (0 + Int.toNat i48 * 1) fun i49 =>
    T.call 10 [Value.pointer o11, Value.int IntKind.i64 i48]
    fun v50 =>
    T.asI IntKind.i64 v50 fun i51 =>
    T.chk
    [(Addr.mk n32 (0 + Int.toNat i48 * 1) none,
    Value.int IntKind.i64 i49)]
    (T.ite (decide (i51 < i49))
    (T.chk
    [(Addr.mk n32 (0 + Int.toNat i48 * 1) none,
    Value.int IntKind.i64 i49)]
    (T.chk
    [(Addr.mk n32 (0 + Int.toNat i48 * 1) none,
    Value.int IntKind.i64 i49)]
    (T.chk
    [(Addr.mk n32 (0 + Int.toNat i48 * 1) none,
    Value.int IntKind.i64 i49)]
    (T.chk
    [(Addr.mk n32 (0 + Int.toNat i48 * 1) none,
    Value.int IntKind.i64 i49)]
    (T.ret (Value.bool false))))))
    (T.call 10
    [Value.pointer o11, Value.int IntKind.i64 i48]
    fun v52 =>
    T.asI IntKind.i64 v52 fun i53 =>
    T.chk
    [(Addr.mk n32 (0 + Int.toNat i48 * 1) none,
    Value.int IntKind.i64 i49)]
    (T.call 15
    [Value.pointer o11, Value.int IntKind.i64 i48]
    fun v54 =>
    T.asI IntKind.i64 v54 fun i55 =>
    T.chk
    [(Addr.mk n32 (0 + Int.toNat i48 * 1)
    none,
    Value.int IntKind.i64 i49)]
    (T.ite (decide (i53 > i55))
    (T.chk
    [(Addr.mk n32 (0 + Int.toNat i48 * 1)
    none,
    Value.int IntKind.i64 i49)]
    (T.chk
    [(Addr.mk n32
    (0 + Int.toNat i48 * 1) none,
    Value.int IntKind.i64 i49)]
    (T.ret (Value.bool false))))
    (T.call 15
    [Value.pointer o11,
    Value.int IntKind.i64 i48]
    fun v56 =>
    T.asI IntKind.i64 v56 fun i57 =>
    T.chk
    [(Addr.mk n32
    (0 + Int.toNat i48 * 1)
    none,
    Value.int IntKind.i64 i49)]
    (T.call 12 [Value.pointer o11]
    fun v58 =>
    T.asI IntKind.i64 v58 fun i59 =>
    T.chk
    [(Addr.mk n32
    (0 +
    Int.toNat i48 * 1)
    none,
    Value.int IntKind.i64
    i49)]
    (T.ite (decide (i57 > i59))
    (T.ret (Value.bool false))
    (T.next 1
    [Value.int IntKind.i64
    (IntKind.wrap
    IntKind.i64
    (i48 + 1))]
    ([Value.pointer o11,
    Value.pointer
    (some
    (Addr.mk n32 0
    none)),
    Value.slice o3 n4
    n5,
    Value.int
    IntKind.i64
    (↑n4 : Int),
    Value.int
    IntKind.i64
    i21] =
    [Value.pointer o11,
    Value.pointer
    (some
    (Addr.mk n32 0
    none)),
    Value.slice o3 n4
    n5,
    Value.int
    IntKind.i64
    (↑n4 : Int),
    Value.int
    IntKind.i64
    i21] ∧ ([] : List Deferred) = []))))))))))))
    (T.next 0
    [Value.int IntKind.i64 (IntKind.wrap IntKind.i64 (i21 + 1))]
    ([Value.pointer o11, Value.slice o3 n4 n5,
    Value.int IntKind.i64 (↑n4 : Int)] =
    [Value.pointer o11, Value.slice o3 n4 n5,
    Value.int IntKind.i64 (↑n4 : Int)] ∧ ([] : List Deferred) = [])))))
    (T.ite (i38 == 1)
    (T.ldI IntKind.i64 n27 1 fun i60 =>
    T.ldI IntKind.i64 n27 2 fun i61 =>
    T.call 14 [Value.pointer o11, Value.int IntKind.i64 i60, Value.int IntKind.i64 i61]
    fun v62 =>
    T.asI IntKind.i64 v62 fun i63 =>
    T.call 11 [Value.pointer o11] fun v64 =>
    T.asI IntKind.i64 v64 fun i65 =>
    T.ite (decide (i65 < i29)) (T.ret (Value.bool false))
    (T.call 12 [Value.pointer o11] fun v66 =>
    T.asI IntKind.i64 v66 fun i67 =>
    T.ite (decide (i67 < i31)) (T.ret (Value.bool false))
    (T.loop 1 [Value.int IntKind.i64 0] fun l68 j69 =>
    T.asI IntKind.i64 (List.headD l68 (Value.tuple (Array.mk [])))
    fun i70 =>
    T.ite (decide (i70 < 5))
    (T.drew
    (T.req (0 ≤ i70 ∧ i70 < 5)
    (T.ldI IntKind.i64 n32 (0 + Int.toNat i70 * 1) fun i71 =>
    T.call 10 [Value.pointer o11, Value.int IntKind.i64 i70]
    fun v72 =>
    T.asI IntKind.i64 v72 fun i73 =>
    T.chk
    [(Addr.mk n32 (0 + Int.toNat i70 * 1) none,
    Value.int IntKind.i64 i71)]
    (T.ite (decide (i73 < i71))
    (T.chk
    [(Addr.mk n32 (0 + Int.toNat i70 * 1) none,
    Value.int IntKind.i64 i71)]
    (T.chk
    [(Addr.mk n32 (0 + Int.toNat i70 * 1) none,
    Value.int IntKind.i64 i71)]
    (T.chk
    [(Addr.mk n32 (0 + Int.toNat i70 * 1) none,
    Value.int IntKind.i64 i71)]
    (T.chk
    [(Addr.mk n32 (0 + Int.toNat i70 * 1)
    none,
    Value.int IntKind.i64 i71)]
    (T.ret (Value.bool false))))))
    (T.call 10
    [Value.pointer o11, Value.int IntKind.i64 i70]
    fun v74 =>
    T.asI IntKind.i64 v74 fun i75 =>
    T.chk
    [(Addr.mk n32 (0 + Int.toNat i70 * 1) none,
    Value.int IntKind.i64 i71)]
    (T.call 15
    [Value.pointer o11,
    Value.int IntKind.i64 i70]
    fun v76 =>
    T.asI IntKind.i64 v76 fun i77 =>
    T.chk
    [(Addr.mk n32 (0 + Int.toNat i70 * 1)
    none,
    Value.int IntKind.i64 i71)]
    (T.ite (decide (i75 > i77))
    (T.chk
    [(Addr.mk n32
    (0 + Int.toNat i70 * 1)
    none,
    Value.int IntKind.i64 i71)]
    (T.chk
    [(Addr.mk n32
    (0 + Int.toNat i70 * 1)
    none,
    Value.int IntKind.i64 i71)]
    (T.ret (Value.bool false))))
    (T.call 15
    [Value.pointer o11,
    Value.int IntKind.i64 i70]
    fun v78 =>
    T.asI IntKind.i64 v78 fun i79 =>
    T.chk
    [(Addr.mk n32
    (0 + Int.toNat i70 * 1)
    none,
    Value.int IntKind.i64
    i71)]
    (T.call 12 [Value.pointer o11]
    fun v80 =>
    T.asI IntKind.i64 v80
    fun i81 =>
    T.chk
    [(Addr.mk n32
    (0 +
    Int.toNat i70 *
    1)
    none,
    Value.int
    IntKind.i64 i71)]
    (T.ite
    (decide (i79 > i81))
    (T.ret
    (Value.bool false))
    (T.next 1
    [Value.int
    IntKind.i64
    (IntKind.wrap
    IntKind.i64
    (i70 + 1))]
    ([Value.pointer o11,
    Value.pointer
    (some
    (Addr.mk
    n32 0
    none)),
    Value.slice o3
    n4 n5,
    Value.int
    IntKind.i64
    (↑n4 : Int),
    Value.int
    IntKind.i64
    i21] =
    [Value.pointer
    o11,
    Value.pointer
    (some
    (Addr.mk
    n32 0
    none)),
    Value.slice o3
    n4 n5,
    Value.int
    IntKind.i64
    (↑n4 : Int),
    Value.int
    IntKind.i64
    i21] ∧ ([] : List Deferred) = []))))))))))))
    (T.next 0
    [Value.int IntKind.i64 (IntKind.wrap IntKind.i64 (i21 + 1))]
    ([Value.pointer o11, Value.slice o3 n4 n5,
    Value.int IntKind.i64 (↑n4 : Int)] =
    [Value.pointer o11, Value.slice o3 n4 n5,
    Value.int IntKind.i64 (↑n4 : Int)] ∧ ([] : List Deferred) = [])))))
    (T.ldI IntKind.i64 n27 1 fun i82 =>
    T.ldI IntKind.i64 n27 0 fun i83 =>
    T.ldI IntKind.i64 n27 2 fun i84 =>
    T.call 9
    [Value.pointer o11, Value.int IntKind.i64 i82, Value.bool (i83 != 3),
    Value.int IntKind.i64 i84]
    fun v85 =>
    T.asU v85 fun l86 =>
    T.req (List.length l86 = 2)
    (T.asB (List.headD l86 (Value.tuple (Array.mk []))) fun b87 =>
    T.asI IntKind.i64 (List.headD (List.tail l86) (Value.tuple (Array.mk [])))
    fun i88 =>
    T.call 11 [Value.pointer o11] fun v89 =>
    T.asI IntKind.i64 v89 fun i90 =>
    T.ite (decide (i90 < i29)) (T.ret (Value.bool false))
    (T.call 12 [Value.pointer o11] fun v91 =>
    T.asI IntKind.i64 v91 fun i92 =>
    T.ite (decide (i92 < i31)) (T.ret (Value.bool false))
    (T.call 11 [Value.pointer o11] fun v93 =>
    T.asI IntKind.i64 v93 fun i94 =>
    T.ite (!b87 == decide (i94 > i29))
    (T.ret (Value.bool false))
    (T.loop 1 [Value.int IntKind.i64 0] fun l95 j96 =>
    T.asI IntKind.i64
    (List.headD l95 (Value.tuple (Array.mk [])))
    fun i97 =>
    T.ite (decide (i97 < 5))
    (T.drew
    (T.req (0 ≤ i97 ∧ i97 < 5)
    (T.ldI IntKind.i64 n32 (0 + Int.toNat i97 * 1)
    fun i98 =>
    T.call 10
    [Value.pointer o11,
    Value.int IntKind.i64 i97]
    fun v99 =>
    T.asI IntKind.i64 v99 fun i100 =>
    T.chk
    [(Addr.mk n32 (0 + Int.toNat i97 * 1)
    none,
    Value.int IntKind.i64 i98)]
    (T.ite (decide (i100 < i98))
    (T.chk
    [(Addr.mk n32
    (0 + Int.toNat i97 * 1)
    none,
    Value.int IntKind.i64 i98)]
    (T.chk
    [(Addr.mk n32
    (0 + Int.toNat i97 * 1)
    none,
    Value.int IntKind.i64 i98)]
    (T.chk
    [(Addr.mk n32
    (0 + Int.toNat i97 * 1)
    none,
    Value.int IntKind.i64
    i98)]
    (T.chk
    [(Addr.mk n32
    (0 +
    Int.toNat i97 * 1)
    none,
    Value.int IntKind.i64
    i98)]
    (T.ret
    (Value.bool false))))))
    (T.call 10
    [Value.pointer o11,
    Value.int IntKind.i64 i97]
    fun v101 =>
    T.asI IntKind.i64 v101 fun i102 =>
    T.chk
    [(Addr.mk n32
    (0 + Int.toNat i97 * 1)
    none,
    Value.int IntKind.i64
    i98)]
    (T.call 15
    [Value.pointer o11,
    Value.int IntKind.i64 i97]
    fun v103 =>
    T.asI IntKind.i64 v103
    fun i104 =>
    T.chk
    [(Addr.mk n32
    (0 +
    Int.toNat i97 *
    1)
    none,
    Value.int
    IntKind.i64 i98)]
    (T.ite
    (decide (i102 > i104))
    (T.chk
    [(Addr.mk n32
    (0 +
    Int.toNat
    i97 *
    1)
    none,
    Value.int
    IntKind.i64
    i98)]
    (T.chk
    [(Addr.mk n32
    (0 +
    Int.toNat
    i97 *
    1)
    none,
    Value.int
    IntKind.i64
    i98)]
    (T.ret
    (Value.bool
    false))))
    (T.call 15
    [Value.pointer o11,
    Value.int
    IntKind.i64 i97]
    fun v105 =>
    T.asI IntKind.i64
    v105 fun i106 =>
    T.chk
    [(Addr.mk n32
    (0 +
    Int.toNat
    i97 *
    1)
    none,
    Value.int
    IntKind.i64
    i98)]
    (T.call 12
    [Value.pointer
    o11]
    fun v107 =>
    T.asI
    IntKind.i64
    v107
    fun i108 =>
    T.chk
    [(Addr.mk
    n32
    (0 +
    Int.toNat
    i97 *
    1)
    none,
    Value.int
    IntKind.i64
    i98)]
    (T.ite
    (decide
    (i106 >
    i108))
    (T.ret
    (Value.bool
    false))
    (T.next
    1
    [Value.int
    IntKind.i64
    (IntKind.wrap
    IntKind.i64
    (i97 +
    1))]
    ([Value.pointer
    o11,
    Value.pointer
    (some
    (Addr.mk
    n32
    0
    none)),
    Value.slice
    o3
    n4
    n5,
    Value.int
    IntKind.i64
    (↑n4 :
    Int),
    Value.int
    IntKind.i64
    i21] =
    [Value.pointer
    o11,
    Value.pointer
    (some
    (Addr.mk
    n32
    0
    none)),
    Value.slice
    o3
    n4
    n5,
    Value.int
    IntKind.i64
    (↑n4 :
    Int),
    Value.int
    IntKind.i64
    i21] ∧ ([] : List Deferred) = []))))))))))))
    (T.next 0
    [Value.int IntKind.i64
    (IntKind.wrap IntKind.i64 (i21 + 1))]
    ([Value.pointer o11, Value.slice o3 n4 n5,
    Value.int IntKind.i64 (↑n4 : Int)] =
    [Value.pointer o11, Value.slice o3 n4 n5,
    Value.int IntKind.i64 (↑n4 : Int)] ∧ ([] : List Deferred) = []))))))))))))))
    (T.ret (Value.bool true)))))
theorem e5 (i0 : Int) (i1 : Int) (i2 : Int) (o3 : Option Addr) (n4 n5 : Nat) : treeOf Try.prog Try.f5 (codeOf Try.f5) (.s .n (.s .n (.s .n (.s (.s .n (.u (.l [(37, .int .i64)] [7, 35, 36] (.s .n (.s .n (.s (.u (.s .n (.s .n (.s .n (.s (.s .n (.u (.l [(45, .int .i64)] [7, 10, 11, 12, 13, 35, 36, 37] .n))) (.s .n (.s .n (.s .n (.s .n (.u (.l [(103, .int .i64)] [7, 13, 35, 36, 37] (.s .n (.s .n (.s (.u (.s .n (.s (.p [0, 1, 3, 4, 5, 2, 6, 7, 8, 9, 11, 12, 10, 13, 14, 15, 16, 17, 18, 20, 19, 21, 22, 23]) .n))) .n)))))))))))))) .n)))))) .n)))) [.v (.agg #[.int .i64 i0, .int .i64 i1]), .v (.int .i64 i2), .v (.slice o3 n4 n5)] = (t5 i0 i1 i2 o3 n4 n5) := by kernel_rfl
theorem c5 (i0 : Int) (i1 : Int) (i2 : Int) (o3 : Option Addr) (n4 n5 : Nat) {w : World} {R : Ending → World → Prop} (h : (t5 i0 i1 i2 o3 n4 n5).sem Try.prog R ρ0 w) : Calls Try.prog 5 #[.agg #[.int .i64 i0, .int .i64 i1], .int .i64 i2, .slice o3 n4 n5] w R :=
  calls_of mixed Try.func5 rfl rfl (e5 i0 i1 i2 o3 n4 n5) h
def t39 (i0 : Int) : T :=
  T.ite (decide (i0 ≥ 4294967296))
  (T.req ((0 : Int) ≤ 32)
    (T.ite (decide (shrI IntKind.u64 i0 32 ≥ 65536))
    (T.req ((0 : Int) ≤ 16)
    (T.ite (decide (shrI IntKind.u64 (shrI IntKind.u64 i0 32) 16 ≥ 256))
    (T.req ((0 : Int) ≤ 8)
    (T.req
    (0 ≤ IntKind.wrap IntKind.u8 (shrI IntKind.u64 (shrI IntKind.u64 (shrI IntKind.u64 i0 32) 16) 8) ∧
    IntKind.wrap IntKind.u8 (shrI IntKind.u64 (shrI IntKind.u64 (shrI IntKind.u64 i0 32) 16) 8) < 256)
    (T.ret
    (Value.int IntKind.i64
    (IntKind.wrap IntKind.i64
    (56 +
    IntKind.wrap IntKind.i64
    (↑(UInt8.toNat
    (Array.getD
    (Array.mk
    [OfNat.ofNat 0, OfNat.ofNat 1, OfNat.ofNat 2, OfNat.ofNat 2, OfNat.ofNat 3, OfNat.ofNat 3, OfNat.ofNat 3, OfNat.ofNat 3,
    OfNat.ofNat 4, OfNat.ofNat 4, OfNat.ofNat 4, OfNat.ofNat 4, OfNat.ofNat 4, OfNat.ofNat 4, OfNat.ofNat 4, OfNat.ofNat 4,
    OfNat.ofNat 5, OfNat.ofNat 5, OfNat.ofNat 5, OfNat.ofNat 5, OfNat.ofNat 5, OfNat.ofNat 5, OfNat.ofNat 5, OfNat.ofNat 5,
    OfNat.ofNat 5, OfNat.ofNat 5, OfNat.ofNat 5, OfNat.ofNat 5, OfNat.ofNat 5, OfNat.ofNat 5, OfNat.ofNat 5, OfNat.ofNat 5,
    OfNat.ofNat 6, OfNat.ofNat 6, OfNat.ofNat 6, OfNat.ofNat 6, OfNat.ofNat 6, OfNat.ofNat 6, OfNat.ofNat 6, OfNat.ofNat 6,
    OfNat.ofNat 6, OfNat.ofNat 6, OfNat.ofNat 6, OfNat.ofNat 6, OfNat.ofNat 6, OfNat.ofNat 6, OfNat.ofNat 6, OfNat.ofNat 6,
    OfNat.ofNat 6, OfNat.ofNat 6, OfNat.ofNat 6, OfNat.ofNat 6, OfNat.ofNat 6, OfNat.ofNat 6, OfNat.ofNat 6, OfNat.ofNat 6,
    OfNat.ofNat 6, OfNat.ofNat 6, OfNat.ofNat 6, OfNat.ofNat 6, OfNat.ofNat 6, OfNat.ofNat 6, OfNat.ofNat 6, OfNat.ofNat 6,
    OfNat.ofNat 7, OfNat.ofNat 7, OfNat.ofNat 7, OfNat.ofNat 7, OfNat.ofNat 7, OfNat.ofNat 7, OfNat.ofNat 7, OfNat.ofNat 7,
    OfNat.ofNat 7, OfNat.ofNat 7, OfNat.ofNat 7, OfNat.ofNat 7, OfNat.ofNat 7, OfNat.ofNat 7, OfNat.ofNat 7, OfNat.ofNat 7,
    OfNat.ofNat 7, OfNat.ofNat 7, OfNat.ofNat 7, OfNat.ofNat 7, OfNat.ofNat 7, OfNat.ofNat 7, OfNat.ofNat 7, OfNat.ofNat 7,
    OfNat.ofNat 7, OfNat.ofNat 7, OfNat.ofNat 7, OfNat.ofNat 7, OfNat.ofNat 7, OfNat.ofNat 7, OfNat.ofNat 7, OfNat.ofNat 7,
    OfNat.ofNat 7, OfNat.ofNat 7, OfNat.ofNat 7, OfNat.ofNat 7, OfNat.ofNat 7, OfNat.ofNat 7, OfNat.ofNat 7, OfNat.ofNat 7,
    OfNat.ofNat 7, OfNat.ofNat 7, OfNat.ofNat 7, OfNat.ofNat 7, OfNat.ofNat 7, OfNat.ofNat 7, OfNat.ofNat 7, OfNat.ofNat 7,
    OfNat.ofNat 7, OfNat.ofNat 7, OfNat.ofNat 7, OfNat.ofNat 7, OfNat.ofNat 7, OfNat.ofNat 7, OfNat.ofNat 7, OfNat.ofNat 7,
    OfNat.ofNat 7, OfNat.ofNat 7, OfNat.ofNat 7, OfNat.ofNat 7, OfNat.ofNat 7, OfNat.ofNat 7, OfNat.ofNat 7, OfNat.ofNat 7,
    OfNat.ofNat 8, OfNat.ofNat 8, OfNat.ofNat 8, OfNat.ofNat 8, OfNat.ofNat 8, OfNat.ofNat 8, OfNat.ofNat 8, OfNat.ofNat 8,
    OfNat.ofNat 8, OfNat.ofNat 8, OfNat.ofNat 8, OfNat.ofNat 8, OfNat.ofNat 8, OfNat.ofNat 8, OfNat.ofNat 8, OfNat.ofNat 8,
    OfNat.ofNat 8, OfNat.ofNat 8, OfNat.ofNat 8, OfNat.ofNat 8, OfNat.ofNat 8, OfNat.ofNat 8, OfNat.ofNat 8, OfNat.ofNat 8,
    OfNat.ofNat 8, OfNat.ofNat 8, OfNat.ofNat 8, OfNat.ofNat 8, OfNat.ofNat 8, OfNat.ofNat 8, OfNat.ofNat 8, OfNat.ofNat 8,
    OfNat.ofNat 8, OfNat.ofNat 8, OfNat.ofNat 8, OfNat.ofNat 8, OfNat.ofNat 8, OfNat.ofNat 8, OfNat.ofNat 8, OfNat.ofNat 8,
    OfNat.ofNat 8, OfNat.ofNat 8, OfNat.ofNat 8, OfNat.ofNat 8, OfNat.ofNat 8, OfNat.ofNat 8, OfNat.ofNat 8, OfNat.ofNat 8,
    OfNat.ofNat 8, OfNat.ofNat 8, OfNat.ofNat 8, OfNat.ofNat 8, OfNat.ofNat 8, OfNat.ofNat 8, OfNat.ofNat 8, OfNat.ofNat 8,
    OfNat.ofNat 8, OfNat.ofNat 8, OfNat.ofNat 8, OfNat.ofNat 8, OfNat.ofNat 8, OfNat.ofNat 8, OfNat.ofNat 8, OfNat.ofNat 8,
    OfNat.ofNat 8, OfNat.ofNat 8, OfNat.ofNat 8, OfNat.ofNat 8, OfNat.ofNat 8, OfNat.ofNat 8, OfNat.ofNat 8, OfNat.ofNat 8,
    OfNat.ofNat 8, OfNat.ofNat 8, OfNat.ofNat 8, OfNat.ofNat 8, OfNat.ofNat 8, OfNat.ofNat 8, OfNat.ofNat 8, OfNat.ofNat 8,
    OfNat.ofNat 8, OfNat.ofNat 8, OfNat.ofNat 8, OfNat.ofNat 8, OfNat.ofNat 8, OfNat.ofNat 8, OfNat.ofNat 8, OfNat.ofNat 8,
    OfNat.ofNat 8, OfNat.ofNat 8, OfNat.ofNat 8, OfNat.ofNat 8, OfNat.ofNat 8, OfNat.ofNat 8, OfNat.ofNat 8, OfNat.ofNat 8,
    OfNat.ofNat 8, OfNat.ofNat 8, OfNat.ofNat 8, OfNat.ofNat 8, OfNat.ofNat 8, OfNat.ofNat 8, OfNat.ofNat 8, OfNat.ofNat 8,
    OfNat.ofNat 8, OfNat.ofNat 8, OfNat.ofNat 8, OfNat.ofNat 8, OfNat.ofNat 8, OfNat.ofNat 8, OfNat.ofNat 8, OfNat.ofNat 8,
    OfNat.ofNat 8, OfNat.ofNat 8, OfNat.ofNat 8, OfNat.ofNat 8, OfNat.ofNat 8, OfNat.ofNat 8, OfNat.ofNat 8, OfNat.ofNat 8,
    OfNat.ofNat 8, OfNat.ofNat 8, OfNat.ofNat 8, OfNat.ofNat 8, OfNat.ofNat 8, OfNat.ofNat 8, OfNat.ofNat 8, OfNat.ofNat 8])
    (Int.toNat (IntKind.wrap IntKind.u8 (shrI IntKind.u64 (shrI IntKind.u64 (shrI IntKind.u64 i0 32) 16) 8))) (OfNat.ofNat 0))) :
    Int)))))))
    (T.req
    (0 ≤ IntKind.wrap IntKind.u8 (shrI IntKind.u64 (shrI IntKind.u64 i0 32) 16) ∧
    IntKind.wrap IntKind.u8 (shrI IntKind.u64 (shrI IntKind.u64 i0 32) 16) < 256)
    (T.ret
    (Value.int IntKind.i64
    (IntKind.wrap IntKind.i64
    (48 +
    IntKind.wrap IntKind.i64
    (↑(UInt8.toNat
    (Array.getD
    (Array.mk
    [OfNat.ofNat 0, OfNat.ofNat 1, OfNat.ofNat 2, OfNat.ofNat 2, OfNat.ofNat 3, OfNat.ofNat 3, OfNat.ofNat 3, OfNat.ofNat 3,
    OfNat.ofNat 4, OfNat.ofNat 4, OfNat.ofNat 4, OfNat.ofNat 4, OfNat.ofNat 4, OfNat.ofNat 4, OfNat.ofNat 4, OfNat.ofNat 4,
    OfNat.ofNat 5, OfNat.ofNat 5, OfNat.ofNat 5, OfNat.ofNat 5, OfNat.ofNat 5, OfNat.ofNat 5, OfNat.ofNat 5, OfNat.ofNat 5,
    OfNat.ofNat 5, OfNat.ofNat 5, OfNat.ofNat 5, OfNat.ofNat 5, OfNat.ofNat 5, OfNat.ofNat 5, OfNat.ofNat 5, OfNat.ofNat 5,
    OfNat.ofNat 6, OfNat.ofNat 6, OfNat.ofNat 6, OfNat.ofNat 6, OfNat.ofNat 6, OfNat.ofNat 6, OfNat.ofNat 6, OfNat.ofNat 6,
    OfNat.ofNat 6, OfNat.ofNat 6, OfNat.ofNat 6, OfNat.ofNat 6, OfNat.ofNat 6, OfNat.ofNat 6, OfNat.ofNat 6, OfNat.ofNat 6,
    OfNat.ofNat 6, OfNat.ofNat 6, OfNat.ofNat 6, OfNat.ofNat 6, OfNat.ofNat 6, OfNat.ofNat 6, OfNat.ofNat 6, OfNat.ofNat 6,
    OfNat.ofNat 6, OfNat.ofNat 6, OfNat.ofNat 6, OfNat.ofNat 6, OfNat.ofNat 6, OfNat.ofNat 6, OfNat.ofNat 6, OfNat.ofNat 6,
    OfNat.ofNat 7, OfNat.ofNat 7, OfNat.ofNat 7, OfNat.ofNat 7, OfNat.ofNat 7, OfNat.ofNat 7, OfNat.ofNat 7, OfNat.ofNat 7,
    OfNat.ofNat 7, OfNat.ofNat 7, OfNat.ofNat 7, OfNat.ofNat 7, OfNat.ofNat 7, OfNat.ofNat 7, OfNat.ofNat 7, OfNat.ofNat 7,
    OfNat.ofNat 7, OfNat.ofNat 7, OfNat.ofNat 7, OfNat.ofNat 7, OfNat.ofNat 7, OfNat.ofNat 7, OfNat.ofNat 7, OfNat.ofNat 7,
    OfNat.ofNat 7, OfNat.ofNat 7, OfNat.ofNat 7, OfNat.ofNat 7, OfNat.ofNat 7, OfNat.ofNat 7, OfNat.ofNat 7, OfNat.ofNat 7,
    OfNat.ofNat 7, OfNat.ofNat 7, OfNat.ofNat 7, OfNat.ofNat 7, OfNat.ofNat 7, OfNat.ofNat 7, OfNat.ofNat 7, OfNat.ofNat 7,
    OfNat.ofNat 7, OfNat.ofNat 7, OfNat.ofNat 7, OfNat.ofNat 7, OfNat.ofNat 7, OfNat.ofNat 7, OfNat.ofNat 7, OfNat.ofNat 7,
    OfNat.ofNat 7, OfNat.ofNat 7, OfNat.ofNat 7, OfNat.ofNat 7, OfNat.ofNat 7, OfNat.ofNat 7, OfNat.ofNat 7, OfNat.ofNat 7,
    OfNat.ofNat 7, OfNat.ofNat 7, OfNat.ofNat 7, OfNat.ofNat 7, OfNat.ofNat 7, OfNat.ofNat 7, OfNat.ofNat 7, OfNat.ofNat 7,
    OfNat.ofNat 8, OfNat.ofNat 8, OfNat.ofNat 8, OfNat.ofNat 8, OfNat.ofNat 8, OfNat.ofNat 8, OfNat.ofNat 8, OfNat.ofNat 8,
    OfNat.ofNat 8, OfNat.ofNat 8, OfNat.ofNat 8, OfNat.ofNat 8, OfNat.ofNat 8, OfNat.ofNat 8, OfNat.ofNat 8, OfNat.ofNat 8,
    OfNat.ofNat 8, OfNat.ofNat 8, OfNat.ofNat 8, OfNat.ofNat 8, OfNat.ofNat 8, OfNat.ofNat 8, OfNat.ofNat 8, OfNat.ofNat 8,
    OfNat.ofNat 8, OfNat.ofNat 8, OfNat.ofNat 8, OfNat.ofNat 8, OfNat.ofNat 8, OfNat.ofNat 8, OfNat.ofNat 8, OfNat.ofNat 8,
    OfNat.ofNat 8, OfNat.ofNat 8, OfNat.ofNat 8, OfNat.ofNat 8, OfNat.ofNat 8, OfNat.ofNat 8, OfNat.ofNat 8, OfNat.ofNat 8,
    OfNat.ofNat 8, OfNat.ofNat 8, OfNat.ofNat 8, OfNat.ofNat 8, OfNat.ofNat 8, OfNat.ofNat 8, OfNat.ofNat 8, OfNat.ofNat 8,
    OfNat.ofNat 8, OfNat.ofNat 8, OfNat.ofNat 8, OfNat.ofNat 8, OfNat.ofNat 8, OfNat.ofNat 8, OfNat.ofNat 8, OfNat.ofNat 8,
    OfNat.ofNat 8, OfNat.ofNat 8, OfNat.ofNat 8, OfNat.ofNat 8, OfNat.ofNat 8, OfNat.ofNat 8, OfNat.ofNat 8, OfNat.ofNat 8,
    OfNat.ofNat 8, OfNat.ofNat 8, OfNat.ofNat 8, OfNat.ofNat 8, OfNat.ofNat 8, OfNat.ofNat 8, OfNat.ofNat 8, OfNat.ofNat 8,
    OfNat.ofNat 8, OfNat.ofNat 8, OfNat.ofNat 8, OfNat.ofNat 8, OfNat.ofNat 8, OfNat.ofNat 8, OfNat.ofNat 8, OfNat.ofNat 8,
    OfNat.ofNat 8, OfNat.ofNat 8, OfNat.ofNat 8, OfNat.ofNat 8, OfNat.ofNat 8, OfNat.ofNat 8, OfNat.ofNat 8, OfNat.ofNat 8,
    OfNat.ofNat 8, OfNat.ofNat 8, OfNat.ofNat 8, OfNat.ofNat 8, OfNat.ofNat 8, OfNat.ofNat 8, OfNat.ofNat 8, OfNat.ofNat 8,
    OfNat.ofNat 8, OfNat.ofNat 8, OfNat.ofNat 8, OfNat.ofNat 8, OfNat.ofNat 8, OfNat.ofNat 8, OfNat.ofNat 8, OfNat.ofNat 8,
    OfNat.ofNat 8, OfNat.ofNat 8, OfNat.ofNat 8, OfNat.ofNat 8, OfNat.ofNat 8, OfNat.ofNat 8, OfNat.ofNat 8, OfNat.ofNat 8,
    OfNat.ofNat 8, OfNat.ofNat 8, OfNat.ofNat 8, OfNat.ofNat 8, OfNat.ofNat 8, OfNat.ofNat 8, OfNat.ofNat 8, OfNat.ofNat 8,
    OfNat.ofNat 8, OfNat.ofNat 8, OfNat.ofNat 8, OfNat.ofNat 8, OfNat.ofNat 8, OfNat.ofNat 8, OfNat.ofNat 8, OfNat.ofNat 8])
    (Int.toNat (IntKind.wrap IntKind.u8 (shrI IntKind.u64 (shrI IntKind.u64 i0 32) 16))) (OfNat.ofNat 0))) :
    Int))))))))
    (T.ite (decide (shrI IntKind.u64 i0 32 ≥ 256))
    (T.req ((0 : Int) ≤ 8)
    (T.req
    (0 ≤ IntKind.wrap IntKind.u8 (shrI IntKind.u64 (shrI IntKind.u64 i0 32) 8) ∧
    IntKind.wrap IntKind.u8 (shrI IntKind.u64 (shrI IntKind.u64 i0 32) 8) < 256)
    (T.ret
    (Value.int IntKind.i64
    (IntKind.wrap IntKind.i64
    (40 +
    IntKind.wrap IntKind.i64
    (↑(UInt8.toNat
    (Array.getD
    (Array.mk
    [OfNat.ofNat 0, OfNat.ofNat 1, OfNat.ofNat 2, OfNat.ofNat 2, OfNat.ofNat 3, OfNat.ofNat 3, OfNat.ofNat 3, OfNat.ofNat 3,
    OfNat.ofNat 4, OfNat.ofNat 4, OfNat.ofNat 4, OfNat.ofNat 4, OfNat.ofNat 4, OfNat.ofNat 4, OfNat.ofNat 4, OfNat.ofNat 4,
    OfNat.ofNat 5, OfNat.ofNat 5, OfNat.ofNat 5, OfNat.ofNat 5, OfNat.ofNat 5, OfNat.ofNat 5, OfNat.ofNat 5, OfNat.ofNat 5,
    OfNat.ofNat 5, OfNat.ofNat 5, OfNat.ofNat 5, OfNat.ofNat 5, OfNat.ofNat 5, OfNat.ofNat 5, OfNat.ofNat 5, OfNat.ofNat 5,
    OfNat.ofNat 6, OfNat.ofNat 6, OfNat.ofNat 6, OfNat.ofNat 6, OfNat.ofNat 6, OfNat.ofNat 6, OfNat.ofNat 6, OfNat.ofNat 6,
    OfNat.ofNat 6, OfNat.ofNat 6, OfNat.ofNat 6, OfNat.ofNat 6, OfNat.ofNat 6, OfNat.ofNat 6, OfNat.ofNat 6, OfNat.ofNat 6,
    OfNat.ofNat 6, OfNat.ofNat 6, OfNat.ofNat 6, OfNat.ofNat 6, OfNat.ofNat 6, OfNat.ofNat 6, OfNat.ofNat 6, OfNat.ofNat 6,
    OfNat.ofNat 6, OfNat.ofNat 6, OfNat.ofNat 6, OfNat.ofNat 6, OfNat.ofNat 6, OfNat.ofNat 6, OfNat.ofNat 6, OfNat.ofNat 6,
    OfNat.ofNat 7, OfNat.ofNat 7, OfNat.ofNat 7, OfNat.ofNat 7, OfNat.ofNat 7, OfNat.ofNat 7, OfNat.ofNat 7, OfNat.ofNat 7,
    OfNat.ofNat 7, OfNat.ofNat 7, OfNat.ofNat 7, OfNat.ofNat 7, OfNat.ofNat 7, OfNat.ofNat 7, OfNat.ofNat 7, OfNat.ofNat 7,
    OfNat.ofNat 7, OfNat.ofNat 7, OfNat.ofNat 7, OfNat.ofNat 7, OfNat.ofNat 7, OfNat.ofNat 7, OfNat.ofNat 7, OfNat.ofNat 7,
    OfNat.ofNat 7, OfNat.ofNat 7, OfNat.ofNat 7, OfNat.ofNat 7, OfNat.ofNat 7, OfNat.ofNat 7, OfNat.ofNat 7, OfNat.ofNat 7,
    OfNat.ofNat 7, OfNat.ofNat 7, OfNat.ofNat 7, OfNat.ofNat 7, OfNat.ofNat 7, OfNat.ofNat 7, OfNat.ofNat 7, OfNat.ofNat 7,
    OfNat.ofNat 7, OfNat.ofNat 7, OfNat.ofNat 7, OfNat.ofNat 7, OfNat.ofNat 7, OfNat.ofNat 7, OfNat.ofNat 7, OfNat.ofNat 7,
    OfNat.ofNat 7, OfNat.ofNat 7, OfNat.ofNat 7, OfNat.ofNat 7, OfNat.ofNat 7, OfNat.ofNat 7, OfNat.ofNat 7, OfNat.ofNat 7,
    OfNat.ofNat 7, OfNat.ofNat 7, OfNat.ofNat 7, OfNat.ofNat 7, OfNat.ofNat 7, OfNat.ofNat 7, OfNat.ofNat 7, OfNat.ofNat 7,
    OfNat.ofNat 8, OfNat.ofNat 8, OfNat.ofNat 8, OfNat.ofNat 8, OfNat.ofNat 8, OfNat.ofNat 8, OfNat.ofNat 8, OfNat.ofNat 8,
    OfNat.ofNat 8, OfNat.ofNat 8, OfNat.ofNat 8, OfNat.ofNat 8, OfNat.ofNat 8, OfNat.ofNat 8, OfNat.ofNat 8, OfNat.ofNat 8,
    OfNat.ofNat 8, OfNat.ofNat 8, OfNat.ofNat 8, OfNat.ofNat 8, OfNat.ofNat 8, OfNat.ofNat 8, OfNat.ofNat 8, OfNat.ofNat 8,
    OfNat.ofNat 8, OfNat.ofNat 8, OfNat.ofNat 8, OfNat.ofNat 8, OfNat.ofNat 8, OfNat.ofNat 8, OfNat.ofNat 8, OfNat.ofNat 8,
    OfNat.ofNat 8, OfNat.ofNat 8, OfNat.ofNat 8, OfNat.ofNat 8, OfNat.ofNat 8, OfNat.ofNat 8, OfNat.ofNat 8, OfNat.ofNat 8,
    OfNat.ofNat 8, OfNat.ofNat 8, OfNat.ofNat 8, OfNat.ofNat 8, OfNat.ofNat 8, OfNat.ofNat 8, OfNat.ofNat 8, OfNat.ofNat 8,
    OfNat.ofNat 8, OfNat.ofNat 8, OfNat.ofNat 8, OfNat.ofNat 8, OfNat.ofNat 8, OfNat.ofNat 8, OfNat.ofNat 8, OfNat.ofNat 8,
    OfNat.ofNat 8, OfNat.ofNat 8, OfNat.ofNat 8, OfNat.ofNat 8, OfNat.ofNat 8, OfNat.ofNat 8, OfNat.ofNat 8, OfNat.ofNat 8,
    OfNat.ofNat 8, OfNat.ofNat 8, OfNat.ofNat 8, OfNat.ofNat 8, OfNat.ofNat 8, OfNat.ofNat 8, OfNat.ofNat 8, OfNat.ofNat 8,
    OfNat.ofNat 8, OfNat.ofNat 8, OfNat.ofNat 8, OfNat.ofNat 8, OfNat.ofNat 8, OfNat.ofNat 8, OfNat.ofNat 8, OfNat.ofNat 8,
    OfNat.ofNat 8, OfNat.ofNat 8, OfNat.ofNat 8, OfNat.ofNat 8, OfNat.ofNat 8, OfNat.ofNat 8, OfNat.ofNat 8, OfNat.ofNat 8,
    OfNat.ofNat 8, OfNat.ofNat 8, OfNat.ofNat 8, OfNat.ofNat 8, OfNat.ofNat 8, OfNat.ofNat 8, OfNat.ofNat 8, OfNat.ofNat 8,
    OfNat.ofNat 8, OfNat.ofNat 8, OfNat.ofNat 8, OfNat.ofNat 8, OfNat.ofNat 8, OfNat.ofNat 8, OfNat.ofNat 8, OfNat.ofNat 8,
    OfNat.ofNat 8, OfNat.ofNat 8, OfNat.ofNat 8, OfNat.ofNat 8, OfNat.ofNat 8, OfNat.ofNat 8, OfNat.ofNat 8, OfNat.ofNat 8,
    OfNat.ofNat 8, OfNat.ofNat 8, OfNat.ofNat 8, OfNat.ofNat 8, OfNat.ofNat 8, OfNat.ofNat 8, OfNat.ofNat 8, OfNat.ofNat 8,
    OfNat.ofNat 8, OfNat.ofNat 8, OfNat.ofNat 8, OfNat.ofNat 8, OfNat.ofNat 8, OfNat.ofNat 8, OfNat.ofNat 8, OfNat.ofNat 8])
    (Int.toNat (IntKind.wrap IntKind.u8 (shrI IntKind.u64 (shrI IntKind.u64 i0 32) 8))) (OfNat.ofNat 0))) :
    Int)))))))
    (T.req (0 ≤ IntKind.wrap IntKind.u8 (shrI IntKind.u64 i0 32) ∧ IntKind.wrap IntKind.u8 (shrI IntKind.u64 i0 32) < 256)
    (T.ret
    (Value.int IntKind.i64
    (IntKind.wrap IntKind.i64
    (32 +
    IntKind.wrap IntKind.i64
    (↑(UInt8.toNat
    (Array.getD
    (Array.mk
    [OfNat.ofNat 0, OfNat.ofNat 1, OfNat.ofNat 2, OfNat.ofNat 2, OfNat.ofNat 3, OfNat.ofNat 3, OfNat.ofNat 3, OfNat.ofNat 3,
    OfNat.ofNat 4, OfNat.ofNat 4, OfNat.ofNat 4, OfNat.ofNat 4, OfNat.ofNat 4, OfNat.ofNat 4, OfNat.ofNat 4, OfNat.ofNat 4,
    OfNat.ofNat 5, OfNat.ofNat 5, OfNat.ofNat 5, OfNat.ofNat 5, OfNat.ofNat 5, OfNat.ofNat 5, OfNat.ofNat 5, OfNat.ofNat 5,
    OfNat.ofNat 5, OfNat.ofNat 5, OfNat.ofNat 5, OfNat.ofNat 5, OfNat.ofNat 5, OfNat.ofNat 5, OfNat.ofNat 5, OfNat.ofNat 5,
    OfNat.ofNat 6, OfNat.ofNat 6, OfNat.ofNat 6, OfNat.ofNat 6, OfNat.ofNat 6, OfNat.ofNat 6, OfNat.ofNat 6, OfNat.ofNat 6,
    OfNat.ofNat 6, OfNat.ofNat 6, OfNat.ofNat 6, OfNat.ofNat 6, OfNat.ofNat 6, OfNat.ofNat 6, OfNat.ofNat 6, OfNat.ofNat 6,
    OfNat.ofNat 6, OfNat.ofNat 6, OfNat.ofNat 6, OfNat.ofNat 6, OfNat.ofNat 6, OfNat.ofNat 6, OfNat.ofNat 6, OfNat.ofNat 6,
    OfNat.ofNat 6, OfNat.ofNat 6, OfNat.ofNat 6, OfNat.ofNat 6, OfNat.ofNat 6, OfNat.ofNat 6, OfNat.ofNat 6, OfNat.ofNat 6,
    OfNat.ofNat 7, OfNat.ofNat 7, OfNat.ofNat 7, OfNat.ofNat 7, OfNat.ofNat 7, OfNat.ofNat 7, OfNat.ofNat 7, OfNat.ofNat 7,
    OfNat.ofNat 7, OfNat.ofNat 7, OfNat.ofNat 7, OfNat.ofNat 7, OfNat.ofNat 7, OfNat.ofNat 7, OfNat.ofNat 7, OfNat.ofNat 7,
    OfNat.ofNat 7, OfNat.ofNat 7, OfNat.ofNat 7, OfNat.ofNat 7, OfNat.ofNat 7, OfNat.ofNat 7, OfNat.ofNat 7, OfNat.ofNat 7,
    OfNat.ofNat 7, OfNat.ofNat 7, OfNat.ofNat 7, OfNat.ofNat 7, OfNat.ofNat 7, OfNat.ofNat 7, OfNat.ofNat 7, OfNat.ofNat 7,
    OfNat.ofNat 7, OfNat.ofNat 7, OfNat.ofNat 7, OfNat.ofNat 7, OfNat.ofNat 7, OfNat.ofNat 7, OfNat.ofNat 7, OfNat.ofNat 7,
    OfNat.ofNat 7, OfNat.ofNat 7, OfNat.ofNat 7, OfNat.ofNat 7, OfNat.ofNat 7, OfNat.ofNat 7, OfNat.ofNat 7, OfNat.ofNat 7,
    OfNat.ofNat 7, OfNat.ofNat 7, OfNat.ofNat 7, OfNat.ofNat 7, OfNat.ofNat 7, OfNat.ofNat 7, OfNat.ofNat 7, OfNat.ofNat 7,
    OfNat.ofNat 7, OfNat.ofNat 7, OfNat.ofNat 7, OfNat.ofNat 7, OfNat.ofNat 7, OfNat.ofNat 7, OfNat.ofNat 7, OfNat.ofNat 7,
    OfNat.ofNat 8, OfNat.ofNat 8, OfNat.ofNat 8, OfNat.ofNat 8, OfNat.ofNat 8, OfNat.ofNat 8, OfNat.ofNat 8, OfNat.ofNat 8,
    OfNat.ofNat 8, OfNat.ofNat 8, OfNat.ofNat 8, OfNat.ofNat 8, OfNat.ofNat 8, OfNat.ofNat 8, OfNat.ofNat 8, OfNat.ofNat 8,
    OfNat.ofNat 8, OfNat.ofNat 8, OfNat.ofNat 8, OfNat.ofNat 8, OfNat.ofNat 8, OfNat.ofNat 8, OfNat.ofNat 8, OfNat.ofNat 8,
    OfNat.ofNat 8, OfNat.ofNat 8, OfNat.ofNat 8, OfNat.ofNat 8, OfNat.ofNat 8, OfNat.ofNat 8, OfNat.ofNat 8, OfNat.ofNat 8,
    OfNat.ofNat 8, OfNat.ofNat 8, OfNat.ofNat 8, OfNat.ofNat 8, OfNat.ofNat 8, OfNat.ofNat 8, OfNat.ofNat 8, OfNat.ofNat 8,
    OfNat.ofNat 8, OfNat.ofNat 8, OfNat.ofNat 8, OfNat.ofNat 8, OfNat.ofNat 8, OfNat.ofNat 8, OfNat.ofNat 8, OfNat.ofNat 8,
    OfNat.ofNat 8, OfNat.ofNat 8, OfNat.ofNat 8, OfNat.ofNat 8, OfNat.ofNat 8, OfNat.ofNat 8, OfNat.ofNat 8, OfNat.ofNat 8,
    OfNat.ofNat 8, OfNat.ofNat 8, OfNat.ofNat 8, OfNat.ofNat 8, OfNat.ofNat 8, OfNat.ofNat 8, OfNat.ofNat 8, OfNat.ofNat 8,
    OfNat.ofNat 8, OfNat.ofNat 8, OfNat.ofNat 8, OfNat.ofNat 8, OfNat.ofNat 8, OfNat.ofNat 8, OfNat.ofNat 8, OfNat.ofNat 8,
    OfNat.ofNat 8, OfNat.ofNat 8, OfNat.ofNat 8, OfNat.ofNat 8, OfNat.ofNat 8, OfNat.ofNat 8, OfNat.ofNat 8, OfNat.ofNat 8,
    OfNat.ofNat 8, OfNat.ofNat 8, OfNat.ofNat 8, OfNat.ofNat 8, OfNat.ofNat 8, OfNat.ofNat 8, OfNat.ofNat 8, OfNat.ofNat 8,
    OfNat.ofNat 8, OfNat.ofNat 8, OfNat.ofNat 8, OfNat.ofNat 8, OfNat.ofNat 8, OfNat.ofNat 8, OfNat.ofNat 8, OfNat.ofNat 8,
    OfNat.ofNat 8, OfNat.ofNat 8, OfNat.ofNat 8, OfNat.ofNat 8, OfNat.ofNat 8, OfNat.ofNat 8, OfNat.ofNat 8, OfNat.ofNat 8,
    OfNat.ofNat 8, OfNat.ofNat 8, OfNat.ofNat 8, OfNat.ofNat 8, OfNat.ofNat 8, OfNat.ofNat 8, OfNat.ofNat 8, OfNat.ofNat 8,
    OfNat.ofNat 8, OfNat.ofNat 8, OfNat.ofNat 8, OfNat.ofNat 8, OfNat.ofNat 8, OfNat.ofNat 8, OfNat.ofNat 8, OfNat.ofNat 8,
    OfNat.ofNat 8, OfNat.ofNat 8, OfNat.ofNat 8, OfNat.ofNat 8, OfNat.ofNat 8, OfNat.ofNat 8, OfNat.ofNat 8, OfNat.ofNat 8])
    (Int.toNat (IntKind.wrap IntKind.u8 (shrI IntKind.u64 i0 32))) (OfNat.ofNat 0))) :
    Int)))))))))
  (T.ite (decide (i0 ≥ 65536))
    (T.req ((0 : Int) ≤ 16)
    (T.ite (decide (shrI IntKind.u64 i0 16 ≥ 256))
    (T.req ((0 : Int) ≤ 8)
    (T.req
    (0 ≤ IntKind.wrap IntKind.u8 (shrI IntKind.u64 (shrI IntKind.u64 i0 16) 8) ∧
    IntKind.wrap IntKind.u8 (shrI IntKind.u64 (shrI IntKind.u64 i0 16) 8) < 256)
    (T.ret
    (Value.int IntKind.i64
    (IntKind.wrap IntKind.i64
    (24 +
    IntKind.wrap IntKind.i64
    (↑(UInt8.toNat
    (Array.getD
    (Array.mk
    [OfNat.ofNat 0, OfNat.ofNat 1, OfNat.ofNat 2, OfNat.ofNat 2, OfNat.ofNat 3, OfNat.ofNat 3, OfNat.ofNat 3, OfNat.ofNat 3,
    OfNat.ofNat 4, OfNat.ofNat 4, OfNat.ofNat 4, OfNat.ofNat 4, OfNat.ofNat 4, OfNat.ofNat 4, OfNat.ofNat 4, OfNat.ofNat 4,
    OfNat.ofNat 5, OfNat.ofNat 5, OfNat.ofNat 5, OfNat.ofNat 5, OfNat.ofNat 5, OfNat.ofNat 5, OfNat.ofNat 5, OfNat.ofNat 5,
    OfNat.ofNat 5, OfNat.ofNat 5, OfNat.ofNat 5, OfNat.ofNat 5, OfNat.ofNat 5, OfNat.ofNat 5, OfNat.ofNat 5, OfNat.ofNat 5,
    OfNat.ofNat 6, OfNat.ofNat 6, OfNat.ofNat 6, OfNat.ofNat 6, OfNat.ofNat 6, OfNat.ofNat 6, OfNat.ofNat 6, OfNat.ofNat 6,
    OfNat.ofNat 6, OfNat.ofNat 6, OfNat.ofNat 6, OfNat.ofNat 6, OfNat.ofNat 6, OfNat.ofNat 6, OfNat.ofNat 6, OfNat.ofNat 6,
    OfNat.ofNat 6, OfNat.ofNat 6, OfNat.ofNat 6, OfNat.ofNat 6, OfNat.ofNat 6, OfNat.ofNat 6, OfNat.ofNat 6, OfNat.ofNat 6,
    OfNat.ofNat 6, OfNat.ofNat 6, OfNat.ofNat 6, OfNat.ofNat 6, OfNat.ofNat 6, OfNat.ofNat 6, OfNat.ofNat 6, OfNat.ofNat 6,
    OfNat.ofNat 7, OfNat.ofNat 7, OfNat.ofNat 7, OfNat.ofNat 7, OfNat.ofNat 7, OfNat.ofNat 7, OfNat.ofNat 7, OfNat.ofNat 7,
    OfNat.ofNat 7, OfNat.ofNat 7, OfNat.ofNat 7, OfNat.ofNat 7, OfNat.ofNat 7, OfNat.ofNat 7, OfNat.ofNat 7, OfNat.ofNat 7,
    OfNat.ofNat 7, OfNat.ofNat 7, OfNat.ofNat 7, OfNat.ofNat 7, OfNat.ofNat 7, OfNat.ofNat 7, OfNat.ofNat 7, OfNat.ofNat 7,
    OfNat.ofNat 7, OfNat.ofNat 7, OfNat.ofNat 7, OfNat.ofNat 7, OfNat.ofNat 7, OfNat.ofNat 7, OfNat.ofNat 7, OfNat.ofNat 7,
    OfNat.ofNat 7, OfNat.ofNat 7, OfNat.ofNat 7, OfNat.ofNat 7, OfNat.ofNat 7, OfNat.ofNat 7, OfNat.ofNat 7, OfNat.ofNat 7,
    OfNat.ofNat 7, OfNat.ofNat 7, OfNat.ofNat 7, OfNat.ofNat 7, OfNat.ofNat 7, OfNat.ofNat 7, OfNat.ofNat 7, OfNat.ofNat 7,
    OfNat.ofNat 7, OfNat.ofNat 7, OfNat.ofNat 7, OfNat.ofNat 7, OfNat.ofNat 7, OfNat.ofNat 7, OfNat.ofNat 7, OfNat.ofNat 7,
    OfNat.ofNat 7, OfNat.ofNat 7, OfNat.ofNat 7, OfNat.ofNat 7, OfNat.ofNat 7, OfNat.ofNat 7, OfNat.ofNat 7, OfNat.ofNat 7,
    OfNat.ofNat 8, OfNat.ofNat 8, OfNat.ofNat 8, OfNat.ofNat 8, OfNat.ofNat 8, OfNat.ofNat 8, OfNat.ofNat 8, OfNat.ofNat 8,
    OfNat.ofNat 8, OfNat.ofNat 8, OfNat.ofNat 8, OfNat.ofNat 8, OfNat.ofNat 8, OfNat.ofNat 8, OfNat.ofNat 8, OfNat.ofNat 8,
    OfNat.ofNat 8, OfNat.ofNat 8, OfNat.ofNat 8, OfNat.ofNat 8, OfNat.ofNat 8, OfNat.ofNat 8, OfNat.ofNat 8, OfNat.ofNat 8,
    OfNat.ofNat 8, OfNat.ofNat 8, OfNat.ofNat 8, OfNat.ofNat 8, OfNat.ofNat 8, OfNat.ofNat 8, OfNat.ofNat 8, OfNat.ofNat 8,
    OfNat.ofNat 8, OfNat.ofNat 8, OfNat.ofNat 8, OfNat.ofNat 8, OfNat.ofNat 8, OfNat.ofNat 8, OfNat.ofNat 8, OfNat.ofNat 8,
    OfNat.ofNat 8, OfNat.ofNat 8, OfNat.ofNat 8, OfNat.ofNat 8, OfNat.ofNat 8, OfNat.ofNat 8, OfNat.ofNat 8, OfNat.ofNat 8,
    OfNat.ofNat 8, OfNat.ofNat 8, OfNat.ofNat 8, OfNat.ofNat 8, OfNat.ofNat 8, OfNat.ofNat 8, OfNat.ofNat 8, OfNat.ofNat 8,
    OfNat.ofNat 8, OfNat.ofNat 8, OfNat.ofNat 8, OfNat.ofNat 8, OfNat.ofNat 8, OfNat.ofNat 8, OfNat.ofNat 8, OfNat.ofNat 8,
    OfNat.ofNat 8, OfNat.ofNat 8, OfNat.ofNat 8, OfNat.ofNat 8, OfNat.ofNat 8, OfNat.ofNat 8, OfNat.ofNat 8, OfNat.ofNat 8,
    OfNat.ofNat 8, OfNat.ofNat 8, OfNat.ofNat 8, OfNat.ofNat 8, OfNat.ofNat 8, OfNat.ofNat 8, OfNat.ofNat 8, OfNat.ofNat 8,
    OfNat.ofNat 8, OfNat.ofNat 8, OfNat.ofNat 8, OfNat.ofNat 8, OfNat.ofNat 8, OfNat.ofNat 8, OfNat.ofNat 8, OfNat.ofNat 8,
    OfNat.ofNat 8, OfNat.ofNat 8, OfNat.ofNat 8, OfNat.ofNat 8, OfNat.ofNat 8, OfNat.ofNat 8, OfNat.ofNat 8, OfNat.ofNat 8,
    OfNat.ofNat 8, OfNat.ofNat 8, OfNat.ofNat 8, OfNat.ofNat 8, OfNat.ofNat 8, OfNat.ofNat 8, OfNat.ofNat 8, OfNat.ofNat 8,
    OfNat.ofNat 8, OfNat.ofNat 8, OfNat.ofNat 8, OfNat.ofNat 8, OfNat.ofNat 8, OfNat.ofNat 8, OfNat.ofNat 8, OfNat.ofNat 8,
    OfNat.ofNat 8, OfNat.ofNat 8, OfNat.ofNat 8, OfNat.ofNat 8, OfNat.ofNat 8, OfNat.ofNat 8, OfNat.ofNat 8, OfNat.ofNat 8,
    OfNat.ofNat 8, OfNat.ofNat 8, OfNat.ofNat 8, OfNat.ofNat 8, OfNat.ofNat 8, OfNat.ofNat 8, OfNat.ofNat 8, OfNat.ofNat 8])
    (Int.toNat (IntKind.wrap IntKind.u8 (shrI IntKind.u64 (shrI IntKind.u64 i0 16) 8))) (OfNat.ofNat 0))) :
    Int)))))))
    (T.req (0 ≤ IntKind.wrap IntKind.u8 (shrI IntKind.u64 i0 16) ∧ IntKind.wrap IntKind.u8 (shrI IntKind.u64 i0 16) < 256)
    (T.ret
    (Value.int IntKind.i64
    (IntKind.wrap IntKind.i64
    (16 +
    IntKind.wrap IntKind.i64
    (↑(UInt8.toNat
    (Array.getD
    (Array.mk
    [OfNat.ofNat 0, OfNat.ofNat 1, OfNat.ofNat 2, OfNat.ofNat 2, OfNat.ofNat 3, OfNat.ofNat 3, OfNat.ofNat 3, OfNat.ofNat 3,
    OfNat.ofNat 4, OfNat.ofNat 4, OfNat.ofNat 4, OfNat.ofNat 4, OfNat.ofNat 4, OfNat.ofNat 4, OfNat.ofNat 4, OfNat.ofNat 4,
    OfNat.ofNat 5, OfNat.ofNat 5, OfNat.ofNat 5, OfNat.ofNat 5, OfNat.ofNat 5, OfNat.ofNat 5, OfNat.ofNat 5, OfNat.ofNat 5,
    OfNat.ofNat 5, OfNat.ofNat 5, OfNat.ofNat 5, OfNat.ofNat 5, OfNat.ofNat 5, OfNat.ofNat 5, OfNat.ofNat 5, OfNat.ofNat 5,
    OfNat.ofNat 6, OfNat.ofNat 6, OfNat.ofNat 6, OfNat.ofNat 6, OfNat.ofNat 6, OfNat.ofNat 6, OfNat.ofNat 6, OfNat.ofNat 6,
    OfNat.ofNat 6, OfNat.ofNat 6, OfNat.ofNat 6, OfNat.ofNat 6, OfNat.ofNat 6, OfNat.ofNat 6, OfNat.ofNat 6, OfNat.ofNat 6,
    OfNat.ofNat 6, OfNat.ofNat 6, OfNat.ofNat 6, OfNat.ofNat 6, OfNat.ofNat 6, OfNat.ofNat 6, OfNat.ofNat 6, OfNat.ofNat 6,
    OfNat.ofNat 6, OfNat.ofNat 6, OfNat.ofNat 6, OfNat.ofNat 6, OfNat.ofNat 6, OfNat.ofNat 6, OfNat.ofNat 6, OfNat.ofNat 6,
    OfNat.ofNat 7, OfNat.ofNat 7, OfNat.ofNat 7, OfNat.ofNat 7, OfNat.ofNat 7, OfNat.ofNat 7, OfNat.ofNat 7, OfNat.ofNat 7,
    OfNat.ofNat 7, OfNat.ofNat 7, OfNat.ofNat 7, OfNat.ofNat 7, OfNat.ofNat 7, OfNat.ofNat 7, OfNat.ofNat 7, OfNat.ofNat 7,
    OfNat.ofNat 7, OfNat.ofNat 7, OfNat.ofNat 7, OfNat.ofNat 7, OfNat.ofNat 7, OfNat.ofNat 7, OfNat.ofNat 7, OfNat.ofNat 7,
    OfNat.ofNat 7, OfNat.ofNat 7, OfNat.ofNat 7, OfNat.ofNat 7, OfNat.ofNat 7, OfNat.ofNat 7, OfNat.ofNat 7, OfNat.ofNat 7,
    OfNat.ofNat 7, OfNat.ofNat 7, OfNat.ofNat 7, OfNat.ofNat 7, OfNat.ofNat 7, OfNat.ofNat 7, OfNat.ofNat 7, OfNat.ofNat 7,
    OfNat.ofNat 7, OfNat.ofNat 7, OfNat.ofNat 7, OfNat.ofNat 7, OfNat.ofNat 7, OfNat.ofNat 7, OfNat.ofNat 7, OfNat.ofNat 7,
    OfNat.ofNat 7, OfNat.ofNat 7, OfNat.ofNat 7, OfNat.ofNat 7, OfNat.ofNat 7, OfNat.ofNat 7, OfNat.ofNat 7, OfNat.ofNat 7,
    OfNat.ofNat 7, OfNat.ofNat 7, OfNat.ofNat 7, OfNat.ofNat 7, OfNat.ofNat 7, OfNat.ofNat 7, OfNat.ofNat 7, OfNat.ofNat 7,
    OfNat.ofNat 8, OfNat.ofNat 8, OfNat.ofNat 8, OfNat.ofNat 8, OfNat.ofNat 8, OfNat.ofNat 8, OfNat.ofNat 8, OfNat.ofNat 8,
    OfNat.ofNat 8, OfNat.ofNat 8, OfNat.ofNat 8, OfNat.ofNat 8, OfNat.ofNat 8, OfNat.ofNat 8, OfNat.ofNat 8, OfNat.ofNat 8,
    OfNat.ofNat 8, OfNat.ofNat 8, OfNat.ofNat 8, OfNat.ofNat 8, OfNat.ofNat 8, OfNat.ofNat 8, OfNat.ofNat 8, OfNat.ofNat 8,
    OfNat.ofNat 8, OfNat.ofNat 8, OfNat.ofNat 8, OfNat.ofNat 8, OfNat.ofNat 8, OfNat.ofNat 8, OfNat.ofNat 8, OfNat.ofNat 8,
    OfNat.ofNat 8, OfNat.ofNat 8, OfNat.ofNat 8, OfNat.ofNat 8, OfNat.ofNat 8, OfNat.ofNat 8, OfNat.ofNat 8, OfNat.ofNat 8,
    OfNat.ofNat 8, OfNat.ofNat 8, OfNat.ofNat 8, OfNat.ofNat 8, OfNat.ofNat 8, OfNat.ofNat 8, OfNat.ofNat 8, OfNat.ofNat 8,
    OfNat.ofNat 8, OfNat.ofNat 8, OfNat.ofNat 8, OfNat.ofNat 8, OfNat.ofNat 8, OfNat.ofNat 8, OfNat.ofNat 8, OfNat.ofNat 8,
    OfNat.ofNat 8, OfNat.ofNat 8, OfNat.ofNat 8, OfNat.ofNat 8, OfNat.ofNat 8, OfNat.ofNat 8, OfNat.ofNat 8, OfNat.ofNat 8,
    OfNat.ofNat 8, OfNat.ofNat 8, OfNat.ofNat 8, OfNat.ofNat 8, OfNat.ofNat 8, OfNat.ofNat 8, OfNat.ofNat 8, OfNat.ofNat 8,
    OfNat.ofNat 8, OfNat.ofNat 8, OfNat.ofNat 8, OfNat.ofNat 8, OfNat.ofNat 8, OfNat.ofNat 8, OfNat.ofNat 8, OfNat.ofNat 8,
    OfNat.ofNat 8, OfNat.ofNat 8, OfNat.ofNat 8, OfNat.ofNat 8, OfNat.ofNat 8, OfNat.ofNat 8, OfNat.ofNat 8, OfNat.ofNat 8,
    OfNat.ofNat 8, OfNat.ofNat 8, OfNat.ofNat 8, OfNat.ofNat 8, OfNat.ofNat 8, OfNat.ofNat 8, OfNat.ofNat 8, OfNat.ofNat 8,
    OfNat.ofNat 8, OfNat.ofNat 8, OfNat.ofNat 8, OfNat.ofNat 8, OfNat.ofNat 8, OfNat.ofNat 8, OfNat.ofNat 8, OfNat.ofNat 8,
    OfNat.ofNat 8, OfNat.ofNat 8, OfNat.ofNat 8, OfNat.ofNat 8, OfNat.ofNat 8, OfNat.ofNat 8, OfNat.ofNat 8, OfNat.ofNat 8,
    OfNat.ofNat 8, OfNat.ofNat 8, OfNat.ofNat 8, OfNat.ofNat 8, OfNat.ofNat 8, OfNat.ofNat 8, OfNat.ofNat 8, OfNat.ofNat 8,
    OfNat.ofNat 8, OfNat.ofNat 8, OfNat.ofNat 8, OfNat.ofNat 8, OfNat.ofNat 8, OfNat.ofNat 8, OfNat.ofNat 8, OfNat.ofNat 8])
    (Int.toNat (IntKind.wrap IntKind.u8 (shrI IntKind.u64 i0 16))) (OfNat.ofNat 0))) :
    Int))))))))
    (T.ite (decide (i0 ≥ 256))
    (T.req ((0 : Int) ≤ 8)
    (T.req (0 ≤ IntKind.wrap IntKind.u8 (shrI IntKind.u64 i0 8) ∧ IntKind.wrap IntKind.u8 (shrI IntKind.u64 i0 8) < 256)
    (T.ret
    (Value.int IntKind.i64
    (IntKind.wrap IntKind.i64
    (8 +
    IntKind.wrap IntKind.i64
    (↑(UInt8.toNat
    (Array.getD
    (Array.mk
    [OfNat.ofNat 0, OfNat.ofNat 1, OfNat.ofNat 2, OfNat.ofNat 2, OfNat.ofNat 3, OfNat.ofNat 3, OfNat.ofNat 3, OfNat.ofNat 3,
    OfNat.ofNat 4, OfNat.ofNat 4, OfNat.ofNat 4, OfNat.ofNat 4, OfNat.ofNat 4, OfNat.ofNat 4, OfNat.ofNat 4, OfNat.ofNat 4,
    OfNat.ofNat 5, OfNat.ofNat 5, OfNat.ofNat 5, OfNat.ofNat 5, OfNat.ofNat 5, OfNat.ofNat 5, OfNat.ofNat 5, OfNat.ofNat 5,
    OfNat.ofNat 5, OfNat.ofNat 5, OfNat.ofNat 5, OfNat.ofNat 5, OfNat.ofNat 5, OfNat.ofNat 5, OfNat.ofNat 5, OfNat.ofNat 5,
    OfNat.ofNat 6, OfNat.ofNat 6, OfNat.ofNat 6, OfNat.ofNat 6, OfNat.ofNat 6, OfNat.ofNat 6, OfNat.ofNat 6, OfNat.ofNat 6,
    OfNat.ofNat 6, OfNat.ofNat 6, OfNat.ofNat 6, OfNat.ofNat 6, OfNat.ofNat 6, OfNat.ofNat 6, OfNat.ofNat 6, OfNat.ofNat 6,
    OfNat.ofNat 6, OfNat.ofNat 6, OfNat.ofNat 6, OfNat.ofNat 6, OfNat.ofNat 6, OfNat.ofNat 6, OfNat.ofNat 6, OfNat.ofNat 6,
    OfNat.ofNat 6, OfNat.ofNat 6, OfNat.ofNat 6, OfNat.ofNat 6, OfNat.ofNat 6, OfNat.ofNat 6, OfNat.ofNat 6, OfNat.ofNat 6,
    OfNat.ofNat 7, OfNat.ofNat 7, OfNat.ofNat 7, OfNat.ofNat 7, OfNat.ofNat 7, OfNat.ofNat 7, OfNat.ofNat 7, OfNat.ofNat 7,
    OfNat.ofNat 7, OfNat.ofNat 7, OfNat.ofNat 7, OfNat.ofNat 7, OfNat.ofNat 7, OfNat.ofNat 7, OfNat.ofNat 7, OfNat.ofNat 7,
    OfNat.ofNat 7, OfNat.ofNat 7, OfNat.ofNat 7, OfNat.ofNat 7, OfNat.ofNat 7, OfNat.ofNat 7, OfNat.ofNat 7, OfNat.ofNat 7,
    OfNat.ofNat 7, OfNat.ofNat 7, OfNat.ofNat 7, OfNat.ofNat 7, OfNat.ofNat 7, OfNat.ofNat 7, OfNat.ofNat 7, OfNat.ofNat 7,
    OfNat.ofNat 7, OfNat.ofNat 7, OfNat.ofNat 7, OfNat.ofNat 7, OfNat.ofNat 7, OfNat.ofNat 7, OfNat.ofNat 7, OfNat.ofNat 7,
    OfNat.ofNat 7, OfNat.ofNat 7, OfNat.ofNat 7, OfNat.ofNat 7, OfNat.ofNat 7, OfNat.ofNat 7, OfNat.ofNat 7, OfNat.ofNat 7,
    OfNat.ofNat 7, OfNat.ofNat 7, OfNat.ofNat 7, OfNat.ofNat 7, OfNat.ofNat 7, OfNat.ofNat 7, OfNat.ofNat 7, OfNat.ofNat 7,
    OfNat.ofNat 7, OfNat.ofNat 7, OfNat.ofNat 7, OfNat.ofNat 7, OfNat.ofNat 7, OfNat.ofNat 7, OfNat.ofNat 7, OfNat.ofNat 7,
    OfNat.ofNat 8, OfNat.ofNat 8, OfNat.ofNat 8, OfNat.ofNat 8, OfNat.ofNat 8, OfNat.ofNat 8, OfNat.ofNat 8, OfNat.ofNat 8,
    OfNat.ofNat 8, OfNat.ofNat 8, OfNat.ofNat 8, OfNat.ofNat 8, OfNat.ofNat 8, OfNat.ofNat 8, OfNat.ofNat 8, OfNat.ofNat 8,
    OfNat.ofNat 8, OfNat.ofNat 8, OfNat.ofNat 8, OfNat.ofNat 8, OfNat.ofNat 8, OfNat.ofNat 8, OfNat.ofNat 8, OfNat.ofNat 8,
    OfNat.ofNat 8, OfNat.ofNat 8, OfNat.ofNat 8, OfNat.ofNat 8, OfNat.ofNat 8, OfNat.ofNat 8, OfNat.ofNat 8, OfNat.ofNat 8,
    OfNat.ofNat 8, OfNat.ofNat 8, OfNat.ofNat 8, OfNat.ofNat 8, OfNat.ofNat 8, OfNat.ofNat 8, OfNat.ofNat 8, OfNat.ofNat 8,
    OfNat.ofNat 8, OfNat.ofNat 8, OfNat.ofNat 8, OfNat.ofNat 8, OfNat.ofNat 8, OfNat.ofNat 8, OfNat.ofNat 8, OfNat.ofNat 8,
    OfNat.ofNat 8, OfNat.ofNat 8, OfNat.ofNat 8, OfNat.ofNat 8, OfNat.ofNat 8, OfNat.ofNat 8, OfNat.ofNat 8, OfNat.ofNat 8,
    OfNat.ofNat 8, OfNat.ofNat 8, OfNat.ofNat 8, OfNat.ofNat 8, OfNat.ofNat 8, OfNat.ofNat 8, OfNat.ofNat 8, OfNat.ofNat 8,
    OfNat.ofNat 8, OfNat.ofNat 8, OfNat.ofNat 8, OfNat.ofNat 8, OfNat.ofNat 8, OfNat.ofNat 8, OfNat.ofNat 8, OfNat.ofNat 8,
    OfNat.ofNat 8, OfNat.ofNat 8, OfNat.ofNat 8, OfNat.ofNat 8, OfNat.ofNat 8, OfNat.ofNat 8, OfNat.ofNat 8, OfNat.ofNat 8,
    OfNat.ofNat 8, OfNat.ofNat 8, OfNat.ofNat 8, OfNat.ofNat 8, OfNat.ofNat 8, OfNat.ofNat 8, OfNat.ofNat 8, OfNat.ofNat 8,
    OfNat.ofNat 8, OfNat.ofNat 8, OfNat.ofNat 8, OfNat.ofNat 8, OfNat.ofNat 8, OfNat.ofNat 8, OfNat.ofNat 8, OfNat.ofNat 8,
    OfNat.ofNat 8, OfNat.ofNat 8, OfNat.ofNat 8, OfNat.ofNat 8, OfNat.ofNat 8, OfNat.ofNat 8, OfNat.ofNat 8, OfNat.ofNat 8,
    OfNat.ofNat 8, OfNat.ofNat 8, OfNat.ofNat 8, OfNat.ofNat 8, OfNat.ofNat 8, OfNat.ofNat 8, OfNat.ofNat 8, OfNat.ofNat 8,
    OfNat.ofNat 8, OfNat.ofNat 8, OfNat.ofNat 8, OfNat.ofNat 8, OfNat.ofNat 8, OfNat.ofNat 8, OfNat.ofNat 8, OfNat.ofNat 8,
    OfNat.ofNat 8, OfNat.ofNat 8, OfNat.ofNat 8, OfNat.ofNat 8, OfNat.ofNat 8, OfNat.ofNat 8, OfNat.ofNat 8, OfNat.ofNat 8])
    (Int.toNat (IntKind.wrap IntKind.u8 (shrI IntKind.u64 i0 8))) (OfNat.ofNat 0))) :
    Int)))))))
    (T.req (0 ≤ IntKind.wrap IntKind.u8 i0 ∧ IntKind.wrap IntKind.u8 i0 < 256)
    (T.ret
    (Value.int IntKind.i64
    (IntKind.wrap IntKind.i64
    (0 +
    IntKind.wrap IntKind.i64
    (↑(UInt8.toNat
    (Array.getD
    (Array.mk
    [OfNat.ofNat 0, OfNat.ofNat 1, OfNat.ofNat 2, OfNat.ofNat 2, OfNat.ofNat 3, OfNat.ofNat 3, OfNat.ofNat 3, OfNat.ofNat 3,
    OfNat.ofNat 4, OfNat.ofNat 4, OfNat.ofNat 4, OfNat.ofNat 4, OfNat.ofNat 4, OfNat.ofNat 4, OfNat.ofNat 4, OfNat.ofNat 4,
    OfNat.ofNat 5, OfNat.ofNat 5, OfNat.ofNat 5, OfNat.ofNat 5, OfNat.ofNat 5, OfNat.ofNat 5, OfNat.ofNat 5, OfNat.ofNat 5,
    OfNat.ofNat 5, OfNat.ofNat 5, OfNat.ofNat 5, OfNat.ofNat 5, OfNat.ofNat 5, OfNat.ofNat 5, OfNat.ofNat 5, OfNat.ofNat 5,
    OfNat.ofNat 6, OfNat.ofNat 6, OfNat.ofNat 6, OfNat.ofNat 6, OfNat.ofNat 6, OfNat.ofNat 6, OfNat.ofNat 6, OfNat.ofNat 6,
    OfNat.ofNat 6, OfNat.ofNat 6, OfNat.ofNat 6, OfNat.ofNat 6, OfNat.ofNat 6, OfNat.ofNat 6, OfNat.ofNat 6, OfNat.ofNat 6,
    OfNat.ofNat 6, OfNat.ofNat 6, OfNat.ofNat 6, OfNat.ofNat 6, OfNat.ofNat 6, OfNat.ofNat 6, OfNat.ofNat 6, OfNat.ofNat 6,
    OfNat.ofNat 6, OfNat.ofNat 6, OfNat.ofNat 6, OfNat.ofNat 6, OfNat.ofNat 6, OfNat.ofNat 6, OfNat.ofNat 6, OfNat.ofNat 6,
    OfNat.ofNat 7, OfNat.ofNat 7, OfNat.ofNat 7, OfNat.ofNat 7, OfNat.ofNat 7, OfNat.ofNat 7, OfNat.ofNat 7, OfNat.ofNat 7,
    OfNat.ofNat 7, OfNat.ofNat 7, OfNat.ofNat 7, OfNat.ofNat 7, OfNat.ofNat 7, OfNat.ofNat 7, OfNat.ofNat 7, OfNat.ofNat 7,
    OfNat.ofNat 7, OfNat.ofNat 7, OfNat.ofNat 7, OfNat.ofNat 7, OfNat.ofNat 7, OfNat.ofNat 7, OfNat.ofNat 7, OfNat.ofNat 7,
    OfNat.ofNat 7, OfNat.ofNat 7, OfNat.ofNat 7, OfNat.ofNat 7, OfNat.ofNat 7, OfNat.ofNat 7, OfNat.ofNat 7, OfNat.ofNat 7,
    OfNat.ofNat 7, OfNat.ofNat 7, OfNat.ofNat 7, OfNat.ofNat 7, OfNat.ofNat 7, OfNat.ofNat 7, OfNat.ofNat 7, OfNat.ofNat 7,
    OfNat.ofNat 7, OfNat.ofNat 7, OfNat.ofNat 7, OfNat.ofNat 7, OfNat.ofNat 7, OfNat.ofNat 7, OfNat.ofNat 7, OfNat.ofNat 7,
    OfNat.ofNat 7, OfNat.ofNat 7, OfNat.ofNat 7, OfNat.ofNat 7, OfNat.ofNat 7, OfNat.ofNat 7, OfNat.ofNat 7, OfNat.ofNat 7,
    OfNat.ofNat 7, OfNat.ofNat 7, OfNat.ofNat 7, OfNat.ofNat 7, OfNat.ofNat 7, OfNat.ofNat 7, OfNat.ofNat 7, OfNat.ofNat 7,
    OfNat.ofNat 8, OfNat.ofNat 8, OfNat.ofNat 8, OfNat.ofNat 8, OfNat.ofNat 8, OfNat.ofNat 8, OfNat.ofNat 8, OfNat.ofNat 8,
    OfNat.ofNat 8, OfNat.ofNat 8, OfNat.ofNat 8, OfNat.ofNat 8, OfNat.ofNat 8, OfNat.ofNat 8, OfNat.ofNat 8, OfNat.ofNat 8,
    OfNat.ofNat 8, OfNat.ofNat 8, OfNat.ofNat 8, OfNat.ofNat 8, OfNat.ofNat 8, OfNat.ofNat 8, OfNat.ofNat 8, OfNat.ofNat 8,
    OfNat.ofNat 8, OfNat.ofNat 8, OfNat.ofNat 8, OfNat.ofNat 8, OfNat.ofNat 8, OfNat.ofNat 8, OfNat.ofNat 8, OfNat.ofNat 8,
    OfNat.ofNat 8, OfNat.ofNat 8, OfNat.ofNat 8, OfNat.ofNat 8, OfNat.ofNat 8, OfNat.ofNat 8, OfNat.ofNat 8, OfNat.ofNat 8,
    OfNat.ofNat 8, OfNat.ofNat 8, OfNat.ofNat 8, OfNat.ofNat 8, OfNat.ofNat 8, OfNat.ofNat 8, OfNat.ofNat 8, OfNat.ofNat 8,
    OfNat.ofNat 8, OfNat.ofNat 8, OfNat.ofNat 8, OfNat.ofNat 8, OfNat.ofNat 8, OfNat.ofNat 8, OfNat.ofNat 8, OfNat.ofNat 8,
    OfNat.ofNat 8, OfNat.ofNat 8, OfNat.ofNat 8, OfNat.ofNat 8, OfNat.ofNat 8, OfNat.ofNat 8, OfNat.ofNat 8, OfNat.ofNat 8,
    OfNat.ofNat 8, OfNat.ofNat 8, OfNat.ofNat 8, OfNat.ofNat 8, OfNat.ofNat 8, OfNat.ofNat 8, OfNat.ofNat 8, OfNat.ofNat 8,
    OfNat.ofNat 8, OfNat.ofNat 8, OfNat.ofNat 8, OfNat.ofNat 8, OfNat.ofNat 8, OfNat.ofNat 8, OfNat.ofNat 8, OfNat.ofNat 8,
    OfNat.ofNat 8, OfNat.ofNat 8, OfNat.ofNat 8, OfNat.ofNat 8, OfNat.ofNat 8, OfNat.ofNat 8, OfNat.ofNat 8, OfNat.ofNat 8,
    OfNat.ofNat 8, OfNat.ofNat 8, OfNat.ofNat 8, OfNat.ofNat 8, OfNat.ofNat 8, OfNat.ofNat 8, OfNat.ofNat 8, OfNat.ofNat 8,
    OfNat.ofNat 8, OfNat.ofNat 8, OfNat.ofNat 8, OfNat.ofNat 8, OfNat.ofNat 8, OfNat.ofNat 8, OfNat.ofNat 8, OfNat.ofNat 8,
    OfNat.ofNat 8, OfNat.ofNat 8, OfNat.ofNat 8, OfNat.ofNat 8, OfNat.ofNat 8, OfNat.ofNat 8, OfNat.ofNat 8, OfNat.ofNat 8,
    OfNat.ofNat 8, OfNat.ofNat 8, OfNat.ofNat 8, OfNat.ofNat 8, OfNat.ofNat 8, OfNat.ofNat 8, OfNat.ofNat 8, OfNat.ofNat 8,
    OfNat.ofNat 8, OfNat.ofNat 8, OfNat.ofNat 8, OfNat.ofNat 8, OfNat.ofNat 8, OfNat.ofNat 8, OfNat.ofNat 8, OfNat.ofNat 8])
    (Int.toNat (IntKind.wrap IntKind.u8 i0)) (OfNat.ofNat 0))) :
    Int))))))))
theorem e39 (i0 : Int) : treeOf Try.prog Try.f39 (codeOf Try.f39) .n [.v (.int .u64 i0)] = (t39 i0) := by kernel_rfl
theorem c39 (i0 : Int) {w : World} {R : Ending → World → Prop} (h : (t39 i0).sem Try.prog R ρ0 w) : Calls Try.prog 39 #[.int .u64 i0] w R :=
  calls_of mixed Try.func39 rfl rfl (e39 i0) h
end Go.Proofs.Ytfgfabjbebdnjaa
