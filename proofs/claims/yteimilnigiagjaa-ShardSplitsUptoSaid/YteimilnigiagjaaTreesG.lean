/- The functions' trees, printed by a program (wip/tools/Emit.lean) and checked by the kernel against the model's own code. -/
import Derived.Test.YteimilnigiagjaaTreesA
import Derived.Test.YteimilnigiagjaaProg
namespace Go.Proofs.Yteimilnigiagjaa
open Go hiding Expr
open Go.Proofs.Yteimilnigiagjaa.Tr
set_option linter.unusedVariables false
set_option maxRecDepth 100000
def t20 (i0 : Int) (o1 : Option Addr) (n2 n3 : Nat) : T :=
  T.call 38 [Value.int IntKind.i64 i0] fun v4 =>
  T.asI IntKind.i64 v4 fun i5 =>
    T.run (Instr.makeSlice 36 (Value.int IntKind.i64 i5) (Value.int IntKind.i64 i5)) fun v6 =>
    T.asS v6 fun o7 n8 n9 =>
    T.call 23 [Value.slice o1 n2 n3] fun v10 =>
    T.asS v10 fun o11 n12 n13 =>
    T.loop 0 [Value.int IntKind.i64 0] fun l14 j15 =>
    T.asI IntKind.i64 (List.headD l14 (Value.tuple (Array.mk []))) fun i16 =>
    T.ite (decide (i16 < (↑n12 : Int)))
    (T.req (0 ≤ i16 ∧ i16 < (↑n12 : Int))
    (T.sm o11 fun n17 n18 =>
    T.ldI IntKind.i32 n17 (n18 + Int.toNat i16 * 2) fun i19 =>
    T.ldI IntKind.i64 n17 (n18 + Int.toNat i16 * 2 + 1) fun i20 =>
    T.new (Obj.cells (Array.mk [Value.int IntKind.i32 0, Value.int IntKind.i64 0]) 23) fun n21 =>
    T.st n21 0 (Value.int IntKind.i32 i19)
    (T.st n21 1 (Value.int IntKind.i64 i20)
    (T.ldI IntKind.i32 n21 0 fun i22 =>
    T.ldI IntKind.i64 n21 1 fun i23 =>
    T.call 18 [Value.agg (Array.mk [Value.int IntKind.i32 i22, Value.int IntKind.i64 i23]), Value.int IntKind.i64 i0] fun v24 =>
    T.asI IntKind.i64 v24 fun i25 =>
    T.drew
    (T.req (0 ≤ i25 ∧ i25 < (↑n8 : Int))
    (T.sm o7 fun n26 n27 =>
    T.ldS n26 (n27 + Int.toNat i25 * 1) fun o28 n29 n30 =>
    T.ldI IntKind.i32 n21 0 fun i31 =>
    T.ldI IntKind.i64 n21 1 fun i32 =>
    T.new (Obj.cells (Array.mk [Value.int IntKind.i32 i31, Value.int IntKind.i64 i32]) 23) fun n33 =>
    T.chk [(Addr.mk n26 (n27 + Int.toNat i25 * 1) none, Value.slice o28 n29 n30)]
    (T.run
    (biV Builtin.append (Array.mk [35, 35]) 35
    (Array.mk [Value.slice o28 n29 n30, Value.slice (some (Addr.mk n33 0 none)) 1 1]))
    fun v34 =>
    T.asS v34 fun o35 n36 n37 =>
    T.chk []
    (T.req (0 ≤ i25 ∧ i25 < (↑n8 : Int))
    (T.sm o7 fun n38 n39 =>
    T.st n38 (n39 + Int.toNat i25 * 1) (Value.slice o35 n36 n37)
    (T.chk []
    (T.next 0 [Value.int IntKind.i64 (IntKind.wrap IntKind.i64 (i16 + 1))]
    ([Value.int IntKind.i64 i0, Value.slice o7 n8 n9, Value.slice o11 n12 n13,
    Value.int IntKind.i64 (↑n12 : Int)] =
    [Value.int IntKind.i64 i0, Value.slice o7 n8 n9, Value.slice o11 n12 n13,
    Value.int IntKind.i64 (↑n12 : Int)] ∧ ([] : List Deferred) = []))))))))))))
    (T.ret (Value.slice o7 n8 n9))
theorem e20 (i0 : Int) (o1 : Option Addr) (n2 n3 : Nat) : treeOf Try.prog Try.f20 (codeOf Try.f20) (.s .n (.s .n (.s (.s .n (.u (.l [(15, .int .i64)] [0, 5, 13, 14] (.s .n (.s .n (.s (.u (.s .n (.s .n (.p [0, 1, 2, 3, 4, 5, 6, 7, 8, 9, 10])))) .n)))))) .n))) [.v (.int .i64 i0), .v (.slice o1 n2 n3)] = (t20 i0 o1 n2 n3) := by kernel_rfl
theorem c20 (i0 : Int) (o1 : Option Addr) (n2 n3 : Nat) {w : World} {R : Ending → World → Prop} (h : (t20 i0 o1 n2 n3).sem Try.prog R ρ0 w) : Calls Try.prog 20 #[.int .i64 i0, .slice o1 n2 n3] w R :=
  calls_of mixed Try.func20 rfl rfl (e20 i0 o1 n2 n3) h
def t6 (o0 : Option Addr) (n1 n2 : Nat) (i3 : Int) (i4 : Int) (i5 : Int) : T :=
  T.new (Obj.cells (Array.mk [Value.int IntKind.i32 i4, Value.int IntKind.i64 i5]) 23) fun n6 =>
  T.call 20 [Value.int IntKind.i64 i3, Value.slice o0 n1 n2] fun v7 =>
    T.asS v7 fun o8 n9 n10 =>
    T.loop 0 [Value.int IntKind.i64 0, Value.int IntKind.i64 0] fun l11 j12 =>
    T.asI IntKind.i64 (List.headD l11 (Value.tuple (Array.mk []))) fun i13 =>
    T.asI IntKind.i64 (List.headD (List.tail l11) (Value.tuple (Array.mk []))) fun i14 =>
    T.ite (decide (i14 < (↑n9 : Int)))
    (T.req (0 ≤ i14 ∧ i14 < (↑n9 : Int))
    (T.sm o8 fun n15 n16 =>
    T.ldS n15 (n16 + Int.toNat i14 * 1) fun o17 n18 n19 =>
    T.loop 1 [Value.int IntKind.i64 0] fun l20 j21 =>
    T.asI IntKind.i64 (List.headD l20 (Value.tuple (Array.mk []))) fun i22 =>
    T.ite (decide (i22 < (↑n18 : Int)))
    (T.drew
    (T.req (0 ≤ i22 ∧ i22 < (↑n18 : Int))
    (T.sm o17 fun n23 n24 =>
    T.ldI IntKind.i32 n23 (n24 + Int.toNat i22 * 2) fun i25 =>
    T.ldI IntKind.i64 n23 (n24 + Int.toNat i22 * 2 + 1) fun i26 =>
    T.call 18 [Value.agg (Array.mk [Value.int IntKind.i32 i25, Value.int IntKind.i64 i26]), Value.int IntKind.i64 i3] fun v27 =>
    T.asI IntKind.i64 v27 fun i28 =>
    T.chk []
    (T.ite (i28 != i14) (T.chk [] (T.chk [] (T.ret (Value.bool false))))
    (T.ite (decide (i22 > 0))
    (T.req (0 ≤ IntKind.wrap IntKind.i64 (i22 - 1) ∧ IntKind.wrap IntKind.i64 (i22 - 1) < (↑n18 : Int))
    (T.sm o17 fun n29 n30 =>
    T.ldI IntKind.i32 n29 (n30 + Int.toNat (IntKind.wrap IntKind.i64 (i22 - 1)) * 2) fun i31 =>
    T.ldI IntKind.i64 n29 (n30 + Int.toNat (IntKind.wrap IntKind.i64 (i22 - 1)) * 2 + 1) fun i32 =>
    T.req (0 ≤ i22 ∧ i22 < (↑n18 : Int))
    (T.sm o17 fun n33 n34 =>
    T.ldI IntKind.i32 n33 (n34 + Int.toNat i22 * 2) fun i35 =>
    T.ldI IntKind.i64 n33 (n34 + Int.toNat i22 * 2 + 1) fun i36 =>
    T.call 10
    [Value.agg (Array.mk [Value.int IntKind.i32 i31, Value.int IntKind.i64 i32]),
    Value.agg (Array.mk [Value.int IntKind.i32 i35, Value.int IntKind.i64 i36])]
    fun v37 =>
    T.asI IntKind.i64 v37 fun i38 =>
    T.chk []
    (T.ite (decide (i38 ≥ 0)) (T.chk [] (T.ret (Value.bool false)))
    (T.req (0 ≤ i22 ∧ i22 < (↑n18 : Int))
    (T.sm o17 fun n39 n40 =>
    T.ldI IntKind.i32 n39 (n40 + Int.toNat i22 * 2) fun i41 =>
    T.ldI IntKind.i64 n39 (n40 + Int.toNat i22 * 2 + 1) fun i42 =>
    T.call 21
    [Value.slice o0 n1 n2,
    Value.agg (Array.mk [Value.int IntKind.i32 i41, Value.int IntKind.i64 i42])]
    fun v43 =>
    T.asB v43 fun b44 =>
    T.chk []
    (T.ite (!b44) (T.ret (Value.bool false))
    (T.next 1 [Value.int IntKind.i64 (IntKind.wrap IntKind.i64 (i22 + 1))]
    ([Value.slice o0 n1 n2, Value.int IntKind.i64 i3,
    Value.pointer (some (Addr.mk n6 0 none)),
    Value.int IntKind.i64 i13, Value.slice o8 n9 n10,
    Value.int IntKind.i64 i14, Value.slice o17 n18 n19,
    Value.slice o8 n9 n10, Value.int IntKind.i64 (↑n9 : Int),
    Value.int IntKind.i64 i14, Value.int IntKind.i64 (↑n18 : Int)] =
    [Value.slice o0 n1 n2, Value.int IntKind.i64 i3,
    Value.pointer (some (Addr.mk n6 0 none)),
    Value.int IntKind.i64 i13, Value.slice o8 n9 n10,
    Value.int IntKind.i64 i14, Value.slice o17 n18 n19,
    Value.slice o8 n9 n10, Value.int IntKind.i64 (↑n9 : Int),
    Value.int IntKind.i64 i14, Value.int IntKind.i64 (↑n18 : Int)] ∧ ([] : List Deferred) = [])))))))))
    (T.chk []
    (T.req (0 ≤ i22 ∧ i22 < (↑n18 : Int))
    (T.sm o17 fun n45 n46 =>
    T.ldI IntKind.i32 n45 (n46 + Int.toNat i22 * 2) fun i47 =>
    T.ldI IntKind.i64 n45 (n46 + Int.toNat i22 * 2 + 1) fun i48 =>
    T.call 21
    [Value.slice o0 n1 n2, Value.agg (Array.mk [Value.int IntKind.i32 i47, Value.int IntKind.i64 i48])]
    fun v49 =>
    T.asB v49 fun b50 =>
    T.chk []
    (T.ite (!b50) (T.ret (Value.bool false))
    (T.next 1 [Value.int IntKind.i64 (IntKind.wrap IntKind.i64 (i22 + 1))]
    ([Value.slice o0 n1 n2, Value.int IntKind.i64 i3, Value.pointer (some (Addr.mk n6 0 none)),
    Value.int IntKind.i64 i13, Value.slice o8 n9 n10, Value.int IntKind.i64 i14,
    Value.slice o17 n18 n19, Value.slice o8 n9 n10, Value.int IntKind.i64 (↑n9 : Int),
    Value.int IntKind.i64 i14, Value.int IntKind.i64 (↑n18 : Int)] =
    [Value.slice o0 n1 n2, Value.int IntKind.i64 i3, Value.pointer (some (Addr.mk n6 0 none)),
    Value.int IntKind.i64 i13, Value.slice o8 n9 n10, Value.int IntKind.i64 i14,
    Value.slice o17 n18 n19, Value.slice o8 n9 n10, Value.int IntKind.i64 (↑n9 : Int),
    Value.int IntKind.i64 i14, Value.int IntKind.i64 (↑n18 : Int)] ∧ ([] : List Deferred) = [])))))))))))
    (T.ldI IntKind.i32 n6 0 fun i51 =>
    T.ldI IntKind.i64 n6 1 fun i52 =>
    T.call 21 [Value.slice o17 n18 n19, Value.agg (Array.mk [Value.int IntKind.i32 i51, Value.int IntKind.i64 i52])] fun v53 =>
    T.asB v53 fun b54 =>
    T.ite b54
    (T.next 0
    [Value.int IntKind.i64 (IntKind.wrap IntKind.i64 (i13 + 1)), Value.int IntKind.i64 (IntKind.wrap IntKind.i64 (i14 + 1))]
    ([Value.slice o0 n1 n2, Value.int IntKind.i64 i3, Value.pointer (some (Addr.mk n6 0 none)), Value.slice o8 n9 n10,
    Value.slice o8 n9 n10, Value.int IntKind.i64 (↑n9 : Int)] =
    [Value.slice o0 n1 n2, Value.int IntKind.i64 i3, Value.pointer (some (Addr.mk n6 0 none)), Value.slice o8 n9 n10,
    Value.slice o8 n9 n10, Value.int IntKind.i64 (↑n9 : Int)] ∧ ([] : List Deferred) = []))
    (T.next 0 [Value.int IntKind.i64 i13, Value.int IntKind.i64 (IntKind.wrap IntKind.i64 (i14 + 1))]
    ([Value.slice o0 n1 n2, Value.int IntKind.i64 i3, Value.pointer (some (Addr.mk n6 0 none)), Value.slice o8 n9 n10,
    Value.slice o8 n9 n10, Value.int IntKind.i64 (↑n9 : Int)] =
    [Value.slice o0 n1 n2, Value.int IntKind.i64 i3, Value.pointer (some (Addr.mk n6 0 none)), Value.slice o8 n9 n10,
    Value.slice o8 n9 n10, Value.int IntKind.i64 (↑n9 : Int)] ∧ ([] : List Deferred) = [])))))
    (T.ldI IntKind.i32 n6 0 fun i55 =>
    T.ldI IntKind.i64 n6 1 fun i56 =>
    T.call 18 [Value.agg (Array.mk [Value.int IntKind.i32 i55, Value.int IntKind.i64 i56]), Value.int IntKind.i64 i3] fun v57 =>
    T.asI IntKind.i64 v57 fun i58 =>
    T.call 11 [] fun v59 =>
    T.asB v59 fun b60 =>
    T.ite b60
    (T.ldI IntKind.i32 n6 0 fun i61 =>
    T.ldI IntKind.i64 n6 1 fun i62 =>
    T.call 21 [Value.slice o0 n1 n2, Value.agg (Array.mk [Value.int IntKind.i32 i61, Value.int IntKind.i64 i62])] fun v63 =>
    T.asB v63 fun b64 =>
    T.ite ((i13 == 1) == b64)
    (T.ite (decide (i13 ≤ 1))
    (T.ite (decide (i58 ≥ 0))
    (T.ite (decide (i58 < (↑n9 : Int))) (T.ret (Value.bool (decide ((↑n9 : Int) ≤ 8)))) (T.ret (Value.bool false)))
    (T.ret (Value.bool false)))
    (T.ret (Value.bool false)))
    (T.ret (Value.bool false)))
    (T.ret (Value.bool false)))
theorem e6 (o0 : Option Addr) (n1 n2 : Nat) (i3 : Int) (i4 : Int) (i5 : Int) : treeOf Try.prog Try.f6 (codeOf Try.f6) (.s .n (.s .n (.s .n (.s (.s .n (.u (.l [(7, .int .i64), (18, .int .i64)] [0, 1, 5, 8, 16, 17] (.s .n (.s .n (.s (.u (.s .n (.s (.s .n (.u (.l [(25, .int .i64)] [0, 1, 5, 7, 8, 9, 10, 16, 17, 18, 24] (.s .n (.s .n (.s (.u (.s .n (.s (.p [0, 1, 2, 3, 4, 6, 5, 7, 8, 9, 10, 11, 12, 13, 14, 15, 16, 17, 18, 19, 20, 21, 22, 23, 24, 25, 26, 27, 28, 29, 30, 31, 32, 33]) .n))) .n)))))) .n))) .n)))))) .n)))) [.v (.slice o0 n1 n2), .v (.int .i64 i3), .v (.agg #[.int .i32 i4, .int .i64 i5])] = (t6 o0 n1 n2 i3 i4 i5) := by kernel_rfl
theorem c6 (o0 : Option Addr) (n1 n2 : Nat) (i3 : Int) (i4 : Int) (i5 : Int) {w : World} {R : Ending → World → Prop} (h : (t6 o0 n1 n2 i3 i4 i5).sem Try.prog R ρ0 w) : Calls Try.prog 6 #[.slice o0 n1 n2, .int .i64 i3, .agg #[.int .i32 i4, .int .i64 i5]] w R :=
  calls_of mixed Try.func6 rfl rfl (e6 o0 n1 n2 i3 i4 i5) h
end Go.Proofs.Yteimilnigiagjaa
