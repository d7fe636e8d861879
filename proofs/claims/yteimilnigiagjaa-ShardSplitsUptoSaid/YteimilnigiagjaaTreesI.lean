/- The functions' trees, printed by a program (wip/tools/Emit.lean) and checked by the kernel against the model's own code. -/
import Derived.Test.YteimilnigiagjaaTreesH
import Derived.Test.YteimilnigiagjaaProg
namespace Go.Proofs.Yteimilnigiagjaa
open Go hiding Expr
open Go.Proofs.Yteimilnigiagjaa.Tr
set_option linter.unusedVariables false
set_option maxRecDepth 100000
def t7 (o0 : Option Addr) (n1 n2 : Nat) (o3 : Option Addr) (n4 n5 : Nat) (i6 : Int) (i7 : Int) : T :=
  T.new (Obj.cells (Array.mk [Value.int IntKind.i32 i6, Value.int IntKind.i64 i7]) 23) fun n8 =>
  T.drew
    (T.call 11 [] fun v9 =>
    T.asB v9 fun b10 =>
    T.chk []
    (T.ite b10
    (T.call 23 [Value.slice o0 n1 n2] fun v11 =>
    T.asS v11 fun o12 n13 n14 =>
    T.chk []
    (T.call 24 [Value.slice o0 n1 n2] fun v15 =>
    T.asS v15 fun o16 n17 n18 =>
    T.chk []
    (T.call 22 [Value.slice o12 n13 n14, Value.slice o16 n17 n18] fun v19 =>
    T.asB v19 fun b20 =>
    T.chk []
    (T.ite b20
    (T.call 26 [Value.slice o3 n4 n5] fun v21 =>
    T.asS v21 fun o22 n23 n24 =>
    T.chk []
    (T.call 27 [Value.slice o3 n4 n5] fun v25 =>
    T.asS v25 fun o26 n27 n28 =>
    T.chk []
    (T.call 25 [Value.slice o22 n23 n24, Value.slice o26 n27 n28] fun v29 =>
    T.asB v29 fun b30 =>
    T.chk []
    (T.ite b30
    (T.ldI IntKind.i32 n8 0 fun i31 =>
    T.ldI IntKind.i64 n8 1 fun i32 =>
    T.ldI IntKind.i32 n8 0 fun i33 =>
    T.ldI IntKind.i64 n8 1 fun i34 =>
    T.call 21
    [Value.slice o0 n1 n2,
    Value.agg (Array.mk [Value.int IntKind.i32 i31, Value.int IntKind.i64 i32])]
    fun v35 =>
    T.asB v35 fun b36 =>
    T.chk
    [(Addr.mk n8 0 none, Value.int IntKind.i32 i33),
    (Addr.mk n8 1 none, Value.int IntKind.i64 i34)]
    (T.call 28
    [Value.slice o0 n1 n2,
    Value.agg (Array.mk [Value.int IntKind.i32 i33, Value.int IntKind.i64 i34])]
    fun v37 =>
    T.asB v37 fun b38 =>
    T.chk []
    (T.ite (b36 == b38)
    (T.call 29 [Value.slice o3 n4 n5] fun v39 =>
    T.asI IntKind.u64 v39 fun i40 =>
    T.chk []
    (T.call 30 [Value.slice o3 n4 n5] fun v41 =>
    T.asI IntKind.u64 v41 fun i42 => T.chk [] (T.ret (Value.bool (i40 == i42)))))
    (T.chk [] (T.chk [] (T.ret (Value.bool false)))))))
    (T.chk [] (T.chk [] (T.chk [] (T.chk [] (T.ret (Value.bool false))))))))))
    (T.chk [] (T.chk [] (T.chk [] (T.chk [] (T.chk [] (T.chk [] (T.chk [] (T.ret (Value.bool false)))))))))))))
    (T.chk [] (T.chk [] (T.chk [] (T.chk [] (T.chk [] (T.chk [] (T.chk [] (T.chk [] (T.chk [] (T.chk [] (T.ret (Value.bool false))))))))))))))
theorem e7 (o0 : Option Addr) (n1 n2 : Nat) (o3 : Option Addr) (n4 n5 : Nat) (i6 : Int) (i7 : Int) : treeOf Try.prog Try.f7 (codeOf Try.f7) (.s .n (.s (.p [0, 1, 2, 4, 3, 5, 6, 7, 8, 9, 11, 10, 12, 13, 14, 15, 16, 17, 19, 20, 18, 21, 22, 23, 24, 25, 27, 26, 28, 29, 30, 31]) .n)) [.v (.slice o0 n1 n2), .v (.slice o3 n4 n5), .v (.agg #[.int .i32 i6, .int .i64 i7])] = (t7 o0 n1 n2 o3 n4 n5 i6 i7) := by kernel_rfl
theorem c7 (o0 : Option Addr) (n1 n2 : Nat) (o3 : Option Addr) (n4 n5 : Nat) (i6 : Int) (i7 : Int) {w : World} {R : Ending → World → Prop} (h : (t7 o0 n1 n2 o3 n4 n5 i6 i7).sem Try.prog R ρ0 w) : Calls Try.prog 7 #[.slice o0 n1 n2, .slice o3 n4 n5, .agg #[.int .i32 i6, .int .i64 i7]] w R :=
  calls_of mixed Try.func7 rfl rfl (e7 o0 n1 n2 o3 n4 n5 i6 i7) h
def t8 (o0 : Option Addr) (n1 n2 : Nat) (o3 : Option Addr) (n4 n5 : Nat) : T :=
  T.new (Obj.cells (Array.mk []) 23) fun n6 =>
  T.run (biV Builtin.append (Array.mk [35, 35]) 35 (Array.mk [Value.slice (some (Addr.mk n6 0 none)) 0 0, Value.slice o0 n1 n2])) fun v7 =>
    T.asS v7 fun o8 n9 n10 =>
    T.new (Obj.cells (Array.mk []) 51) fun n11 =>
    T.run (biV Builtin.append (Array.mk [40, 40]) 40 (Array.mk [Value.slice (some (Addr.mk n11 0 none)) 0 0, Value.slice o3 n4 n5])) fun v12 =>
    T.asS v12 fun o13 n14 n15 =>
    T.call 23 [Value.slice o0 n1 n2] fun v16 =>
    T.asS v16 fun o17 n18 n19 =>
    T.call 26 [Value.slice o3 n4 n5] fun v20 =>
    T.asS v20 fun o21 n22 n23 =>
    T.loop 0 [Value.int IntKind.i64 0] fun l24 j25 =>
    T.asI IntKind.i64 (List.headD l24 (Value.tuple (Array.mk []))) fun i26 =>
    T.ite (decide (i26 < (↑n18 : Int)))
    (T.req (0 ≤ i26 ∧ i26 < (↑n18 : Int))
    (T.sm o17 fun n27 n28 =>
    T.st n27 (n28 + Int.toNat i26 * 2 + 1) (Value.int IntKind.i64 (-9))
    (T.next 0 [Value.int IntKind.i64 (IntKind.wrap IntKind.i64 (i26 + 1))]
    ([Value.slice o0 n1 n2, Value.slice o3 n4 n5, Value.slice o8 n9 n10, Value.slice o13 n14 n15, Value.slice o17 n18 n19,
    Value.slice o21 n22 n23, Value.int IntKind.i64 (↑n18 : Int)] =
    [Value.slice o0 n1 n2, Value.slice o3 n4 n5, Value.slice o8 n9 n10, Value.slice o13 n14 n15, Value.slice o17 n18 n19,
    Value.slice o21 n22 n23, Value.int IntKind.i64 (↑n18 : Int)] ∧ ([] : List Deferred) = []))))
    (T.loop 0 [Value.int IntKind.i64 0] fun l29 j30 =>
    T.asI IntKind.i64 (List.headD l29 (Value.tuple (Array.mk []))) fun i31 =>
    T.ite (decide (i31 < (↑n22 : Int)))
    (T.req (0 ≤ i31 ∧ i31 < (↑n22 : Int))
    (T.sm o21 fun n32 n33 =>
    T.st n32 (n33 + Int.toNat i31 * 3 + 2) (Value.int IntKind.i64 (-9))
    (T.next 0 [Value.int IntKind.i64 (IntKind.wrap IntKind.i64 (i31 + 1))]
    ([Value.slice o0 n1 n2, Value.slice o3 n4 n5, Value.slice o8 n9 n10, Value.slice o13 n14 n15, Value.slice o21 n22 n23,
    Value.int IntKind.i64 (↑n22 : Int)] =
    [Value.slice o0 n1 n2, Value.slice o3 n4 n5, Value.slice o8 n9 n10, Value.slice o13 n14 n15,
    Value.slice o21 n22 n23, Value.int IntKind.i64 (↑n22 : Int)] ∧ ([] : List Deferred) = []))))
    (T.call 20 [Value.int IntKind.i64 3, Value.slice o0 n1 n2] fun v34 =>
    T.asS v34 fun o35 n36 n37 =>
    T.loop 0 [Value.int IntKind.i64 0] fun l38 j39 =>
    T.asI IntKind.i64 (List.headD l38 (Value.tuple (Array.mk []))) fun i40 =>
    T.ite (decide (i40 < (↑n36 : Int)))
    (T.req (0 ≤ i40 ∧ i40 < (↑n36 : Int))
    (T.sm o35 fun n41 n42 =>
    T.ldS n41 (n42 + Int.toNat i40 * 1) fun o43 n44 n45 =>
    T.loop 1 [Value.int IntKind.i64 0] fun l46 j47 =>
    T.asI IntKind.i64 (List.headD l46 (Value.tuple (Array.mk []))) fun i48 =>
    T.ite (decide (i48 < (↑n44 : Int)))
    (T.req (0 ≤ i48 ∧ i48 < (↑n44 : Int))
    (T.sm o43 fun n49 n50 =>
    T.st n49 (n50 + Int.toNat i48 * 2 + 1) (Value.int IntKind.i64 (-9))
    (T.next 1 [Value.int IntKind.i64 (IntKind.wrap IntKind.i64 (i48 + 1))]
    ([Value.slice o0 n1 n2, Value.slice o3 n4 n5, Value.slice o8 n9 n10, Value.slice o13 n14 n15,
    Value.slice o43 n44 n45, Value.slice o35 n36 n37, Value.int IntKind.i64 (↑n36 : Int),
    Value.int IntKind.i64 i40, Value.int IntKind.i64 (↑n44 : Int)] =
    [Value.slice o0 n1 n2, Value.slice o3 n4 n5, Value.slice o8 n9 n10, Value.slice o13 n14 n15,
    Value.slice o43 n44 n45, Value.slice o35 n36 n37, Value.int IntKind.i64 (↑n36 : Int),
    Value.int IntKind.i64 i40, Value.int IntKind.i64 (↑n44 : Int)] ∧ ([] : List Deferred) = []))))
    (T.next 0 [Value.int IntKind.i64 (IntKind.wrap IntKind.i64 (i40 + 1))]
    ([Value.slice o0 n1 n2, Value.slice o3 n4 n5, Value.slice o8 n9 n10, Value.slice o13 n14 n15,
    Value.slice o35 n36 n37, Value.int IntKind.i64 (↑n36 : Int)] =
    [Value.slice o0 n1 n2, Value.slice o3 n4 n5, Value.slice o8 n9 n10, Value.slice o13 n14 n15,
    Value.slice o35 n36 n37, Value.int IntKind.i64 (↑n36 : Int)] ∧ ([] : List Deferred) = []))))
    (T.call 11 [] fun v51 =>
    T.asB v51 fun b52 =>
    T.ite b52
    (T.call 22 [Value.slice o0 n1 n2, Value.slice o8 n9 n10] fun v53 =>
    T.asB v53 fun b54 =>
    T.ite b54
    (T.call 25 [Value.slice o3 n4 n5, Value.slice o13 n14 n15] fun v55 =>
    T.asB v55 fun b56 => T.ret (Value.bool b56))
    (T.ret (Value.bool false)))
    (T.ret (Value.bool false)))))
theorem e8 (o0 : Option Addr) (n1 n2 : Nat) (o3 : Option Addr) (n4 n5 : Nat) : treeOf Try.prog Try.f8 (codeOf Try.f8) (.s .n (.s .n (.s .n (.s .n (.s (.s .n (.u (.l [(26, .int .i64)] [0, 1, 5, 6, 7, 8, 25] .n))) (.s (.s .n (.u (.l [(36, .int .i64)] [0, 1, 5, 6, 8, 35] .n))) (.s (.s .n (.u (.l [(47, .int .i64)] [0, 1, 5, 6, 45, 46] (.s .n (.s .n (.s (.u (.s .n (.s .n (.u (.l [(53, .int .i64)] [0, 1, 5, 6, 12, 45, 46, 47, 52] .n))))) .n)))))) .n))))))) [.v (.slice o0 n1 n2), .v (.slice o3 n4 n5)] = (t8 o0 n1 n2 o3 n4 n5) := by kernel_rfl
theorem c8 (o0 : Option Addr) (n1 n2 : Nat) (o3 : Option Addr) (n4 n5 : Nat) {w : World} {R : Ending → World → Prop} (h : (t8 o0 n1 n2 o3 n4 n5).sem Try.prog R ρ0 w) : Calls Try.prog 8 #[.slice o0 n1 n2, .slice o3 n4 n5] w R :=
  calls_of mixed Try.func8 rfl rfl (e8 o0 n1 n2 o3 n4 n5) h
def t9 (o0 : Option Addr) (n1 n2 : Nat) (i3 : Int) (o4 : Option Addr) (n5 n6 : Nat) : T :=
  T.call 20 [Value.int IntKind.i64 i3, Value.slice o0 n1 n2] fun v7 =>
  T.asS v7 fun o8 n9 n10 =>
    T.call 31 [Value.int IntKind.i64 i3, Value.slice o0 n1 n2] fun v11 =>
    T.asS v11 fun o12 n13 n14 =>
    T.blk 0
    (fun l15 j16 =>
    T.loop 0 [Value.int IntKind.i64 0] fun l17 j18 =>
    T.asI IntKind.i64 (List.headD l17 (Value.tuple (Array.mk []))) fun i19 =>
    T.ite (decide (i19 < (↑n9 : Int)))
    (T.drew
    (T.req (0 ≤ i19 ∧ i19 < (↑n9 : Int))
    (T.sm o8 fun n20 n21 =>
    T.ldS n20 (n21 + Int.toNat i19 * 1) fun o22 n23 n24 =>
    T.req (0 ≤ i19 ∧ i19 < (↑n13 : Int))
    (T.sm o12 fun n25 n26 =>
    T.ldS n25 (n26 + Int.toNat i19 * 1) fun o27 n28 n29 =>
    T.call 22 [Value.slice o22 n23 n24, Value.slice o27 n28 n29] fun v30 =>
    T.asB v30 fun b31 =>
    T.chk []
    (T.ite (!b31) (T.ret (Value.bool false))
    (T.next 0 [Value.int IntKind.i64 (IntKind.wrap IntKind.i64 (i19 + 1))]
    ([Value.slice o4 n5 n6, Value.slice o8 n9 n10, Value.slice o12 n13 n14, Value.int IntKind.i64 (↑n9 : Int)] =
    [Value.slice o4 n5 n6, Value.slice o8 n9 n10, Value.slice o12 n13 n14, Value.int IntKind.i64 (↑n9 : Int)] ∧ ([] : List Deferred) = [])))))))
    (T.loop 0 [Value.slice none 0 0, Value.int IntKind.i64 0] fun l32 j33 =>
    T.asS (List.headD l32 (Value.tuple (Array.mk []))) fun o34 n35 n36 =>
    T.asI IntKind.i64 (List.headD (List.tail l32) (Value.tuple (Array.mk []))) fun i37 =>
    T.ite (decide (i37 < (↑n5 : Int)))
    (T.req (0 ≤ i37 ∧ i37 < (↑n5 : Int))
    (T.sm o4 fun n38 n39 =>
    T.ldS n38 (n39 + Int.toNat i37 * 1) fun o40 n41 n42 =>
    T.run (biV Builtin.append (Array.mk [40, 40]) 40 (Array.mk [Value.slice o34 n35 n36, Value.slice o40 n41 n42])) fun v43 =>
    T.asS v43 fun o44 n45 n46 =>
    T.next 0 [Value.slice o44 n45 n46, Value.int IntKind.i64 (IntKind.wrap IntKind.i64 (i37 + 1))]
    ([Value.slice o4 n5 n6, Value.slice o4 n5 n6, Value.int IntKind.i64 (↑n5 : Int)] =
    [Value.slice o4 n5 n6, Value.slice o4 n5 n6, Value.int IntKind.i64 (↑n5 : Int)] ∧ ([] : List Deferred) = [])))
    (T.call 32 [Value.slice o4 n5 n6] fun v47 =>
    T.asS v47 fun o48 n49 n50 =>
    T.call 27 [Value.slice o34 n35 n36] fun v51 =>
    T.asS v51 fun o52 n53 n54 =>
    T.call 25 [Value.slice o48 n49 n50, Value.slice o52 n53 n54] fun v55 => T.asB v55 fun b56 => T.ret (Value.bool b56))))
    (T.call 11 [] fun v57 =>
    T.asB v57 fun b58 =>
    T.ite (!b58) (T.ret (Value.bool false))
    (T.ite ((↑n9 : Int) != (↑n13 : Int)) (T.ret (Value.bool false))
    (T.next 0 []
    ([Value.slice o4 n5 n6, Value.slice o8 n9 n10, Value.slice o12 n13 n14] =
    [Value.slice o4 n5 n6, Value.slice o8 n9 n10, Value.slice o12 n13 n14] ∧ ([] : List Deferred) = []))))
theorem e9 (o0 : Option Addr) (n1 n2 : Nat) (i3 : Int) (o4 : Option Addr) (n5 n6 : Nat) : treeOf Try.prog Try.f9 (codeOf Try.f9) (.s .n (.s .n (.c [] [2, 7, 8] .n (.s (.s .n (.u (.l [(30, .int .i64)] [2, 7, 8, 29] (.s .n (.s .n (.s (.u (.s .n (.s (.p [0, 1, 2, 3, 4, 5, 6, 7, 8, 9]) .n))) .n)))))) (.s .n (.s (.s .n (.u (.l [(10, .slice), (46, .int .i64)] [2, 44, 45] .n))) .n)))))) [.v (.slice o0 n1 n2), .v (.int .i64 i3), .v (.slice o4 n5 n6)] = (t9 o0 n1 n2 i3 o4 n5 n6) := by kernel_rfl
theorem c9 (o0 : Option Addr) (n1 n2 : Nat) (i3 : Int) (o4 : Option Addr) (n5 n6 : Nat) {w : World} {R : Ending → World → Prop} (h : (t9 o0 n1 n2 i3 o4 n5 n6).sem Try.prog R ρ0 w) : Calls Try.prog 9 #[.slice o0 n1 n2, .int .i64 i3, .slice o4 n5 n6] w R :=
  calls_of mixed Try.func9 rfl rfl (e9 o0 n1 n2 i3 o4 n5 n6) h
def t31 (i0 : Int) (o1 : Option Addr) (n2 n3 : Nat) : T :=
  T.call 39 [Value.int IntKind.i64 i0] fun v4 =>
  T.asI IntKind.i64 v4 fun i5 =>
    T.run (Instr.makeSlice 36 (Value.int IntKind.i64 i5) (Value.int IntKind.i64 i5)) fun v6 =>
    T.asS v6 fun o7 n8 n9 =>
    T.call 24 [Value.slice o1 n2 n3] fun v10 =>
    T.asS v10 fun o11 n12 n13 =>
    T.loop 0 [Value.int IntKind.i64 0] fun l14 j15 =>
    T.asI IntKind.i64 (List.headD l14 (Value.tuple (Array.mk []))) fun i16 =>
    T.ite (decide (i16 < (↑n12 : Int)))
    (T.req (0 ≤ i16 ∧ i16 < (↑n12 : Int))
    (T.sm o11 fun n17 n18 =>
    T.ldI IntKind.i32 n17 (n18 + Int.toNat i16 * 2) fun i19 =>
    T.ldI IntKind.i64 n17 (n18 + Int.toNat i16 * 2 + 1) fun i20 =>
    T.call 19 [Value.agg (Array.mk [Value.int IntKind.i32 i19, Value.int IntKind.i64 i20]), Value.int IntKind.i64 i0] fun v21 =>
    T.asI IntKind.i64 v21 fun i22 =>
    T.drew
    (T.req (0 ≤ i22 ∧ i22 < (↑n8 : Int))
    (T.sm o7 fun n23 n24 =>
    T.ldS n23 (n24 + Int.toNat i22 * 1) fun o25 n26 n27 =>
    T.req (0 ≤ i16 ∧ i16 < (↑n12 : Int))
    (T.sm o11 fun n28 n29 =>
    T.ldI IntKind.i32 n28 (n29 + Int.toNat i16 * 2) fun i30 =>
    T.ldI IntKind.i64 n28 (n29 + Int.toNat i16 * 2 + 1) fun i31 =>
    T.new (Obj.cells (Array.mk [Value.int IntKind.i32 i30, Value.int IntKind.i64 i31]) 23) fun n32 =>
    T.chk [(Addr.mk n23 (n24 + Int.toNat i22 * 1) none, Value.slice o25 n26 n27)]
    (T.run
    (biV Builtin.append (Array.mk [35, 35]) 35
    (Array.mk [Value.slice o25 n26 n27, Value.slice (some (Addr.mk n32 0 none)) 1 1]))
    fun v33 =>
    T.asS v33 fun o34 n35 n36 =>
    T.chk []
    (T.req (0 ≤ i22 ∧ i22 < (↑n8 : Int))
    (T.sm o7 fun n37 n38 =>
    T.st n37 (n38 + Int.toNat i22 * 1) (Value.slice o34 n35 n36)
    (T.chk []
    (T.next 0 [Value.int IntKind.i64 (IntKind.wrap IntKind.i64 (i16 + 1))]
    ([Value.int IntKind.i64 i0, Value.slice o7 n8 n9, Value.slice o11 n12 n13] =
    [Value.int IntKind.i64 i0, Value.slice o7 n8 n9, Value.slice o11 n12 n13] ∧ ([] : List Deferred) = [])))))))))))
    (T.ret (Value.slice o7 n8 n9))
theorem e31 (i0 : Int) (o1 : Option Addr) (n2 n3 : Nat) : treeOf Try.prog Try.f31 (codeOf Try.f31) (.s .n (.s .n (.s .n (.s (.s .n (.u (.l [(7, .int .i64)] [0, 5, 6] (.s .n (.s (.u (.s .n (.p [0, 1, 2, 3, 4, 5, 6, 7, 8, 9, 10, 11, 12, 13]))) .n))))) .n)))) [.v (.int .i64 i0), .v (.slice o1 n2 n3)] = (t31 i0 o1 n2 n3) := by kernel_rfl
theorem c31 (i0 : Int) (o1 : Option Addr) (n2 n3 : Nat) {w : World} {R : Ending → World → Prop} (h : (t31 i0 o1 n2 n3).sem Try.prog R ρ0 w) : Calls Try.prog 31 #[.int .i64 i0, .slice o1 n2 n3] w R :=
  calls_of mixed Try.func31 rfl rfl (e31 i0 o1 n2 n3) h
def t32 (o0 : Option Addr) (n1 n2 : Nat) : T :=
  T.call 46 [Value.slice o0 n1 n2] fun v3 =>
  T.asS v3 fun o4 n5 n6 => T.call 26 [Value.slice o4 n5 n6] fun v7 => T.asS v7 fun o8 n9 n10 => T.ret (Value.slice o8 n9 n10)
theorem e32 (o0 : Option Addr) (n1 n2 : Nat) : treeOf Try.prog Try.f32 (codeOf Try.f32) .n [.v (.slice o0 n1 n2)] = (t32 o0 n1 n2) := by kernel_rfl
theorem c32 (o0 : Option Addr) (n1 n2 : Nat) {w : World} {R : Ending → World → Prop} (h : (t32 o0 n1 n2).sem Try.prog R ρ0 w) : Calls Try.prog 32 #[.slice o0 n1 n2] w R :=
  calls_of mixed Try.func32 rfl rfl (e32 o0 n1 n2) h
def t46 (o0 : Option Addr) (n1 n2 : Nat) : T :=
  T.loop 0 [Value.int IntKind.i64 0, Value.int IntKind.i64 0] fun l3 j4 =>
  T.asI IntKind.i64 (List.headD l3 (Value.tuple (Array.mk []))) fun i5 =>
    T.asI IntKind.i64 (List.headD (List.tail l3) (Value.tuple (Array.mk []))) fun i6 =>
    T.ite (decide (i6 < (↑n1 : Int)))
    (T.req (0 ≤ i6 ∧ i6 < (↑n1 : Int))
    (T.sm o0 fun n7 n8 =>
    T.ldS n7 (n8 + Int.toNat i6 * 1) fun o9 n10 n11 =>
    T.ite (decide (IntKind.wrap IntKind.i64 (i5 + (↑n10 : Int)) < 0))
    (T.pan
    (Value.iface 9
    (Value.string
    (ByteArray.mk
    (Array.mk
    [OfNat.ofNat 108, OfNat.ofNat 101, OfNat.ofNat 110, OfNat.ofNat 32, OfNat.ofNat 111, OfNat.ofNat 117, OfNat.ofNat 116, OfNat.ofNat 32,
    OfNat.ofNat 111, OfNat.ofNat 102, OfNat.ofNat 32, OfNat.ofNat 114, OfNat.ofNat 97, OfNat.ofNat 110, OfNat.ofNat 103,
    OfNat.ofNat 101])))))
    (T.next 0 [Value.int IntKind.i64 (IntKind.wrap IntKind.i64 (i5 + (↑n10 : Int))), Value.int IntKind.i64 (IntKind.wrap IntKind.i64 (i6 + 1))]
    ([Value.slice o0 n1 n2, Value.slice o0 n1 n2, Value.int IntKind.i64 (↑n1 : Int)] =
    [Value.slice o0 n1 n2, Value.slice o0 n1 n2, Value.int IntKind.i64 (↑n1 : Int)] ∧ ([] : List Deferred) = []))))
    (T.call 54 [Value.slice none 0 0, Value.int IntKind.i64 i5] fun v12 =>
    T.asS v12 fun o13 n14 n15 =>
    T.loop 0 [Value.slice o13 n14 n15, Value.int IntKind.i64 0] fun l16 j17 =>
    T.asS (List.headD l16 (Value.tuple (Array.mk []))) fun o18 n19 n20 =>
    T.asI IntKind.i64 (List.headD (List.tail l16) (Value.tuple (Array.mk []))) fun i21 =>
    T.ite (decide (i21 < (↑n1 : Int)))
    (T.req (0 ≤ i21 ∧ i21 < (↑n1 : Int))
    (T.sm o0 fun n22 n23 =>
    T.ldS n22 (n23 + Int.toNat i21 * 1) fun o24 n25 n26 =>
    T.run (biV Builtin.append (Array.mk [40, 40]) 40 (Array.mk [Value.slice o18 n19 n20, Value.slice o24 n25 n26])) fun v27 =>
    T.asS v27 fun o28 n29 n30 =>
    T.next 0 [Value.slice o28 n29 n30, Value.int IntKind.i64 (IntKind.wrap IntKind.i64 (i21 + 1))]
    ([Value.slice o0 n1 n2, Value.int IntKind.i64 (↑n1 : Int)] = [Value.slice o0 n1 n2, Value.int IntKind.i64 (↑n1 : Int)] ∧ ([] : List Deferred) = [])))
    (T.ret (Value.slice o18 n19 n20)))
theorem e46 (o0 : Option Addr) (n1 n2 : Nat) : treeOf Try.prog Try.f46 (codeOf Try.f46) (.s .n (.s .n (.s (.s .n (.u (.l [(3, .int .i64), (11, .int .i64)] [0, 9, 10] .n))) (.s .n (.s (.s .n (.u (.l [(6, .slice), (27, .int .i64)] [25, 26] .n))) .n))))) [.v (.slice o0 n1 n2)] = (t46 o0 n1 n2) := by kernel_rfl
theorem c46 (o0 : Option Addr) (n1 n2 : Nat) {w : World} {R : Ending → World → Prop} (h : (t46 o0 n1 n2).sem Try.prog R ρ0 w) : Calls Try.prog 46 #[.slice o0 n1 n2] w R :=
  calls_of mixed Try.func46 rfl rfl (e46 o0 n1 n2) h
def t54 (o0 : Option Addr) (n1 n2 : Nat) (i3 : Int) : T :=
  T.blk 0
  (fun l4 j5 =>
    T.ite (decide (IntKind.wrap IntKind.i64 (i3 - IntKind.wrap IntKind.i64 ((↑n2 : Int) - (↑n1 : Int))) > 0))
    (T.req (0 ≤ (↑n2 : Int) ∧ (↑n2 : Int) ≤ (↑n2 : Int))
    (T.run
    (biV Builtin.append (Array.mk [40, 3]) 40
    (Array.mk
    [Value.slice (sliceBase o0 0 n2 3) (Int.toNat (↑n2 : Int)) n2,
    Value.int IntKind.i64 (IntKind.wrap IntKind.i64 (i3 - IntKind.wrap IntKind.i64 ((↑n2 : Int) - (↑n1 : Int))))]))
    fun v6 =>
    T.asS v6 fun o7 n8 n9 => T.req (0 ≤ (↑n1 : Int) ∧ (↑n1 : Int) ≤ (↑n9 : Int)) (T.ret (Value.slice (sliceBase o7 0 n9 3) (Int.toNat (↑n1 : Int)) n9))))
    (T.ret (Value.slice o0 n1 n2)))
  (T.ite (decide (i3 < 0))
    (T.pan
    (Value.iface 9
    (Value.string
    (ByteArray.mk
    (Array.mk
    [OfNat.ofNat 99, OfNat.ofNat 97, OfNat.ofNat 110, OfNat.ofNat 110, OfNat.ofNat 111, OfNat.ofNat 116, OfNat.ofNat 32, OfNat.ofNat 98,
    OfNat.ofNat 101, OfNat.ofNat 32, OfNat.ofNat 110, OfNat.ofNat 101, OfNat.ofNat 103, OfNat.ofNat 97, OfNat.ofNat 116, OfNat.ofNat 105,
    OfNat.ofNat 118, OfNat.ofNat 101])))))
    (T.next 0 [] ([Value.slice o0 n1 n2, Value.int IntKind.i64 i3] = [Value.slice o0 n1 n2, Value.int IntKind.i64 i3] ∧ ([] : List Deferred) = [])))
theorem e54 (o0 : Option Addr) (n1 n2 : Nat) (i3 : Int) : treeOf Try.prog Try.f54 (codeOf Try.f54) (.s .n (.c [] [0, 1] .n .n)) [.v (.slice o0 n1 n2), .v (.int .i64 i3)] = (t54 o0 n1 n2 i3) := by kernel_rfl
theorem c54 (o0 : Option Addr) (n1 n2 : Nat) (i3 : Int) {w : World} {R : Ending → World → Prop} (h : (t54 o0 n1 n2 i3).sem Try.prog R ρ0 w) : Calls Try.prog 54 #[.slice o0 n1 n2, .int .i64 i3] w R :=
  calls_of mixed Try.func54 rfl rfl (e54 o0 n1 n2 i3) h
end Go.Proofs.Yteimilnigiagjaa
