/- The functions' trees, printed by a program (wip/tools/Emit.lean) and checked by the kernel against the model's own code. -/
import Derived.Test.YtndkffhlheaepaaTreesA
import Derived.Test.YtndkffhlheaepaaProg
namespace Go.Proofs.Ytndkffhlheaepaa
open Go hiding Expr
open Go.Proofs.Ytndkffhlheaepaa.Tr
set_option linter.unusedVariables false
set_option maxRecDepth 100000
def t9 (o0 : Option Addr) (n1 n2 : Nat) : T :=
  T.loop 0 [Value.slice none 0 0, Value.int IntKind.i64 0] fun l3 j4 =>
  T.asS (List.headD l3 (Value.tuple (Array.mk []))) fun o5 n6 n7 =>
    T.asI IntKind.i64 (List.headD (List.tail l3) (Value.tuple (Array.mk []))) fun i8 =>
    T.ite (decide (i8 < (↑n1 : Int)))
    (T.loop 1 [Value.slice o5 n6 n7, Value.int IntKind.i64 0] fun l9 j10 =>
    T.asS (List.headD l9 (Value.tuple (Array.mk []))) fun o11 n12 n13 =>
    T.asI IntKind.i64 (List.headD (List.tail l9) (Value.tuple (Array.mk []))) fun i14 =>
    T.ite (decide (i14 < i8))
    (T.drew
    (T.req (0 ≤ i14 ∧ i14 < (↑n1 : Int))
    (T.sm o0 fun n15 n16 =>
    T.ldI IntKind.i64 n15 (n16 + Int.toNat i14 * 6) fun i17 =>
    T.ldI IntKind.i64 n15 (n16 + Int.toNat i14 * 6 + 1) fun i18 =>
    T.ldS n15 (n16 + Int.toNat i14 * 6 + 2) fun o19 n20 n21 =>
    T.ldS n15 (n16 + Int.toNat i14 * 6 + 3) fun o22 n23 n24 =>
    T.ldS n15 (n16 + Int.toNat i14 * 6 + 4) fun o25 n26 n27 =>
    T.ldS n15 (n16 + Int.toNat i14 * 6 + 5) fun o28 n29 n30 =>
    T.req (0 ≤ i8 ∧ i8 < (↑n1 : Int))
    (T.sm o0 fun n31 n32 =>
    T.ldI IntKind.i64 n31 (n32 + Int.toNat i8 * 6) fun i33 =>
    T.ldI IntKind.i64 n31 (n32 + Int.toNat i8 * 6 + 1) fun i34 =>
    T.ldS n31 (n32 + Int.toNat i8 * 6 + 2) fun o35 n36 n37 =>
    T.ldS n31 (n32 + Int.toNat i8 * 6 + 3) fun o38 n39 n40 =>
    T.ldS n31 (n32 + Int.toNat i8 * 6 + 4) fun o41 n42 n43 =>
    T.ldS n31 (n32 + Int.toNat i8 * 6 + 5) fun o44 n45 n46 =>
    T.call 17
    [Value.agg
    (Array.mk
    [Value.int IntKind.i64 i17, Value.int IntKind.i64 i18, Value.slice o19 n20 n21,
    Value.slice o22 n23 n24, Value.slice o25 n26 n27, Value.slice o28 n29 n30]),
    Value.agg
    (Array.mk
    [Value.int IntKind.i64 i33, Value.int IntKind.i64 i34, Value.slice o35 n36 n37,
    Value.slice o38 n39 n40, Value.slice o41 n42 n43, Value.slice o44 n45 n46])]
    fun v47 =>
    T.asB v47 fun b48 =>
    T.chk []
    (T.ite b48
    (T.new (Obj.cells (Array.mk [Value.int IntKind.i64 i14, Value.int IntKind.i64 i8]) 66) fun n49 =>
    T.run
    (biV Builtin.append (Array.mk [23, 23]) 23
    (Array.mk [Value.slice o11 n12 n13, Value.slice (some (Addr.mk n49 0 none)) 1 1]))
    fun v50 =>
    T.asS v50 fun o51 n52 n53 =>
    T.next 1 [Value.slice o51 n52 n53, Value.int IntKind.i64 (IntKind.wrap IntKind.i64 (i14 + 1))]
    ([Value.slice o0 n1 n2, Value.int IntKind.i64 i8] =
    [Value.slice o0 n1 n2, Value.int IntKind.i64 i8] ∧ ([] : List Deferred) = []))
    (T.next 1 [Value.slice o11 n12 n13, Value.int IntKind.i64 (IntKind.wrap IntKind.i64 (i14 + 1))]
    ([Value.slice o0 n1 n2, Value.int IntKind.i64 i8] =
    [Value.slice o0 n1 n2, Value.int IntKind.i64 i8] ∧ ([] : List Deferred) = [])))))))
    (T.next 0 [Value.slice o11 n12 n13, Value.int IntKind.i64 (IntKind.wrap IntKind.i64 (i8 + 1))]
    ([Value.slice o0 n1 n2] = [Value.slice o0 n1 n2] ∧ ([] : List Deferred) = [])))
    (T.ret (Value.slice o5 n6 n7))
theorem e9 (o0 : Option Addr) (n1 n2 : Nat) : treeOf Try.prog Try.f9 (codeOf Try.f9) (.s .n (.s .n (.s (.s .n (.u (.l [(3, .slice), (4, .int .i64)] [0] (.s .n (.s (.u (.s .n (.u (.l [(3, .slice), (5, .int .i64)] [0, 4] (.s .n (.s (.u (.s (.p [0, 1, 2, 3, 4, 5, 6, 7, 8]) .n)) .n)))))) .n))))) .n))) [.v (.slice o0 n1 n2)] = (t9 o0 n1 n2) := by kernel_rfl
theorem c9 (o0 : Option Addr) (n1 n2 : Nat) {w : World} {R : Ending → World → Prop} (h : (t9 o0 n1 n2).sem Try.prog R ρ0 w) : Calls Try.prog 9 #[.slice o0 n1 n2] w R :=
  calls_of mixed Try.func9 rfl rfl (e9 o0 n1 n2) h
def t12 (o0 : Option Addr) (n1 n2 : Nat) : T :=
  T.new (Obj.cells (Array.mk [Value.slice none 0 0]) 23) fun n3 =>
  T.loop 0 [Value.int IntKind.i64 0] fun l4 j5 =>
    T.asI IntKind.i64 (List.headD l4 (Value.tuple (Array.mk []))) fun i6 =>
    T.ite (decide (i6 < (↑n1 : Int)))
    (T.loop 1 [Value.int IntKind.i64 0] fun l7 j8 =>
    T.asI IntKind.i64 (List.headD l7 (Value.tuple (Array.mk []))) fun i9 =>
    T.ite (decide (i9 < i6))
    (T.drew
    (T.req (0 ≤ i9 ∧ i9 < (↑n1 : Int))
    (T.sm o0 fun n10 n11 =>
    T.ldI IntKind.i64 n10 (n11 + Int.toNat i9 * 6) fun i12 =>
    T.ldI IntKind.i64 n10 (n11 + Int.toNat i9 * 6 + 1) fun i13 =>
    T.ldS n10 (n11 + Int.toNat i9 * 6 + 2) fun o14 n15 n16 =>
    T.ldS n10 (n11 + Int.toNat i9 * 6 + 3) fun o17 n18 n19 =>
    T.ldS n10 (n11 + Int.toNat i9 * 6 + 4) fun o20 n21 n22 =>
    T.ldS n10 (n11 + Int.toNat i9 * 6 + 5) fun o23 n24 n25 =>
    T.req (0 ≤ i6 ∧ i6 < (↑n1 : Int))
    (T.sm o0 fun n26 n27 =>
    T.ldI IntKind.i64 n26 (n27 + Int.toNat i6 * 6) fun i28 =>
    T.ldI IntKind.i64 n26 (n27 + Int.toNat i6 * 6 + 1) fun i29 =>
    T.ldS n26 (n27 + Int.toNat i6 * 6 + 2) fun o30 n31 n32 =>
    T.ldS n26 (n27 + Int.toNat i6 * 6 + 3) fun o33 n34 n35 =>
    T.ldS n26 (n27 + Int.toNat i6 * 6 + 4) fun o36 n37 n38 =>
    T.ldS n26 (n27 + Int.toNat i6 * 6 + 5) fun o39 n40 n41 =>
    T.call 16
    [Value.agg
    (Array.mk
    [Value.int IntKind.i64 i12, Value.int IntKind.i64 i13, Value.slice o14 n15 n16, Value.slice o17 n18 n19,
    Value.slice o20 n21 n22, Value.slice o23 n24 n25]),
    Value.agg
    (Array.mk
    [Value.int IntKind.i64 i28, Value.int IntKind.i64 i29, Value.slice o30 n31 n32, Value.slice o33 n34 n35,
    Value.slice o36 n37 n38, Value.slice o39 n40 n41])]
    fun v42 =>
    T.asB v42 fun b43 =>
    T.chk []
    (T.ite b43
    (T.ldS n3 0 fun o44 n45 n46 =>
    T.new (Obj.cells (Array.mk [Value.int IntKind.i64 i9, Value.int IntKind.i64 i6]) 66) fun n47 =>
    T.run
    (biV Builtin.append (Array.mk [23, 23]) 23
    (Array.mk [Value.slice o44 n45 n46, Value.slice (some (Addr.mk n47 0 none)) 1 1]))
    fun v48 =>
    T.asS v48 fun o49 n50 n51 =>
    T.st n3 0 (Value.slice o49 n50 n51)
    (T.next 1 [Value.int IntKind.i64 (IntKind.wrap IntKind.i64 (i9 + 1))]
    ([Value.slice o0 n1 n2, Value.pointer (some (Addr.mk n3 0 none)), Value.int IntKind.i64 i6,
    Value.int IntKind.i64 (↑n1 : Int), Value.int IntKind.i64 i6,
    Value.int IntKind.i64 i6] =
    [Value.slice o0 n1 n2, Value.pointer (some (Addr.mk n3 0 none)),
    Value.int IntKind.i64 i6, Value.int IntKind.i64 (↑n1 : Int), Value.int IntKind.i64 i6,
    Value.int IntKind.i64 i6] ∧ ([] : List Deferred) = [])))
    (T.next 1 [Value.int IntKind.i64 (IntKind.wrap IntKind.i64 (i9 + 1))]
    ([Value.slice o0 n1 n2, Value.pointer (some (Addr.mk n3 0 none)), Value.int IntKind.i64 i6,
    Value.int IntKind.i64 (↑n1 : Int), Value.int IntKind.i64 i6, Value.int IntKind.i64 i6] =
    [Value.slice o0 n1 n2, Value.pointer (some (Addr.mk n3 0 none)), Value.int IntKind.i64 i6,
    Value.int IntKind.i64 (↑n1 : Int), Value.int IntKind.i64 i6, Value.int IntKind.i64 i6] ∧ ([] : List Deferred) = [])))))))
    (T.next 0 [Value.int IntKind.i64 (IntKind.wrap IntKind.i64 (i6 + 1))]
    ([Value.slice o0 n1 n2, Value.pointer (some (Addr.mk n3 0 none)), Value.int IntKind.i64 (↑n1 : Int)] =
    [Value.slice o0 n1 n2, Value.pointer (some (Addr.mk n3 0 none)), Value.int IntKind.i64 (↑n1 : Int)] ∧ ([] : List Deferred) = [])))
    (T.ret (Value.func (Fn.func 34) (Array.mk []) (Array.mk [Value.pointer (some (Addr.mk n3 0 none))])))
theorem e12 (o0 : Option Addr) (n1 n2 : Nat) : treeOf Try.prog Try.f12 (codeOf Try.f12) (.s .n (.s .n (.s (.s .n (.u (.l [(8, .int .i64)] [0, 3, 7] (.s .n (.s .n (.s (.u (.s .n (.s .n (.u (.l [(12, .int .i64)] [0, 3, 4, 7, 8, 11] (.s .n (.s .n (.s (.u (.s .n (.s (.p [0, 1, 2, 3, 4, 5, 6, 7, 8]) .n))) .n)))))))) .n)))))) .n))) [.v (.slice o0 n1 n2)] = (t12 o0 n1 n2) := by kernel_rfl
theorem c12 (o0 : Option Addr) (n1 n2 : Nat) {w : World} {R : Ending → World → Prop} (h : (t12 o0 n1 n2).sem Try.prog R ρ0 w) : Calls Try.prog 12 #[.slice o0 n1 n2] w R :=
  calls_of mixed Try.func12 rfl rfl (e12 o0 n1 n2) h
def t13 (o0 : Option Addr) (n1 n2 : Nat) (o3 : Option Addr) (n4 n5 : Nat) : T :=
  T.ite ((↑n1 : Int) != (↑n4 : Int)) (T.ret (Value.bool false))
  (T.loop 0 [Value.int IntKind.i64 0] fun l6 j7 =>
    T.asI IntKind.i64 (List.headD l6 (Value.tuple (Array.mk []))) fun i8 =>
    T.ite (decide (i8 < (↑n1 : Int)))
    (T.drew
    (T.req (0 ≤ i8 ∧ i8 < (↑n1 : Int))
    (T.sm o0 fun n9 n10 =>
    T.ldI IntKind.i64 n9 (n10 + Int.toNat i8 * 1) fun i11 =>
    T.req (0 ≤ i8 ∧ i8 < (↑n4 : Int))
    (T.sm o3 fun n12 n13 =>
    T.ldI IntKind.i64 n12 (n13 + Int.toNat i8 * 1) fun i14 =>
    T.ite (i11 != i14) (T.ret (Value.bool false))
    (T.next 0 [Value.int IntKind.i64 (IntKind.wrap IntKind.i64 (i8 + 1))]
    ([Value.slice o0 n1 n2, Value.slice o3 n4 n5, Value.int IntKind.i64 (↑n1 : Int)] =
    [Value.slice o0 n1 n2, Value.slice o3 n4 n5, Value.int IntKind.i64 (↑n1 : Int)] ∧ ([] : List Deferred) = []))))))
    (T.ret (Value.bool true)))
theorem e13 (o0 : Option Addr) (n1 n2 : Nat) (o3 : Option Addr) (n4 n5 : Nat) : treeOf Try.prog Try.f13 (codeOf Try.f13) (.s .n (.s .n (.s (.s .n (.u (.l [(13, .int .i64)] [0, 1, 12] (.s .n (.s .n (.s (.u (.s .n (.s (.p [0, 1, 2, 3, 4, 5, 6, 7, 8]) .n))) .n)))))) .n))) [.v (.slice o0 n1 n2), .v (.slice o3 n4 n5)] = (t13 o0 n1 n2 o3 n4 n5) := by kernel_rfl
theorem c13 (o0 : Option Addr) (n1 n2 : Nat) (o3 : Option Addr) (n4 n5 : Nat) {w : World} {R : Ending → World → Prop} (h : (t13 o0 n1 n2 o3 n4 n5).sem Try.prog R ρ0 w) : Calls Try.prog 13 #[.slice o0 n1 n2, .slice o3 n4 n5] w R :=
  calls_of mixed Try.func13 rfl rfl (e13 o0 n1 n2 o3 n4 n5) h
def t14 (o0 : Option Addr) (n1 n2 : Nat) : T :=
  T.ite ((↑n1 : Int) == 0) (T.ret (Value.slice none 0 0))
  (T.run (Instr.makeSlice 31 (Value.int IntKind.i64 (↑n1 : Int)) (Value.int IntKind.i64 (↑n1 : Int))) fun v3 =>
    T.asS v3 fun o4 n5 n6 =>
    T.new (Obj.cells (Array.mk [Value.slice none 0 0]) 31) fun n7 =>
    T.st n7 0 (Value.slice o4 n5 n6)
    (T.call 12 [Value.slice o0 n1 n2] fun v8 =>
    T.asC 34 v8 fun l9 =>
    T.req (List.length l9 = 1)
    (T.asP (List.headD l9 (Value.tuple (Array.mk []))) fun o10 =>
    T.rf none 0 34 [Value.pointer o10]
    (fun n11 l12 =>
    T.req (List.length l12 = 2)
    (T.asI IntKind.i64 (List.headD l12 (Value.tuple (Array.mk []))) fun i13 =>
    T.asI IntKind.i64 (List.headD (List.tail l12) (Value.tuple (Array.mk []))) fun i14 =>
    T.beg n11
    (T.drew
    (T.ldS n7 0 fun o15 n16 n17 =>
    T.ldS n7 0 fun o18 n19 n20 =>
    T.req (0 ≤ i14 ∧ i14 < (↑n19 : Int))
    (T.sm o18 fun n21 n22 =>
    T.ldI IntKind.i64 n21 (n22 + Int.toNat i14 * 1) fun i23 =>
    T.ldS n7 0 fun o24 n25 n26 =>
    T.req (0 ≤ i13 ∧ i13 < (↑n25 : Int))
    (T.sm o24 fun n27 n28 =>
    T.ldI IntKind.i64 n27 (n28 + Int.toNat i13 * 1) fun i29 =>
    T.run
    (biV Builtin.max (Array.mk [3, 3]) 3
    (Array.mk [Value.int IntKind.i64 i23, Value.int IntKind.i64 (IntKind.wrap IntKind.i64 (i29 + 1))]))
    fun v30 =>
    T.asI IntKind.i64 v30 fun i31 =>
    T.chk
    [(Addr.mk n27 (n28 + Int.toNat i13 * 1) none, Value.int IntKind.i64 i29),
    (Addr.mk n7 0 none, Value.slice o24 n25 n26), (Addr.mk n7 0 none, Value.slice o18 n19 n20),
    (Addr.mk n7 0 none, Value.slice o15 n16 n17)]
    (T.req (0 ≤ i14 ∧ i14 < (↑n16 : Int))
    (T.sm o15 fun n32 n33 =>
    T.st n32 (n33 + Int.toNat i14 * 1) (Value.int IntKind.i64 i31)
    (T.chk [] (T.run (Instr.endRound n11 none) fun v34 => T.next 0 [v34] True))))))))))
    (fun n35 => T.ldS n7 0 fun o36 n37 n38 => T.col n35 (T.ret (Value.slice o36 n37 n38))) (fun n39 => T.col n39 (T.ret (Value.slice none 0 0)))
    [])))
theorem e14 (o0 : Option Addr) (n1 n2 : Nat) : treeOf Try.prog Try.f14 (codeOf Try.f14) (.s .n (.s .n (.s .n (.s (.s .n (.u (.f [.int .i64, .int .i64] .n (.u (.p [0, 1, 2, 3, 4, 5, 6, 7, 8, 9, 10, 11, 12, 13]))))) .n)))) [.v (.slice o0 n1 n2)] = (t14 o0 n1 n2) := by kernel_rfl
theorem c14 (o0 : Option Addr) (n1 n2 : Nat) {w : World} {R : Ending → World → Prop} (h : (t14 o0 n1 n2).sem Try.prog R ρ0 w) : Calls Try.prog 14 #[.slice o0 n1 n2] w R :=
  calls_of mixed Try.func14 rfl rfl (e14 o0 n1 n2) h
def t15 (o0 : Option Addr) (n1 n2 : Nat) : T :=
  T.run (Instr.makeSlice 31 (Value.int IntKind.i64 (↑n1 : Int)) (Value.int IntKind.i64 (↑n1 : Int))) fun v3 =>
  T.asS v3 fun o4 n5 n6 =>
    T.loop 0 [Value.int IntKind.i64 0] fun l7 j8 =>
    T.asI IntKind.i64 (List.headD l7 (Value.tuple (Array.mk []))) fun i9 =>
    T.ite (decide (i9 < (↑n1 : Int)))
    (T.loop 1 [Value.int IntKind.i64 0] fun l10 j11 =>
    T.asI IntKind.i64 (List.headD l10 (Value.tuple (Array.mk []))) fun i12 =>
    T.ite (decide (i12 < i9))
    (T.blk 2
    (fun l13 j14 =>
    T.asB (List.headD l13 (Value.tuple (Array.mk []))) fun b15 =>
    T.ite b15
    (T.req (0 ≤ i12 ∧ i12 < (↑n5 : Int))
    (T.sm o4 fun n16 n17 =>
    T.ldI IntKind.i64 n16 (n17 + Int.toNat i12 * 1) fun i18 =>
    T.req (0 ≤ i9 ∧ i9 < (↑n5 : Int))
    (T.sm o4 fun n19 n20 =>
    T.st n19 (n20 + Int.toNat i9 * 1) (Value.int IntKind.i64 (IntKind.wrap IntKind.i64 (i18 + 1)))
    (T.next 1 [Value.int IntKind.i64 (IntKind.wrap IntKind.i64 (i12 + 1))]
    ([Value.slice o0 n1 n2, Value.slice o4 n5 n6, Value.int IntKind.i64 i9] =
    [Value.slice o0 n1 n2, Value.slice o4 n5 n6, Value.int IntKind.i64 i9] ∧ ([] : List Deferred) = [])))))
    (T.next 1 [Value.int IntKind.i64 (IntKind.wrap IntKind.i64 (i12 + 1))]
    ([Value.slice o0 n1 n2, Value.slice o4 n5 n6, Value.int IntKind.i64 i9] =
    [Value.slice o0 n1 n2, Value.slice o4 n5 n6, Value.int IntKind.i64 i9] ∧ ([] : List Deferred) = [])))
    (T.drew
    (T.req (0 ≤ i12 ∧ i12 < (↑n1 : Int))
    (T.sm o0 fun n21 n22 =>
    T.ldI IntKind.i64 n21 (n22 + Int.toNat i12 * 6) fun i23 =>
    T.ldI IntKind.i64 n21 (n22 + Int.toNat i12 * 6 + 1) fun i24 =>
    T.ldS n21 (n22 + Int.toNat i12 * 6 + 2) fun o25 n26 n27 =>
    T.ldS n21 (n22 + Int.toNat i12 * 6 + 3) fun o28 n29 n30 =>
    T.ldS n21 (n22 + Int.toNat i12 * 6 + 4) fun o31 n32 n33 =>
    T.ldS n21 (n22 + Int.toNat i12 * 6 + 5) fun o34 n35 n36 =>
    T.req (0 ≤ i9 ∧ i9 < (↑n1 : Int))
    (T.sm o0 fun n37 n38 =>
    T.ldI IntKind.i64 n37 (n38 + Int.toNat i9 * 6) fun i39 =>
    T.ldI IntKind.i64 n37 (n38 + Int.toNat i9 * 6 + 1) fun i40 =>
    T.ldS n37 (n38 + Int.toNat i9 * 6 + 2) fun o41 n42 n43 =>
    T.ldS n37 (n38 + Int.toNat i9 * 6 + 3) fun o44 n45 n46 =>
    T.ldS n37 (n38 + Int.toNat i9 * 6 + 4) fun o47 n48 n49 =>
    T.ldS n37 (n38 + Int.toNat i9 * 6 + 5) fun o50 n51 n52 =>
    T.call 17
    [Value.agg
    (Array.mk
    [Value.int IntKind.i64 i23, Value.int IntKind.i64 i24, Value.slice o25 n26 n27,
    Value.slice o28 n29 n30, Value.slice o31 n32 n33, Value.slice o34 n35 n36]),
    Value.agg
    (Array.mk
    [Value.int IntKind.i64 i39, Value.int IntKind.i64 i40, Value.slice o41 n42 n43,
    Value.slice o44 n45 n46, Value.slice o47 n48 n49, Value.slice o50 n51 n52])]
    fun v53 =>
    T.asB v53 fun b54 =>
    T.chk []
    (T.ite b54
    (T.req (0 ≤ i12 ∧ i12 < (↑n5 : Int))
    (T.sm o4 fun n55 n56 =>
    T.ldI IntKind.i64 n55 (n56 + Int.toNat i12 * 1) fun i57 =>
    T.req (0 ≤ i9 ∧ i9 < (↑n5 : Int))
    (T.sm o4 fun n58 n59 =>
    T.ldI IntKind.i64 n58 (n59 + Int.toNat i9 * 1) fun i60 =>
    T.next 2 [Value.bool (decide (i57 ≥ i60))]
    ([Value.slice o0 n1 n2, Value.slice o4 n5 n6, Value.int IntKind.i64 i9,
    Value.int IntKind.i64 i12] =
    [Value.slice o0 n1 n2, Value.slice o4 n5 n6, Value.int IntKind.i64 i9,
    Value.int IntKind.i64 i12] ∧ ([] : List Deferred) = []))))
    (T.next 2 [Value.bool false]
    ([Value.slice o0 n1 n2, Value.slice o4 n5 n6, Value.int IntKind.i64 i9,
    Value.int IntKind.i64 i12] =
    [Value.slice o0 n1 n2, Value.slice o4 n5 n6, Value.int IntKind.i64 i9,
    Value.int IntKind.i64 i12] ∧ ([] : List Deferred) = []))))))))
    (T.next 0 [Value.int IntKind.i64 (IntKind.wrap IntKind.i64 (i9 + 1))]
    ([Value.slice o0 n1 n2, Value.slice o4 n5 n6] = [Value.slice o0 n1 n2, Value.slice o4 n5 n6] ∧ ([] : List Deferred) = [])))
    (T.ret (Value.slice o4 n5 n6))
theorem e15 (o0 : Option Addr) (n1 n2 : Nat) : treeOf Try.prog Try.f15 (codeOf Try.f15) (.s .n (.s .n (.s (.s .n (.u (.l [(4, .int .i64)] [0, 3] (.s .n (.s (.u (.s .n (.u (.l [(5, .int .i64)] [0, 3, 4] (.s .n (.s (.u (.c [(39, .bool)] [0, 3, 4, 5] (.p [0, 1, 2, 3, 4, 5, 6, 7, 8, 9, 10, 11, 12, 13, 14, 15, 16, 17, 18, 19]) .n)) .n)))))) .n))))) .n))) [.v (.slice o0 n1 n2)] = (t15 o0 n1 n2) := by kernel_rfl
theorem c15 (o0 : Option Addr) (n1 n2 : Nat) {w : World} {R : Ending → World → Prop} (h : (t15 o0 n1 n2).sem Try.prog R ρ0 w) : Calls Try.prog 15 #[.slice o0 n1 n2] w R :=
  calls_of mixed Try.func15 rfl rfl (e15 o0 n1 n2) h
def t16 (i0 : Int) (i1 : Int) (o2 : Option Addr) (n3 n4 : Nat) (o5 : Option Addr) (n6 n7 : Nat) (o8 : Option Addr) (n9 n10 : Nat) (o11 : Option Addr) (n12 n13 : Nat) (i14 : Int) (i15 : Int) (o16 : Option Addr) (n17 n18 : Nat) (o19 : Option Addr) (n20 n21 : Nat) (o22 : Option Addr) (n23 n24 : Nat) (o25 : Option Addr) (n26 n27 : Nat) : T :=
  T.new
  (Obj.cells
    (Array.mk [Value.int IntKind.i64 i0, Value.int IntKind.i64 i1, Value.slice o2 n3 n4, Value.slice o5 n6 n7, Value.slice o8 n9 n10, Value.slice o11 n12 n13])
    39)
  fun n28 =>
  T.new
    (Obj.cells
    (Array.mk
    [Value.int IntKind.i64 i14, Value.int IntKind.i64 i15, Value.slice o16 n17 n18, Value.slice o19 n20 n21, Value.slice o22 n23 n24,
    Value.slice o25 n26 n27])
    39)
    fun n29 =>
    T.new (Obj.map (Array.mk []) 0) fun n30 =>
    T.new (Obj.cells (Array.mk [Value.map none]) 68) fun n31 =>
    T.st n31 0 (Value.map (some n30))
    (T.ldI IntKind.i64 n28 0 fun i32 =>
    T.ldI IntKind.i64 n28 1 fun i33 =>
    T.ldS n28 2 fun o34 n35 n36 =>
    T.ldS n28 3 fun o37 n38 n39 =>
    T.ldS n28 4 fun o40 n41 n42 =>
    T.ldS n28 5 fun o43 n44 n45 =>
    T.call 22
    [Value.agg
    (Array.mk
    [Value.int IntKind.i64 i32, Value.int IntKind.i64 i33, Value.slice o34 n35 n36, Value.slice o37 n38 n39, Value.slice o40 n41 n42,
    Value.slice o43 n44 n45])]
    fun v46 =>
    T.asS v46 fun o47 n48 n49 =>
    T.loop 0 [Value.int IntKind.i64 0] fun l50 j51 =>
    T.asI IntKind.i64 (List.headD l50 (Value.tuple (Array.mk []))) fun i52 =>
    T.ite (decide (i52 < (↑n48 : Int)))
    (T.req (0 ≤ i52 ∧ i52 < (↑n48 : Int))
    (T.sm o47 fun n53 n54 =>
    T.ldI IntKind.i32 n53 (n54 + Int.toNat i52 * 3) fun i55 =>
    T.ldI IntKind.i64 n53 (n54 + Int.toNat i52 * 3 + 1) fun i56 =>
    T.ldB n53 (n54 + Int.toNat i52 * 3 + 2) fun b57 =>
    T.new (Obj.cells (Array.mk [Value.int IntKind.i32 0, Value.int IntKind.i64 0, Value.bool false]) 52) fun n58 =>
    T.st n58 0 (Value.int IntKind.i32 i55)
    (T.st n58 1 (Value.int IntKind.i64 i56)
    (T.st n58 2 (Value.bool b57)
    (T.ldM n31 0 fun o59 =>
    T.ldI IntKind.i32 n58 0 fun i60 =>
    T.ldI IntKind.i64 n58 1 fun i61 =>
    T.ldB n58 2 fun b62 =>
    T.run
    (muV 68 (Value.map o59)
    (Value.agg (Array.mk [Value.int IntKind.i32 i60, Value.int IntKind.i64 i61])) (Value.bool b62))
    fun v63 =>
    T.next 0 [Value.int IntKind.i64 (IntKind.wrap IntKind.i64 (i52 + 1))]
    ([Value.pointer (some (Addr.mk n29 0 none)), Value.pointer (some (Addr.mk n31 0 none)),
    Value.slice o47 n48 n49, Value.int IntKind.i64 (↑n48 : Int)] =
    [Value.pointer (some (Addr.mk n29 0 none)), Value.pointer (some (Addr.mk n31 0 none)),
    Value.slice o47 n48 n49, Value.int IntKind.i64 (↑n48 : Int)] ∧ ([] : List Deferred) = []))))))
    (T.ldI IntKind.i64 n29 0 fun i64 =>
    T.ldI IntKind.i64 n29 1 fun i65 =>
    T.ldS n29 2 fun o66 n67 n68 =>
    T.ldS n29 3 fun o69 n70 n71 =>
    T.ldS n29 4 fun o72 n73 n74 =>
    T.ldS n29 5 fun o75 n76 n77 =>
    T.call 22
    [Value.agg
    (Array.mk
    [Value.int IntKind.i64 i64, Value.int IntKind.i64 i65, Value.slice o66 n67 n68, Value.slice o69 n70 n71,
    Value.slice o72 n73 n74, Value.slice o75 n76 n77])]
    fun v78 =>
    T.asS v78 fun o79 n80 n81 =>
    T.call 35
    [Value.slice o79 n80 n81,
    Value.func (Fn.func 36) (Array.mk []) (Array.mk [Value.pointer (some (Addr.mk n31 0 none))])]
    fun v82 => T.asB v82 fun b83 => T.ret (Value.bool b83)))
theorem e16 (i0 : Int) (i1 : Int) (o2 : Option Addr) (n3 n4 : Nat) (o5 : Option Addr) (n6 n7 : Nat) (o8 : Option Addr) (n9 n10 : Nat) (o11 : Option Addr) (n12 n13 : Nat) (i14 : Int) (i15 : Int) (o16 : Option Addr) (n17 n18 : Nat) (o19 : Option Addr) (n20 n21 : Nat) (o22 : Option Addr) (n23 n24 : Nat) (o25 : Option Addr) (n26 n27 : Nat) : treeOf Try.prog Try.f16 (codeOf Try.f16) (.s .n (.s .n (.s (.s .n (.u (.l [(12, .int .i64)] [3, 5, 10, 11] .n))) .n))) [.v (.agg #[.int .i64 i0, .int .i64 i1, .slice o2 n3 n4, .slice o5 n6 n7, .slice o8 n9 n10, .slice o11 n12 n13]), .v (.agg #[.int .i64 i14, .int .i64 i15, .slice o16 n17 n18, .slice o19 n20 n21, .slice o22 n23 n24, .slice o25 n26 n27])] = (t16 i0 i1 o2 n3 n4 o5 n6 n7 o8 n9 n10 o11 n12 n13 i14 i15 o16 n17 n18 o19 n20 n21 o22 n23 n24 o25 n26 n27) := by kernel_rfl
theorem c16 (i0 : Int) (i1 : Int) (o2 : Option Addr) (n3 n4 : Nat) (o5 : Option Addr) (n6 n7 : Nat) (o8 : Option Addr) (n9 n10 : Nat) (o11 : Option Addr) (n12 n13 : Nat) (i14 : Int) (i15 : Int) (o16 : Option Addr) (n17 n18 : Nat) (o19 : Option Addr) (n20 n21 : Nat) (o22 : Option Addr) (n23 n24 : Nat) (o25 : Option Addr) (n26 n27 : Nat) {w : World} {R : Ending → World → Prop} (h : (t16 i0 i1 o2 n3 n4 o5 n6 n7 o8 n9 n10 o11 n12 n13 i14 i15 o16 n17 n18 o19 n20 n21 o22 n23 n24 o25 n26 n27).sem Try.prog R ρ0 w) : Calls Try.prog 16 #[.agg #[.int .i64 i0, .int .i64 i1, .slice o2 n3 n4, .slice o5 n6 n7, .slice o8 n9 n10, .slice o11 n12 n13], .agg #[.int .i64 i14, .int .i64 i15, .slice o16 n17 n18, .slice o19 n20 n21, .slice o22 n23 n24, .slice o25 n26 n27]] w R :=
  calls_of mixed Try.func16 rfl rfl (e16 i0 i1 o2 n3 n4 o5 n6 n7 o8 n9 n10 o11 n12 n13 i14 i15 o16 n17 n18 o19 n20 n21 o22 n23 n24 o25 n26 n27) h
def t17 (i0 : Int) (i1 : Int) (o2 : Option Addr) (n3 n4 : Nat) (o5 : Option Addr) (n6 n7 : Nat) (o8 : Option Addr) (n9 n10 : Nat) (o11 : Option Addr) (n12 n13 : Nat) (i14 : Int) (i15 : Int) (o16 : Option Addr) (n17 n18 : Nat) (o19 : Option Addr) (n20 n21 : Nat) (o22 : Option Addr) (n23 n24 : Nat) (o25 : Option Addr) (n26 n27 : Nat) : T :=
  T.new
  (Obj.cells
    (Array.mk [Value.int IntKind.i64 i0, Value.int IntKind.i64 i1, Value.slice o2 n3 n4, Value.slice o5 n6 n7, Value.slice o8 n9 n10, Value.slice o11 n12 n13])
    39)
  fun n28 =>
  T.new
    (Obj.cells
    (Array.mk
    [Value.int IntKind.i64 i14, Value.int IntKind.i64 i15, Value.slice o16 n17 n18, Value.slice o19 n20 n21, Value.slice o22 n23 n24,
    Value.slice o25 n26 n27])
    39)
    fun n29 =>
    T.drew
    (T.ldI IntKind.i64 n28 0 fun i30 =>
    T.ldI IntKind.i64 n28 1 fun i31 =>
    T.ldS n28 2 fun o32 n33 n34 =>
    T.ldS n28 3 fun o35 n36 n37 =>
    T.ldS n28 4 fun o38 n39 n40 =>
    T.ldS n28 5 fun o41 n42 n43 =>
    T.ldI IntKind.i64 n29 0 fun i44 =>
    T.ldI IntKind.i64 n29 1 fun i45 =>
    T.ldS n29 2 fun o46 n47 n48 =>
    T.ldS n29 3 fun o49 n50 n51 =>
    T.ldS n29 4 fun o52 n53 n54 =>
    T.ldS n29 5 fun o55 n56 n57 =>
    T.call 23
    [Value.agg
    (Array.mk
    [Value.int IntKind.i64 i30, Value.int IntKind.i64 i31, Value.slice o32 n33 n34, Value.slice o35 n36 n37,
    Value.slice o38 n39 n40, Value.slice o41 n42 n43])]
    fun v58 =>
    T.asS v58 fun o59 n60 n61 =>
    T.chk
    [(Addr.mk n29 0 none, Value.int IntKind.i64 i44), (Addr.mk n29 1 none, Value.int IntKind.i64 i45),
    (Addr.mk n29 2 none, Value.slice o46 n47 n48), (Addr.mk n29 3 none, Value.slice o49 n50 n51),
    (Addr.mk n29 4 none, Value.slice o52 n53 n54), (Addr.mk n29 5 none, Value.slice o55 n56 n57)]
    (T.call 23
    [Value.agg
    (Array.mk
    [Value.int IntKind.i64 i44, Value.int IntKind.i64 i45, Value.slice o46 n47 n48, Value.slice o49 n50 n51,
    Value.slice o52 n53 n54, Value.slice o55 n56 n57])]
    fun v62 =>
    T.asS v62 fun o63 n64 n65 =>
    T.chk []
    (T.loop 0 [Value.int IntKind.i64 0] fun l66 j67 =>
    T.asI IntKind.i64 (List.headD l66 (Value.tuple (Array.mk []))) fun i68 =>
    T.ite (decide (i68 < (↑n60 : Int)))
    (T.loop 1 [Value.int IntKind.i64 0] fun l69 j70 =>
    T.asI IntKind.i64 (List.headD l69 (Value.tuple (Array.mk []))) fun i71 =>
    T.ite (decide (i71 < (↑n64 : Int)))
    (T.drew
    (T.req (0 ≤ i68 ∧ i68 < (↑n60 : Int))
    (T.sm o59 fun n72 n73 =>
    T.ldI IntKind.i32 n72 (n73 + Int.toNat i68 * 3) fun i74 =>
    T.ldI IntKind.i64 n72 (n73 + Int.toNat i68 * 3 + 1) fun i75 =>
    T.req (0 ≤ i71 ∧ i71 < (↑n64 : Int))
    (T.sm o63 fun n76 n77 =>
    T.ldI IntKind.i32 n76 (n77 + Int.toNat i71 * 3) fun i78 =>
    T.ldI IntKind.i64 n76 (n77 + Int.toNat i71 * 3 + 1) fun i79 =>
    T.ite (i74 == i78 && (i75 == i79 && true))
    (T.req (0 ≤ i68 ∧ i68 < (↑n60 : Int))
    (T.sm o59 fun n80 n81 =>
    T.ldB n80 (n81 + Int.toNat i68 * 3 + 2) fun b82 =>
    T.ite b82 (T.ret (Value.bool true))
    (T.req (0 ≤ i71 ∧ i71 < (↑n64 : Int))
    (T.sm o63 fun n83 n84 =>
    T.ldB n83 (n84 + Int.toNat i71 * 3 + 2) fun b85 =>
    T.ite b85 (T.ret (Value.bool true))
    (T.next 1 [Value.int IntKind.i64 (IntKind.wrap IntKind.i64 (i71 + 1))]
    ([Value.slice o59 n60 n61, Value.slice o63 n64 n65,
    Value.int IntKind.i64 i68] =
    [Value.slice o59 n60 n61, Value.slice o63 n64 n65,
    Value.int IntKind.i64 i68] ∧ ([] : List Deferred) = []))))))
    (T.next 1 [Value.int IntKind.i64 (IntKind.wrap IntKind.i64 (i71 + 1))]
    ([Value.slice o59 n60 n61, Value.slice o63 n64 n65, Value.int IntKind.i64 i68] =
    [Value.slice o59 n60 n61, Value.slice o63 n64 n65, Value.int IntKind.i64 i68] ∧ ([] : List Deferred) = []))))))
    (T.next 0 [Value.int IntKind.i64 (IntKind.wrap IntKind.i64 (i68 + 1))]
    ([Value.slice o59 n60 n61, Value.slice o63 n64 n65] =
    [Value.slice o59 n60 n61, Value.slice o63 n64 n65] ∧ ([] : List Deferred) = [])))
    (T.ret (Value.bool false)))))
theorem e17 (i0 : Int) (i1 : Int) (o2 : Option Addr) (n3 n4 : Nat) (o5 : Option Addr) (n6 n7 : Nat) (o8 : Option Addr) (n9 n10 : Nat) (o11 : Option Addr) (n12 n13 : Nat) (i14 : Int) (i15 : Int) (o16 : Option Addr) (n17 n18 : Nat) (o19 : Option Addr) (n20 n21 : Nat) (o22 : Option Addr) (n23 n24 : Nat) (o25 : Option Addr) (n26 n27 : Nat) : treeOf Try.prog Try.f17 (codeOf Try.f17) (.s .n (.s (.p [0, 2, 1, 3, 4, 5]) (.s (.s .n (.u (.l [(7, .int .i64)] [5, 6] (.s .n (.s (.u (.s .n (.u (.l [(8, .int .i64)] [5, 6, 7] (.s .n (.s (.u (.s (.p [0, 1, 2, 3, 4, 5, 6, 7, 8, 9, 10, 11, 12, 13, 14, 15, 16, 17, 18, 19, 20, 21, 22, 23, 24]) .n)) .n)))))) .n))))) .n))) [.v (.agg #[.int .i64 i0, .int .i64 i1, .slice o2 n3 n4, .slice o5 n6 n7, .slice o8 n9 n10, .slice o11 n12 n13]), .v (.agg #[.int .i64 i14, .int .i64 i15, .slice o16 n17 n18, .slice o19 n20 n21, .slice o22 n23 n24, .slice o25 n26 n27])] = (t17 i0 i1 o2 n3 n4 o5 n6 n7 o8 n9 n10 o11 n12 n13 i14 i15 o16 n17 n18 o19 n20 n21 o22 n23 n24 o25 n26 n27) := by kernel_rfl
theorem c17 (i0 : Int) (i1 : Int) (o2 : Option Addr) (n3 n4 : Nat) (o5 : Option Addr) (n6 n7 : Nat) (o8 : Option Addr) (n9 n10 : Nat) (o11 : Option Addr) (n12 n13 : Nat) (i14 : Int) (i15 : Int) (o16 : Option Addr) (n17 n18 : Nat) (o19 : Option Addr) (n20 n21 : Nat) (o22 : Option Addr) (n23 n24 : Nat) (o25 : Option Addr) (n26 n27 : Nat) {w : World} {R : Ending → World → Prop} (h : (t17 i0 i1 o2 n3 n4 o5 n6 n7 o8 n9 n10 o11 n12 n13 i14 i15 o16 n17 n18 o19 n20 n21 o22 n23 n24 o25 n26 n27).sem Try.prog R ρ0 w) : Calls Try.prog 17 #[.agg #[.int .i64 i0, .int .i64 i1, .slice o2 n3 n4, .slice o5 n6 n7, .slice o8 n9 n10, .slice o11 n12 n13], .agg #[.int .i64 i14, .int .i64 i15, .slice o16 n17 n18, .slice o19 n20 n21, .slice o22 n23 n24, .slice o25 n26 n27]] w R :=
  calls_of mixed Try.func17 rfl rfl (e17 i0 i1 o2 n3 n4 o5 n6 n7 o8 n9 n10 o11 n12 n13 i14 i15 o16 n17 n18 o19 n20 n21 o22 n23 n24 o25 n26 n27) h
def t21 (o0 : Option Addr) (n1 n2 : Nat) (o3 : Option Addr) (n4 n5 : Nat) : T :=
  T.ite ((↑n1 : Int) != (↑n4 : Int)) (T.ret (Value.bool false))
  (T.loop 0 [Value.int IntKind.i64 0] fun l6 j7 =>
    T.asI IntKind.i64 (List.headD l6 (Value.tuple (Array.mk []))) fun i8 =>
    T.ite (decide (i8 < (↑n1 : Int)))
    (T.drew
    (T.req (0 ≤ i8 ∧ i8 < (↑n1 : Int))
    (T.sm o0 fun n9 n10 =>
    T.ldI IntKind.i32 n9 (n10 + Int.toNat i8 * 3) fun i11 =>
    T.ldI IntKind.i64 n9 (n10 + Int.toNat i8 * 3 + 1) fun i12 =>
    T.ldB n9 (n10 + Int.toNat i8 * 3 + 2) fun b13 =>
    T.req (0 ≤ i8 ∧ i8 < (↑n4 : Int))
    (T.sm o3 fun n14 n15 =>
    T.ldI IntKind.i32 n14 (n15 + Int.toNat i8 * 3) fun i16 =>
    T.ldI IntKind.i64 n14 (n15 + Int.toNat i8 * 3 + 1) fun i17 =>
    T.ldB n14 (n15 + Int.toNat i8 * 3 + 2) fun b18 =>
    T.ite (!(i11 == i16 && (i12 == i17 && true) && (b13 == b18 && true))) (T.ret (Value.bool false))
    (T.next 0 [Value.int IntKind.i64 (IntKind.wrap IntKind.i64 (i8 + 1))]
    ([Value.slice o0 n1 n2, Value.slice o3 n4 n5, Value.int IntKind.i64 (↑n1 : Int)] =
    [Value.slice o0 n1 n2, Value.slice o3 n4 n5, Value.int IntKind.i64 (↑n1 : Int)] ∧ ([] : List Deferred) = []))))))
    (T.ret (Value.bool true)))
theorem e21 (o0 : Option Addr) (n1 n2 : Nat) (o3 : Option Addr) (n4 n5 : Nat) : treeOf Try.prog Try.f21 (codeOf Try.f21) (.s .n (.s .n (.s (.s .n (.u (.l [(13, .int .i64)] [0, 1, 12] (.s .n (.s .n (.s (.u (.s .n (.s (.p [0, 1, 2, 3, 4, 5, 6, 7, 8]) .n))) .n)))))) .n))) [.v (.slice o0 n1 n2), .v (.slice o3 n4 n5)] = (t21 o0 n1 n2 o3 n4 n5) := by kernel_rfl
theorem c21 (o0 : Option Addr) (n1 n2 : Nat) (o3 : Option Addr) (n4 n5 : Nat) {w : World} {R : Ending → World → Prop} (h : (t21 o0 n1 n2 o3 n4 n5).sem Try.prog R ρ0 w) : Calls Try.prog 21 #[.slice o0 n1 n2, .slice o3 n4 n5] w R :=
  calls_of mixed Try.func21 rfl rfl (e21 o0 n1 n2 o3 n4 n5) h
def t22 (i0 : Int) (i1 : Int) (o2 : Option Addr) (n3 n4 : Nat) (o5 : Option Addr) (n6 n7 : Nat) (o8 : Option Addr) (n9 n10 : Nat) (o11 : Option Addr) (n12 n13 : Nat) : T :=
  T.new
  (Obj.cells
    (Array.mk [Value.int IntKind.i64 i0, Value.int IntKind.i64 i1, Value.slice o2 n3 n4, Value.slice o5 n6 n7, Value.slice o8 n9 n10, Value.slice o11 n12 n13])
    39)
  fun n14 =>
  T.new (Obj.map (Array.mk []) 0) fun n15 =>
    T.ldS n14 5 fun o16 n17 n18 =>
    T.loop 0 [Value.int IntKind.i64 0] fun l19 j20 =>
    T.asI IntKind.i64 (List.headD l19 (Value.tuple (Array.mk []))) fun i21 =>
    T.ite (decide (i21 < (↑n17 : Int)))
    (T.req (0 ≤ i21 ∧ i21 < (↑n17 : Int))
    (T.sm o16 fun n22 n23 =>
    T.ldI IntKind.i32 n22 (n23 + Int.toNat i21 * 2) fun i24 =>
    T.ldI IntKind.i64 n22 (n23 + Int.toNat i21 * 2 + 1) fun i25 =>
    T.new (Obj.cells (Array.mk [Value.int IntKind.i32 0, Value.int IntKind.i64 0]) 50) fun n26 =>
    T.st n26 0 (Value.int IntKind.i32 i24)
    (T.st n26 1 (Value.int IntKind.i64 i25)
    (T.ldI IntKind.i32 n26 0 fun i27 =>
    T.ldI IntKind.i64 n26 1 fun i28 =>
    T.run
    (muV 68 (Value.map (some n15)) (Value.agg (Array.mk [Value.int IntKind.i32 i27, Value.int IntKind.i64 i28])) (Value.bool true))
    fun v29 =>
    T.next 0 [Value.int IntKind.i64 (IntKind.wrap IntKind.i64 (i21 + 1))]
    ([Value.pointer (some (Addr.mk n14 0 none)), Value.map (some n15), Value.slice o16 n17 n18,
    Value.int IntKind.i64 (↑n17 : Int)] =
    [Value.pointer (some (Addr.mk n14 0 none)), Value.map (some n15), Value.slice o16 n17 n18,
    Value.int IntKind.i64 (↑n17 : Int)] ∧ ([] : List Deferred) = [])))))
    (T.ldS n14 4 fun o30 n31 n32 =>
    T.ldS n14 5 fun o33 n34 n35 =>
    T.new (Obj.cells (Array.mk [Value.slice o30 n31 n32, Value.slice o33 n34 n35]) 37) fun n36 =>
    T.call 42 [Value.slice (some (Addr.mk n36 0 none)) 2 2] fun v37 =>
    T.asS v37 fun o38 n39 n40 =>
    T.call 41 [Value.slice o38 n39 n40] fun v41 =>
    T.asS v41 fun o42 n43 n44 =>
    T.loop 0 [Value.slice none 0 0, Value.int IntKind.i64 0] fun l45 j46 =>
    T.asS (List.headD l45 (Value.tuple (Array.mk []))) fun o47 n48 n49 =>
    T.asI IntKind.i64 (List.headD (List.tail l45) (Value.tuple (Array.mk []))) fun i50 =>
    T.ite (decide (i50 < (↑n43 : Int)))
    (T.req (0 ≤ i50 ∧ i50 < (↑n43 : Int))
    (T.sm o42 fun n51 n52 =>
    T.ldI IntKind.i32 n51 (n52 + Int.toNat i50 * 2) fun i53 =>
    T.ldI IntKind.i64 n51 (n52 + Int.toNat i50 * 2 + 1) fun i54 =>
    T.new (Obj.cells (Array.mk [Value.int IntKind.i32 0, Value.int IntKind.i64 0]) 50) fun n55 =>
    T.st n55 0 (Value.int IntKind.i32 i53)
    (T.st n55 1 (Value.int IntKind.i64 i54)
    (T.drew
    (T.ldI IntKind.i32 n55 0 fun i56 =>
    T.ldI IntKind.i64 n55 1 fun i57 =>
    T.ldI IntKind.i32 n55 0 fun i58 =>
    T.ldI IntKind.i64 n55 1 fun i59 =>
    T.run
    (Instr.lookup 68 (Value.map (some n15))
    (Value.agg (Array.mk [Value.int IntKind.i32 i58, Value.int IntKind.i64 i59])) false)
    fun v60 =>
    T.asB v60 fun b61 =>
    T.chk
    [(Addr.mk n55 0 none, Value.int IntKind.i32 i56),
    (Addr.mk n55 1 none, Value.int IntKind.i64 i57)]
    (T.new
    (Obj.cells (Array.mk [Value.int IntKind.i32 i56, Value.int IntKind.i64 i57, Value.bool b61])
    52)
    fun n62 =>
    T.chk
    [(Addr.mk n55 0 none, Value.int IntKind.i32 i56),
    (Addr.mk n55 1 none, Value.int IntKind.i64 i57)]
    (T.run
    (biV Builtin.append (Array.mk [48, 48]) 48
    (Array.mk [Value.slice o47 n48 n49, Value.slice (some (Addr.mk n62 0 none)) 1 1]))
    fun v63 =>
    T.asS v63 fun o64 n65 n66 =>
    T.chk
    [(Addr.mk n55 0 none, Value.int IntKind.i32 i56),
    (Addr.mk n55 1 none, Value.int IntKind.i64 i57)]
    (T.next 0
    [Value.slice o64 n65 n66,
    Value.int IntKind.i64 (IntKind.wrap IntKind.i64 (i50 + 1))]
    ([Value.map (some n15), Value.slice o42 n43 n44,
    Value.int IntKind.i64 (↑n43 : Int)] =
    [Value.map (some n15), Value.slice o42 n43 n44,
    Value.int IntKind.i64 (↑n43 : Int)] ∧ ([] : List Deferred) = [])))))))))
    (T.ret (Value.slice o47 n48 n49)))
theorem e22 (i0 : Int) (i1 : Int) (o2 : Option Addr) (n3 n4 : Nat) (o5 : Option Addr) (n6 n7 : Nat) (o8 : Option Addr) (n9 n10 : Nat) (o11 : Option Addr) (n12 n13 : Nat) : treeOf Try.prog Try.f22 (codeOf Try.f22) (.s .n (.s .n (.s (.s .n (.u (.l [(13, .int .i64)] [1, 3, 11, 12] .n))) (.s .n (.s (.s .n (.u (.l [(6, .slice), (28, .int .i64)] [3, 26, 27] (.s .n (.s .n (.s (.u (.s .n (.p [0, 1, 2, 3, 4, 5, 6, 7, 8]))) .n)))))) .n))))) [.v (.agg #[.int .i64 i0, .int .i64 i1, .slice o2 n3 n4, .slice o5 n6 n7, .slice o8 n9 n10, .slice o11 n12 n13])] = (t22 i0 i1 o2 n3 n4 o5 n6 n7 o8 n9 n10 o11 n12 n13) := by kernel_rfl
theorem c22 (i0 : Int) (i1 : Int) (o2 : Option Addr) (n3 n4 : Nat) (o5 : Option Addr) (n6 n7 : Nat) (o8 : Option Addr) (n9 n10 : Nat) (o11 : Option Addr) (n12 n13 : Nat) {w : World} {R : Ending → World → Prop} (h : (t22 i0 i1 o2 n3 n4 o5 n6 n7 o8 n9 n10 o11 n12 n13).sem Try.prog R ρ0 w) : Calls Try.prog 22 #[.agg #[.int .i64 i0, .int .i64 i1, .slice o2 n3 n4, .slice o5 n6 n7, .slice o8 n9 n10, .slice o11 n12 n13]] w R :=
  calls_of mixed Try.func22 rfl rfl (e22 i0 i1 o2 n3 n4 o5 n6 n7 o8 n9 n10 o11 n12 n13) h
def t23 (i0 : Int) (i1 : Int) (o2 : Option Addr) (n3 n4 : Nat) (o5 : Option Addr) (n6 n7 : Nat) (o8 : Option Addr) (n9 n10 : Nat) (o11 : Option Addr) (n12 n13 : Nat) : T :=
  T.new
  (Obj.cells
    (Array.mk [Value.int IntKind.i64 i0, Value.int IntKind.i64 i1, Value.slice o2 n3 n4, Value.slice o5 n6 n7, Value.slice o8 n9 n10, Value.slice o11 n12 n13])
    39)
  fun n14 =>
  T.drew
    (T.ldS n14 4 fun o15 n16 n17 =>
    T.ldS n14 5 fun o18 n19 n20 =>
    T.run (biV Builtin.append (Array.mk [37, 37]) 37 (Array.mk [Value.slice none 0 0, Value.slice o15 n16 n17])) fun v21 =>
    T.asS v21 fun o22 n23 n24 =>
    T.chk [(Addr.mk n14 5 none, Value.slice o18 n19 n20)]
    (T.run (biV Builtin.append (Array.mk [37, 37]) 37 (Array.mk [Value.slice o22 n23 n24, Value.slice o18 n19 n20])) fun v25 =>
    T.asS v25 fun o26 n27 n28 =>
    T.chk []
    (T.call 43 [Value.slice o26 n27 n28] fun v29 =>
    T.asS v29 fun o30 n31 n32 =>
    T.chk []
    (T.loop 0 [Value.slice none 0 0, Value.int IntKind.i64 0] fun l33 j34 =>
    T.asS (List.headD l33 (Value.tuple (Array.mk []))) fun o35 n36 n37 =>
    T.asI IntKind.i64 (List.headD (List.tail l33) (Value.tuple (Array.mk []))) fun i38 =>
    T.ite (decide (i38 < (↑n31 : Int)))
    (T.drew
    (T.req (0 ≤ i38 ∧ i38 < (↑n31 : Int))
    (T.sm o30 fun n39 n40 =>
    T.ldI IntKind.i32 n39 (n40 + Int.toNat i38 * 2) fun i41 =>
    T.ldI IntKind.i64 n39 (n40 + Int.toNat i38 * 2 + 1) fun i42 =>
    T.ldS n14 5 fun o43 n44 n45 =>
    T.req (0 ≤ i38 ∧ i38 < (↑n31 : Int))
    (T.sm o30 fun n46 n47 =>
    T.ldI IntKind.i32 n46 (n47 + Int.toNat i38 * 2) fun i48 =>
    T.ldI IntKind.i64 n46 (n47 + Int.toNat i38 * 2 + 1) fun i49 =>
    T.call 29
    [Value.slice o43 n44 n45, Value.agg (Array.mk [Value.int IntKind.i32 i48, Value.int IntKind.i64 i49])]
    fun v50 =>
    T.asB v50 fun b51 =>
    T.chk
    [(Addr.mk n39 (n40 + Int.toNat i38 * 2) none, Value.int IntKind.i32 i41),
    (Addr.mk n39 (n40 + Int.toNat i38 * 2 + 1) none, Value.int IntKind.i64 i42)]
    (T.new
    (Obj.cells (Array.mk [Value.int IntKind.i32 i41, Value.int IntKind.i64 i42, Value.bool b51]) 52)
    fun n52 =>
    T.chk
    [(Addr.mk n39 (n40 + Int.toNat i38 * 2) none, Value.int IntKind.i32 i41),
    (Addr.mk n39 (n40 + Int.toNat i38 * 2 + 1) none, Value.int IntKind.i64 i42)]
    (T.run
    (biV Builtin.append (Array.mk [48, 48]) 48
    (Array.mk [Value.slice o35 n36 n37, Value.slice (some (Addr.mk n52 0 none)) 1 1]))
    fun v53 =>
    T.asS v53 fun o54 n55 n56 =>
    T.chk
    [(Addr.mk n39 (n40 + Int.toNat i38 * 2) none, Value.int IntKind.i32 i41),
    (Addr.mk n39 (n40 + Int.toNat i38 * 2 + 1) none, Value.int IntKind.i64 i42)]
    (T.next 0
    [Value.slice o54 n55 n56, Value.int IntKind.i64 (IntKind.wrap IntKind.i64 (i38 + 1))]
    ([Value.pointer (some (Addr.mk n14 0 none)), Value.slice o30 n31 n32] =
    [Value.pointer (some (Addr.mk n14 0 none)), Value.slice o30 n31 n32] ∧ ([] : List Deferred) = []))))))))
    (T.ret (Value.slice o35 n36 n37))))))
theorem e23 (i0 : Int) (i1 : Int) (o2 : Option Addr) (n3 n4 : Nat) (o5 : Option Addr) (n6 n7 : Nat) (o8 : Option Addr) (n9 n10 : Nat) (o11 : Option Addr) (n12 n13 : Nat) : treeOf Try.prog Try.f23 (codeOf Try.f23) (.s .n (.s .n (.s (.p [0, 1, 2, 4, 5, 3, 6, 7, 8]) (.s .n (.s (.s .n (.u (.l [(4, .slice), (5, .int .i64)] [1, 3] (.s .n (.s (.u (.p [0, 1, 2, 3, 4, 5, 6, 7, 8, 9, 10, 11, 12, 13, 14, 15])) .n))))) .n))))) [.v (.agg #[.int .i64 i0, .int .i64 i1, .slice o2 n3 n4, .slice o5 n6 n7, .slice o8 n9 n10, .slice o11 n12 n13])] = (t23 i0 i1 o2 n3 n4 o5 n6 n7 o8 n9 n10 o11 n12 n13) := by kernel_rfl
theorem c23 (i0 : Int) (i1 : Int) (o2 : Option Addr) (n3 n4 : Nat) (o5 : Option Addr) (n6 n7 : Nat) (o8 : Option Addr) (n9 n10 : Nat) (o11 : Option Addr) (n12 n13 : Nat) {w : World} {R : Ending → World → Prop} (h : (t23 i0 i1 o2 n3 n4 o5 n6 n7 o8 n9 n10 o11 n12 n13).sem Try.prog R ρ0 w) : Calls Try.prog 23 #[.agg #[.int .i64 i0, .int .i64 i1, .slice o2 n3 n4, .slice o5 n6 n7, .slice o8 n9 n10, .slice o11 n12 n13]] w R :=
  calls_of mixed Try.func23 rfl rfl (e23 i0 i1 o2 n3 n4 o5 n6 n7 o8 n9 n10 o11 n12 n13) h
def t24 (i0 : Int) (i1 : Int) (o2 : Option Addr) (n3 n4 : Nat) (o5 : Option Addr) (n6 n7 : Nat) (o8 : Option Addr) (n9 n10 : Nat) (o11 : Option Addr) (n12 n13 : Nat) (i14 : Int) (i15 : Int) : T :=
  T.new
  (Obj.cells
    (Array.mk [Value.int IntKind.i64 i0, Value.int IntKind.i64 i1, Value.slice o2 n3 n4, Value.slice o5 n6 n7, Value.slice o8 n9 n10, Value.slice o11 n12 n13])
    39)
  fun n16 =>
  T.new (Obj.cells (Array.mk [Value.int IntKind.i64 i14]) 3) fun n17 =>
    T.new (Obj.cells (Array.mk [Value.int IntKind.i64 i15]) 3) fun n18 =>
    T.ldI IntKind.i64 n16 0 fun i19 =>
    T.ldI IntKind.i64 n16 1 fun i20 =>
    T.ldS n16 2 fun o21 n22 n23 =>
    T.ldS n16 3 fun o24 n25 n26 =>
    T.ldS n16 4 fun o27 n28 n29 =>
    T.ldS n16 5 fun o30 n31 n32 =>
    T.call 22
    [Value.agg
    (Array.mk
    [Value.int IntKind.i64 i19, Value.int IntKind.i64 i20, Value.slice o21 n22 n23, Value.slice o24 n25 n26, Value.slice o27 n28 n29,
    Value.slice o30 n31 n32])]
    fun v33 =>
    T.asS v33 fun o34 n35 n36 =>
    T.call 44
    [Value.slice o34 n35 n36,
    Value.func (Fn.func 45) (Array.mk [])
    (Array.mk [Value.pointer (some (Addr.mk n18 0 none)), Value.pointer (some (Addr.mk n17 0 none))])]
    fun v37 => T.asS v37 fun o38 n39 n40 => T.ret (Value.slice o38 n39 n40)
theorem e24 (i0 : Int) (i1 : Int) (o2 : Option Addr) (n3 n4 : Nat) (o5 : Option Addr) (n6 n7 : Nat) (o8 : Option Addr) (n9 n10 : Nat) (o11 : Option Addr) (n12 n13 : Nat) (i14 : Int) (i15 : Int) : treeOf Try.prog Try.f24 (codeOf Try.f24) .n [.v (.agg #[.int .i64 i0, .int .i64 i1, .slice o2 n3 n4, .slice o5 n6 n7, .slice o8 n9 n10, .slice o11 n12 n13]), .v (.int .i64 i14), .v (.int .i64 i15)] = (t24 i0 i1 o2 n3 n4 o5 n6 n7 o8 n9 n10 o11 n12 n13 i14 i15) := by kernel_rfl
theorem c24 (i0 : Int) (i1 : Int) (o2 : Option Addr) (n3 n4 : Nat) (o5 : Option Addr) (n6 n7 : Nat) (o8 : Option Addr) (n9 n10 : Nat) (o11 : Option Addr) (n12 n13 : Nat) (i14 : Int) (i15 : Int) {w : World} {R : Ending → World → Prop} (h : (t24 i0 i1 o2 n3 n4 o5 n6 n7 o8 n9 n10 o11 n12 n13 i14 i15).sem Try.prog R ρ0 w) : Calls Try.prog 24 #[.agg #[.int .i64 i0, .int .i64 i1, .slice o2 n3 n4, .slice o5 n6 n7, .slice o8 n9 n10, .slice o11 n12 n13], .int .i64 i14, .int .i64 i15] w R :=
  calls_of mixed Try.func24 rfl rfl (e24 i0 i1 o2 n3 n4 o5 n6 n7 o8 n9 n10 o11 n12 n13 i14 i15) h
def t25 (i0 : Int) (i1 : Int) (o2 : Option Addr) (n3 n4 : Nat) (o5 : Option Addr) (n6 n7 : Nat) (o8 : Option Addr) (n9 n10 : Nat) (o11 : Option Addr) (n12 n13 : Nat) (i14 : Int) (i15 : Int) : T :=
  T.new
  (Obj.cells
    (Array.mk [Value.int IntKind.i64 i0, Value.int IntKind.i64 i1, Value.slice o2 n3 n4, Value.slice o5 n6 n7, Value.slice o8 n9 n10, Value.slice o11 n12 n13])
    39)
  fun n16 =>
  T.ldI IntKind.i64 n16 0 fun i17 =>
    T.ldI IntKind.i64 n16 1 fun i18 =>
    T.ldS n16 2 fun o19 n20 n21 =>
    T.ldS n16 3 fun o22 n23 n24 =>
    T.ldS n16 4 fun o25 n26 n27 =>
    T.ldS n16 5 fun o28 n29 n30 =>
    T.call 23
    [Value.agg
    (Array.mk
    [Value.int IntKind.i64 i17, Value.int IntKind.i64 i18, Value.slice o19 n20 n21, Value.slice o22 n23 n24, Value.slice o25 n26 n27,
    Value.slice o28 n29 n30])]
    fun v31 =>
    T.asS v31 fun o32 n33 n34 =>
    T.loop 0 [Value.slice none 0 0, Value.int IntKind.i64 0] fun l35 j36 =>
    T.asS (List.headD l35 (Value.tuple (Array.mk []))) fun o37 n38 n39 =>
    T.asI IntKind.i64 (List.headD (List.tail l35) (Value.tuple (Array.mk []))) fun i40 =>
    T.ite (decide (i40 < (↑n33 : Int)))
    (T.req (0 ≤ i40 ∧ i40 < (↑n33 : Int))
    (T.sm o32 fun n41 n42 =>
    T.ldI IntKind.i32 n41 (n42 + Int.toNat i40 * 3) fun i43 =>
    T.ldI IntKind.i64 n41 (n42 + Int.toNat i40 * 3 + 1) fun i44 =>
    T.call 47 [Value.agg (Array.mk [Value.int IntKind.i32 i43, Value.int IntKind.i64 i44]), Value.int IntKind.i64 i15] fun v45 =>
    T.asI IntKind.i64 v45 fun i46 =>
    T.ite (i46 == i14)
    (T.req (0 ≤ i40 ∧ i40 < (↑n33 : Int))
    (T.sm o32 fun n47 n48 =>
    T.ldI IntKind.i32 n47 (n48 + Int.toNat i40 * 3) fun i49 =>
    T.ldI IntKind.i64 n47 (n48 + Int.toNat i40 * 3 + 1) fun i50 =>
    T.ldB n47 (n48 + Int.toNat i40 * 3 + 2) fun b51 =>
    T.new (Obj.cells (Array.mk [Value.int IntKind.i32 i49, Value.int IntKind.i64 i50, Value.bool b51]) 52)
    fun n52 =>
    T.run
    (biV Builtin.append (Array.mk [48, 48]) 48
    (Array.mk [Value.slice o37 n38 n39, Value.slice (some (Addr.mk n52 0 none)) 1 1]))
    fun v53 =>
    T.asS v53 fun o54 n55 n56 =>
    T.next 0 [Value.slice o54 n55 n56, Value.int IntKind.i64 (IntKind.wrap IntKind.i64 (i40 + 1))]
    ([Value.int IntKind.i64 i14, Value.int IntKind.i64 i15, Value.slice o32 n33 n34] =
    [Value.int IntKind.i64 i14, Value.int IntKind.i64 i15, Value.slice o32 n33 n34] ∧ ([] : List Deferred) = [])))
    (T.next 0 [Value.slice o37 n38 n39, Value.int IntKind.i64 (IntKind.wrap IntKind.i64 (i40 + 1))]
    ([Value.int IntKind.i64 i14, Value.int IntKind.i64 i15, Value.slice o32 n33 n34] =
    [Value.int IntKind.i64 i14, Value.int IntKind.i64 i15, Value.slice o32 n33 n34] ∧ ([] : List Deferred) = []))))
    (T.ret (Value.slice o37 n38 n39))
theorem e25 (i0 : Int) (i1 : Int) (o2 : Option Addr) (n3 n4 : Nat) (o5 : Option Addr) (n6 n7 : Nat) (o8 : Option Addr) (n9 n10 : Nat) (o11 : Option Addr) (n12 n13 : Nat) (i14 : Int) (i15 : Int) : treeOf Try.prog Try.f25 (codeOf Try.f25) (.s .n (.s .n (.s .n (.s (.s .n (.u (.l [(8, .slice), (9, .int .i64)] [1, 2, 7] .n))) .n)))) [.v (.agg #[.int .i64 i0, .int .i64 i1, .slice o2 n3 n4, .slice o5 n6 n7, .slice o8 n9 n10, .slice o11 n12 n13]), .v (.int .i64 i14), .v (.int .i64 i15)] = (t25 i0 i1 o2 n3 n4 o5 n6 n7 o8 n9 n10 o11 n12 n13 i14 i15) := by kernel_rfl
theorem c25 (i0 : Int) (i1 : Int) (o2 : Option Addr) (n3 n4 : Nat) (o5 : Option Addr) (n6 n7 : Nat) (o8 : Option Addr) (n9 n10 : Nat) (o11 : Option Addr) (n12 n13 : Nat) (i14 : Int) (i15 : Int) {w : World} {R : Ending → World → Prop} (h : (t25 i0 i1 o2 n3 n4 o5 n6 n7 o8 n9 n10 o11 n12 n13 i14 i15).sem Try.prog R ρ0 w) : Calls Try.prog 25 #[.agg #[.int .i64 i0, .int .i64 i1, .slice o2 n3 n4, .slice o5 n6 n7, .slice o8 n9 n10, .slice o11 n12 n13], .int .i64 i14, .int .i64 i15] w R :=
  calls_of mixed Try.func25 rfl rfl (e25 i0 i1 o2 n3 n4 o5 n6 n7 o8 n9 n10 o11 n12 n13 i14 i15) h
def t27 (o0 : Option Addr) (n1 n2 : Nat) (o3 : Option Addr) (n4 n5 : Nat) : T :=
  T.ite ((↑n1 : Int) != (↑n4 : Int)) (T.ret (Value.bool false))
  (T.loop 0 [Value.int IntKind.i64 0] fun l6 j7 =>
    T.asI IntKind.i64 (List.headD l6 (Value.tuple (Array.mk []))) fun i8 =>
    T.ite (decide (i8 < (↑n1 : Int)))
    (T.drew
    (T.req (0 ≤ i8 ∧ i8 < (↑n1 : Int))
    (T.sm o0 fun n9 n10 =>
    T.ldI IntKind.i32 n9 (n10 + Int.toNat i8 * 2) fun i11 =>
    T.ldI IntKind.i64 n9 (n10 + Int.toNat i8 * 2 + 1) fun i12 =>
    T.req (0 ≤ i8 ∧ i8 < (↑n4 : Int))
    (T.sm o3 fun n13 n14 =>
    T.ldI IntKind.i32 n13 (n14 + Int.toNat i8 * 2) fun i15 =>
    T.ldI IntKind.i64 n13 (n14 + Int.toNat i8 * 2 + 1) fun i16 =>
    T.ite (!(i11 == i15 && (i12 == i16 && true))) (T.ret (Value.bool false))
    (T.next 0 [Value.int IntKind.i64 (IntKind.wrap IntKind.i64 (i8 + 1))]
    ([Value.slice o0 n1 n2, Value.slice o3 n4 n5, Value.int IntKind.i64 (↑n1 : Int)] =
    [Value.slice o0 n1 n2, Value.slice o3 n4 n5, Value.int IntKind.i64 (↑n1 : Int)] ∧ ([] : List Deferred) = []))))))
    (T.ret (Value.bool true)))
theorem e27 (o0 : Option Addr) (n1 n2 : Nat) (o3 : Option Addr) (n4 n5 : Nat) : treeOf Try.prog Try.f27 (codeOf Try.f27) (.s .n (.s .n (.s (.s .n (.u (.l [(13, .int .i64)] [0, 1, 12] (.s .n (.s .n (.s (.u (.s .n (.s (.p [0, 1, 2, 3, 4, 5, 6, 7, 8]) .n))) .n)))))) .n))) [.v (.slice o0 n1 n2), .v (.slice o3 n4 n5)] = (t27 o0 n1 n2 o3 n4 n5) := by kernel_rfl
theorem c27 (o0 : Option Addr) (n1 n2 : Nat) (o3 : Option Addr) (n4 n5 : Nat) {w : World} {R : Ending → World → Prop} (h : (t27 o0 n1 n2 o3 n4 n5).sem Try.prog R ρ0 w) : Calls Try.prog 27 #[.slice o0 n1 n2, .slice o3 n4 n5] w R :=
  calls_of mixed Try.func27 rfl rfl (e27 o0 n1 n2 o3 n4 n5) h
def t28 (i0 : Int) (i1 : Int) (o2 : Option Addr) (n3 n4 : Nat) (o5 : Option Addr) (n6 n7 : Nat) (o8 : Option Addr) (n9 n10 : Nat) (o11 : Option Addr) (n12 n13 : Nat) (i14 : Int) (i15 : Int) : T :=
  T.new
  (Obj.cells
    (Array.mk [Value.int IntKind.i64 i0, Value.int IntKind.i64 i1, Value.slice o2 n3 n4, Value.slice o5 n6 n7, Value.slice o8 n9 n10, Value.slice o11 n12 n13])
    39)
  fun n16 =>
  T.new (Obj.cells (Array.mk [Value.int IntKind.i32 i14, Value.int IntKind.i64 i15]) 50) fun n17 =>
    T.ldS n16 4 fun o18 n19 n20 =>
    T.ldI IntKind.i32 n17 0 fun i21 =>
    T.ldI IntKind.i64 n17 1 fun i22 =>
    T.call 48 [Value.slice o18 n19 n20, Value.agg (Array.mk [Value.int IntKind.i32 i21, Value.int IntKind.i64 i22])] fun v23 =>
    T.asB v23 fun b24 => T.ret (Value.bool b24)
theorem e28 (i0 : Int) (i1 : Int) (o2 : Option Addr) (n3 n4 : Nat) (o5 : Option Addr) (n6 n7 : Nat) (o8 : Option Addr) (n9 n10 : Nat) (o11 : Option Addr) (n12 n13 : Nat) (i14 : Int) (i15 : Int) : treeOf Try.prog Try.f28 (codeOf Try.f28) .n [.v (.agg #[.int .i64 i0, .int .i64 i1, .slice o2 n3 n4, .slice o5 n6 n7, .slice o8 n9 n10, .slice o11 n12 n13]), .v (.agg #[.int .i32 i14, .int .i64 i15])] = (t28 i0 i1 o2 n3 n4 o5 n6 n7 o8 n9 n10 o11 n12 n13 i14 i15) := by kernel_rfl
theorem c28 (i0 : Int) (i1 : Int) (o2 : Option Addr) (n3 n4 : Nat) (o5 : Option Addr) (n6 n7 : Nat) (o8 : Option Addr) (n9 n10 : Nat) (o11 : Option Addr) (n12 n13 : Nat) (i14 : Int) (i15 : Int) {w : World} {R : Ending → World → Prop} (h : (t28 i0 i1 o2 n3 n4 o5 n6 n7 o8 n9 n10 o11 n12 n13 i14 i15).sem Try.prog R ρ0 w) : Calls Try.prog 28 #[.agg #[.int .i64 i0, .int .i64 i1, .slice o2 n3 n4, .slice o5 n6 n7, .slice o8 n9 n10, .slice o11 n12 n13], .agg #[.int .i32 i14, .int .i64 i15]] w R :=
  calls_of mixed Try.func28 rfl rfl (e28 i0 i1 o2 n3 n4 o5 n6 n7 o8 n9 n10 o11 n12 n13 i14 i15) h
def t30 (i0 : Int) (i1 : Int) (o2 : Option Addr) (n3 n4 : Nat) (o5 : Option Addr) (n6 n7 : Nat) (o8 : Option Addr) (n9 n10 : Nat) (o11 : Option Addr) (n12 n13 : Nat) (i14 : Int) (i15 : Int) : T :=
  T.new
  (Obj.cells
    (Array.mk [Value.int IntKind.i64 i0, Value.int IntKind.i64 i1, Value.slice o2 n3 n4, Value.slice o5 n6 n7, Value.slice o8 n9 n10, Value.slice o11 n12 n13])
    39)
  fun n16 =>
  T.new (Obj.cells (Array.mk [Value.int IntKind.i32 i14, Value.int IntKind.i64 i15]) 50) fun n17 =>
    T.ldS n16 5 fun o18 n19 n20 =>
    T.ldI IntKind.i32 n17 0 fun i21 =>
    T.ldI IntKind.i64 n17 1 fun i22 =>
    T.call 48 [Value.slice o18 n19 n20, Value.agg (Array.mk [Value.int IntKind.i32 i21, Value.int IntKind.i64 i22])] fun v23 =>
    T.asB v23 fun b24 => T.ret (Value.bool b24)
theorem e30 (i0 : Int) (i1 : Int) (o2 : Option Addr) (n3 n4 : Nat) (o5 : Option Addr) (n6 n7 : Nat) (o8 : Option Addr) (n9 n10 : Nat) (o11 : Option Addr) (n12 n13 : Nat) (i14 : Int) (i15 : Int) : treeOf Try.prog Try.f30 (codeOf Try.f30) .n [.v (.agg #[.int .i64 i0, .int .i64 i1, .slice o2 n3 n4, .slice o5 n6 n7, .slice o8 n9 n10, .slice o11 n12 n13]), .v (.agg #[.int .i32 i14, .int .i64 i15])] = (t30 i0 i1 o2 n3 n4 o5 n6 n7 o8 n9 n10 o11 n12 n13 i14 i15) := by kernel_rfl
theorem c30 (i0 : Int) (i1 : Int) (o2 : Option Addr) (n3 n4 : Nat) (o5 : Option Addr) (n6 n7 : Nat) (o8 : Option Addr) (n9 n10 : Nat) (o11 : Option Addr) (n12 n13 : Nat) (i14 : Int) (i15 : Int) {w : World} {R : Ending → World → Prop} (h : (t30 i0 i1 o2 n3 n4 o5 n6 n7 o8 n9 n10 o11 n12 n13 i14 i15).sem Try.prog R ρ0 w) : Calls Try.prog 30 #[.agg #[.int .i64 i0, .int .i64 i1, .slice o2 n3 n4, .slice o5 n6 n7, .slice o8 n9 n10, .slice o11 n12 n13], .agg #[.int .i32 i14, .int .i64 i15]] w R :=
  calls_of mixed Try.func30 rfl rfl (e30 i0 i1 o2 n3 n4 o5 n6 n7 o8 n9 n10 o11 n12 n13 i14 i15) h
def t32 (o0 : Option Addr) (n1 n2 : Nat) (i3 : Int) : T :=
  T.call 49 [Value.slice o0 n1 n2, Value.int IntKind.i64 i3] fun v4 => T.asI IntKind.i64 v4 fun i5 => T.ret (Value.bool (decide (i5 ≥ 0)))
theorem e32 (o0 : Option Addr) (n1 n2 : Nat) (i3 : Int) : treeOf Try.prog Try.f32 (codeOf Try.f32) .n [.v (.slice o0 n1 n2), .v (.int .i64 i3)] = (t32 o0 n1 n2 i3) := by kernel_rfl
theorem c32 (o0 : Option Addr) (n1 n2 : Nat) (i3 : Int) {w : World} {R : Ending → World → Prop} (h : (t32 o0 n1 n2 i3).sem Try.prog R ρ0 w) : Calls Try.prog 32 #[.slice o0 n1 n2, .int .i64 i3] w R :=
  calls_of mixed Try.func32 rfl rfl (e32 o0 n1 n2 i3) h
def t33 (o0 : Option Addr) (n1 n2 : Nat) (i3 : Int) (i4 : Int) (b5 : Bool) : T :=
  T.new (Obj.cells (Array.mk [Value.int IntKind.i32 i3, Value.int IntKind.i64 i4, Value.bool b5]) 52) fun n6 =>
  T.ldI IntKind.i32 n6 0 fun i7 =>
    T.ldI IntKind.i64 n6 1 fun i8 =>
    T.ldB n6 2 fun b9 =>
    T.call 50 [Value.slice o0 n1 n2, Value.agg (Array.mk [Value.int IntKind.i32 i7, Value.int IntKind.i64 i8, Value.bool b9])] fun v10 =>
    T.asI IntKind.i64 v10 fun i11 => T.ret (Value.bool (decide (i11 ≥ 0)))
theorem e33 (o0 : Option Addr) (n1 n2 : Nat) (i3 : Int) (i4 : Int) (b5 : Bool) : treeOf Try.prog Try.f33 (codeOf Try.f33) .n [.v (.slice o0 n1 n2), .v (.agg #[.int .i32 i3, .int .i64 i4, .bool b5])] = (t33 o0 n1 n2 i3 i4 b5) := by kernel_rfl
theorem c33 (o0 : Option Addr) (n1 n2 : Nat) (i3 : Int) (i4 : Int) (b5 : Bool) {w : World} {R : Ending → World → Prop} (h : (t33 o0 n1 n2 i3 i4 b5).sem Try.prog R ρ0 w) : Calls Try.prog 33 #[.slice o0 n1 n2, .agg #[.int .i32 i3, .int .i64 i4, .bool b5]] w R :=
  calls_of mixed Try.func33 rfl rfl (e33 o0 n1 n2 i3 i4 b5) h
def t38 (o0 : Option Addr) (n1 n2 : Nat) (o3 : Option Addr) (n4 n5 : Nat) : T :=
  T.ite ((↑n1 : Int) != (↑n4 : Int)) (T.ret (Value.bool false))
  (T.loop 0 [Value.int IntKind.i64 0] fun l6 j7 =>
    T.asI IntKind.i64 (List.headD l6 (Value.tuple (Array.mk []))) fun i8 =>
    T.ite (decide (i8 < (↑n1 : Int)))
    (T.drew
    (T.req (0 ≤ i8 ∧ i8 < (↑n1 : Int))
    (T.sm o0 fun n9 n10 =>
    T.ldI IntKind.i64 n9 (n10 + Int.toNat i8 * 1) fun i11 =>
    T.req (0 ≤ i8 ∧ i8 < (↑n4 : Int))
    (T.sm o3 fun n12 n13 =>
    T.ldI IntKind.i64 n12 (n13 + Int.toNat i8 * 1) fun i14 =>
    T.ite (i11 != i14) (T.ret (Value.bool false))
    (T.next 0 [Value.int IntKind.i64 (IntKind.wrap IntKind.i64 (i8 + 1))]
    ([Value.slice o0 n1 n2, Value.slice o3 n4 n5] = [Value.slice o0 n1 n2, Value.slice o3 n4 n5] ∧ ([] : List Deferred) = []))))))
    (T.ret (Value.bool true)))
theorem e38 (o0 : Option Addr) (n1 n2 : Nat) (o3 : Option Addr) (n4 n5 : Nat) : treeOf Try.prog Try.f38 (codeOf Try.f38) (.s .n (.s .n (.s (.s .n (.u (.l [(5, .int .i64)] [0, 1] (.s .n (.s (.u (.s (.p [0, 1, 2, 3, 4, 5, 6, 7, 8]) .n)) .n))))) .n))) [.v (.slice o0 n1 n2), .v (.slice o3 n4 n5)] = (t38 o0 n1 n2 o3 n4 n5) := by kernel_rfl
theorem c38 (o0 : Option Addr) (n1 n2 : Nat) (o3 : Option Addr) (n4 n5 : Nat) {w : World} {R : Ending → World → Prop} (h : (t38 o0 n1 n2 o3 n4 n5).sem Try.prog R ρ0 w) : Calls Try.prog 38 #[.slice o0 n1 n2, .slice o3 n4 n5] w R :=
  calls_of mixed Try.func38 rfl rfl (e38 o0 n1 n2 o3 n4 n5) h
def t42 (o0 : Option Addr) (n1 n2 : Nat) : T :=
  T.loop 0 [Value.int IntKind.i64 0, Value.int IntKind.i64 0] fun l3 j4 =>
  T.asI IntKind.i64 (List.headD l3 (Value.tuple (Array.mk []))) fun i5 =>
    T.asI IntKind.i64 (List.headD (List.tail l3) (Value.tuple (Array.mk []))) fun i6 =>
    T.ite (decide (i6 < (↑n1 : Int)))
    (T.req (0 ≤ i6 ∧ i6 < (↑n1 : Int))
    (T.sm o0 fun n7 n8 =>
    T.ldS n7 (n8 + Int.toNat i6 * 1) fun o9 n10 n11 =>
    T.ite (decide (IntKind.wrap IntKind.i64 (i5 + (↑n10 : Int)) < 0))
    (T.pan
    (Value.iface 9
    (Value.string
    (ByteArray.mk
    (Array.mk
    [OfNat.ofNat 108, OfNat.ofNat 101, OfNat.ofNat 110, OfNat.ofNat 32, OfNat.ofNat 111, OfNat.ofNat 117, OfNat.ofNat 116, OfNat.ofNat 32,
    OfNat.ofNat 111, OfNat.ofNat 102, OfNat.ofNat 32, OfNat.ofNat 114, OfNat.ofNat 97, OfNat.ofNat 110, OfNat.ofNat 103,
    OfNat.ofNat 101])))))
    (T.next 0 [Value.int IntKind.i64 (IntKind.wrap IntKind.i64 (i5 + (↑n10 : Int))), Value.int IntKind.i64 (IntKind.wrap IntKind.i64 (i6 + 1))]
    ([Value.slice o0 n1 n2, Value.slice o0 n1 n2, Value.int IntKind.i64 (↑n1 : Int)] =
    [Value.slice o0 n1 n2, Value.slice o0 n1 n2, Value.int IntKind.i64 (↑n1 : Int)] ∧ ([] : List Deferred) = []))))
    (T.call 57 [Value.slice none 0 0, Value.int IntKind.i64 i5] fun v12 =>
    T.asS v12 fun o13 n14 n15 =>
    T.loop 0 [Value.slice o13 n14 n15, Value.int IntKind.i64 0] fun l16 j17 =>
    T.asS (List.headD l16 (Value.tuple (Array.mk []))) fun o18 n19 n20 =>
    T.asI IntKind.i64 (List.headD (List.tail l16) (Value.tuple (Array.mk []))) fun i21 =>
    T.ite (decide (i21 < (↑n1 : Int)))
    (T.req (0 ≤ i21 ∧ i21 < (↑n1 : Int))
    (T.sm o0 fun n22 n23 =>
    T.ldS n22 (n23 + Int.toNat i21 * 1) fun o24 n25 n26 =>
    T.run (biV Builtin.append (Array.mk [37, 37]) 37 (Array.mk [Value.slice o18 n19 n20, Value.slice o24 n25 n26])) fun v27 =>
    T.asS v27 fun o28 n29 n30 =>
    T.next 0 [Value.slice o28 n29 n30, Value.int IntKind.i64 (IntKind.wrap IntKind.i64 (i21 + 1))]
    ([Value.slice o0 n1 n2, Value.int IntKind.i64 (↑n1 : Int)] = [Value.slice o0 n1 n2, Value.int IntKind.i64 (↑n1 : Int)] ∧ ([] : List Deferred) = [])))
    (T.ret (Value.slice o18 n19 n20)))
theorem e42 (o0 : Option Addr) (n1 n2 : Nat) : treeOf Try.prog Try.f42 (codeOf Try.f42) (.s .n (.s .n (.s (.s .n (.u (.l [(3, .int .i64), (11, .int .i64)] [0, 9, 10] .n))) (.s .n (.s (.s .n (.u (.l [(6, .slice), (27, .int .i64)] [25, 26] .n))) .n))))) [.v (.slice o0 n1 n2)] = (t42 o0 n1 n2) := by kernel_rfl
theorem c42 (o0 : Option Addr) (n1 n2 : Nat) {w : World} {R : Ending → World → Prop} (h : (t42 o0 n1 n2).sem Try.prog R ρ0 w) : Calls Try.prog 42 #[.slice o0 n1 n2] w R :=
  calls_of mixed Try.func42 rfl rfl (e42 o0 n1 n2) h
def t49 (o0 : Option Addr) (n1 n2 : Nat) (i3 : Int) : T :=
  T.loop 0 [Value.int IntKind.i64 0] fun l4 j5 =>
  T.asI IntKind.i64 (List.headD l4 (Value.tuple (Array.mk []))) fun i6 =>
    T.ite (decide (i6 < (↑n1 : Int)))
    (T.req (0 ≤ i6 ∧ i6 < (↑n1 : Int))
    (T.sm o0 fun n7 n8 =>
    T.ldI IntKind.i64 n7 (n8 + Int.toNat i6 * 1) fun i9 =>
    T.ite (i3 == i9) (T.ret (Value.int IntKind.i64 i6))
    (T.next 0 [Value.int IntKind.i64 (IntKind.wrap IntKind.i64 (i6 + 1))]
    ([Value.slice o0 n1 n2, Value.int IntKind.i64 i3, Value.int IntKind.i64 (↑n1 : Int)] =
    [Value.slice o0 n1 n2, Value.int IntKind.i64 i3, Value.int IntKind.i64 (↑n1 : Int)] ∧ ([] : List Deferred) = []))))
    (T.ret (Value.int IntKind.i64 (-1)))
theorem e49 (o0 : Option Addr) (n1 n2 : Nat) (i3 : Int) : treeOf Try.prog Try.f49 (codeOf Try.f49) (.s .n (.s (.s .n (.u (.l [(8, .int .i64)] [0, 1, 7] .n))) .n)) [.v (.slice o0 n1 n2), .v (.int .i64 i3)] = (t49 o0 n1 n2 i3) := by kernel_rfl
theorem c49 (o0 : Option Addr) (n1 n2 : Nat) (i3 : Int) {w : World} {R : Ending → World → Prop} (h : (t49 o0 n1 n2 i3).sem Try.prog R ρ0 w) : Calls Try.prog 49 #[.slice o0 n1 n2, .int .i64 i3] w R :=
  calls_of mixed Try.func49 rfl rfl (e49 o0 n1 n2 i3) h
def t50 (o0 : Option Addr) (n1 n2 : Nat) (i3 : Int) (i4 : Int) (b5 : Bool) : T :=
  T.new (Obj.cells (Array.mk [Value.int IntKind.i32 i3, Value.int IntKind.i64 i4, Value.bool b5]) 52) fun n6 =>
  T.loop 0 [Value.int IntKind.i64 0] fun l7 j8 =>
    T.asI IntKind.i64 (List.headD l7 (Value.tuple (Array.mk []))) fun i9 =>
    T.ite (decide (i9 < (↑n1 : Int)))
    (T.drew
    (T.ldI IntKind.i32 n6 0 fun i10 =>
    T.ldI IntKind.i64 n6 1 fun i11 =>
    T.ldB n6 2 fun b12 =>
    T.req (0 ≤ i9 ∧ i9 < (↑n1 : Int))
    (T.sm o0 fun n13 n14 =>
    T.ldI IntKind.i32 n13 (n14 + Int.toNat i9 * 3) fun i15 =>
    T.ldI IntKind.i64 n13 (n14 + Int.toNat i9 * 3 + 1) fun i16 =>
    T.ldB n13 (n14 + Int.toNat i9 * 3 + 2) fun b17 =>
    T.ite (i10 == i15 && (i11 == i16 && true) && (b12 == b17 && true)) (T.ret (Value.int IntKind.i64 i9))
    (T.next 0 [Value.int IntKind.i64 (IntKind.wrap IntKind.i64 (i9 + 1))]
    ([Value.slice o0 n1 n2, Value.pointer (some (Addr.mk n6 0 none)), Value.int IntKind.i64 (↑n1 : Int)] =
    [Value.slice o0 n1 n2, Value.pointer (some (Addr.mk n6 0 none)), Value.int IntKind.i64 (↑n1 : Int)] ∧ ([] : List Deferred) = [])))))
    (T.ret (Value.int IntKind.i64 (-1)))
theorem e50 (o0 : Option Addr) (n1 n2 : Nat) (i3 : Int) (i4 : Int) (b5 : Bool) : treeOf Try.prog Try.f50 (codeOf Try.f50) (.s .n (.s (.s .n (.u (.l [(8, .int .i64)] [0, 3, 7] (.s .n (.s .n (.s (.u (.s .n (.s (.p [0, 1, 2, 3, 4, 5]) .n))) .n)))))) .n)) [.v (.slice o0 n1 n2), .v (.agg #[.int .i32 i3, .int .i64 i4, .bool b5])] = (t50 o0 n1 n2 i3 i4 b5) := by kernel_rfl
theorem c50 (o0 : Option Addr) (n1 n2 : Nat) (i3 : Int) (i4 : Int) (b5 : Bool) {w : World} {R : Ending → World → Prop} (h : (t50 o0 n1 n2 i3 i4 b5).sem Try.prog R ρ0 w) : Calls Try.prog 50 #[.slice o0 n1 n2, .agg #[.int .i32 i3, .int .i64 i4, .bool b5]] w R :=
  calls_of mixed Try.func50 rfl rfl (e50 o0 n1 n2 i3 i4 b5) h
def t57 (o0 : Option Addr) (n1 n2 : Nat) (i3 : Int) : T :=
  T.blk 0
  (fun l4 j5 =>
    T.ite (decide (IntKind.wrap IntKind.i64 (i3 - IntKind.wrap IntKind.i64 ((↑n2 : Int) - (↑n1 : Int))) > 0))
    (T.req (0 ≤ (↑n2 : Int) ∧ (↑n2 : Int) ≤ (↑n2 : Int))
    (T.run
    (biV Builtin.append (Array.mk [37, 3]) 37
    (Array.mk
    [Value.slice (sliceBase o0 0 n2 2) (Int.toNat (↑n2 : Int)) n2,
    Value.int IntKind.i64 (IntKind.wrap IntKind.i64 (i3 - IntKind.wrap IntKind.i64 ((↑n2 : Int) - (↑n1 : Int))))]))
    fun v6 =>
    T.asS v6 fun o7 n8 n9 => T.req (0 ≤ (↑n1 : Int) ∧ (↑n1 : Int) ≤ (↑n9 : Int)) (T.ret (Value.slice (sliceBase o7 0 n9 2) (Int.toNat (↑n1 : Int)) n9))))
    (T.ret (Value.slice o0 n1 n2)))
  (T.ite (decide (i3 < 0))
    (T.pan
    (Value.iface 9
    (Value.string
    (ByteArray.mk
    (Array.mk
    [OfNat.ofNat 99, OfNat.ofNat 97, OfNat.ofNat 110, OfNat.ofNat 110, OfNat.ofNat 111, OfNat.ofNat 116, OfNat.ofNat 32, OfNat.ofNat 98,
    OfNat.ofNat 101, OfNat.ofNat 32, OfNat.ofNat 110, OfNat.ofNat 101, OfNat.ofNat 103, OfNat.ofNat 97, OfNat.ofNat 116, OfNat.ofNat 105,
    OfNat.ofNat 118, OfNat.ofNat 101])))))
    (T.next 0 [] ([Value.slice o0 n1 n2, Value.int IntKind.i64 i3] = [Value.slice o0 n1 n2, Value.int IntKind.i64 i3] ∧ ([] : List Deferred) = [])))
theorem e57 (o0 : Option Addr) (n1 n2 : Nat) (i3 : Int) : treeOf Try.prog Try.f57 (codeOf Try.f57) (.s .n (.c [] [0, 1] .n .n)) [.v (.slice o0 n1 n2), .v (.int .i64 i3)] = (t57 o0 n1 n2 i3) := by kernel_rfl
theorem c57 (o0 : Option Addr) (n1 n2 : Nat) (i3 : Int) {w : World} {R : Ending → World → Prop} (h : (t57 o0 n1 n2 i3).sem Try.prog R ρ0 w) : Calls Try.prog 57 #[.slice o0 n1 n2, .int .i64 i3] w R :=
  calls_of mixed Try.func57 rfl rfl (e57 o0 n1 n2 i3) h
def t45 (i0 : Int) (i1 : Int) (b2 : Bool) (n3 n4 : Nat) (n5 n6 : Nat) : T :=
  T.new (Obj.cells (Array.mk [Value.int IntKind.i32 i0, Value.int IntKind.i64 i1, Value.bool b2]) 52) fun n7 =>
  T.drew
    (T.ldI IntKind.i32 n7 0 fun i8 =>
    T.ldI IntKind.i64 n7 1 fun i9 =>
    T.ldI IntKind.i64 n3 n4 fun i10 =>
    T.ldI IntKind.i64 n5 n6 fun i11 =>
    T.call 46 [Value.agg (Array.mk [Value.int IntKind.i32 i8, Value.int IntKind.i64 i9]), Value.int IntKind.i64 i10] fun v12 =>
    T.asI IntKind.i64 v12 fun i13 => T.chk [(Addr.mk n5 n6 none, Value.int IntKind.i64 i11)] (T.ret (Value.bool (i13 != i11))))
theorem e45 (i0 : Int) (i1 : Int) (b2 : Bool) (n3 n4 : Nat) (n5 n6 : Nat) : treeOf Try.prog Try.f45 (codeOf Try.f45) (.s .n (.s (.p [0, 1, 2, 4, 3, 5, 6]) .n)) [.v (.agg #[.int .i32 i0, .int .i64 i1, .bool b2]), .p n3 n4, .p n5 n6] = (t45 i0 i1 b2 n3 n4 n5 n6) := by kernel_rfl
theorem c45 (i0 : Int) (i1 : Int) (b2 : Bool) (n3 n4 : Nat) (n5 n6 : Nat) {w : World} {R : Ending → World → Prop} (h : (t45 i0 i1 b2 n3 n4 n5 n6).sem Try.prog R ρ0 w) : Calls Try.prog 45 #[.agg #[.int .i32 i0, .int .i64 i1, .bool b2], .pointer (some ⟨n3, n4, none⟩), .pointer (some ⟨n5, n6, none⟩)] w R :=
  calls_of mixed Try.func45 rfl rfl (e45 i0 i1 b2 n3 n4 n5 n6) h
def t36 (i0 : Int) (i1 : Int) (b2 : Bool) (n3 n4 : Nat) : T :=
  T.new (Obj.cells (Array.mk [Value.int IntKind.i32 i0, Value.int IntKind.i64 i1, Value.bool b2]) 52) fun n5 =>
  T.ldM n3 n4 fun o6 =>
    T.ldI IntKind.i32 n5 0 fun i7 =>
    T.ldI IntKind.i64 n5 1 fun i8 =>
    T.run (Instr.lookup 68 (Value.map o6) (Value.agg (Array.mk [Value.int IntKind.i32 i7, Value.int IntKind.i64 i8])) true) fun v9 =>
    T.asU v9 fun l10 =>
    T.req (List.length l10 = 2)
    (T.asB (List.headD l10 (Value.tuple (Array.mk []))) fun b11 =>
    T.asB (List.headD (List.tail l10) (Value.tuple (Array.mk []))) fun b12 =>
    T.ite b12 (T.ite b11 (T.ret (Value.bool true)) (T.ldB n5 2 fun b13 => T.ret (Value.bool b13))) (T.ret (Value.bool false)))
theorem e36 (i0 : Int) (i1 : Int) (b2 : Bool) (n3 n4 : Nat) : treeOf Try.prog Try.f36 (codeOf Try.f36) .n [.v (.agg #[.int .i32 i0, .int .i64 i1, .bool b2]), .p n3 n4] = (t36 i0 i1 b2 n3 n4) := by kernel_rfl
theorem c36 (i0 : Int) (i1 : Int) (b2 : Bool) (n3 n4 : Nat) {w : World} {R : Ending → World → Prop} (h : (t36 i0 i1 b2 n3 n4).sem Try.prog R ρ0 w) : Calls Try.prog 36 #[.agg #[.int .i32 i0, .int .i64 i1, .bool b2], .pointer (some ⟨n3, n4, none⟩)] w R :=
  calls_of mixed Try.func36 rfl rfl (e36 i0 i1 b2 n3 n4) h
def t35 (o0 : Option Addr) (n1 n2 : Nat) (n3 n4 : Nat) : T :=
  T.call 51 [Value.slice o0 n1 n2, Value.func (Fn.func 36) (Array.mk []) (Array.mk [Value.pointer (some (Addr.mk n3 n4 none))])] fun v5 =>
  T.asI IntKind.i64 v5 fun i6 => T.ret (Value.bool (decide (i6 ≥ 0)))
theorem e35 (o0 : Option Addr) (n1 n2 : Nat) (n3 n4 : Nat) : treeOf Try.prog Try.f35 (codeOf Try.f35) .n [.v (.slice o0 n1 n2), .v (.func (.func 36) #[] #[.pointer (some ⟨n3, n4, none⟩)])] = (t35 o0 n1 n2 n3 n4) := by kernel_rfl
theorem c35 (o0 : Option Addr) (n1 n2 : Nat) (n3 n4 : Nat) {w : World} {R : Ending → World → Prop} (h : (t35 o0 n1 n2 n3 n4).sem Try.prog R ρ0 w) : Calls Try.prog 35 #[.slice o0 n1 n2, .func (.func 36) #[] #[.pointer (some ⟨n3, n4, none⟩)]] w R :=
  calls_of mixed Try.func35 rfl rfl (e35 o0 n1 n2 n3 n4) h
def t51 (o0 : Option Addr) (n1 n2 : Nat) (n3 n4 : Nat) : T :=
  T.loop 0 [Value.int IntKind.i64 0] fun l5 j6 =>
  T.asI IntKind.i64 (List.headD l5 (Value.tuple (Array.mk []))) fun i7 =>
    T.ite (decide (i7 < (↑n1 : Int)))
    (T.req (0 ≤ i7 ∧ i7 < (↑n1 : Int))
    (T.sm o0 fun n8 n9 =>
    T.ldI IntKind.i32 n8 (n9 + Int.toNat i7 * 3) fun i10 =>
    T.ldI IntKind.i64 n8 (n9 + Int.toNat i7 * 3 + 1) fun i11 =>
    T.ldB n8 (n9 + Int.toNat i7 * 3 + 2) fun b12 =>
    T.call 36
    [Value.agg (Array.mk [Value.int IntKind.i32 i10, Value.int IntKind.i64 i11, Value.bool b12]), Value.pointer (some (Addr.mk n3 n4 none))]
    fun v13 =>
    T.asB v13 fun b14 =>
    T.ite b14 (T.ret (Value.int IntKind.i64 i7))
    (T.next 0 [Value.int IntKind.i64 (IntKind.wrap IntKind.i64 (i7 + 1))]
    ([Value.slice o0 n1 n2, Value.func (Fn.func 36) (Array.mk []) (Array.mk [Value.pointer (some (Addr.mk n3 n4 none))]),
    Value.int IntKind.i64 (↑n1 : Int)] =
    [Value.slice o0 n1 n2, Value.func (Fn.func 36) (Array.mk []) (Array.mk [Value.pointer (some (Addr.mk n3 n4 none))]),
    Value.int IntKind.i64 (↑n1 : Int)] ∧ ([] : List Deferred) = []))))
    (T.ret (Value.int IntKind.i64 (-1)))
theorem e51 (o0 : Option Addr) (n1 n2 : Nat) (n3 n4 : Nat) : treeOf Try.prog Try.f51 (codeOf Try.f51) (.s .n (.s (.s .n (.u (.l [(8, .int .i64)] [0, 1, 7] .n))) .n)) [.v (.slice o0 n1 n2), .v (.func (.func 36) #[] #[.pointer (some ⟨n3, n4, none⟩)])] = (t51 o0 n1 n2 n3 n4) := by kernel_rfl
theorem c51 (o0 : Option Addr) (n1 n2 : Nat) (n3 n4 : Nat) {w : World} {R : Ending → World → Prop} (h : (t51 o0 n1 n2 n3 n4).sem Try.prog R ρ0 w) : Calls Try.prog 51 #[.slice o0 n1 n2, .func (.func 36) #[] #[.pointer (some ⟨n3, n4, none⟩)]] w R :=
  calls_of mixed Try.func51 rfl rfl (e51 o0 n1 n2 n3 n4) h
def t51b (o0 : Option Addr) (n1 n2 : Nat) (n3 n4 : Nat) (n5 n6 : Nat) : T :=
  T.loop 0 [Value.int IntKind.i64 0] fun l7 j8 =>
  T.asI IntKind.i64 (List.headD l7 (Value.tuple (Array.mk []))) fun i9 =>
    T.ite (decide (i9 < (↑n1 : Int)))
    (T.req (0 ≤ i9 ∧ i9 < (↑n1 : Int))
    (T.sm o0 fun n10 n11 =>
    T.ldI IntKind.i32 n10 (n11 + Int.toNat i9 * 3) fun i12 =>
    T.ldI IntKind.i64 n10 (n11 + Int.toNat i9 * 3 + 1) fun i13 =>
    T.ldB n10 (n11 + Int.toNat i9 * 3 + 2) fun b14 =>
    T.call 45
    [Value.agg (Array.mk [Value.int IntKind.i32 i12, Value.int IntKind.i64 i13, Value.bool b14]), Value.pointer (some (Addr.mk n3 n4 none)),
    Value.pointer (some (Addr.mk n5 n6 none))]
    fun v15 =>
    T.asB v15 fun b16 =>
    T.ite b16 (T.ret (Value.int IntKind.i64 i9))
    (T.next 0 [Value.int IntKind.i64 (IntKind.wrap IntKind.i64 (i9 + 1))]
    ([Value.slice o0 n1 n2,
    Value.func (Fn.func 45) (Array.mk [])
    (Array.mk [Value.pointer (some (Addr.mk n3 n4 none)), Value.pointer (some (Addr.mk n5 n6 none))]),
    Value.int IntKind.i64 (↑n1 : Int)] =
    [Value.slice o0 n1 n2,
    Value.func (Fn.func 45) (Array.mk [])
    (Array.mk [Value.pointer (some (Addr.mk n3 n4 none)), Value.pointer (some (Addr.mk n5 n6 none))]),
    Value.int IntKind.i64 (↑n1 : Int)] ∧ ([] : List Deferred) = []))))
    (T.ret (Value.int IntKind.i64 (-1)))
theorem e51b (o0 : Option Addr) (n1 n2 : Nat) (n3 n4 : Nat) (n5 n6 : Nat) : treeOf Try.prog Try.f51 (codeOf Try.f51) (.s .n (.s (.s .n (.u (.l [(8, .int .i64)] [0, 1, 7] .n))) .n)) [.v (.slice o0 n1 n2), .v (.func (.func 45) #[] #[.pointer (some ⟨n3, n4, none⟩), .pointer (some ⟨n5, n6, none⟩)])] = (t51b o0 n1 n2 n3 n4 n5 n6) := by kernel_rfl
theorem c51b (o0 : Option Addr) (n1 n2 : Nat) (n3 n4 : Nat) (n5 n6 : Nat) {w : World} {R : Ending → World → Prop} (h : (t51b o0 n1 n2 n3 n4 n5 n6).sem Try.prog R ρ0 w) : Calls Try.prog 51 #[.slice o0 n1 n2, .func (.func 45) #[] #[.pointer (some ⟨n3, n4, none⟩), .pointer (some ⟨n5, n6, none⟩)]] w R :=
  calls_of mixed Try.func51 rfl rfl (e51b o0 n1 n2 n3 n4 n5 n6) h
def t44 (o0 : Option Addr) (n1 n2 : Nat) (n3 n4 : Nat) (n5 n6 : Nat) : T :=
  T.call 51
  [Value.slice o0 n1 n2,
    Value.func (Fn.func 45) (Array.mk []) (Array.mk [Value.pointer (some (Addr.mk n3 n4 none)), Value.pointer (some (Addr.mk n5 n6 none))])]
  fun v7 =>
  T.asI IntKind.i64 v7 fun i8 =>
    T.ite (i8 == -1) (T.ret (Value.slice o0 n1 n2))
    (T.loop 0 [Value.int IntKind.i64 i8, Value.int IntKind.i64 (IntKind.wrap IntKind.i64 (i8 + 1))] fun l9 j10 =>
    T.asI IntKind.i64 (List.headD l9 (Value.tuple (Array.mk []))) fun i11 =>
    T.asI IntKind.i64 (List.headD (List.tail l9) (Value.tuple (Array.mk []))) fun i12 =>
    T.ite (decide (i12 < (↑n1 : Int)))
    (T.req (0 ≤ i12 ∧ i12 < (↑n1 : Int))
    (T.sm o0 fun n13 n14 =>
    T.ldI IntKind.i32 n13 (n14 + Int.toNat i12 * 3) fun i15 =>
    T.ldI IntKind.i64 n13 (n14 + Int.toNat i12 * 3 + 1) fun i16 =>
    T.ldB n13 (n14 + Int.toNat i12 * 3 + 2) fun b17 =>
    T.new (Obj.cells (Array.mk [Value.int IntKind.i32 0, Value.int IntKind.i64 0, Value.bool false]) 52) fun n18 =>
    T.st n18 0 (Value.int IntKind.i32 i15)
    (T.st n18 1 (Value.int IntKind.i64 i16)
    (T.st n18 2 (Value.bool b17)
    (T.ldI IntKind.i32 n18 0 fun i19 =>
    T.ldI IntKind.i64 n18 1 fun i20 =>
    T.ldB n18 2 fun b21 =>
    T.call 45
    [Value.agg (Array.mk [Value.int IntKind.i32 i19, Value.int IntKind.i64 i20, Value.bool b21]),
    Value.pointer (some (Addr.mk n3 n4 none)), Value.pointer (some (Addr.mk n5 n6 none))]
    fun v22 =>
    T.asB v22 fun b23 =>
    T.ite (!b23)
    (T.ldI IntKind.i32 n18 0 fun i24 =>
    T.ldI IntKind.i64 n18 1 fun i25 =>
    T.ldB n18 2 fun b26 =>
    T.req (0 ≤ i11 ∧ i11 < (↑n1 : Int))
    (T.sm o0 fun n27 n28 =>
    T.st n27 (n28 + Int.toNat i11 * 3) (Value.int IntKind.i32 i24)
    (T.st n27 (n28 + Int.toNat i11 * 3 + 1) (Value.int IntKind.i64 i25)
    (T.st n27 (n28 + Int.toNat i11 * 3 + 2) (Value.bool b26)
    (T.next 0
    [Value.int IntKind.i64 (IntKind.wrap IntKind.i64 (i11 + 1)),
    Value.int IntKind.i64 (IntKind.wrap IntKind.i64 (i12 + 1))]
    ([Value.slice o0 n1 n2,
    Value.func (Fn.func 45) (Array.mk [])
    (Array.mk
    [Value.pointer (some (Addr.mk n3 n4 none)),
    Value.pointer (some (Addr.mk n5 n6 none))])] =
    [Value.slice o0 n1 n2,
    Value.func (Fn.func 45) (Array.mk [])
    (Array.mk
    [Value.pointer (some (Addr.mk n3 n4 none)),
    Value.pointer (some (Addr.mk n5 n6 none))])] ∧ ([] : List Deferred) = []))))))
    (T.next 0 [Value.int IntKind.i64 i11, Value.int IntKind.i64 (IntKind.wrap IntKind.i64 (i12 + 1))]
    ([Value.slice o0 n1 n2,
    Value.func (Fn.func 45) (Array.mk [])
    (Array.mk [Value.pointer (some (Addr.mk n3 n4 none)), Value.pointer (some (Addr.mk n5 n6 none))])] =
    [Value.slice o0 n1 n2,
    Value.func (Fn.func 45) (Array.mk [])
    (Array.mk [Value.pointer (some (Addr.mk n3 n4 none)), Value.pointer (some (Addr.mk n5 n6 none))])] ∧ ([] : List Deferred) = [])))))))
    (T.req (0 ≤ i11 ∧ i11 ≤ (↑n1 : Int))
    (T.run
    (biV Builtin.clear (Array.mk [48]) 0 (Array.mk [Value.slice (sliceBase o0 (Int.toNat i11) n2 3) (n1 - Int.toNat i11) (n2 - Int.toNat i11)]))
    fun v29 => T.req (0 ≤ i11 ∧ i11 ≤ (↑n2 : Int)) (T.ret (Value.slice (sliceBase o0 0 n2 3) (Int.toNat i11) n2)))))
theorem e44 (o0 : Option Addr) (n1 n2 : Nat) (n3 n4 : Nat) (n5 n6 : Nat) : treeOf Try.prog Try.f44 (codeOf Try.f44) (.s .n (.s .n (.s .n (.s (.s .n (.u (.l [(5, .int .i64), (6, .int .i64)] [0, 1] .n))) .n)))) [.v (.slice o0 n1 n2), .v (.func (.func 45) #[] #[.pointer (some ⟨n3, n4, none⟩), .pointer (some ⟨n5, n6, none⟩)])] = (t44 o0 n1 n2 n3 n4 n5 n6) := by kernel_rfl
theorem c44 (o0 : Option Addr) (n1 n2 : Nat) (n3 n4 : Nat) (n5 n6 : Nat) {w : World} {R : Ending → World → Prop} (h : (t44 o0 n1 n2 n3 n4 n5 n6).sem Try.prog R ρ0 w) : Calls Try.prog 44 #[.slice o0 n1 n2, .func (.func 45) #[] #[.pointer (some ⟨n3, n4, none⟩), .pointer (some ⟨n5, n6, none⟩)]] w R :=
  calls_of mixed Try.func44 rfl rfl (e44 o0 n1 n2 n3 n4 n5 n6) h
def t34 (n0 : Nat) (n1 n2 : Nat) : T :=
  T.ldS n1 n2 fun o3 n4 n5 =>
  T.loop 0 [Value.int IntKind.i64 0] fun l6 j7 =>
    T.asI IntKind.i64 (List.headD l6 (Value.tuple (Array.mk []))) fun i8 =>
    T.ite (decide (i8 < (↑n4 : Int)))
    (T.req (0 ≤ i8 ∧ i8 < (↑n4 : Int))
    (T.sm o3 fun n9 n10 =>
    T.ldI IntKind.i64 n9 (n10 + Int.toNat i8 * 2) fun i11 =>
    T.ldI IntKind.i64 n9 (n10 + Int.toNat i8 * 2 + 1) fun i12 =>
    T.new (Obj.cells (Array.mk [Value.int IntKind.i64 0, Value.int IntKind.i64 0]) 66) fun n13 =>
    T.st n13 0 (Value.int IntKind.i64 i11)
    (T.st n13 1 (Value.int IntKind.i64 i12)
    (T.req ((0 : Int) ≤ 0 ∧ (0 : Int) < 2)
    (T.ldI IntKind.i64 n13 0 fun i14 =>
    T.req ((0 : Int) ≤ 1 ∧ (1 : Int) < 2)
    (T.ldI IntKind.i64 n13 1 fun i15 =>
    T.yl n0 [Value.int IntKind.i64 i14, Value.int IntKind.i64 i15] fun v16 =>
    T.asB v16 fun b17 =>
    T.ite (!b17) (T.ret (Value.tuple (Array.mk [])))
    (T.next 0 [Value.int IntKind.i64 (IntKind.wrap IntKind.i64 (i8 + 1))]
    ([Value.func (Fn.yield n0) (Array.mk []) (Array.mk []), Value.slice o3 n4 n5, Value.int IntKind.i64 (↑n4 : Int)] =
    [Value.func (Fn.yield n0) (Array.mk []) (Array.mk []), Value.slice o3 n4 n5, Value.int IntKind.i64 (↑n4 : Int)] ∧ ([] : List Deferred) = []))))))))
    (T.ret (Value.tuple (Array.mk [])))
theorem e34 (n0 : Nat) (n1 n2 : Nat) : treeOf Try.prog Try.f34 (codeOf Try.f34) (.s .n (.u (.l [(7, .int .i64)] [0, 5, 6] .n))) [.v (.func (.yield n0) #[] #[]), .p n1 n2] = (t34 n0 n1 n2) := by kernel_rfl
theorem c34 (n0 : Nat) (n1 n2 : Nat) {w : World} {R : Ending → World → Prop} (h : (t34 n0 n1 n2).sem Try.prog R ρ0 w) : Calls Try.prog 34 #[.func (.yield n0) #[] #[], .pointer (some ⟨n1, n2, none⟩)] w R :=
  calls_of mixed Try.func34 rfl rfl (e34 n0 n1 n2) h
def t11 (n0 n1 : Nat) (o2 : Option Addr) (n3 n4 : Nat) (i5 : Int) : T :=
  T.new (Obj.cells (Array.mk [Value.slice o2 n3 n4]) 23) fun n6 =>
  T.new (Obj.cells (Array.mk [Value.int IntKind.i64 i5]) 3) fun n7 =>
    T.new (Obj.cells (Array.mk [Value.bool false]) 4) fun n8 =>
    T.new (Obj.cells (Array.mk [Value.int IntKind.i64 0]) 3) fun n9 =>
    T.st n9 0 (Value.int IntKind.i64 0)
    (T.rf none 0 34 [Value.pointer (some (Addr.mk n0 n1 none))]
    (fun n10 l11 =>
    T.req (List.length l11 = 2)
    (T.asI IntKind.i64 (List.headD l11 (Value.tuple (Array.mk []))) fun i12 =>
    T.asI IntKind.i64 (List.headD (List.tail l11) (Value.tuple (Array.mk []))) fun i13 =>
    T.beg n10
    (T.blk 1
    (fun l14 j15 =>
    T.ldI IntKind.i64 n9 0 fun i16 =>
    T.st n9 0 (Value.int IntKind.i64 (IntKind.wrap IntKind.i64 (i16 + 1)))
    (T.ldI IntKind.i64 n9 0 fun i17 =>
    T.ldI IntKind.i64 n7 0 fun i18 =>
    T.ite (i17 == i18) (T.st n8 0 (Value.bool true) (T.run (Instr.endRound n10 (some Code.ret)) fun v19 => T.next 0 [v19] True))
    (T.run (Instr.endRound n10 none) fun v20 => T.next 0 [v20] True)))
    (T.ldI IntKind.i64 n9 0 fun i21 =>
    T.ldS n6 0 fun o22 n23 n24 =>
    T.ite (decide (i21 ≥ (↑n23 : Int)))
    (T.st n8 0 (Value.bool false) (T.run (Instr.endRound n10 (some Code.ret)) fun v25 => T.next 0 [v25] True))
    (T.ldS n6 0 fun o26 n27 n28 =>
    T.ldI IntKind.i64 n9 0 fun i29 =>
    T.req (0 ≤ i29 ∧ i29 < (↑n27 : Int))
    (T.sm o26 fun n30 n31 =>
    T.ldI IntKind.i64 n30 (n31 + Int.toNat i29 * 2) fun i32 =>
    T.ldI IntKind.i64 n30 (n31 + Int.toNat i29 * 2 + 1) fun i33 =>
    T.ite (!(i32 == i12 && (i33 == i13 && true)))
    (T.st n8 0 (Value.bool false) (T.run (Instr.endRound n10 (some Code.ret)) fun v34 => T.next 0 [v34] True))
    (T.next 1 []
    ([Value.pointer (some (Addr.mk n7 0 none)), Value.pointer (some (Addr.mk n8 0 none)),
    Value.pointer (some (Addr.mk n9 0 none))] =
    [Value.pointer (some (Addr.mk n7 0 none)), Value.pointer (some (Addr.mk n8 0 none)),
    Value.pointer (some (Addr.mk n9 0 none))] ∧ ([] : List Deferred) = []))))))))
    (fun n35 =>
    T.ldI IntKind.i64 n9 0 fun i36 =>
    T.ldS n6 0 fun o37 n38 n39 => T.st n8 0 (Value.bool (i36 == (↑n38 : Int))) (T.col n35 (T.ldB n8 0 fun b40 => T.ret (Value.bool b40))))
    (fun n41 => T.col n41 (T.ldB n8 0 fun b42 => T.ret (Value.bool b42))) [])
theorem e11 (n0 n1 : Nat) (o2 : Option Addr) (n3 n4 : Nat) (i5 : Int) : treeOf Try.prog Try.f11 (codeOf Try.f11) (.s .n (.s .n (.s (.s .n (.u (.f [.int .i64, .int .i64] .n (.u (.c [] [5, 6, 7] .n .n))))) .n))) [.v (.func (.func 34) #[] #[.pointer (some ⟨n0, n1, none⟩)]), .v (.slice o2 n3 n4), .v (.int .i64 i5)] = (t11 n0 n1 o2 n3 n4 i5) := by kernel_rfl
theorem c11 (n0 n1 : Nat) (o2 : Option Addr) (n3 n4 : Nat) (i5 : Int) {w : World} {R : Ending → World → Prop} (h : (t11 n0 n1 o2 n3 n4 i5).sem Try.prog R ρ0 w) : Calls Try.prog 11 #[.func (.func 34) #[] #[.pointer (some ⟨n0, n1, none⟩)], .slice o2 n3 n4, .int .i64 i5] w R :=
  calls_of mixed Try.func11 rfl rfl (e11 n0 n1 o2 n3 n4 i5) h
end Go.Proofs.Ytndkffhlheaepaa
