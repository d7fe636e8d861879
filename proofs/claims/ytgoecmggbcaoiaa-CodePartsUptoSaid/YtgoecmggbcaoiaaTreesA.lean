/- The functions' trees, printed by a program (wip/tools/Emit.lean) and checked by the kernel against the model's own code. -/
import Derived.Test.YtgoecmggbcaoiaaCode
import Derived.Test.YtgoecmggbcaoiaaProg
namespace Go.Proofs.Ytgoecmggbcaoiaa
open Go hiding Expr
open Go.Proofs.Ytgoecmggbcaoiaa.Tr
set_option linter.unusedVariables false
set_option maxRecDepth 100000
theorem mixed : Try.prog.follows .mixedOrders = true := by kernel_rfl
def t10 (o0 : Option Addr) (n1 n2 : Nat) : T :=
  T.loop 0 [Value.slice none 0 0, Value.int IntKind.i64 0] fun l3 j4 =>
  T.asS (List.headD l3 (Value.tuple (Array.mk []))) fun o5 n6 n7 =>
    T.asI IntKind.i64 (List.headD (List.tail l3) (Value.tuple (Array.mk []))) fun i8 =>
    T.ite (decide (i8 < (↑n1 : Int)))
    (T.req (0 ≤ i8 ∧ i8 < (↑n1 : Int))
    (T.sm o0 fun n9 n10 =>
    T.ldI IntKind.i64 n9 (n10 + Int.toNat i8 * 5) fun i11 =>
    T.ldI IntKind.i64 n9 (n10 + Int.toNat i8 * 5 + 1) fun i12 =>
    T.ldI IntKind.i64 n9 (n10 + Int.toNat i8 * 5 + 2) fun i13 =>
    T.ldI IntKind.i64 n9 (n10 + Int.toNat i8 * 5 + 3) fun i14 =>
    T.ldI IntKind.i64 n9 (n10 + Int.toNat i8 * 5 + 4) fun i15 =>
    T.new
    (Obj.cells
    (Array.mk
    [Value.int IntKind.i64 0, Value.int IntKind.i64 0, Value.int IntKind.i64 0, Value.int IntKind.i64 0, Value.int IntKind.i64 0])
    40)
    fun n16 =>
    T.st n16 0 (Value.int IntKind.i64 i11)
    (T.st n16 1 (Value.int IntKind.i64 i12)
    (T.st n16 2 (Value.int IntKind.i64 i13)
    (T.st n16 3 (Value.int IntKind.i64 i14)
    (T.st n16 4 (Value.int IntKind.i64 i15)
    (T.ldI IntKind.i64 n16 0 fun i17 =>
    T.ldI IntKind.i64 n16 1 fun i18 =>
    T.ldI IntKind.i64 n16 2 fun i19 =>
    T.ldI IntKind.i64 n16 3 fun i20 =>
    T.ldI IntKind.i64 n16 4 fun i21 =>
    T.call 35
    [Value.agg
    (Array.mk
    [Value.int IntKind.i64 i17, Value.int IntKind.i64 i18, Value.int IntKind.i64 i19, Value.int IntKind.i64 i20,
    Value.int IntKind.i64 i21])]
    fun v22 =>
    T.asU v22 fun l23 =>
    T.req (List.length l23 = 2)
    (T.asS (List.headD l23 (Value.tuple (Array.mk []))) fun o24 n25 n26 =>
    T.asI IntKind.i64 (List.headD (List.tail l23) (Value.tuple (Array.mk []))) fun i27 =>
    T.ite (i27 != 0) (T.ret (Value.tuple (Array.mk [Value.slice none 0 0, Value.int IntKind.i64 i27])))
    (T.run
    (biV Builtin.append (Array.mk [23, 23]) 23 (Array.mk [Value.slice o5 n6 n7, Value.slice o24 n25 n26]))
    fun v28 =>
    T.asS v28 fun o29 n30 n31 =>
    T.next 0 [Value.slice o29 n30 n31, Value.int IntKind.i64 (IntKind.wrap IntKind.i64 (i8 + 1))]
    ([Value.slice o0 n1 n2, Value.int IntKind.i64 (↑n1 : Int)] =
    [Value.slice o0 n1 n2, Value.int IntKind.i64 (↑n1 : Int)] ∧ ([] : List Deferred) = []))))))))))
    (T.ite (decide ((↑n6 : Int) > 512)) (T.ret (Value.tuple (Array.mk [Value.slice none 0 0, Value.int IntKind.i64 3])))
    (T.ret (Value.tuple (Array.mk [Value.slice o5 n6 n7, Value.int IntKind.i64 0]))))
theorem e10 (o0 : Option Addr) (n1 n2 : Nat) : treeOf Try.prog Try.f10 (codeOf Try.f10) (.s .n (.s .n (.s (.s .n (.u (.l [(4, .slice), (11, .int .i64)] [9, 10] .n))) .n))) [.v (.slice o0 n1 n2)] = (t10 o0 n1 n2) := by kernel_rfl
theorem c10 (o0 : Option Addr) (n1 n2 : Nat) {w : World} {R : Ending → World → Prop} (h : (t10 o0 n1 n2).sem Try.prog R ρ0 w) : Calls Try.prog 10 #[.slice o0 n1 n2] w R :=
  calls_of mixed Try.func10 rfl rfl (e10 o0 n1 n2) h
def t11 (o0 : Option Addr) (n1 n2 : Nat) : T :=
  T.loop 0 [Value.slice none 0 0, Value.int IntKind.i64 0] fun l3 j4 =>
  T.asS (List.headD l3 (Value.tuple (Array.mk []))) fun o5 n6 n7 =>
    T.asI IntKind.i64 (List.headD (List.tail l3) (Value.tuple (Array.mk []))) fun i8 =>
    T.ite (decide (i8 < (↑n1 : Int)))
    (T.req (0 ≤ i8 ∧ i8 < (↑n1 : Int))
    (T.sm o0 fun n9 n10 =>
    T.ldI IntKind.i64 n9 (n10 + Int.toNat i8 * 5) fun i11 =>
    T.ldI IntKind.i64 n9 (n10 + Int.toNat i8 * 5 + 1) fun i12 =>
    T.ldI IntKind.i64 n9 (n10 + Int.toNat i8 * 5 + 2) fun i13 =>
    T.ldI IntKind.i64 n9 (n10 + Int.toNat i8 * 5 + 3) fun i14 =>
    T.ldI IntKind.i64 n9 (n10 + Int.toNat i8 * 5 + 4) fun i15 =>
    T.new
    (Obj.cells
    (Array.mk
    [Value.int IntKind.i64 0, Value.int IntKind.i64 0, Value.int IntKind.i64 0, Value.int IntKind.i64 0, Value.int IntKind.i64 0])
    40)
    fun n16 =>
    T.st n16 0 (Value.int IntKind.i64 i11)
    (T.st n16 1 (Value.int IntKind.i64 i12)
    (T.st n16 2 (Value.int IntKind.i64 i13)
    (T.st n16 3 (Value.int IntKind.i64 i14)
    (T.st n16 4 (Value.int IntKind.i64 i15)
    (T.ldI IntKind.i64 n16 0 fun i17 =>
    T.ldI IntKind.i64 n16 1 fun i18 =>
    T.ldI IntKind.i64 n16 2 fun i19 =>
    T.ldI IntKind.i64 n16 3 fun i20 =>
    T.ldI IntKind.i64 n16 4 fun i21 =>
    T.call 36
    [Value.agg
    (Array.mk
    [Value.int IntKind.i64 i17, Value.int IntKind.i64 i18, Value.int IntKind.i64 i19, Value.int IntKind.i64 i20,
    Value.int IntKind.i64 i21])]
    fun v22 =>
    T.asI IntKind.i64 v22 fun i23 =>
    T.ite (i23 != 0) (T.ret (Value.tuple (Array.mk [Value.slice none 0 0, Value.int IntKind.i64 i23])))
    (T.ldI IntKind.i64 n16 1 fun i24 =>
    T.new (Obj.cells (Array.mk [Value.int IntKind.u8 (IntKind.wrap IntKind.u8 i24)]) 5) fun n25 =>
    T.run
    (biV Builtin.append (Array.mk [23, 23]) 23
    (Array.mk [Value.slice o5 n6 n7, Value.slice (some (Addr.mk n25 0 none)) 1 1]))
    fun v26 =>
    T.asS v26 fun o27 n28 n29 =>
    T.blk 1
    (fun l30 j31 =>
    T.asS (List.headD l30 (Value.tuple (Array.mk []))) fun o32 n33 n34 =>
    T.blk 1
    (fun l35 j36 =>
    T.asS (List.headD l35 (Value.tuple (Array.mk []))) fun o37 n38 n39 =>
    T.loop 1 [Value.slice o37 n38 n39, Value.int IntKind.i64 0] fun l40 j41 =>
    T.asS (List.headD l40 (Value.tuple (Array.mk []))) fun o42 n43 n44 =>
    T.asI IntKind.i64 (List.headD (List.tail l40) (Value.tuple (Array.mk []))) fun i45 =>
    T.ldI IntKind.i64 n16 1 fun i46 =>
    T.call 39 [Value.int IntKind.i64 i46] fun v47 =>
    T.asI IntKind.i64 v47 fun i48 =>
    T.ite (decide (i45 < i48))
    (T.ldI IntKind.i64 n16 4 fun i49 =>
    T.req (0 ≤ IntKind.wrap IntKind.i64 (8 * i45))
    (T.new
    (Obj.cells
    (Array.mk
    [Value.int IntKind.u8
    (IntKind.wrap IntKind.u8
    (shrI IntKind.i64 i49
    (IntKind.wrap IntKind.i64 (8 * i45))))])
    5)
    fun n50 =>
    T.run
    (biV Builtin.append (Array.mk [23, 23]) 23
    (Array.mk
    [Value.slice o42 n43 n44,
    Value.slice (some (Addr.mk n50 0 none)) 1 1]))
    fun v51 =>
    T.asS v51 fun o52 n53 n54 =>
    T.next 1
    [Value.slice o52 n53 n54,
    Value.int IntKind.i64 (IntKind.wrap IntKind.i64 (i45 + 1))]
    ([Value.slice o0 n1 n2, Value.int IntKind.i64 i8,
    Value.pointer (some (Addr.mk n16 0 none))] =
    [Value.slice o0 n1 n2, Value.int IntKind.i64 i8,
    Value.pointer (some (Addr.mk n16 0 none))] ∧ ([] : List Deferred) = [])))
    (T.next 0
    [Value.slice o42 n43 n44,
    Value.int IntKind.i64 (IntKind.wrap IntKind.i64 (i8 + 1))]
    ([Value.slice o0 n1 n2] = [Value.slice o0 n1 n2] ∧ ([] : List Deferred) = [])))
    (T.ldI IntKind.i64 n16 1 fun i55 =>
    T.call 38 [Value.int IntKind.i64 i55] fun v56 =>
    T.asB v56 fun b57 =>
    T.ite b57
    (T.ldI IntKind.i64 n16 3 fun i58 =>
    T.new (Obj.cells (Array.mk [Value.int IntKind.u8 (IntKind.wrap IntKind.u8 i58)]) 5)
    fun n59 =>
    T.run
    (biV Builtin.append (Array.mk [23, 23]) 23
    (Array.mk
    [Value.slice o32 n33 n34, Value.slice (some (Addr.mk n59 0 none)) 1 1]))
    fun v60 =>
    T.asS v60 fun o61 n62 n63 =>
    T.next 1 [Value.slice o61 n62 n63]
    ([Value.slice o0 n1 n2, Value.int IntKind.i64 i8,
    Value.pointer (some (Addr.mk n16 0 none))] =
    [Value.slice o0 n1 n2, Value.int IntKind.i64 i8,
    Value.pointer (some (Addr.mk n16 0 none))] ∧ ([] : List Deferred) = []))
    (T.next 1 [Value.slice o32 n33 n34]
    ([Value.slice o0 n1 n2, Value.int IntKind.i64 i8,
    Value.pointer (some (Addr.mk n16 0 none))] =
    [Value.slice o0 n1 n2, Value.int IntKind.i64 i8,
    Value.pointer (some (Addr.mk n16 0 none))] ∧ ([] : List Deferred) = []))))
    (T.ldI IntKind.i64 n16 1 fun i64 =>
    T.call 37 [Value.int IntKind.i64 i64] fun v65 =>
    T.asB v65 fun b66 =>
    T.ite b66
    (T.ldI IntKind.i64 n16 2 fun i67 =>
    T.new (Obj.cells (Array.mk [Value.int IntKind.u8 (IntKind.wrap IntKind.u8 i67)]) 5)
    fun n68 =>
    T.run
    (biV Builtin.append (Array.mk [23, 23]) 23
    (Array.mk [Value.slice o27 n28 n29, Value.slice (some (Addr.mk n68 0 none)) 1 1]))
    fun v69 =>
    T.asS v69 fun o70 n71 n72 =>
    T.next 1 [Value.slice o70 n71 n72]
    ([Value.slice o0 n1 n2, Value.int IntKind.i64 i8,
    Value.pointer (some (Addr.mk n16 0 none))] =
    [Value.slice o0 n1 n2, Value.int IntKind.i64 i8,
    Value.pointer (some (Addr.mk n16 0 none))] ∧ ([] : List Deferred) = []))
    (T.next 1 [Value.slice o27 n28 n29]
    ([Value.slice o0 n1 n2, Value.int IntKind.i64 i8,
    Value.pointer (some (Addr.mk n16 0 none))] =
    [Value.slice o0 n1 n2, Value.int IntKind.i64 i8,
    Value.pointer (some (Addr.mk n16 0 none))] ∧ ([] : List Deferred) = [])))))))))))
    (T.ite (decide ((↑n6 : Int) > 512)) (T.ret (Value.tuple (Array.mk [Value.slice none 0 0, Value.int IntKind.i64 3])))
    (T.ret (Value.tuple (Array.mk [Value.slice o5 n6 n7, Value.int IntKind.i64 0]))))
theorem e11 (o0 : Option Addr) (n1 n2 : Nat) : treeOf Try.prog Try.f11 (codeOf Try.f11) (.s .n (.s .n (.s (.s .n (.u (.l [(4, .slice), (5, .int .i64)] [0] (.s .n (.s (.u (.s .n (.s .n (.s .n (.c [(4, .slice)] [0, 5, 6] .n (.c [(4, .slice)] [0, 5, 6] .n (.s .n (.u (.l [(4, .slice), (8, .int .i64)] [0, 5, 6] .n))))))))) .n))))) .n))) [.v (.slice o0 n1 n2)] = (t11 o0 n1 n2) := by kernel_rfl
theorem c11 (o0 : Option Addr) (n1 n2 : Nat) {w : World} {R : Ending → World → Prop} (h : (t11 o0 n1 n2).sem Try.prog R ρ0 w) : Calls Try.prog 11 #[.slice o0 n1 n2] w R :=
  calls_of mixed Try.func11 rfl rfl (e11 o0 n1 n2) h
def t12 (i0 : Int) : T :=
  T.call 40 [Value.int IntKind.i64 i0] fun v1 =>
  T.asU v1 fun l2 =>
    T.req (List.length l2 = 2)
    (T.asI IntKind.i64 (List.headD l2 (Value.tuple (Array.mk []))) fun i3 =>
    T.asB (List.headD (List.tail l2) (Value.tuple (Array.mk []))) fun b4 =>
    T.ite (!b4) (T.ret (Value.tuple (Array.mk [Value.int IntKind.i64 0, Value.bool false])))
    (T.loop 0 [Value.int IntKind.i64 1, Value.int IntKind.i64 0] fun l5 j6 =>
    T.asI IntKind.i64 (List.headD l5 (Value.tuple (Array.mk []))) fun i7 =>
    T.asI IntKind.i64 (List.headD (List.tail l5) (Value.tuple (Array.mk []))) fun i8 =>
    T.ite (decide (i8 < 5))
    (T.req (0 ≤ i8 ∧ i8 < 5)
    (T.asA
    (Value.agg
    (Array.extract
    (Array.mk
    [Value.int IntKind.i64 1, Value.int IntKind.i64 1, Value.int IntKind.i64 2, Value.int IntKind.i64 1, Value.int IntKind.i64 4,
    Value.int IntKind.i64 1, Value.int IntKind.i64 8, Value.int IntKind.i64 2, Value.int IntKind.i64 16, Value.int IntKind.i64 2])
    (Int.toNat i8 * 2) (Int.toNat i8 * 2 + 2)))
    fun l9 =>
    T.req (List.length l9 = 2)
    (T.asI IntKind.i64 (List.headD l9 (Value.tuple (Array.mk []))) fun i10 =>
    T.asI IntKind.i64 (List.headD (List.tail l9) (Value.tuple (Array.mk []))) fun i11 =>
    T.new (Obj.cells (Array.mk [Value.int IntKind.i64 0, Value.int IntKind.i64 0]) 66) fun n12 =>
    T.st n12 0 (Value.int IntKind.i64 i10)
    (T.st n12 1 (Value.int IntKind.i64 i11)
    (T.req ((0 : Int) ≤ 0 ∧ (0 : Int) < 2)
    (T.ldI IntKind.i64 n12 0 fun i13 =>
    T.ite (bitsI BinOp.and IntKind.i64 i3 i13 != 0)
    (T.req ((0 : Int) ≤ 1 ∧ (1 : Int) < 2)
    (T.ldI IntKind.i64 n12 1 fun i14 =>
    T.next 0
    [Value.int IntKind.i64 (IntKind.wrap IntKind.i64 (i7 + i14)),
    Value.int IntKind.i64 (IntKind.wrap IntKind.i64 (i8 + 1))]
    ([Value.int IntKind.i64 i3,
    Value.agg
    (Array.mk
    [Value.int IntKind.i64 1, Value.int IntKind.i64 1, Value.int IntKind.i64 2, Value.int IntKind.i64 1,
    Value.int IntKind.i64 4, Value.int IntKind.i64 1, Value.int IntKind.i64 8, Value.int IntKind.i64 2,
    Value.int IntKind.i64 16, Value.int IntKind.i64 2])] =
    [Value.int IntKind.i64 i3,
    Value.agg
    (Array.mk
    [Value.int IntKind.i64 1, Value.int IntKind.i64 1, Value.int IntKind.i64 2, Value.int IntKind.i64 1,
    Value.int IntKind.i64 4, Value.int IntKind.i64 1, Value.int IntKind.i64 8, Value.int IntKind.i64 2,
    Value.int IntKind.i64 16, Value.int IntKind.i64 2])] ∧ ([] : List Deferred) = [])))
    (T.next 0 [Value.int IntKind.i64 i7, Value.int IntKind.i64 (IntKind.wrap IntKind.i64 (i8 + 1))]
    ([Value.int IntKind.i64 i3,
    Value.agg
    (Array.mk
    [Value.int IntKind.i64 1, Value.int IntKind.i64 1, Value.int IntKind.i64 2, Value.int IntKind.i64 1,
    Value.int IntKind.i64 4, Value.int IntKind.i64 1, Value.int IntKind.i64 8, Value.int IntKind.i64 2,
    Value.int IntKind.i64 16, Value.int IntKind.i64 2])] =
    [Value.int IntKind.i64 i3,
    Value.agg
    (Array.mk
    [Value.int IntKind.i64 1, Value.int IntKind.i64 1, Value.int IntKind.i64 2, Value.int IntKind.i64 1,
    Value.int IntKind.i64 4, Value.int IntKind.i64 1, Value.int IntKind.i64 8, Value.int IntKind.i64 2,
    Value.int IntKind.i64 16, Value.int IntKind.i64 2])] ∧ ([] : List Deferred) = []))))))))
    (T.ret (Value.tuple (Array.mk [Value.int IntKind.i64 i7, Value.bool true])))))
theorem e12 (i0 : Int) : treeOf Try.prog Try.f12 (codeOf Try.f12) (.s .n (.s .n (.s .n (.s .n (.s (.s .n (.u (.l [(6, .int .i64), (22, .int .i64)] [4, 21] .n))) .n))))) [.v (.int .i64 i0)] = (t12 i0) := by kernel_rfl
theorem c12 (i0 : Int) {w : World} {R : Ending → World → Prop} (h : (t12 i0).sem Try.prog R ρ0 w) : Calls Try.prog 12 #[.int .i64 i0] w R :=
  calls_of mixed Try.func12 rfl rfl (e12 i0) h
def t13 (i0 : Int) : T :=
  T.ite (i0 == 0) (T.ret (Value.int IntKind.i64 1))
  (T.blk 0
    (fun l1 j2 =>
    T.asB (List.headD l1 (Value.tuple (Array.mk []))) fun b3 =>
    T.ite b3 (T.ret (Value.int IntKind.i64 2))
    (T.blk 0
    (fun l4 j5 =>
    T.asB (List.headD l4 (Value.tuple (Array.mk []))) fun b6 =>
    T.ite b6 (T.ret (Value.int IntKind.i64 3))
    (T.blk 0
    (fun l7 j8 =>
    T.asB (List.headD l7 (Value.tuple (Array.mk []))) fun b9 =>
    T.ite b9 (T.ret (Value.int IntKind.i64 4))
    (T.ite (decide (i0 ≥ 7)) (T.ite (decide (i0 ≤ 21)) (T.ret (Value.int IntKind.i64 3)) (T.ret (Value.int IntKind.i64 0)))
    (T.ret (Value.int IntKind.i64 0))))
    (T.ite (i0 == 1) (T.next 0 [Value.bool (i0 == 1)] ([Value.int IntKind.i64 i0] = [Value.int IntKind.i64 i0] ∧ ([] : List Deferred) = []))
    (T.ite (i0 == 23) (T.next 0 [Value.bool (i0 == 23)] ([Value.int IntKind.i64 i0] = [Value.int IntKind.i64 i0] ∧ ([] : List Deferred) = []))
    (T.ite (i0 == 26) (T.next 0 [Value.bool (i0 == 26)] ([Value.int IntKind.i64 i0] = [Value.int IntKind.i64 i0] ∧ ([] : List Deferred) = []))
    (T.next 0 [Value.bool (i0 == 27)] ([Value.int IntKind.i64 i0] = [Value.int IntKind.i64 i0] ∧ ([] : List Deferred) = [])))))))
    (T.ite (i0 == 2)
    (T.next 0 [Value.bool (i0 == 2)]
    ([Value.int IntKind.i64 i0, Value.int IntKind.i64 i0] = [Value.int IntKind.i64 i0, Value.int IntKind.i64 i0] ∧ ([] : List Deferred) = []))
    (T.ite (i0 == 3)
    (T.next 0 [Value.bool (i0 == 3)]
    ([Value.int IntKind.i64 i0, Value.int IntKind.i64 i0] = [Value.int IntKind.i64 i0, Value.int IntKind.i64 i0] ∧ ([] : List Deferred) = []))
    (T.ite (i0 == 4)
    (T.next 0 [Value.bool (i0 == 4)]
    ([Value.int IntKind.i64 i0, Value.int IntKind.i64 i0] = [Value.int IntKind.i64 i0, Value.int IntKind.i64 i0] ∧ ([] : List Deferred) = []))
    (T.ite (i0 == 5)
    (T.next 0 [Value.bool (i0 == 5)]
    ([Value.int IntKind.i64 i0, Value.int IntKind.i64 i0] = [Value.int IntKind.i64 i0, Value.int IntKind.i64 i0] ∧ ([] : List Deferred) = []))
    (T.ite (i0 == 19)
    (T.next 0 [Value.bool (i0 == 19)]
    ([Value.int IntKind.i64 i0, Value.int IntKind.i64 i0] = [Value.int IntKind.i64 i0, Value.int IntKind.i64 i0] ∧ ([] : List Deferred) = []))
    (T.next 0 [Value.bool (i0 == 22)]
    ([Value.int IntKind.i64 i0, Value.int IntKind.i64 i0] = [Value.int IntKind.i64 i0, Value.int IntKind.i64 i0] ∧ ([] : List Deferred) = [])))))))))
    (T.ite (i0 == 6)
    (T.next 0 [Value.bool (i0 == 6)] ([Value.int IntKind.i64 i0, Value.int IntKind.i64 i0] = [Value.int IntKind.i64 i0, Value.int IntKind.i64 i0] ∧ ([] : List Deferred) = []))
    (T.ite (i0 == 24)
    (T.next 0 [Value.bool (i0 == 24)]
    ([Value.int IntKind.i64 i0, Value.int IntKind.i64 i0] = [Value.int IntKind.i64 i0, Value.int IntKind.i64 i0] ∧ ([] : List Deferred) = []))
    (T.next 0 [Value.bool (i0 == 25)]
    ([Value.int IntKind.i64 i0, Value.int IntKind.i64 i0] = [Value.int IntKind.i64 i0, Value.int IntKind.i64 i0] ∧ ([] : List Deferred) = [])))))
theorem e13 (i0 : Int) : treeOf Try.prog Try.f13 (codeOf Try.f13) (.s .n (.s (.s .n (.u (.s .n (.s .n (.c [(6, .bool)] [0, 3] .n (.s .n (.c [(10, .bool)] [0, 3] .n (.s .n (.c [(17, .bool)] [0] .n .n))))))))) .n)) [.v (.int .i64 i0)] = (t13 i0) := by kernel_rfl
theorem c13 (i0 : Int) {w : World} {R : Ending → World → Prop} (h : (t13 i0).sem Try.prog R ρ0 w) : Calls Try.prog 13 #[.int .i64 i0] w R :=
  calls_of mixed Try.func13 rfl rfl (e13 i0) h
def t14  : T :=
  T.new
  (Obj.cells
    (Array.mk
    [Value.int IntKind.i64 0, Value.int IntKind.i64 1, Value.int IntKind.i64 2, Value.int IntKind.i64 0, Value.int IntKind.i64 (-1), Value.int IntKind.i64 0,
    Value.int IntKind.i64 24, Value.int IntKind.i64 2, Value.int IntKind.i64 0, Value.int IntKind.i64 0, Value.int IntKind.i64 0, Value.int IntKind.i64 0,
    Value.int IntKind.i64 0, Value.int IntKind.i64 0, Value.int IntKind.i64 0])
    40)
  fun n0 =>
  T.call 10 [Value.slice (some (Addr.mk n0 0 none)) 3 3] fun v1 =>
    T.asU v1 fun l2 =>
    T.req (List.length l2 = 2)
    (T.asS (List.headD l2 (Value.tuple (Array.mk []))) fun o3 n4 n5 =>
    T.asI IntKind.i64 (List.headD (List.tail l2) (Value.tuple (Array.mk []))) fun i6 =>
    T.call 16 [Value.slice o3 n4 n5] fun v7 =>
    T.asU v7 fun l8 =>
    T.req (List.length l8 = 2)
    (T.asS (List.headD l8 (Value.tuple (Array.mk []))) fun o9 n10 n11 =>
    T.asI IntKind.i64 (List.headD (List.tail l8) (Value.tuple (Array.mk []))) fun i12 =>
    T.ite (i6 == 0)
    (T.new
    (Obj.cells
    (Array.mk
    [Value.int IntKind.u8 1, Value.int IntKind.u8 2, Value.int IntKind.u8 255, Value.int IntKind.u8 255, Value.int IntKind.u8 24,
    Value.int IntKind.u8 2, Value.int IntKind.u8 0])
    5)
    fun n13 =>
    T.call 15 [Value.slice o3 n4 n5, Value.slice (some (Addr.mk n13 0 none)) 7 7] fun v14 =>
    T.asB v14 fun b15 =>
    T.ite b15
    (T.ite (i12 == 0)
    (T.ite ((↑n10 : Int) == 3)
    (T.req ((0 : Int) ≤ 1 ∧ (1 : Int) < (↑n10 : Int))
    (T.sm o9 fun n16 n17 =>
    T.ldI IntKind.i64 n16 (n17 + 5) fun i18 =>
    T.ite (i18 == 4)
    (T.call 18 [Value.slice o3 n4 n5] fun v19 =>
    T.asS v19 fun o20 n21 n22 =>
    T.new (Obj.cells (Array.mk [Value.int IntKind.i64 0, Value.int IntKind.i64 4, Value.int IntKind.i64 6]) 3)
    fun n23 =>
    T.call 31 [Value.slice o20 n21 n22, Value.slice (some (Addr.mk n23 0 none)) 3 3] fun v24 =>
    T.asB v24 fun b25 => T.ret (Value.bool b25))
    (T.ret (Value.bool false))))
    (T.ret (Value.bool false)))
    (T.ret (Value.bool false)))
    (T.ret (Value.bool false)))
    (T.ret (Value.bool false))))
theorem e14  : treeOf Try.prog Try.f14 (codeOf Try.f14) .n [] = t14 := by kernel_rfl
theorem c14  {w : World} {R : Ending → World → Prop} (h : t14.sem Try.prog R ρ0 w) : Calls Try.prog 14 #[] w R :=
  calls_of mixed Try.func14 rfl rfl (e14 ) h
def t15 (o0 : Option Addr) (n1 n2 : Nat) (o3 : Option Addr) (n4 n5 : Nat) : T :=
  T.run (convert 23 9 (Value.slice o0 n1 n2)) fun v6 =>
  T.asT v6 fun s7 => T.run (convert 23 9 (Value.slice o3 n4 n5)) fun v8 => T.asT v8 fun s9 => T.ret (Value.bool (ByteArray.toList s7 == ByteArray.toList s9))
theorem e15 (o0 : Option Addr) (n1 n2 : Nat) (o3 : Option Addr) (n4 n5 : Nat) : treeOf Try.prog Try.f15 (codeOf Try.f15) .n [.v (.slice o0 n1 n2), .v (.slice o3 n4 n5)] = (t15 o0 n1 n2 o3 n4 n5) := by kernel_rfl
theorem c15 (o0 : Option Addr) (n1 n2 : Nat) (o3 : Option Addr) (n4 n5 : Nat) {w : World} {R : Ending → World → Prop} (h : (t15 o0 n1 n2 o3 n4 n5).sem Try.prog R ρ0 w) : Calls Try.prog 15 #[.slice o0 n1 n2, .slice o3 n4 n5] w R :=
  calls_of mixed Try.func15 rfl rfl (e15 o0 n1 n2 o3 n4 n5) h
def t16 (o0 : Option Addr) (n1 n2 : Nat) : T :=
  T.new (Obj.cells (Array.mk [Value.slice none 0 0]) 22) fun n3 =>
  T.new (Obj.cells (Array.mk [Value.int IntKind.i64 0]) 24) fun n4 =>
    T.ite (decide ((↑n1 : Int) > 512))
    (T.st n3 0 (Value.slice none 0 0)
    (T.st n4 0 (Value.int IntKind.i64 3)
    (T.ldS n3 0 fun o5 n6 n7 => T.ldI IntKind.i64 n4 0 fun i8 => T.ret (Value.tuple (Array.mk [Value.slice o5 n6 n7, Value.int IntKind.i64 i8])))))
    (T.call2 43 [Value.slice o0 n1 n2]
    (fun v9 =>
    T.asS v9 fun o10 n11 n12 =>
    T.st n3 0 (Value.slice o10 n11 n12)
    (T.new (Obj.map (Array.mk []) 0) fun n13 =>
    T.ldS n3 0 fun o14 n15 n16 =>
    T.loop 0 [Value.int IntKind.i64 0] fun l17 j18 =>
    T.asI IntKind.i64 (List.headD l17 (Value.tuple (Array.mk []))) fun i19 =>
    T.ite (decide (i19 < (↑n15 : Int)))
    (T.req (0 ≤ i19 ∧ i19 < (↑n15 : Int))
    (T.sm o14 fun n20 n21 =>
    T.ldI IntKind.i64 n20 (n21 + Int.toNat i19 * 5) fun i22 =>
    T.ldI IntKind.i64 n20 (n21 + Int.toNat i19 * 5 + 1) fun i23 =>
    T.ldI IntKind.i64 n20 (n21 + Int.toNat i19 * 5 + 2) fun i24 =>
    T.ldI IntKind.i64 n20 (n21 + Int.toNat i19 * 5 + 3) fun i25 =>
    T.ldI IntKind.i64 n20 (n21 + Int.toNat i19 * 5 + 4) fun i26 =>
    T.new
    (Obj.cells
    (Array.mk
    [Value.int IntKind.i64 0, Value.int IntKind.i64 0, Value.int IntKind.i64 0, Value.int IntKind.i64 0,
    Value.int IntKind.i64 0])
    40)
    fun n27 =>
    T.st n27 0 (Value.int IntKind.i64 i22)
    (T.st n27 1 (Value.int IntKind.i64 i23)
    (T.st n27 2 (Value.int IntKind.i64 i24)
    (T.st n27 3 (Value.int IntKind.i64 i25)
    (T.st n27 4 (Value.int IntKind.i64 i26)
    (T.ldI IntKind.i64 n27 0 fun i28 =>
    T.run (muV 70 (Value.map (some n13)) (Value.int IntKind.i64 i28) (Value.bool true)) fun v29 =>
    T.next 0 [Value.int IntKind.i64 (IntKind.wrap IntKind.i64 (i19 + 1))]
    ([Value.pointer (some (Addr.mk n3 0 none)), Value.pointer (some (Addr.mk n4 0 none)),
    Value.map (some n13), Value.slice o14 n15 n16, Value.int IntKind.i64 (↑n15 : Int)] =
    [Value.pointer (some (Addr.mk n3 0 none)), Value.pointer (some (Addr.mk n4 0 none)),
    Value.map (some n13), Value.slice o14 n15 n16, Value.int IntKind.i64 (↑n15 : Int)] ∧
    [Deferred.mk
    (Target.fn (Fn.func 41)
    (Array.mk
    [Value.pointer (some (Addr.mk n3 0 none)), Value.pointer (some (Addr.mk n4 0 none))]))
    (Array.mk [])] =
    [Deferred.mk
    (Target.fn (Fn.func 41)
    (Array.mk
    [Value.pointer (some (Addr.mk n3 0 none)), Value.pointer (some (Addr.mk n4 0 none))]))
    (Array.mk [])]))))))))
    (T.ldS n3 0 fun o30 n31 n32 =>
    T.loop 0 [Value.int IntKind.i64 0] fun l33 j34 =>
    T.asI IntKind.i64 (List.headD l33 (Value.tuple (Array.mk []))) fun i35 =>
    T.ite (decide (i35 < (↑n31 : Int)))
    (T.req (0 ≤ i35 ∧ i35 < (↑n31 : Int))
    (T.sm o30 fun n36 n37 =>
    T.ldI IntKind.i64 n36 (n37 + Int.toNat i35 * 5) fun i38 =>
    T.ldI IntKind.i64 n36 (n37 + Int.toNat i35 * 5 + 1) fun i39 =>
    T.ldI IntKind.i64 n36 (n37 + Int.toNat i35 * 5 + 2) fun i40 =>
    T.ldI IntKind.i64 n36 (n37 + Int.toNat i35 * 5 + 3) fun i41 =>
    T.ldI IntKind.i64 n36 (n37 + Int.toNat i35 * 5 + 4) fun i42 =>
    T.new
    (Obj.cells
    (Array.mk
    [Value.int IntKind.i64 0, Value.int IntKind.i64 0, Value.int IntKind.i64 0, Value.int IntKind.i64 0,
    Value.int IntKind.i64 0])
    40)
    fun n43 =>
    T.st n43 0 (Value.int IntKind.i64 i38)
    (T.st n43 1 (Value.int IntKind.i64 i39)
    (T.st n43 2 (Value.int IntKind.i64 i40)
    (T.st n43 3 (Value.int IntKind.i64 i41)
    (T.st n43 4 (Value.int IntKind.i64 i42)
    (T.ldI IntKind.i64 n43 0 fun i44 =>
    T.ldI IntKind.i64 n43 1 fun i45 =>
    T.ldI IntKind.i64 n43 2 fun i46 =>
    T.ldI IntKind.i64 n43 3 fun i47 =>
    T.ldI IntKind.i64 n43 4 fun i48 =>
    T.call2 44
    [Value.agg
    (Array.mk
    [Value.int IntKind.i64 i44, Value.int IntKind.i64 i45, Value.int IntKind.i64 i46,
    Value.int IntKind.i64 i47, Value.int IntKind.i64 i48])]
    (fun v49 =>
    T.asB v49 fun b50 =>
    T.ite b50
    (T.ldI IntKind.i64 n43 4 fun i51 =>
    T.run (Instr.lookup 70 (Value.map (some n13)) (Value.int IntKind.i64 i51) false)
    fun v52 =>
    T.asB v52 fun b53 =>
    T.ite (!b53)
    (T.call2 45 [Value.int IntKind.i64 131]
    (fun v54 =>
    T.next 0 [Value.int IntKind.i64 (IntKind.wrap IntKind.i64 (i35 + 1))]
    ([Value.pointer (some (Addr.mk n3 0 none)),
    Value.pointer (some (Addr.mk n4 0 none)), Value.map (some n13),
    Value.slice o30 n31 n32, Value.int IntKind.i64 (↑n31 : Int)] =
    [Value.pointer (some (Addr.mk n3 0 none)),
    Value.pointer (some (Addr.mk n4 0 none)), Value.map (some n13),
    Value.slice o30 n31 n32, Value.int IntKind.i64 (↑n31 : Int)] ∧
    [Deferred.mk
    (Target.fn (Fn.func 41)
    (Array.mk
    [Value.pointer (some (Addr.mk n3 0 none)),
    Value.pointer (some (Addr.mk n4 0 none))]))
    (Array.mk [])] =
    [Deferred.mk
    (Target.fn (Fn.func 41)
    (Array.mk
    [Value.pointer (some (Addr.mk n3 0 none)),
    Value.pointer (some (Addr.mk n4 0 none))]))
    (Array.mk [])]))
    fun v55 =>
    T.dcall 41
    [Value.pointer (some (Addr.mk n3 0 none)),
    Value.pointer (some (Addr.mk n4 0 none))]
    (some v55)
    (T.ldS n3 0 fun o56 n57 n58 =>
    T.ldI IntKind.i64 n4 0 fun i59 =>
    T.ret
    (Value.tuple
    (Array.mk
    [Value.slice o56 n57 n58, Value.int IntKind.i64 i59])))
    (T.pan v55))
    (T.next 0 [Value.int IntKind.i64 (IntKind.wrap IntKind.i64 (i35 + 1))]
    ([Value.pointer (some (Addr.mk n3 0 none)),
    Value.pointer (some (Addr.mk n4 0 none)), Value.map (some n13),
    Value.slice o30 n31 n32, Value.int IntKind.i64 (↑n31 : Int)] =
    [Value.pointer (some (Addr.mk n3 0 none)),
    Value.pointer (some (Addr.mk n4 0 none)), Value.map (some n13),
    Value.slice o30 n31 n32, Value.int IntKind.i64 (↑n31 : Int)] ∧
    [Deferred.mk
    (Target.fn (Fn.func 41)
    (Array.mk
    [Value.pointer (some (Addr.mk n3 0 none)),
    Value.pointer (some (Addr.mk n4 0 none))]))
    (Array.mk [])] =
    [Deferred.mk
    (Target.fn (Fn.func 41)
    (Array.mk
    [Value.pointer (some (Addr.mk n3 0 none)),
    Value.pointer (some (Addr.mk n4 0 none))]))
    (Array.mk [])])))
    (T.next 0 [Value.int IntKind.i64 (IntKind.wrap IntKind.i64 (i35 + 1))]
    ([Value.pointer (some (Addr.mk n3 0 none)),
    Value.pointer (some (Addr.mk n4 0 none)), Value.map (some n13),
    Value.slice o30 n31 n32, Value.int IntKind.i64 (↑n31 : Int)] =
    [Value.pointer (some (Addr.mk n3 0 none)),
    Value.pointer (some (Addr.mk n4 0 none)), Value.map (some n13),
    Value.slice o30 n31 n32, Value.int IntKind.i64 (↑n31 : Int)] ∧
    [Deferred.mk
    (Target.fn (Fn.func 41)
    (Array.mk
    [Value.pointer (some (Addr.mk n3 0 none)),
    Value.pointer (some (Addr.mk n4 0 none))]))
    (Array.mk [])] =
    [Deferred.mk
    (Target.fn (Fn.func 41)
    (Array.mk
    [Value.pointer (some (Addr.mk n3 0 none)),
    Value.pointer (some (Addr.mk n4 0 none))]))
    (Array.mk [])])))
    fun v60 =>
    T.dcall 41
    [Value.pointer (some (Addr.mk n3 0 none)), Value.pointer (some (Addr.mk n4 0 none))]
    (some v60)
    (T.ldS n3 0 fun o61 n62 n63 =>
    T.ldI IntKind.i64 n4 0 fun i64 =>
    T.ret (Value.tuple (Array.mk [Value.slice o61 n62 n63, Value.int IntKind.i64 i64])))
    (T.pan v60))))))))
    (T.ldS n3 0 fun o65 n66 n67 =>
    T.st n3 0 (Value.slice o65 n66 n67)
    (T.st n4 0 (Value.int IntKind.i64 0)
    (T.dcall 41 [Value.pointer (some (Addr.mk n3 0 none)), Value.pointer (some (Addr.mk n4 0 none))] none
    (T.ldS n3 0 fun o68 n69 n70 =>
    T.ldI IntKind.i64 n4 0 fun i71 => T.ret (Value.tuple (Array.mk [Value.slice o68 n69 n70, Value.int IntKind.i64 i71])))
    (T.ldS n3 0 fun o72 n73 n74 =>
    T.ldI IntKind.i64 n4 0 fun i75 =>
    T.ret (Value.tuple (Array.mk [Value.slice o72 n73 n74, Value.int IntKind.i64 i75])))))))))
    fun v76 =>
    T.dcall 41 [Value.pointer (some (Addr.mk n3 0 none)), Value.pointer (some (Addr.mk n4 0 none))] (some v76)
    (T.ldS n3 0 fun o77 n78 n79 => T.ldI IntKind.i64 n4 0 fun i80 => T.ret (Value.tuple (Array.mk [Value.slice o77 n78 n79, Value.int IntKind.i64 i80])))
    (T.pan v76))
theorem e16 (o0 : Option Addr) (n1 n2 : Nat) : treeOf Try.prog Try.f16 (codeOf Try.f16) (.s .n (.s .n (.s .n (.s .n (.s .n (.s (.s .n (.u (.l [(18, .int .i64)] [2, 3, 4, 16, 17] .n))) (.s (.s .n (.u (.l [(28, .int .i64)] [2, 3, 4, 26, 27] .n))) .n))))))) [.v (.slice o0 n1 n2)] = (t16 o0 n1 n2) := by kernel_rfl
theorem c16 (o0 : Option Addr) (n1 n2 : Nat) {w : World} {R : Ending → World → Prop} (h : (t16 o0 n1 n2).sem Try.prog R ρ0 w) : Calls Try.prog 16 #[.slice o0 n1 n2] w R :=
  calls_of mixed Try.func16 rfl rfl (e16 o0 n1 n2) h
def t18 (o0 : Option Addr) (n1 n2 : Nat) : T :=
  T.call 16 [Value.slice o0 n1 n2] fun v3 =>
  T.asU v3 fun l4 =>
    T.req (List.length l4 = 2)
    (T.asS (List.headD l4 (Value.tuple (Array.mk []))) fun o5 n6 n7 =>
    T.asI IntKind.i64 (List.headD (List.tail l4) (Value.tuple (Array.mk []))) fun i8 =>
    T.blk 0
    (fun l9 j10 =>
    T.new (Obj.map (Array.mk []) 0) fun n11 =>
    T.loop 0 [Value.int IntKind.i64 0] fun l12 j13 =>
    T.asI IntKind.i64 (List.headD l12 (Value.tuple (Array.mk []))) fun i14 =>
    T.ite (decide (i14 < (↑n6 : Int)))
    (T.req (0 ≤ i14 ∧ i14 < (↑n6 : Int))
    (T.sm o5 fun n15 n16 =>
    T.ldI IntKind.i64 n15 (n16 + Int.toNat i14 * 5) fun i17 =>
    T.ldI IntKind.i64 n15 (n16 + Int.toNat i14 * 5 + 1) fun i18 =>
    T.ldI IntKind.i64 n15 (n16 + Int.toNat i14 * 5 + 2) fun i19 =>
    T.ldI IntKind.i64 n15 (n16 + Int.toNat i14 * 5 + 3) fun i20 =>
    T.ldI IntKind.i64 n15 (n16 + Int.toNat i14 * 5 + 4) fun i21 =>
    T.new
    (Obj.cells
    (Array.mk
    [Value.int IntKind.i64 0, Value.int IntKind.i64 0, Value.int IntKind.i64 0, Value.int IntKind.i64 0,
    Value.int IntKind.i64 0])
    40)
    fun n22 =>
    T.st n22 0 (Value.int IntKind.i64 i17)
    (T.st n22 1 (Value.int IntKind.i64 i18)
    (T.st n22 2 (Value.int IntKind.i64 i19)
    (T.st n22 3 (Value.int IntKind.i64 i20)
    (T.st n22 4 (Value.int IntKind.i64 i21)
    (T.ldI IntKind.i64 n22 0 fun i23 =>
    T.run (muV 73 (Value.map (some n11)) (Value.int IntKind.i64 i23) (Value.int IntKind.i64 i14)) fun v24 =>
    T.next 0 [Value.int IntKind.i64 (IntKind.wrap IntKind.i64 (i14 + 1))]
    ([Value.slice o5 n6 n7, Value.map (some n11), Value.slice o5 n6 n7, Value.int IntKind.i64 (↑n6 : Int)] =
    [Value.slice o5 n6 n7, Value.map (some n11), Value.slice o5 n6 n7,
    Value.int IntKind.i64 (↑n6 : Int)] ∧ ([] : List Deferred) = []))))))))
    (T.run (Instr.makeSlice 74 (Value.int IntKind.i64 (↑n6 : Int)) (Value.int IntKind.i64 (↑n6 : Int))) fun v25 =>
    T.asS v25 fun o26 n27 n28 =>
    T.new (Obj.cells (Array.mk [Value.int IntKind.i64 0]) 3) fun n29 =>
    T.loop 0 [Value.slice (some (Addr.mk n29 0 none)) 1 1] fun l30 j31 =>
    T.asS (List.headD l30 (Value.tuple (Array.mk []))) fun o32 n33 n34 =>
    T.ite (decide ((↑n33 : Int) > 0))
    (T.req (0 ≤ IntKind.wrap IntKind.i64 ((↑n33 : Int) - 1) ∧ IntKind.wrap IntKind.i64 ((↑n33 : Int) - 1) < (↑n33 : Int))
    (T.sm o32 fun n35 n36 =>
    T.ldI IntKind.i64 n35 (n36 + Int.toNat (IntKind.wrap IntKind.i64 ((↑n33 : Int) - 1)) * 1) fun i37 =>
    T.req (0 ≤ IntKind.wrap IntKind.i64 ((↑n33 : Int) - 1) ∧ IntKind.wrap IntKind.i64 ((↑n33 : Int) - 1) ≤ (↑n34 : Int))
    (T.blk 1
    (fun l38 j39 =>
    T.req (0 ≤ i37 ∧ i37 < (↑n27 : Int))
    (T.sm o26 fun n40 n41 =>
    T.st n40 (n41 + Int.toNat i37 * 1) (Value.bool true)
    (T.req (0 ≤ i37 ∧ i37 < (↑n6 : Int))
    (T.sm o5 fun n42 n43 =>
    T.ldI IntKind.i64 n42 (n43 + Int.toNat i37 * 5) fun i44 =>
    T.ldI IntKind.i64 n42 (n43 + Int.toNat i37 * 5 + 1) fun i45 =>
    T.ldI IntKind.i64 n42 (n43 + Int.toNat i37 * 5 + 2) fun i46 =>
    T.ldI IntKind.i64 n42 (n43 + Int.toNat i37 * 5 + 3) fun i47 =>
    T.ldI IntKind.i64 n42 (n43 + Int.toNat i37 * 5 + 4) fun i48 =>
    T.new
    (Obj.cells
    (Array.mk
    [Value.int IntKind.i64 0, Value.int IntKind.i64 0, Value.int IntKind.i64 0,
    Value.int IntKind.i64 0, Value.int IntKind.i64 0])
    40)
    fun n49 =>
    T.st n49 0 (Value.int IntKind.i64 i44)
    (T.st n49 1 (Value.int IntKind.i64 i45)
    (T.st n49 2 (Value.int IntKind.i64 i46)
    (T.st n49 3 (Value.int IntKind.i64 i47)
    (T.st n49 4 (Value.int IntKind.i64 i48)
    (T.blk 1
    (fun l50 j51 =>
    T.asS (List.headD l50 (Value.tuple (Array.mk []))) fun o52 n53 n54 =>
    T.ldI IntKind.i64 n49 0 fun i55 =>
    T.ldI IntKind.i64 n49 1 fun i56 =>
    T.ldI IntKind.i64 n49 2 fun i57 =>
    T.ldI IntKind.i64 n49 3 fun i58 =>
    T.ldI IntKind.i64 n49 4 fun i59 =>
    T.call 44
    [Value.agg
    (Array.mk
    [Value.int IntKind.i64 i55, Value.int IntKind.i64 i56,
    Value.int IntKind.i64 i57, Value.int IntKind.i64 i58,
    Value.int IntKind.i64 i59])]
    fun v60 =>
    T.asB v60 fun b61 =>
    T.ite b61
    (T.ldI IntKind.i64 n49 4 fun i62 =>
    T.run
    (Instr.lookup 73 (Value.map (some n11))
    (Value.int IntKind.i64 i62) false)
    fun v63 =>
    T.asI IntKind.i64 v63 fun i64 =>
    T.new
    (Obj.cells (Array.mk [Value.int IntKind.i64 i64]) 3)
    fun n65 =>
    T.run
    (biV Builtin.append (Array.mk [42, 42]) 42
    (Array.mk
    [Value.slice o52 n53 n54,
    Value.slice (some (Addr.mk n65 0 none)) 1
    1]))
    fun v66 =>
    T.asS v66 fun o67 n68 n69 =>
    T.next 0 [Value.slice o67 n68 n69]
    ([Value.slice o5 n6 n7, Value.map (some n11),
    Value.slice o26 n27 n28] =
    [Value.slice o5 n6 n7,
    Value.map (some n11),
    Value.slice o26 n27 n28] ∧ ([] : List Deferred) = []))
    (T.next 0 [Value.slice o52 n53 n54]
    ([Value.slice o5 n6 n7, Value.map (some n11),
    Value.slice o26 n27 n28] =
    [Value.slice o5 n6 n7, Value.map (some n11),
    Value.slice o26 n27 n28] ∧ ([] : List Deferred) = [])))
    (T.ldI IntKind.i64 n49 1 fun i70 =>
    T.ite (i70 != 0)
    (T.ldI IntKind.i64 n49 1 fun i71 =>
    T.ite (i71 != 22)
    (T.ldI IntKind.i64 n49 1 fun i72 =>
    T.ite (i72 != 25)
    (T.new
    (Obj.cells
    (Array.mk
    [Value.int IntKind.i64 (IntKind.wrap IntKind.i64 (i37 + 1))])
    3)
    fun n73 =>
    T.run
    (biV Builtin.append (Array.mk [42, 42]) 42
    (Array.mk
    [Value.slice (sliceBase o32 0 n34 1)
    (Int.toNat
    (IntKind.wrap IntKind.i64 ((↑n33 : Int) - 1)))
    n34,
    Value.slice (some (Addr.mk n73 0 none)) 1 1]))
    fun v74 =>
    T.asS v74 fun o75 n76 n77 =>
    T.next 1 [Value.slice o75 n76 n77]
    ([Value.slice o5 n6 n7, Value.map (some n11),
    Value.slice o26 n27 n28,
    Value.pointer (some (Addr.mk n49 0 none))] =
    [Value.slice o5 n6 n7, Value.map (some n11),
    Value.slice o26 n27 n28,
    Value.pointer (some (Addr.mk n49 0 none))] ∧ ([] : List Deferred) = []))
    (T.next 1
    [Value.slice (sliceBase o32 0 n34 1)
    (Int.toNat (IntKind.wrap IntKind.i64 ((↑n33 : Int) - 1))) n34]
    ([Value.slice o5 n6 n7, Value.map (some n11),
    Value.slice o26 n27 n28,
    Value.pointer (some (Addr.mk n49 0 none))] =
    [Value.slice o5 n6 n7, Value.map (some n11),
    Value.slice o26 n27 n28,
    Value.pointer (some (Addr.mk n49 0 none))] ∧ ([] : List Deferred) = [])))
    (T.next 1
    [Value.slice (sliceBase o32 0 n34 1)
    (Int.toNat (IntKind.wrap IntKind.i64 ((↑n33 : Int) - 1))) n34]
    ([Value.slice o5 n6 n7, Value.map (some n11), Value.slice o26 n27 n28,
    Value.pointer (some (Addr.mk n49 0 none))] =
    [Value.slice o5 n6 n7, Value.map (some n11),
    Value.slice o26 n27 n28,
    Value.pointer (some (Addr.mk n49 0 none))] ∧ ([] : List Deferred) = [])))
    (T.next 1
    [Value.slice (sliceBase o32 0 n34 1)
    (Int.toNat (IntKind.wrap IntKind.i64 ((↑n33 : Int) - 1))) n34]
    ([Value.slice o5 n6 n7, Value.map (some n11), Value.slice o26 n27 n28,
    Value.pointer (some (Addr.mk n49 0 none))] =
    [Value.slice o5 n6 n7, Value.map (some n11), Value.slice o26 n27 n28,
    Value.pointer (some (Addr.mk n49 0 none))] ∧ ([] : List Deferred) = []))))))))))))
    (T.ite (decide (i37 ≥ (↑n6 : Int)))
    (T.next 0 [Value.slice (sliceBase o32 0 n34 1) (Int.toNat (IntKind.wrap IntKind.i64 ((↑n33 : Int) - 1))) n34]
    ([Value.slice o5 n6 n7, Value.map (some n11), Value.slice o26 n27 n28] =
    [Value.slice o5 n6 n7, Value.map (some n11), Value.slice o26 n27 n28] ∧ ([] : List Deferred) = []))
    (T.req (0 ≤ i37 ∧ i37 < (↑n27 : Int))
    (T.sm o26 fun n78 n79 =>
    T.ldB n78 (n79 + Int.toNat i37 * 1) fun b80 =>
    T.ite b80
    (T.next 0
    [Value.slice (sliceBase o32 0 n34 1) (Int.toNat (IntKind.wrap IntKind.i64 ((↑n33 : Int) - 1))) n34]
    ([Value.slice o5 n6 n7, Value.map (some n11), Value.slice o26 n27 n28] =
    [Value.slice o5 n6 n7, Value.map (some n11), Value.slice o26 n27 n28] ∧ ([] : List Deferred) = []))
    (T.next 1 []
    ([Value.slice o5 n6 n7, Value.map (some n11), Value.slice o26 n27 n28,
    Value.slice (sliceBase o32 0 n34 1) (Int.toNat (IntKind.wrap IntKind.i64 ((↑n33 : Int) - 1))) n34,
    Value.int IntKind.i64 i37] =
    [Value.slice o5 n6 n7, Value.map (some n11), Value.slice o26 n27 n28,
    Value.slice (sliceBase o32 0 n34 1) (Int.toNat (IntKind.wrap IntKind.i64 ((↑n33 : Int) - 1))) n34,
    Value.int IntKind.i64 i37] ∧ ([] : List Deferred) = []))))))))
    (T.loop 0 [Value.slice none 0 0, Value.int IntKind.i64 0] fun l81 j82 =>
    T.asS (List.headD l81 (Value.tuple (Array.mk []))) fun o83 n84 n85 =>
    T.asI IntKind.i64 (List.headD (List.tail l81) (Value.tuple (Array.mk []))) fun i86 =>
    T.ite (decide (i86 < (↑n6 : Int)))
    (T.req (0 ≤ i86 ∧ i86 < (↑n6 : Int))
    (T.sm o5 fun n87 n88 =>
    T.ldI IntKind.i64 n87 (n88 + Int.toNat i86 * 5) fun i89 =>
    T.ldI IntKind.i64 n87 (n88 + Int.toNat i86 * 5 + 1) fun i90 =>
    T.ldI IntKind.i64 n87 (n88 + Int.toNat i86 * 5 + 2) fun i91 =>
    T.ldI IntKind.i64 n87 (n88 + Int.toNat i86 * 5 + 3) fun i92 =>
    T.ldI IntKind.i64 n87 (n88 + Int.toNat i86 * 5 + 4) fun i93 =>
    T.new
    (Obj.cells
    (Array.mk
    [Value.int IntKind.i64 0, Value.int IntKind.i64 0, Value.int IntKind.i64 0,
    Value.int IntKind.i64 0, Value.int IntKind.i64 0])
    40)
    fun n94 =>
    T.st n94 0 (Value.int IntKind.i64 i89)
    (T.st n94 1 (Value.int IntKind.i64 i90)
    (T.st n94 2 (Value.int IntKind.i64 i91)
    (T.st n94 3 (Value.int IntKind.i64 i92)
    (T.st n94 4 (Value.int IntKind.i64 i93)
    (T.req (0 ≤ i86 ∧ i86 < (↑n27 : Int))
    (T.sm o26 fun n95 n96 =>
    T.ldB n95 (n96 + Int.toNat i86 * 1) fun b97 =>
    T.ite b97
    (T.ldI IntKind.i64 n94 0 fun i98 =>
    T.new (Obj.cells (Array.mk [Value.int IntKind.i64 i98]) 3) fun n99 =>
    T.run
    (biV Builtin.append (Array.mk [42, 42]) 42
    (Array.mk
    [Value.slice o83 n84 n85, Value.slice (some (Addr.mk n99 0 none)) 1 1]))
    fun v100 =>
    T.asS v100 fun o101 n102 n103 =>
    T.next 0
    [Value.slice o101 n102 n103,
    Value.int IntKind.i64 (IntKind.wrap IntKind.i64 (i86 + 1))]
    ([Value.slice o26 n27 n28, Value.slice o5 n6 n7,
    Value.int IntKind.i64 (↑n6 : Int)] =
    [Value.slice o26 n27 n28, Value.slice o5 n6 n7,
    Value.int IntKind.i64 (↑n6 : Int)] ∧ ([] : List Deferred) = []))
    (T.next 0
    [Value.slice o83 n84 n85,
    Value.int IntKind.i64 (IntKind.wrap IntKind.i64 (i86 + 1))]
    ([Value.slice o26 n27 n28, Value.slice o5 n6 n7,
    Value.int IntKind.i64 (↑n6 : Int)] =
    [Value.slice o26 n27 n28, Value.slice o5 n6 n7,
    Value.int IntKind.i64 (↑n6 : Int)] ∧ ([] : List Deferred) = []))))))))))
    (T.ret (Value.slice o83 n84 n85)))))
    (T.ite (i8 != 0) (T.ret (Value.slice none 0 0))
    (T.ite ((↑n6 : Int) == 0) (T.ret (Value.slice none 0 0)) (T.next 0 [] ([Value.slice o5 n6 n7] = [Value.slice o5 n6 n7] ∧ ([] : List Deferred) = [])))))
theorem e18 (o0 : Option Addr) (n1 n2 : Nat) : treeOf Try.prog Try.f18 (codeOf Try.f18) (.s .n (.s .n (.c [] [3] .n (.s .n (.s (.s .n (.u (.l [(30, .int .i64)] [3, 5, 28, 29] .n))) (.s .n (.s .n (.s (.u (.l [(9, .slice)] [3, 5, 8] (.s .n (.u (.s .n (.s .n (.c [] [3, 5, 8, 9, 10] .n (.s .n (.s .n (.c [(9, .slice)] [3, 5, 8, 11] .n .n)))))))))) (.s .n (.s (.s .n (.u (.l [(12, .slice), (104, .int .i64)] [8, 102, 103] .n))) .n)))))))))) [.v (.slice o0 n1 n2)] = (t18 o0 n1 n2) := by kernel_rfl
theorem c18 (o0 : Option Addr) (n1 n2 : Nat) {w : World} {R : Ending → World → Prop} (h : (t18 o0 n1 n2).sem Try.prog R ρ0 w) : Calls Try.prog 18 #[.slice o0 n1 n2] w R :=
  calls_of mixed Try.func18 rfl rfl (e18 o0 n1 n2) h
def t27 (o0 : Option Addr) (n1 n2 : Nat) (i3 : Int) : T :=
  T.new (Obj.cells (Array.mk [Value.int IntKind.i64 0, Value.int IntKind.i64 0, Value.int IntKind.i64 0, Value.int IntKind.i64 0, Value.int IntKind.i64 0]) 40)
  fun n4 =>
  T.blk 0
    (fun l5 j6 =>
    T.req (0 ≤ i3 ∧ i3 < (↑n1 : Int))
    (T.sm o0 fun n7 n8 =>
    T.ldI IntKind.u8 n7 (n8 + Int.toNat i3 * 1) fun i9 =>
    T.call 12 [Value.int IntKind.i64 (IntKind.wrap IntKind.i64 i9)] fun v10 =>
    T.asU v10 fun l11 =>
    T.req (List.length l11 = 2)
    (T.asI IntKind.i64 (List.headD l11 (Value.tuple (Array.mk []))) fun i12 =>
    T.asB (List.headD (List.tail l11) (Value.tuple (Array.mk []))) fun b13 =>
    T.blk 0
    (fun l14 j15 =>
    T.req (0 ≤ i3 ∧ i3 < (↑n1 : Int))
    (T.sm o0 fun n16 n17 =>
    T.ldI IntKind.u8 n16 (n17 + Int.toNat i3 * 1) fun i18 =>
    T.new
    (Obj.cells
    (Array.mk
    [Value.int IntKind.i64 0, Value.int IntKind.i64 0, Value.int IntKind.i64 0, Value.int IntKind.i64 0,
    Value.int IntKind.i64 0])
    40)
    fun n19 =>
    T.st n19 0 (Value.int IntKind.i64 i3)
    (T.st n19 1 (Value.int IntKind.i64 (IntKind.wrap IntKind.i64 i18))
    (T.st n19 2 (Value.int IntKind.i64 0)
    (T.st n19 3 (Value.int IntKind.i64 0)
    (T.st n19 4 (Value.int IntKind.i64 0)
    (T.ldI IntKind.i64 n19 1 fun i20 =>
    T.call 40 [Value.int IntKind.i64 i20] fun v21 =>
    T.asU v21 fun l22 =>
    T.req (List.length l22 = 2)
    (T.asI IntKind.i64 (List.headD l22 (Value.tuple (Array.mk []))) fun i23 =>
    T.asB (List.headD (List.tail l22) (Value.tuple (Array.mk []))) fun b24 =>
    T.req
    (0 ≤ IntKind.wrap IntKind.i64 (i3 + i12) ∧
    IntKind.wrap IntKind.i64 (i3 + i12) ≤ (↑n2 : Int) ∧
    0 ≤ IntKind.wrap IntKind.i64 (i3 + 1) ∧
    IntKind.wrap IntKind.i64 (i3 + 1) ≤ IntKind.wrap IntKind.i64 (i3 + i12))
    (T.blk 0
    (fun l25 j26 =>
    T.asS (List.headD l25 (Value.tuple (Array.mk []))) fun o27 n28 n29 =>
    T.blk 0
    (fun l30 j31 =>
    T.asS (List.headD l30 (Value.tuple (Array.mk []))) fun o32 n33 n34 =>
    T.blk 0
    (fun l35 j36 =>
    T.ldI IntKind.i64 n19 0 fun i37 =>
    T.ldI IntKind.i64 n19 1 fun i38 =>
    T.ldI IntKind.i64 n19 2 fun i39 =>
    T.ldI IntKind.i64 n19 3 fun i40 =>
    T.ldI IntKind.i64 n19 4 fun i41 =>
    T.call 54
    [Value.agg
    (Array.mk
    [Value.int IntKind.i64 i37, Value.int IntKind.i64 i38,
    Value.int IntKind.i64 i39, Value.int IntKind.i64 i40,
    Value.int IntKind.i64 i41])]
    fun v42 =>
    T.asB v42 fun b43 =>
    T.ite (!b43)
    (T.st n4 0 (Value.int IntKind.i64 0)
    (T.st n4 1 (Value.int IntKind.i64 0)
    (T.st n4 2 (Value.int IntKind.i64 0)
    (T.st n4 3 (Value.int IntKind.i64 0)
    (T.st n4 4 (Value.int IntKind.i64 0)
    (T.ldI IntKind.i64 n4 0 fun i44 =>
    T.ldI IntKind.i64 n4 1 fun i45 =>
    T.ldI IntKind.i64 n4 2 fun i46 =>
    T.ldI IntKind.i64 n4 3 fun i47 =>
    T.ldI IntKind.i64 n4 4 fun i48 =>
    T.ret
    (Value.tuple
    (Array.mk
    [Value.agg
    (Array.mk
    [Value.int IntKind.i64 i44,
    Value.int IntKind.i64 i45,
    Value.int IntKind.i64 i46,
    Value.int IntKind.i64 i47,
    Value.int IntKind.i64 i48]),
    Value.int IntKind.i64 0,
    Value.int IntKind.i64 132]))))))))
    (T.ldI IntKind.i64 n19 0 fun i49 =>
    T.ldI IntKind.i64 n19 1 fun i50 =>
    T.ldI IntKind.i64 n19 2 fun i51 =>
    T.ldI IntKind.i64 n19 3 fun i52 =>
    T.ldI IntKind.i64 n19 4 fun i53 =>
    T.st n4 0 (Value.int IntKind.i64 i49)
    (T.st n4 1 (Value.int IntKind.i64 i50)
    (T.st n4 2 (Value.int IntKind.i64 i51)
    (T.st n4 3 (Value.int IntKind.i64 i52)
    (T.st n4 4 (Value.int IntKind.i64 i53)
    (T.ldI IntKind.i64 n4 0 fun i54 =>
    T.ldI IntKind.i64 n4 1 fun i55 =>
    T.ldI IntKind.i64 n4 2 fun i56 =>
    T.ldI IntKind.i64 n4 3 fun i57 =>
    T.ldI IntKind.i64 n4 4 fun i58 =>
    T.ret
    (Value.tuple
    (Array.mk
    [Value.agg
    (Array.mk
    [Value.int IntKind.i64 i54,
    Value.int IntKind.i64 i55,
    Value.int IntKind.i64 i56,
    Value.int IntKind.i64 i57,
    Value.int IntKind.i64
    i58]),
    Value.int IntKind.i64
    (IntKind.wrap IntKind.i64
    (i3 + i12)),
    Value.int IntKind.i64
    0])))))))))
    (T.ite (bitsI BinOp.and IntKind.i64 i23 4 != 0)
    (T.req ((0 : Int) ≤ 0 ∧ (0 : Int) < (↑n33 : Int))
    (T.sm o32 fun n59 n60 =>
    T.ldI IntKind.u8 n59 n60 fun i61 =>
    T.st n19 4 (Value.int IntKind.i64 (IntKind.wrap IntKind.i64 i61))
    (T.next 0 []
    ([Value.int IntKind.i64 i3, Value.pointer (some (Addr.mk n4 0 none)),
    Value.int IntKind.i64 i12,
    Value.pointer (some (Addr.mk n19 0 none))] =
    [Value.int IntKind.i64 i3, Value.pointer (some (Addr.mk n4 0 none)),
    Value.int IntKind.i64 i12,
    Value.pointer (some (Addr.mk n19 0 none))] ∧ ([] : List Deferred) = []))))
    (T.ite (bitsI BinOp.and IntKind.i64 i23 8 != 0)
    (T.drew
    (T.req ((0 : Int) ≤ 0 ∧ (0 : Int) < (↑n33 : Int))
    (T.sm o32 fun n62 n63 =>
    T.ldI IntKind.u8 n62 n63 fun i64 =>
    T.req ((0 : Int) ≤ 1 ∧ (1 : Int) < (↑n33 : Int))
    (T.sm o32 fun n65 n66 =>
    T.ldI IntKind.u8 n65 (n66 + 1) fun i67 =>
    T.req ((0 : Int) ≤ 8)
    (T.st n19 4
    (Value.int IntKind.i64
    (IntKind.wrap IntKind.i64
    (IntKind.wrap IntKind.i16
    (bitsI BinOp.or IntKind.u16 (IntKind.wrap IntKind.u16 i64)
    (shlI IntKind.u16 (IntKind.wrap IntKind.u16 i67) 8)))))
    (T.chk []
    (T.next 0 []
    ([Value.int IntKind.i64 i3,
    Value.pointer (some (Addr.mk n4 0 none)),
    Value.int IntKind.i64 i12,
    Value.pointer (some (Addr.mk n19 0 none))] =
    [Value.int IntKind.i64 i3,
    Value.pointer (some (Addr.mk n4 0 none)),
    Value.int IntKind.i64 i12,
    Value.pointer (some (Addr.mk n19 0 none))] ∧ ([] : List Deferred) = []))))))))
    (T.ite (bitsI BinOp.and IntKind.i64 i23 16 != 0)
    (T.drew
    (T.req ((0 : Int) ≤ 0 ∧ (0 : Int) < (↑n33 : Int))
    (T.sm o32 fun n68 n69 =>
    T.ldI IntKind.u8 n68 n69 fun i70 =>
    T.req ((0 : Int) ≤ 1 ∧ (1 : Int) < (↑n33 : Int))
    (T.sm o32 fun n71 n72 =>
    T.ldI IntKind.u8 n71 (n72 + 1) fun i73 =>
    T.req ((0 : Int) ≤ 8)
    (T.st n19 4
    (Value.int IntKind.i64
    (IntKind.wrap IntKind.i64
    (bitsI BinOp.or IntKind.u16 (IntKind.wrap IntKind.u16 i70)
    (shlI IntKind.u16 (IntKind.wrap IntKind.u16 i73) 8))))
    (T.chk []
    (T.next 0 []
    ([Value.int IntKind.i64 i3,
    Value.pointer (some (Addr.mk n4 0 none)),
    Value.int IntKind.i64 i12,
    Value.pointer (some (Addr.mk n19 0 none))] =
    [Value.int IntKind.i64 i3,
    Value.pointer (some (Addr.mk n4 0 none)),
    Value.int IntKind.i64 i12,
    Value.pointer (some (Addr.mk n19 0 none))] ∧ ([] : List Deferred) = []))))))))
    (T.next 0 []
    ([Value.int IntKind.i64 i3, Value.pointer (some (Addr.mk n4 0 none)),
    Value.int IntKind.i64 i12, Value.pointer (some (Addr.mk n19 0 none))] =
    [Value.int IntKind.i64 i3, Value.pointer (some (Addr.mk n4 0 none)),
    Value.int IntKind.i64 i12, Value.pointer (some (Addr.mk n19 0 none))] ∧ ([] : List Deferred) = []))))))
    (T.ite (bitsI BinOp.and IntKind.i64 i23 2 != 0)
    (T.drew
    (T.req ((0 : Int) ≤ 0 ∧ (0 : Int) < (↑n28 : Int))
    (T.sm o27 fun n74 n75 =>
    T.ldI IntKind.u8 n74 n75 fun i76 =>
    T.req ((0 : Int) ≤ 1 ∧ (1 : Int) ≤ (↑n28 : Int))
    (T.st n19 3 (Value.int IntKind.i64 (IntKind.wrap IntKind.i64 i76))
    (T.chk []
    (T.next 0 [Value.slice (sliceBase o27 1 n29 1) (n28 - 1) (n29 - 1)]
    ([Value.int IntKind.i64 i3, Value.pointer (some (Addr.mk n4 0 none)),
    Value.int IntKind.i64 i12, Value.pointer (some (Addr.mk n19 0 none)),
    Value.int IntKind.i64 i23] =
    [Value.int IntKind.i64 i3, Value.pointer (some (Addr.mk n4 0 none)),
    Value.int IntKind.i64 i12, Value.pointer (some (Addr.mk n19 0 none)),
    Value.int IntKind.i64 i23] ∧ ([] : List Deferred) = [])))))))
    (T.next 0 [Value.slice o27 n28 n29]
    ([Value.int IntKind.i64 i3, Value.pointer (some (Addr.mk n4 0 none)),
    Value.int IntKind.i64 i12, Value.pointer (some (Addr.mk n19 0 none)),
    Value.int IntKind.i64 i23] =
    [Value.int IntKind.i64 i3, Value.pointer (some (Addr.mk n4 0 none)),
    Value.int IntKind.i64 i12, Value.pointer (some (Addr.mk n19 0 none)),
    Value.int IntKind.i64 i23] ∧ ([] : List Deferred) = []))))
    (T.ite (bitsI BinOp.and IntKind.i64 i23 1 != 0)
    (T.drew
    (T.req
    ((0 : Int) ≤ 0 ∧ (0 : Int) <     (↑(Int.toNat (IntKind.wrap IntKind.i64 (i3 + i12)) -
    Int.toNat (IntKind.wrap IntKind.i64 (i3 + 1))) :
    Int))
    (T.sm (sliceBase o0 (Int.toNat (IntKind.wrap IntKind.i64 (i3 + 1))) n2 1) fun n77 n78 =>
    T.ldI IntKind.u8 n77 n78 fun i79 =>
    T.req
    ((0 : Int) ≤ 1 ∧ (1 : Int) ≤     (↑(Int.toNat (IntKind.wrap IntKind.i64 (i3 + i12)) -
    Int.toNat (IntKind.wrap IntKind.i64 (i3 + 1))) :
    Int))
    (T.st n19 2 (Value.int IntKind.i64 (IntKind.wrap IntKind.i64 i79))
    (T.chk []
    (T.next 0
    [Value.slice
    (sliceBase (sliceBase o0 (Int.toNat (IntKind.wrap IntKind.i64 (i3 + 1))) n2 1)
    1 (n2 - Int.toNat (IntKind.wrap IntKind.i64 (i3 + 1))) 1)
    (Int.toNat (IntKind.wrap IntKind.i64 (i3 + i12)) -
    Int.toNat (IntKind.wrap IntKind.i64 (i3 + 1)) -
    1)
    (n2 - Int.toNat (IntKind.wrap IntKind.i64 (i3 + 1)) - 1)]
    ([Value.int IntKind.i64 i3, Value.pointer (some (Addr.mk n4 0 none)),
    Value.int IntKind.i64 i12, Value.pointer (some (Addr.mk n19 0 none)),
    Value.int IntKind.i64 i23] =
    [Value.int IntKind.i64 i3, Value.pointer (some (Addr.mk n4 0 none)),
    Value.int IntKind.i64 i12, Value.pointer (some (Addr.mk n19 0 none)),
    Value.int IntKind.i64 i23] ∧ ([] : List Deferred) = [])))))))
    (T.next 0
    [Value.slice (sliceBase o0 (Int.toNat (IntKind.wrap IntKind.i64 (i3 + 1))) n2 1)
    (Int.toNat (IntKind.wrap IntKind.i64 (i3 + i12)) -
    Int.toNat (IntKind.wrap IntKind.i64 (i3 + 1)))
    (n2 - Int.toNat (IntKind.wrap IntKind.i64 (i3 + 1)))]
    ([Value.int IntKind.i64 i3, Value.pointer (some (Addr.mk n4 0 none)), Value.int IntKind.i64 i12,
    Value.pointer (some (Addr.mk n19 0 none)), Value.int IntKind.i64 i23] =
    [Value.int IntKind.i64 i3, Value.pointer (some (Addr.mk n4 0 none)),
    Value.int IntKind.i64 i12, Value.pointer (some (Addr.mk n19 0 none)),
    Value.int IntKind.i64 i23] ∧ ([] : List Deferred) = []))))))))))))
    (T.ite (!b13)
    (T.st n4 0 (Value.int IntKind.i64 0)
    (T.st n4 1 (Value.int IntKind.i64 0)
    (T.st n4 2 (Value.int IntKind.i64 0)
    (T.st n4 3 (Value.int IntKind.i64 0)
    (T.st n4 4 (Value.int IntKind.i64 0)
    (T.ldI IntKind.i64 n4 0 fun i80 =>
    T.ldI IntKind.i64 n4 1 fun i81 =>
    T.ldI IntKind.i64 n4 2 fun i82 =>
    T.ldI IntKind.i64 n4 3 fun i83 =>
    T.ldI IntKind.i64 n4 4 fun i84 =>
    T.ret
    (Value.tuple
    (Array.mk
    [Value.agg
    (Array.mk
    [Value.int IntKind.i64 i80, Value.int IntKind.i64 i81, Value.int IntKind.i64 i82,
    Value.int IntKind.i64 i83, Value.int IntKind.i64 i84]),
    Value.int IntKind.i64 0, Value.int IntKind.i64 130]))))))))
    (T.ite (decide (i12 > IntKind.wrap IntKind.i64 ((↑n1 : Int) - i3)))
    (T.st n4 0 (Value.int IntKind.i64 0)
    (T.st n4 1 (Value.int IntKind.i64 0)
    (T.st n4 2 (Value.int IntKind.i64 0)
    (T.st n4 3 (Value.int IntKind.i64 0)
    (T.st n4 4 (Value.int IntKind.i64 0)
    (T.ldI IntKind.i64 n4 0 fun i85 =>
    T.ldI IntKind.i64 n4 1 fun i86 =>
    T.ldI IntKind.i64 n4 2 fun i87 =>
    T.ldI IntKind.i64 n4 3 fun i88 =>
    T.ldI IntKind.i64 n4 4 fun i89 =>
    T.ret
    (Value.tuple
    (Array.mk
    [Value.agg
    (Array.mk
    [Value.int IntKind.i64 i85, Value.int IntKind.i64 i86, Value.int IntKind.i64 i87,
    Value.int IntKind.i64 i88, Value.int IntKind.i64 i89]),
    Value.int IntKind.i64 0, Value.int IntKind.i64 130]))))))))
    (T.next 0 []
    ([Value.slice o0 n1 n2, Value.int IntKind.i64 i3, Value.pointer (some (Addr.mk n4 0 none)), Value.int IntKind.i64 i12] =
    [Value.slice o0 n1 n2, Value.int IntKind.i64 i3, Value.pointer (some (Addr.mk n4 0 none)), Value.int IntKind.i64 i12] ∧ ([] : List Deferred) = [])))))))
    (T.ite (decide (i3 < 0))
    (T.st n4 0 (Value.int IntKind.i64 0)
    (T.st n4 1 (Value.int IntKind.i64 0)
    (T.st n4 2 (Value.int IntKind.i64 0)
    (T.st n4 3 (Value.int IntKind.i64 0)
    (T.st n4 4 (Value.int IntKind.i64 0)
    (T.ldI IntKind.i64 n4 0 fun i90 =>
    T.ldI IntKind.i64 n4 1 fun i91 =>
    T.ldI IntKind.i64 n4 2 fun i92 =>
    T.ldI IntKind.i64 n4 3 fun i93 =>
    T.ldI IntKind.i64 n4 4 fun i94 =>
    T.ret
    (Value.tuple
    (Array.mk
    [Value.agg
    (Array.mk
    [Value.int IntKind.i64 i90, Value.int IntKind.i64 i91, Value.int IntKind.i64 i92, Value.int IntKind.i64 i93,
    Value.int IntKind.i64 i94]),
    Value.int IntKind.i64 0, Value.int IntKind.i64 130]))))))))
    (T.ite (decide (i3 ≥ (↑n1 : Int)))
    (T.st n4 0 (Value.int IntKind.i64 0)
    (T.st n4 1 (Value.int IntKind.i64 0)
    (T.st n4 2 (Value.int IntKind.i64 0)
    (T.st n4 3 (Value.int IntKind.i64 0)
    (T.st n4 4 (Value.int IntKind.i64 0)
    (T.ldI IntKind.i64 n4 0 fun i95 =>
    T.ldI IntKind.i64 n4 1 fun i96 =>
    T.ldI IntKind.i64 n4 2 fun i97 =>
    T.ldI IntKind.i64 n4 3 fun i98 =>
    T.ldI IntKind.i64 n4 4 fun i99 =>
    T.ret
    (Value.tuple
    (Array.mk
    [Value.agg
    (Array.mk
    [Value.int IntKind.i64 i95, Value.int IntKind.i64 i96, Value.int IntKind.i64 i97, Value.int IntKind.i64 i98,
    Value.int IntKind.i64 i99]),
    Value.int IntKind.i64 0, Value.int IntKind.i64 130]))))))))
    (T.next 0 []
    ([Value.slice o0 n1 n2, Value.int IntKind.i64 i3, Value.pointer (some (Addr.mk n4 0 none))] =
    [Value.slice o0 n1 n2, Value.int IntKind.i64 i3, Value.pointer (some (Addr.mk n4 0 none))] ∧ ([] : List Deferred) = []))))
theorem e27 (o0 : Option Addr) (n1 n2 : Nat) (i3 : Int) : treeOf Try.prog Try.f27 (codeOf Try.f27) (.s .n (.c [] [0, 1, 4] .n (.s .n (.c [] [0, 1, 4, 7] .n (.s .n (.s .n (.s .n (.c [(12, .slice)] [1, 4, 7, 9, 10] (.s .n (.s (.p [0, 1, 2, 3, 4, 5, 6, 7, 8]) .n)) (.c [(12, .slice)] [1, 4, 7, 9, 10] (.s .n (.s (.p [0, 1, 2, 3, 4, 5, 6, 7, 8]) .n)) (.c [] [1, 4, 7, 9] (.u (.s .n (.s .n (.s .n (.s (.p [0, 1, 2, 3, 4, 5, 6, 7, 8, 9, 10, 11, 12, 13]) (.s .n (.s (.p [0, 1, 2, 3, 4, 5, 6, 7, 8, 9, 10, 11, 12]) .n))))))) .n)))))))))) [.v (.slice o0 n1 n2), .v (.int .i64 i3)] = (t27 o0 n1 n2 i3) := by kernel_rfl
theorem c27 (o0 : Option Addr) (n1 n2 : Nat) (i3 : Int) {w : World} {R : Ending → World → Prop} (h : (t27 o0 n1 n2 i3).sem Try.prog R ρ0 w) : Calls Try.prog 27 #[.slice o0 n1 n2, .int .i64 i3] w R :=
  calls_of mixed Try.func27 rfl rfl (e27 o0 n1 n2 i3) h
def t31 (o0 : Option Addr) (n1 n2 : Nat) (o3 : Option Addr) (n4 n5 : Nat) : T :=
  T.ite ((↑n1 : Int) != (↑n4 : Int)) (T.ret (Value.bool false))
  (T.loop 0 [Value.int IntKind.i64 0] fun l6 j7 =>
    T.asI IntKind.i64 (List.headD l6 (Value.tuple (Array.mk []))) fun i8 =>
    T.ite (decide (i8 < (↑n1 : Int)))
    (T.drew
    (T.req (0 ≤ i8 ∧ i8 < (↑n1 : Int))
    (T.sm o0 fun n9 n10 =>
    T.ldI IntKind.i64 n9 (n10 + Int.toNat i8 * 1) fun i11 =>
    T.req (0 ≤ i8 ∧ i8 < (↑n4 : Int))
    (T.sm o3 fun n12 n13 =>
    T.ldI IntKind.i64 n12 (n13 + Int.toNat i8 * 1) fun i14 =>
    T.ite (i11 != i14) (T.ret (Value.bool false))
    (T.next 0 [Value.int IntKind.i64 (IntKind.wrap IntKind.i64 (i8 + 1))]
    ([Value.slice o0 n1 n2, Value.slice o3 n4 n5, Value.int IntKind.i64 (↑n1 : Int)] =
    [Value.slice o0 n1 n2, Value.slice o3 n4 n5, Value.int IntKind.i64 (↑n1 : Int)] ∧ ([] : List Deferred) = []))))))
    (T.ret (Value.bool true)))
theorem e31 (o0 : Option Addr) (n1 n2 : Nat) (o3 : Option Addr) (n4 n5 : Nat) : treeOf Try.prog Try.f31 (codeOf Try.f31) (.s .n (.s .n (.s (.s .n (.u (.l [(13, .int .i64)] [0, 1, 12] (.s .n (.s .n (.s (.u (.s .n (.s (.p [0, 1, 2, 3, 4, 5, 6, 7, 8]) .n))) .n)))))) .n))) [.v (.slice o0 n1 n2), .v (.slice o3 n4 n5)] = (t31 o0 n1 n2 o3 n4 n5) := by kernel_rfl
theorem c31 (o0 : Option Addr) (n1 n2 : Nat) (o3 : Option Addr) (n4 n5 : Nat) {w : World} {R : Ending → World → Prop} (h : (t31 o0 n1 n2 o3 n4 n5).sem Try.prog R ρ0 w) : Calls Try.prog 31 #[.slice o0 n1 n2, .slice o3 n4 n5] w R :=
  calls_of mixed Try.func31 rfl rfl (e31 o0 n1 n2 o3 n4 n5) h
def t35 (i0 : Int) (i1 : Int) (i2 : Int) (i3 : Int) (i4 : Int) : T :=
  T.new
  (Obj.cells (Array.mk [Value.int IntKind.i64 i0, Value.int IntKind.i64 i1, Value.int IntKind.i64 i2, Value.int IntKind.i64 i3, Value.int IntKind.i64 i4]) 40)
  fun n5 =>
  T.ldI IntKind.i64 n5 1 fun i6 =>
    T.call 40 [Value.int IntKind.i64 i6] fun v7 =>
    T.asU v7 fun l8 =>
    T.req (List.length l8 = 2)
    (T.asI IntKind.i64 (List.headD l8 (Value.tuple (Array.mk []))) fun i9 =>
    T.asB (List.headD (List.tail l8) (Value.tuple (Array.mk []))) fun b10 =>
    T.blk 0
    (fun l11 j12 =>
    T.ldI IntKind.i64 n5 0 fun i13 =>
    T.ldI IntKind.i64 n5 1 fun i14 =>
    T.ldI IntKind.i64 n5 2 fun i15 =>
    T.ldI IntKind.i64 n5 3 fun i16 =>
    T.ldI IntKind.i64 n5 4 fun i17 =>
    T.call 54
    [Value.agg
    (Array.mk
    [Value.int IntKind.i64 i13, Value.int IntKind.i64 i14, Value.int IntKind.i64 i15, Value.int IntKind.i64 i16,
    Value.int IntKind.i64 i17])]
    fun v18 =>
    T.asB v18 fun b19 =>
    T.ite (!b19) (T.ret (Value.tuple (Array.mk [Value.slice none 0 0, Value.int IntKind.i64 132])))
    (T.ldI IntKind.i64 n5 1 fun i20 =>
    T.new (Obj.cells (Array.mk [Value.int IntKind.u8 (IntKind.wrap IntKind.u8 i20)]) 5) fun n21 =>
    T.blk 0
    (fun l22 j23 =>
    T.asS (List.headD l22 (Value.tuple (Array.mk []))) fun o24 n25 n26 =>
    T.blk 0
    (fun l27 j28 =>
    T.asS (List.headD l27 (Value.tuple (Array.mk []))) fun o29 n30 n31 =>
    T.blk 0
    (fun l32 j33 =>
    T.asS (List.headD l32 (Value.tuple (Array.mk []))) fun o34 n35 n36 =>
    T.asB (List.headD (List.tail l32) (Value.tuple (Array.mk []))) fun b37 =>
    T.ite (!b37) (T.ret (Value.tuple (Array.mk [Value.slice none 0 0, Value.int IntKind.i64 130])))
    (T.ret (Value.tuple (Array.mk [Value.slice o34 n35 n36, Value.int IntKind.i64 0]))))
    (T.ite (bitsI BinOp.and IntKind.i64 i9 4 != 0)
    (T.ldI IntKind.i64 n5 4 fun i38 =>
    T.ite (decide (i38 ≥ 0))
    (T.ldI IntKind.i64 n5 4 fun i39 =>
    T.ldI IntKind.i64 n5 4 fun i40 =>
    T.new (Obj.cells (Array.mk [Value.int IntKind.u8 (IntKind.wrap IntKind.u8 i40)]) 5) fun n41 =>
    T.run
    (biV Builtin.append (Array.mk [23, 23]) 23
    (Array.mk [Value.slice o29 n30 n31, Value.slice (some (Addr.mk n41 0 none)) 1 1]))
    fun v42 =>
    T.asS v42 fun o43 n44 n45 =>
    T.next 0 [Value.slice o43 n44 n45, Value.bool (decide (i39 ≤ 255))] (([] : List Value) = [] ∧ ([] : List Deferred) = []))
    (T.ldI IntKind.i64 n5 4 fun i46 =>
    T.new (Obj.cells (Array.mk [Value.int IntKind.u8 (IntKind.wrap IntKind.u8 i46)]) 5) fun n47 =>
    T.run
    (biV Builtin.append (Array.mk [23, 23]) 23
    (Array.mk [Value.slice o29 n30 n31, Value.slice (some (Addr.mk n47 0 none)) 1 1]))
    fun v48 =>
    T.asS v48 fun o49 n50 n51 =>
    T.next 0 [Value.slice o49 n50 n51, Value.bool false] (([] : List Value) = [] ∧ ([] : List Deferred) = [])))
    (T.ite (bitsI BinOp.and IntKind.i64 i9 8 != 0)
    (T.ldI IntKind.i64 n5 4 fun i52 =>
    T.ldI IntKind.i64 n5 4 fun i53 =>
    T.ldI IntKind.i64 n5 4 fun i54 =>
    T.ldI IntKind.i64 n5 4 fun i55 =>
    T.req ((0 : Int) ≤ 8)
    (T.new
    (Obj.cells
    (Array.mk
    [Value.int IntKind.u8 (IntKind.wrap IntKind.u8 i54),
    Value.int IntKind.u8 (IntKind.wrap IntKind.u8 (shrI IntKind.i64 i55 8))])
    5)
    fun n56 =>
    T.run
    (biV Builtin.append (Array.mk [23, 23]) 23
    (Array.mk [Value.slice o29 n30 n31, Value.slice (some (Addr.mk n56 0 none)) 2 2]))
    fun v57 =>
    T.asS v57 fun o58 n59 n60 =>
    T.next 0
    [Value.slice o58 n59 n60,
    Value.bool (i52 == IntKind.wrap IntKind.i64 (IntKind.wrap IntKind.i16 i53))]
    (([] : List Value) = [] ∧ ([] : List Deferred) = [])))
    (T.ite (bitsI BinOp.and IntKind.i64 i9 16 != 0)
    (T.ldI IntKind.i64 n5 4 fun i61 =>
    T.ldI IntKind.i64 n5 4 fun i62 =>
    T.ldI IntKind.i64 n5 4 fun i63 =>
    T.ldI IntKind.i64 n5 4 fun i64 =>
    T.req ((0 : Int) ≤ 8)
    (T.new
    (Obj.cells
    (Array.mk
    [Value.int IntKind.u8 (IntKind.wrap IntKind.u8 i63),
    Value.int IntKind.u8 (IntKind.wrap IntKind.u8 (shrI IntKind.i64 i64 8))])
    5)
    fun n65 =>
    T.run
    (biV Builtin.append (Array.mk [23, 23]) 23
    (Array.mk [Value.slice o29 n30 n31, Value.slice (some (Addr.mk n65 0 none)) 2 2]))
    fun v66 =>
    T.asS v66 fun o67 n68 n69 =>
    T.next 0
    [Value.slice o67 n68 n69,
    Value.bool (i61 == IntKind.wrap IntKind.i64 (IntKind.wrap IntKind.u16 i62))]
    (([] : List Value) = [] ∧ ([] : List Deferred) = [])))
    (T.next 0 [Value.slice o29 n30 n31, Value.bool true] (([] : List Value) = [] ∧ ([] : List Deferred) = []))))))
    (T.ite (bitsI BinOp.and IntKind.i64 i9 2 != 0)
    (T.ldI IntKind.i64 n5 3 fun i70 =>
    T.new (Obj.cells (Array.mk [Value.int IntKind.u8 (IntKind.wrap IntKind.u8 i70)]) 5) fun n71 =>
    T.run
    (biV Builtin.append (Array.mk [23, 23]) 23
    (Array.mk [Value.slice o24 n25 n26, Value.slice (some (Addr.mk n71 0 none)) 1 1]))
    fun v72 =>
    T.asS v72 fun o73 n74 n75 =>
    T.next 0 [Value.slice o73 n74 n75]
    ([Value.pointer (some (Addr.mk n5 0 none)), Value.int IntKind.i64 i9] =
    [Value.pointer (some (Addr.mk n5 0 none)), Value.int IntKind.i64 i9] ∧ ([] : List Deferred) = []))
    (T.next 0 [Value.slice o24 n25 n26]
    ([Value.pointer (some (Addr.mk n5 0 none)), Value.int IntKind.i64 i9] =
    [Value.pointer (some (Addr.mk n5 0 none)), Value.int IntKind.i64 i9] ∧ ([] : List Deferred) = []))))
    (T.ite (bitsI BinOp.and IntKind.i64 i9 1 != 0)
    (T.ldI IntKind.i64 n5 2 fun i76 =>
    T.new (Obj.cells (Array.mk [Value.int IntKind.u8 (IntKind.wrap IntKind.u8 i76)]) 5) fun n77 =>
    T.run
    (biV Builtin.append (Array.mk [23, 23]) 23
    (Array.mk [Value.slice (some (Addr.mk n21 0 none)) 1 1, Value.slice (some (Addr.mk n77 0 none)) 1 1]))
    fun v78 =>
    T.asS v78 fun o79 n80 n81 =>
    T.next 0 [Value.slice o79 n80 n81]
    ([Value.pointer (some (Addr.mk n5 0 none)), Value.int IntKind.i64 i9] =
    [Value.pointer (some (Addr.mk n5 0 none)), Value.int IntKind.i64 i9] ∧ ([] : List Deferred) = []))
    (T.next 0 [Value.slice (some (Addr.mk n21 0 none)) 1 1]
    ([Value.pointer (some (Addr.mk n5 0 none)), Value.int IntKind.i64 i9] =
    [Value.pointer (some (Addr.mk n5 0 none)), Value.int IntKind.i64 i9] ∧ ([] : List Deferred) = [])))))
    (T.ite (!b10) (T.ret (Value.tuple (Array.mk [Value.slice none 0 0, Value.int IntKind.i64 130])))
    (T.ite (bitsI BinOp.and IntKind.i64 i9 1 == 0)
    (T.ldI IntKind.i64 n5 2 fun i82 =>
    T.ite (i82 != 0) (T.ret (Value.tuple (Array.mk [Value.slice none 0 0, Value.int IntKind.i64 130])))
    (T.ite (bitsI BinOp.and IntKind.i64 i9 2 == 0)
    (T.ldI IntKind.i64 n5 3 fun i83 =>
    T.ite (i83 != 0) (T.ret (Value.tuple (Array.mk [Value.slice none 0 0, Value.int IntKind.i64 130])))
    (T.ite (bitsI BinOp.and IntKind.i64 i9 28 == 0)
    (T.ldI IntKind.i64 n5 4 fun i84 =>
    T.ite (i84 != 0) (T.ret (Value.tuple (Array.mk [Value.slice none 0 0, Value.int IntKind.i64 130])))
    (T.next 0 []
    ([Value.pointer (some (Addr.mk n5 0 none)), Value.int IntKind.i64 i9] =
    [Value.pointer (some (Addr.mk n5 0 none)), Value.int IntKind.i64 i9] ∧ ([] : List Deferred) = [])))
    (T.next 0 []
    ([Value.pointer (some (Addr.mk n5 0 none)), Value.int IntKind.i64 i9] =
    [Value.pointer (some (Addr.mk n5 0 none)), Value.int IntKind.i64 i9] ∧ ([] : List Deferred) = []))))
    (T.ite (bitsI BinOp.and IntKind.i64 i9 28 == 0)
    (T.ldI IntKind.i64 n5 4 fun i85 =>
    T.ite (i85 != 0) (T.ret (Value.tuple (Array.mk [Value.slice none 0 0, Value.int IntKind.i64 130])))
    (T.next 0 []
    ([Value.pointer (some (Addr.mk n5 0 none)), Value.int IntKind.i64 i9] =
    [Value.pointer (some (Addr.mk n5 0 none)), Value.int IntKind.i64 i9] ∧ ([] : List Deferred) = [])))
    (T.next 0 []
    ([Value.pointer (some (Addr.mk n5 0 none)), Value.int IntKind.i64 i9] =
    [Value.pointer (some (Addr.mk n5 0 none)), Value.int IntKind.i64 i9] ∧ ([] : List Deferred) = [])))))
    (T.ite (bitsI BinOp.and IntKind.i64 i9 2 == 0)
    (T.ldI IntKind.i64 n5 3 fun i86 =>
    T.ite (i86 != 0) (T.ret (Value.tuple (Array.mk [Value.slice none 0 0, Value.int IntKind.i64 130])))
    (T.ite (bitsI BinOp.and IntKind.i64 i9 28 == 0)
    (T.ldI IntKind.i64 n5 4 fun i87 =>
    T.ite (i87 != 0) (T.ret (Value.tuple (Array.mk [Value.slice none 0 0, Value.int IntKind.i64 130])))
    (T.next 0 []
    ([Value.pointer (some (Addr.mk n5 0 none)), Value.int IntKind.i64 i9] =
    [Value.pointer (some (Addr.mk n5 0 none)), Value.int IntKind.i64 i9] ∧ ([] : List Deferred) = [])))
    (T.next 0 []
    ([Value.pointer (some (Addr.mk n5 0 none)), Value.int IntKind.i64 i9] =
    [Value.pointer (some (Addr.mk n5 0 none)), Value.int IntKind.i64 i9] ∧ ([] : List Deferred) = []))))
    (T.ite (bitsI BinOp.and IntKind.i64 i9 28 == 0)
    (T.ldI IntKind.i64 n5 4 fun i88 =>
    T.ite (i88 != 0) (T.ret (Value.tuple (Array.mk [Value.slice none 0 0, Value.int IntKind.i64 130])))
    (T.next 0 []
    ([Value.pointer (some (Addr.mk n5 0 none)), Value.int IntKind.i64 i9] =
    [Value.pointer (some (Addr.mk n5 0 none)), Value.int IntKind.i64 i9] ∧ ([] : List Deferred) = [])))
    (T.next 0 []
    ([Value.pointer (some (Addr.mk n5 0 none)), Value.int IntKind.i64 i9] =
    [Value.pointer (some (Addr.mk n5 0 none)), Value.int IntKind.i64 i9] ∧ ([] : List Deferred) = [])))))))
theorem e35 (i0 : Int) (i1 : Int) (i2 : Int) (i3 : Int) (i4 : Int) : treeOf Try.prog Try.f35 (codeOf Try.f35) (.s .n (.s .n (.c [] [1, 4] .n (.s .n (.s .n (.c [(6, .slice)] [1, 4] .n (.c [(6, .slice)] [1, 4] .n (.s .n (.c [(6, .slice), (7, .bool)] [] .n .n))))))))) [.v (.agg #[.int .i64 i0, .int .i64 i1, .int .i64 i2, .int .i64 i3, .int .i64 i4])] = (t35 i0 i1 i2 i3 i4) := by kernel_rfl
theorem c35 (i0 : Int) (i1 : Int) (i2 : Int) (i3 : Int) (i4 : Int) {w : World} {R : Ending → World → Prop} (h : (t35 i0 i1 i2 i3 i4).sem Try.prog R ρ0 w) : Calls Try.prog 35 #[.agg #[.int .i64 i0, .int .i64 i1, .int .i64 i2, .int .i64 i3, .int .i64 i4]] w R :=
  calls_of mixed Try.func35 rfl rfl (e35 i0 i1 i2 i3 i4) h
def t36 (i0 : Int) (i1 : Int) (i2 : Int) (i3 : Int) (i4 : Int) : T :=
  T.new
  (Obj.cells (Array.mk [Value.int IntKind.i64 i0, Value.int IntKind.i64 i1, Value.int IntKind.i64 i2, Value.int IntKind.i64 i3, Value.int IntKind.i64 i4]) 40)
  fun n5 =>
  T.blk 0
    (fun l6 j7 =>
    T.ldI IntKind.i64 n5 0 fun i8 =>
    T.ldI IntKind.i64 n5 1 fun i9 =>
    T.ldI IntKind.i64 n5 2 fun i10 =>
    T.ldI IntKind.i64 n5 3 fun i11 =>
    T.ldI IntKind.i64 n5 4 fun i12 =>
    T.call 55
    [Value.agg
    (Array.mk
    [Value.int IntKind.i64 i8, Value.int IntKind.i64 i9, Value.int IntKind.i64 i10, Value.int IntKind.i64 i11, Value.int IntKind.i64 i12])]
    fun v13 =>
    T.asI IntKind.i64 v13 fun i14 =>
    T.ite (i14 != 0) (T.ret (Value.int IntKind.i64 i14))
    (T.blk 0
    (fun l15 j16 =>
    T.asI IntKind.i64 (List.headD l15 (Value.tuple (Array.mk []))) fun i17 =>
    T.asI IntKind.i64 (List.headD (List.tail l15) (Value.tuple (Array.mk []))) fun i18 =>
    T.ldI IntKind.i64 n5 4 fun i19 =>
    T.ite (decide (i19 < i17)) (T.ret (Value.int IntKind.i64 130))
    (T.ldI IntKind.i64 n5 4 fun i20 =>
    T.ite (decide (i20 > i18)) (T.ret (Value.int IntKind.i64 130)) (T.ret (Value.int IntKind.i64 0))))
    (T.ldI IntKind.i64 n5 1 fun i21 =>
    T.call 39 [Value.int IntKind.i64 i21] fun v22 =>
    T.asI IntKind.i64 v22 fun i23 =>
    T.ite (i23 == 2)
    (T.ldI IntKind.i64 n5 1 fun i24 =>
    T.ite (i24 == 1)
    (T.next 0 [Value.int IntKind.i64 (-32768), Value.int IntKind.i64 32767]
    ([Value.pointer (some (Addr.mk n5 0 none))] = [Value.pointer (some (Addr.mk n5 0 none))] ∧ ([] : List Deferred) = []))
    (T.next 0 [Value.int IntKind.i64 0, Value.int IntKind.i64 65535]
    ([Value.pointer (some (Addr.mk n5 0 none))] = [Value.pointer (some (Addr.mk n5 0 none))] ∧ ([] : List Deferred) = [])))
    (T.next 0 [Value.int IntKind.i64 0, Value.int IntKind.i64 255]
    ([Value.pointer (some (Addr.mk n5 0 none))] = [Value.pointer (some (Addr.mk n5 0 none))] ∧ ([] : List Deferred) = [])))))
    (T.ldI IntKind.i64 n5 1 fun i25 =>
    T.call 13 [Value.int IntKind.i64 i25] fun v26 =>
    T.asI IntKind.i64 v26 fun i27 =>
    T.ite (i27 == 0) (T.ret (Value.int IntKind.i64 130))
    (T.ldI IntKind.i64 n5 1 fun i28 =>
    T.call 37 [Value.int IntKind.i64 i28] fun v29 =>
    T.asB v29 fun b30 =>
    T.ite (!b30)
    (T.ldI IntKind.i64 n5 2 fun i31 =>
    T.ite (i31 != 0) (T.ret (Value.int IntKind.i64 130))
    (T.ldI IntKind.i64 n5 1 fun i32 =>
    T.call 38 [Value.int IntKind.i64 i32] fun v33 =>
    T.asB v33 fun b34 =>
    T.ite (!b34)
    (T.ldI IntKind.i64 n5 3 fun i35 =>
    T.ite (i35 != 0) (T.ret (Value.int IntKind.i64 130))
    (T.ldI IntKind.i64 n5 1 fun i36 =>
    T.call 39 [Value.int IntKind.i64 i36] fun v37 =>
    T.asI IntKind.i64 v37 fun i38 =>
    T.ite (i38 == 0)
    (T.ldI IntKind.i64 n5 4 fun i39 =>
    T.ite (i39 != 0) (T.ret (Value.int IntKind.i64 130))
    (T.next 0 []
    ([Value.pointer (some (Addr.mk n5 0 none))] = [Value.pointer (some (Addr.mk n5 0 none))] ∧ ([] : List Deferred) = [])))
    (T.next 0 [] ([Value.pointer (some (Addr.mk n5 0 none))] = [Value.pointer (some (Addr.mk n5 0 none))] ∧ ([] : List Deferred) = []))))
    (T.ldI IntKind.i64 n5 1 fun i40 =>
    T.call 39 [Value.int IntKind.i64 i40] fun v41 =>
    T.asI IntKind.i64 v41 fun i42 =>
    T.ite (i42 == 0)
    (T.ldI IntKind.i64 n5 4 fun i43 =>
    T.ite (i43 != 0) (T.ret (Value.int IntKind.i64 130))
    (T.next 0 [] ([Value.pointer (some (Addr.mk n5 0 none))] = [Value.pointer (some (Addr.mk n5 0 none))] ∧ ([] : List Deferred) = [])))
    (T.next 0 [] ([Value.pointer (some (Addr.mk n5 0 none))] = [Value.pointer (some (Addr.mk n5 0 none))] ∧ ([] : List Deferred) = [])))))
    (T.ldI IntKind.i64 n5 1 fun i44 =>
    T.call 38 [Value.int IntKind.i64 i44] fun v45 =>
    T.asB v45 fun b46 =>
    T.ite (!b46)
    (T.ldI IntKind.i64 n5 3 fun i47 =>
    T.ite (i47 != 0) (T.ret (Value.int IntKind.i64 130))
    (T.ldI IntKind.i64 n5 1 fun i48 =>
    T.call 39 [Value.int IntKind.i64 i48] fun v49 =>
    T.asI IntKind.i64 v49 fun i50 =>
    T.ite (i50 == 0)
    (T.ldI IntKind.i64 n5 4 fun i51 =>
    T.ite (i51 != 0) (T.ret (Value.int IntKind.i64 130))
    (T.next 0 [] ([Value.pointer (some (Addr.mk n5 0 none))] = [Value.pointer (some (Addr.mk n5 0 none))] ∧ ([] : List Deferred) = [])))
    (T.next 0 [] ([Value.pointer (some (Addr.mk n5 0 none))] = [Value.pointer (some (Addr.mk n5 0 none))] ∧ ([] : List Deferred) = []))))
    (T.ldI IntKind.i64 n5 1 fun i52 =>
    T.call 39 [Value.int IntKind.i64 i52] fun v53 =>
    T.asI IntKind.i64 v53 fun i54 =>
    T.ite (i54 == 0)
    (T.ldI IntKind.i64 n5 4 fun i55 =>
    T.ite (i55 != 0) (T.ret (Value.int IntKind.i64 130))
    (T.next 0 [] ([Value.pointer (some (Addr.mk n5 0 none))] = [Value.pointer (some (Addr.mk n5 0 none))] ∧ ([] : List Deferred) = [])))
    (T.next 0 [] ([Value.pointer (some (Addr.mk n5 0 none))] = [Value.pointer (some (Addr.mk n5 0 none))] ∧ ([] : List Deferred) = []))))))
theorem e36 (i0 : Int) (i1 : Int) (i2 : Int) (i3 : Int) (i4 : Int) : treeOf Try.prog Try.f36 (codeOf Try.f36) (.s .n (.c [] [1] .n (.s .n (.s .n (.c [(4, .int .i64), (5, .int .i64)] [1] .n .n))))) [.v (.agg #[.int .i64 i0, .int .i64 i1, .int .i64 i2, .int .i64 i3, .int .i64 i4])] = (t36 i0 i1 i2 i3 i4) := by kernel_rfl
theorem c36 (i0 : Int) (i1 : Int) (i2 : Int) (i3 : Int) (i4 : Int) {w : World} {R : Ending → World → Prop} (h : (t36 i0 i1 i2 i3 i4).sem Try.prog R ρ0 w) : Calls Try.prog 36 #[.agg #[.int .i64 i0, .int .i64 i1, .int .i64 i2, .int .i64 i3, .int .i64 i4]] w R :=
  calls_of mixed Try.func36 rfl rfl (e36 i0 i1 i2 i3 i4) h
def t37 (i0 : Int) : T :=
  T.ite (i0 != 0) (T.ite (i0 != 6) (T.ite (i0 != 22) (T.ret (Value.bool (i0 != 25))) (T.ret (Value.bool false))) (T.ret (Value.bool false)))
  (T.ret (Value.bool false))
theorem e37 (i0 : Int) : treeOf Try.prog Try.f37 (codeOf Try.f37) .n [.v (.int .i64 i0)] = (t37 i0) := by kernel_rfl
theorem c37 (i0 : Int) {w : World} {R : Ending → World → Prop} (h : (t37 i0).sem Try.prog R ρ0 w) : Calls Try.prog 37 #[.int .i64 i0] w R :=
  calls_of mixed Try.func37 rfl rfl (e37 i0) h
def t38 (i0 : Int) : T :=
  T.ite (decide (i0 ≥ 7))
  (T.ite (decide (i0 ≤ 18)) (T.ret (Value.bool true))
    (T.ite (i0 == 20) (T.ret (Value.bool true))
    (T.ite (i0 == 21) (T.ret (Value.bool true)) (T.ite (i0 == 26) (T.ret (Value.bool true)) (T.ret (Value.bool (i0 == 27)))))))
  (T.ite (i0 == 20) (T.ret (Value.bool true))
    (T.ite (i0 == 21) (T.ret (Value.bool true)) (T.ite (i0 == 26) (T.ret (Value.bool true)) (T.ret (Value.bool (i0 == 27))))))
theorem e38 (i0 : Int) : treeOf Try.prog Try.f38 (codeOf Try.f38) .n [.v (.int .i64 i0)] = (t38 i0) := by kernel_rfl
theorem c38 (i0 : Int) {w : World} {R : Ending → World → Prop} (h : (t38 i0).sem Try.prog R ρ0 w) : Calls Try.prog 38 #[.int .i64 i0] w R :=
  calls_of mixed Try.func38 rfl rfl (e38 i0) h
def t39 (i0 : Int) : T :=
  T.call 13 [Value.int IntKind.i64 i0] fun v1 =>
  T.asI IntKind.i64 v1 fun i2 =>
    T.blk 0
    (fun l3 j4 =>
    T.asI IntKind.i64 (List.headD l3 (Value.tuple (Array.mk []))) fun i5 =>
    T.call 38 [Value.int IntKind.i64 i0] fun v6 =>
    T.asB v6 fun b7 => T.ite b7 (T.ret (Value.int IntKind.i64 (IntKind.wrap IntKind.i64 (i5 - 1)))) (T.ret (Value.int IntKind.i64 i5)))
    (T.call 37 [Value.int IntKind.i64 i0] fun v8 =>
    T.asB v8 fun b9 =>
    T.ite b9
    (T.next 0 [Value.int IntKind.i64 (IntKind.wrap IntKind.i64 (IntKind.wrap IntKind.i64 (i2 - 1) - 1))]
    ([Value.int IntKind.i64 i0] = [Value.int IntKind.i64 i0] ∧ ([] : List Deferred) = []))
    (T.next 0 [Value.int IntKind.i64 (IntKind.wrap IntKind.i64 (i2 - 1))] ([Value.int IntKind.i64 i0] = [Value.int IntKind.i64 i0] ∧ ([] : List Deferred) = [])))
theorem e39 (i0 : Int) : treeOf Try.prog Try.f39 (codeOf Try.f39) (.s .n (.s .n (.c [(3, .int .i64)] [0] .n .n))) [.v (.int .i64 i0)] = (t39 i0) := by kernel_rfl
theorem c39 (i0 : Int) {w : World} {R : Ending → World → Prop} (h : (t39 i0).sem Try.prog R ρ0 w) : Calls Try.prog 39 #[.int .i64 i0] w R :=
  calls_of mixed Try.func39 rfl rfl (e39 i0) h
def t40 (i0 : Int) : T :=
  T.new
  (Obj.cells
    (Array.mk
    [Value.int IntKind.i64 0, Value.int IntKind.i64 0, Value.int IntKind.i64 0, Value.int IntKind.i64 0, Value.int IntKind.i64 0, Value.int IntKind.i64 0,
    Value.int IntKind.i64 0, Value.int IntKind.i64 0, Value.int IntKind.i64 0, Value.int IntKind.i64 0, Value.int IntKind.i64 0, Value.int IntKind.i64 0,
    Value.int IntKind.i64 0, Value.int IntKind.i64 0, Value.int IntKind.i64 0, Value.int IntKind.i64 0, Value.int IntKind.i64 0, Value.int IntKind.i64 0,
    Value.int IntKind.i64 0, Value.int IntKind.i64 0, Value.int IntKind.i64 0, Value.int IntKind.i64 0, Value.int IntKind.i64 0, Value.int IntKind.i64 0,
    Value.int IntKind.i64 0, Value.int IntKind.i64 0, Value.int IntKind.i64 0, Value.int IntKind.i64 0])
    83)
  fun n1 =>
  T.st n1 0 (Value.int IntKind.i64 0)
    (T.st n1 1 (Value.int IntKind.i64 9)
    (T.st n1 2 (Value.int IntKind.i64 5)
    (T.st n1 3 (Value.int IntKind.i64 5)
    (T.st n1 4 (Value.int IntKind.i64 5)
    (T.st n1 5 (Value.int IntKind.i64 5)
    (T.st n1 6 (Value.int IntKind.i64 4)
    (T.st n1 7 (Value.int IntKind.i64 3)
    (T.st n1 8 (Value.int IntKind.i64 3)
    (T.st n1 9 (Value.int IntKind.i64 3)
    (T.st n1 10 (Value.int IntKind.i64 3)
    (T.st n1 11 (Value.int IntKind.i64 3)
    (T.st n1 12 (Value.int IntKind.i64 3)
    (T.st n1 13 (Value.int IntKind.i64 3)
    (T.st n1 14 (Value.int IntKind.i64 3)
    (T.st n1 15 (Value.int IntKind.i64 3)
    (T.st n1 16 (Value.int IntKind.i64 3)
    (T.st n1 17 (Value.int IntKind.i64 3)
    (T.st n1 18 (Value.int IntKind.i64 3)
    (T.st n1 19 (Value.int IntKind.i64 5)
    (T.st n1 20 (Value.int IntKind.i64 3)
    (T.st n1 21 (Value.int IntKind.i64 3)
    (T.st n1 22 (Value.int IntKind.i64 16)
    (T.st n1 23 (Value.int IntKind.i64 17)
    (T.st n1 24 (Value.int IntKind.i64 1)
    (T.st n1 25 (Value.int IntKind.i64 4)
    (T.st n1 26 (Value.int IntKind.i64 7)
    (T.st n1 27 (Value.int IntKind.i64 7)
    (T.ite (decide (i0 < 0)) (T.ret (Value.tuple (Array.mk [Value.int IntKind.i64 0, Value.bool false])))
    (T.ite (decide (i0 ≥ 28))
    (T.ret (Value.tuple (Array.mk [Value.int IntKind.i64 0, Value.bool false])))
    (T.req (0 ≤ i0 ∧ i0 < 28)
    (T.ldI IntKind.i64 n1 (0 + Int.toNat i0 * 1) fun i2 =>
    T.ret
    (Value.tuple
    (Array.mk [Value.int IntKind.i64 i2, Value.bool true])))))))))))))))))))))))))))))))))
theorem e40 (i0 : Int) : treeOf Try.prog Try.f40 (codeOf Try.f40) .n [.v (.int .i64 i0)] = (t40 i0) := by kernel_rfl
theorem c40 (i0 : Int) {w : World} {R : Ending → World → Prop} (h : (t40 i0).sem Try.prog R ρ0 w) : Calls Try.prog 40 #[.int .i64 i0] w R :=
  calls_of mixed Try.func40 rfl rfl (e40 i0) h
def t43 (o0 : Option Addr) (n1 n2 : Nat) : T :=
  T.loop 0 [Value.slice none 0 0, Value.int IntKind.i64 0] fun l3 j4 =>
  T.asS (List.headD l3 (Value.tuple (Array.mk []))) fun o5 n6 n7 =>
    T.asI IntKind.i64 (List.headD (List.tail l3) (Value.tuple (Array.mk []))) fun i8 =>
    T.ite (decide (i8 < (↑n1 : Int)))
    (T.call 27 [Value.slice o0 n1 n2, Value.int IntKind.i64 i8] fun v9 =>
    T.asU v9 fun l10 =>
    T.req (List.length l10 = 3)
    (T.asA (List.headD l10 (Value.tuple (Array.mk []))) fun l11 =>
    T.req (List.length l11 = 5)
    (T.asI IntKind.i64 (List.headD l11 (Value.tuple (Array.mk []))) fun i12 =>
    T.asI IntKind.i64 (List.headD (List.tail l11) (Value.tuple (Array.mk []))) fun i13 =>
    T.asI IntKind.i64 (List.headD (List.tail (List.tail l11)) (Value.tuple (Array.mk []))) fun i14 =>
    T.asI IntKind.i64 (List.headD (List.tail (List.tail (List.tail l11))) (Value.tuple (Array.mk []))) fun i15 =>
    T.asI IntKind.i64 (List.headD (List.tail (List.tail (List.tail (List.tail l11)))) (Value.tuple (Array.mk []))) fun i16 =>
    T.asI IntKind.i64 (List.headD (List.tail l10) (Value.tuple (Array.mk []))) fun i17 =>
    T.asI IntKind.i64 (List.headD (List.tail (List.tail l10)) (Value.tuple (Array.mk []))) fun i18 =>
    T.new
    (Obj.cells
    (Array.mk
    [Value.int IntKind.i64 0, Value.int IntKind.i64 0, Value.int IntKind.i64 0, Value.int IntKind.i64 0,
    Value.int IntKind.i64 0])
    40)
    fun n19 =>
    T.st n19 0 (Value.int IntKind.i64 i12)
    (T.st n19 1 (Value.int IntKind.i64 i13)
    (T.st n19 2 (Value.int IntKind.i64 i14)
    (T.st n19 3 (Value.int IntKind.i64 i15)
    (T.st n19 4 (Value.int IntKind.i64 i16)
    (T.call2 45 [Value.int IntKind.i64 i18]
    (fun v20 =>
    T.ldI IntKind.i64 n19 0 fun i21 =>
    T.ldI IntKind.i64 n19 1 fun i22 =>
    T.ldI IntKind.i64 n19 2 fun i23 =>
    T.ldI IntKind.i64 n19 3 fun i24 =>
    T.ldI IntKind.i64 n19 4 fun i25 =>
    T.new
    (Obj.cells
    (Array.mk
    [Value.int IntKind.i64 i21, Value.int IntKind.i64 i22, Value.int IntKind.i64 i23,
    Value.int IntKind.i64 i24, Value.int IntKind.i64 i25])
    40)
    fun n26 =>
    T.run
    (biV Builtin.append (Array.mk [22, 22]) 22
    (Array.mk [Value.slice o5 n6 n7, Value.slice (some (Addr.mk n26 0 none)) 1 1]))
    fun v27 =>
    T.asS v27 fun o28 n29 n30 =>
    T.next 0 [Value.slice o28 n29 n30, Value.int IntKind.i64 i17]
    ([Value.slice o0 n1 n2] = [Value.slice o0 n1 n2] ∧ ([] : List Deferred) = []))
    fun v31 => T.pan v31))))))))
    (T.ret (Value.slice o5 n6 n7))
theorem e43 (o0 : Option Addr) (n1 n2 : Nat) : treeOf Try.prog Try.f43 (codeOf Try.f43) (.s .n (.s .n (.s (.s .n (.u (.l [(3, .slice), (4, .int .i64)] [0] .n))) .n))) [.v (.slice o0 n1 n2)] = (t43 o0 n1 n2) := by kernel_rfl
theorem c43 (o0 : Option Addr) (n1 n2 : Nat) {w : World} {R : Ending → World → Prop} (h : (t43 o0 n1 n2).sem Try.prog R ρ0 w) : Calls Try.prog 43 #[.slice o0 n1 n2] w R :=
  calls_of mixed Try.func43 rfl rfl (e43 o0 n1 n2) h
def t44 (i0 : Int) (i1 : Int) (i2 : Int) (i3 : Int) (i4 : Int) : T :=
  T.new
  (Obj.cells (Array.mk [Value.int IntKind.i64 i0, Value.int IntKind.i64 i1, Value.int IntKind.i64 i2, Value.int IntKind.i64 i3, Value.int IntKind.i64 i4]) 40)
  fun n5 => T.ldI IntKind.i64 n5 1 fun i6 => T.ite (i6 == 22) (T.ret (Value.bool true)) (T.ldI IntKind.i64 n5 1 fun i7 => T.ret (Value.bool (i7 == 23)))
theorem e44 (i0 : Int) (i1 : Int) (i2 : Int) (i3 : Int) (i4 : Int) : treeOf Try.prog Try.f44 (codeOf Try.f44) .n [.v (.agg #[.int .i64 i0, .int .i64 i1, .int .i64 i2, .int .i64 i3, .int .i64 i4])] = (t44 i0 i1 i2 i3 i4) := by kernel_rfl
theorem c44 (i0 : Int) (i1 : Int) (i2 : Int) (i3 : Int) (i4 : Int) {w : World} {R : Ending → World → Prop} (h : (t44 i0 i1 i2 i3 i4).sem Try.prog R ρ0 w) : Calls Try.prog 44 #[.agg #[.int .i64 i0, .int .i64 i1, .int .i64 i2, .int .i64 i3, .int .i64 i4]] w R :=
  calls_of mixed Try.func44 rfl rfl (e44 i0 i1 i2 i3 i4) h
def t45 (i0 : Int) : T :=
  T.ite (i0 != 0) (T.pan (Value.iface 85 (Value.agg (Array.mk [Value.int IntKind.i64 i0])))) (T.ret (Value.tuple (Array.mk [])))
theorem e45 (i0 : Int) : treeOf Try.prog Try.f45 (codeOf Try.f45) .n [.v (.int .i64 i0)] = (t45 i0) := by kernel_rfl
theorem c45 (i0 : Int) {w : World} {R : Ending → World → Prop} (h : (t45 i0).sem Try.prog R ρ0 w) : Calls Try.prog 45 #[.int .i64 i0] w R :=
  calls_of mixed Try.func45 rfl rfl (e45 i0) h
def t54 (i0 : Int) (i1 : Int) (i2 : Int) (i3 : Int) (i4 : Int) : T :=
  T.new
  (Obj.cells (Array.mk [Value.int IntKind.i64 i0, Value.int IntKind.i64 i1, Value.int IntKind.i64 i2, Value.int IntKind.i64 i3, Value.int IntKind.i64 i4]) 40)
  fun n5 =>
  T.ldI IntKind.i64 n5 2 fun i6 =>
    T.ite (decide (i6 ≥ 0))
    (T.ldI IntKind.i64 n5 2 fun i7 =>
    T.ite (decide (i7 < 8))
    (T.ldI IntKind.i64 n5 3 fun i8 =>
    T.ite (decide (i8 ≥ 0))
    (T.ldI IntKind.i64 n5 3 fun i9 =>
    T.ite (decide (i9 < 8))
    (T.ldI IntKind.i64 n5 1 fun i10 =>
    T.ite (i10 != 19) (T.ret (Value.bool true))
    (T.ldI IntKind.i64 n5 4 fun i11 =>
    T.ite (i11 == 8) (T.ret (Value.bool true))
    (T.ldI IntKind.i64 n5 4 fun i12 =>
    T.ite (i12 == 16) (T.ret (Value.bool true)) (T.ldI IntKind.i64 n5 4 fun i13 => T.ret (Value.bool (i13 == 32))))))
    (T.ret (Value.bool false)))
    (T.ret (Value.bool false)))
    (T.ret (Value.bool false)))
    (T.ret (Value.bool false))
theorem e54 (i0 : Int) (i1 : Int) (i2 : Int) (i3 : Int) (i4 : Int) : treeOf Try.prog Try.f54 (codeOf Try.f54) .n [.v (.agg #[.int .i64 i0, .int .i64 i1, .int .i64 i2, .int .i64 i3, .int .i64 i4])] = (t54 i0 i1 i2 i3 i4) := by kernel_rfl
theorem c54 (i0 : Int) (i1 : Int) (i2 : Int) (i3 : Int) (i4 : Int) {w : World} {R : Ending → World → Prop} (h : (t54 i0 i1 i2 i3 i4).sem Try.prog R ρ0 w) : Calls Try.prog 54 #[.agg #[.int .i64 i0, .int .i64 i1, .int .i64 i2, .int .i64 i3, .int .i64 i4]] w R :=
  calls_of mixed Try.func54 rfl rfl (e54 i0 i1 i2 i3 i4) h
def t55 (i0 : Int) (i1 : Int) (i2 : Int) (i3 : Int) (i4 : Int) : T :=
  T.new
  (Obj.cells (Array.mk [Value.int IntKind.i64 i0, Value.int IntKind.i64 i1, Value.int IntKind.i64 i2, Value.int IntKind.i64 i3, Value.int IntKind.i64 i4]) 40)
  fun n5 =>
  T.blk 0
    (fun l6 j7 =>
    T.ldI IntKind.i64 n5 1 fun i8 =>
    T.ite (i8 == 19)
    (T.ldI IntKind.i64 n5 4 fun i9 =>
    T.ite (i9 != 8)
    (T.ldI IntKind.i64 n5 4 fun i10 =>
    T.ite (i10 != 16) (T.ldI IntKind.i64 n5 4 fun i11 => T.ite (i11 != 32) (T.ret (Value.int IntKind.i64 132)) (T.ret (Value.int IntKind.i64 0)))
    (T.ret (Value.int IntKind.i64 0)))
    (T.ret (Value.int IntKind.i64 0)))
    (T.ret (Value.int IntKind.i64 0)))
    (T.ldI IntKind.i64 n5 1 fun i12 =>
    T.call 37 [Value.int IntKind.i64 i12] fun v13 =>
    T.asB v13 fun b14 =>
    T.ite b14
    (T.ldI IntKind.i64 n5 2 fun i15 =>
    T.ite (decide (i15 < 0)) (T.ret (Value.int IntKind.i64 132))
    (T.ldI IntKind.i64 n5 2 fun i16 =>
    T.ite (decide (i16 ≥ 8)) (T.ret (Value.int IntKind.i64 132))
    (T.ldI IntKind.i64 n5 1 fun i17 =>
    T.call 38 [Value.int IntKind.i64 i17] fun v18 =>
    T.asB v18 fun b19 =>
    T.ite b19
    (T.ldI IntKind.i64 n5 3 fun i20 =>
    T.ite (decide (i20 < 0)) (T.ret (Value.int IntKind.i64 132))
    (T.ldI IntKind.i64 n5 3 fun i21 =>
    T.ite (decide (i21 ≥ 8)) (T.ret (Value.int IntKind.i64 132))
    (T.next 0 [] ([Value.pointer (some (Addr.mk n5 0 none))] = [Value.pointer (some (Addr.mk n5 0 none))] ∧ ([] : List Deferred) = []))))
    (T.next 0 [] ([Value.pointer (some (Addr.mk n5 0 none))] = [Value.pointer (some (Addr.mk n5 0 none))] ∧ ([] : List Deferred) = [])))))
    (T.ldI IntKind.i64 n5 1 fun i22 =>
    T.call 38 [Value.int IntKind.i64 i22] fun v23 =>
    T.asB v23 fun b24 =>
    T.ite b24
    (T.ldI IntKind.i64 n5 3 fun i25 =>
    T.ite (decide (i25 < 0)) (T.ret (Value.int IntKind.i64 132))
    (T.ldI IntKind.i64 n5 3 fun i26 =>
    T.ite (decide (i26 ≥ 8)) (T.ret (Value.int IntKind.i64 132))
    (T.next 0 [] ([Value.pointer (some (Addr.mk n5 0 none))] = [Value.pointer (some (Addr.mk n5 0 none))] ∧ ([] : List Deferred) = []))))
    (T.next 0 [] ([Value.pointer (some (Addr.mk n5 0 none))] = [Value.pointer (some (Addr.mk n5 0 none))] ∧ ([] : List Deferred) = []))))
theorem e55 (i0 : Int) (i1 : Int) (i2 : Int) (i3 : Int) (i4 : Int) : treeOf Try.prog Try.f55 (codeOf Try.f55) (.s .n (.c [] [1] .n .n)) [.v (.agg #[.int .i64 i0, .int .i64 i1, .int .i64 i2, .int .i64 i3, .int .i64 i4])] = (t55 i0 i1 i2 i3 i4) := by kernel_rfl
theorem c55 (i0 : Int) (i1 : Int) (i2 : Int) (i3 : Int) (i4 : Int) {w : World} {R : Ending → World → Prop} (h : (t55 i0 i1 i2 i3 i4).sem Try.prog R ρ0 w) : Calls Try.prog 55 #[.agg #[.int .i64 i0, .int .i64 i1, .int .i64 i2, .int .i64 i3, .int .i64 i4]] w R :=
  calls_of mixed Try.func55 rfl rfl (e55 i0 i1 i2 i3 i4) h
def t42 (i0 : Int) : T :=
  T.new (Obj.cells (Array.mk [Value.int IntKind.i64 0]) 85) fun n1 =>
  T.st n1 0 (Value.int IntKind.i64 i0)
    (T.ite false (T.pan (Value.iface 85 (Value.agg (Array.mk [Value.int IntKind.i64 i0])))) (T.ldI IntKind.i64 n1 0 fun i2 => T.ret (Value.int IntKind.i64 i2)))
theorem e42 (i0 : Int) : treeOf Try.prog Try.f42 (codeOf Try.f42) .n [.v (.iface 85 (.agg #[.int .i64 i0]))] = (t42 i0) := by kernel_rfl
theorem c42 (i0 : Int) {w : World} {R : Ending → World → Prop} (h : (t42 i0).sem Try.prog R ρ0 w) : Calls Try.prog 42 #[.iface 85 (.agg #[.int .i64 i0])] w R :=
  calls_of mixed Try.func42 rfl rfl (e42 i0) h
end Go.Proofs.Ytgoecmggbcaoiaa
