/- The functions' trees, printed by a program (wip/tools/Emit.lean) and checked by the kernel against the model's own code. -/
import Derived.Test.YteimilnigiagjaaTreesG
import Derived.Test.YteimilnigiagjaaProg
namespace Go.Proofs.Yteimilnigiagjaa
open Go hiding Expr
open Go.Proofs.Yteimilnigiagjaa.Tr
set_option linter.unusedVariables false
set_option maxRecDepth 100000
def t24 (o0 : Option Addr) (n1 n2 : Nat) : T :=
  T.loop 0 [Value.slice none 0 0, Value.int IntKind.i64 0] fun l3 j4 =>
  T.asS (List.headD l3 (Value.tuple (Array.mk []))) fun o5 n6 n7 =>
    T.asI IntKind.i64 (List.headD (List.tail l3) (Value.tuple (Array.mk []))) fun i8 =>
    T.ite (decide (i8 < (↑n1 : Int)))
    (T.blk 1
    (fun l9 j10 =>
    T.asI IntKind.i64 (List.headD l9 (Value.tuple (Array.mk []))) fun i11 =>
    T.blk 1
    (fun l12 j13 =>
    T.drew
    (T.req (0 ≤ i11 ∧ i11 ≤ (↑n7 : Int))
    (T.req (0 ≤ i8 ∧ i8 < (↑n1 : Int))
    (T.sm o0 fun n14 n15 =>
    T.ldI IntKind.i32 n14 (n15 + Int.toNat i8 * 2) fun i16 =>
    T.ldI IntKind.i64 n14 (n15 + Int.toNat i8 * 2 + 1) fun i17 =>
    T.req (0 ≤ i11 ∧ i11 ≤ (↑n6 : Int))
    (T.both
    (T.run
    (biV Builtin.append (Array.mk [35, 35]) 35
    (Array.mk [Value.slice none 0 0, Value.slice (sliceBase o5 0 n7 2) (Int.toNat i11) n7]))
    fun v18 =>
    T.asS v18 fun o19 n20 n21 =>
    T.chk
    [(Addr.mk n14 (n15 + Int.toNat i8 * 2) none, Value.int IntKind.i32 i16),
    (Addr.mk n14 (n15 + Int.toNat i8 * 2 + 1) none, Value.int IntKind.i64 i17)]
    (T.new (Obj.cells (Array.mk [Value.int IntKind.i32 i16, Value.int IntKind.i64 i17]) 23) fun n22 =>
    T.chk []
    (T.run
    (biV Builtin.append (Array.mk [35, 35]) 35
    (Array.mk [Value.slice o19 n20 n21, Value.slice (some (Addr.mk n22 0 none)) 1 1]))
    fun v23 =>
    T.asS v23 fun o24 n25 n26 =>
    T.chk []
    (T.run
    (biV Builtin.append (Array.mk [35, 35]) 35
    (Array.mk
    [Value.slice o24 n25 n26,
    Value.slice (sliceBase o5 (Int.toNat i11) n7 2) (n6 - Int.toNat i11) (n7 - Int.toNat i11)]))
    fun v27 =>
    T.asS v27 fun o28 n29 n30 =>
    T.chk []
    (T.next 0 [Value.slice o28 n29 n30, Value.int IntKind.i64 (IntKind.wrap IntKind.i64 (i8 + 1))]
    ([Value.slice o0 n1 n2] = [Value.slice o0 n1 n2] ∧ ([] : List Deferred) = []))))))
    (T.new (Obj.cells (Array.mk [Value.int IntKind.i32 i16, Value.int IntKind.i64 i17]) 23) fun n31 =>
    T.chk []
    (T.run
    (biV Builtin.append (Array.mk [35, 35]) 35
    (Array.mk [Value.slice none 0 0, Value.slice (sliceBase o5 0 n7 2) (Int.toNat i11) n7]))
    fun v32 =>
    T.asS v32 fun o33 n34 n35 =>
    T.chk []
    (T.run
    (biV Builtin.append (Array.mk [35, 35]) 35
    (Array.mk [Value.slice o33 n34 n35, Value.slice (some (Addr.mk n31 0 none)) 1 1]))
    fun v36 =>
    T.asS v36 fun o37 n38 n39 =>
    T.chk []
    (T.run
    (biV Builtin.append (Array.mk [35, 35]) 35
    (Array.mk
    [Value.slice o37 n38 n39,
    Value.slice (sliceBase o5 (Int.toNat i11) n7 2) (n6 - Int.toNat i11) (n7 - Int.toNat i11)]))
    fun v40 =>
    T.asS v40 fun o41 n42 n43 =>
    T.chk []
    (T.next 0 [Value.slice o41 n42 n43, Value.int IntKind.i64 (IntKind.wrap IntKind.i64 (i8 + 1))]
    ([Value.slice o0 n1 n2] = [Value.slice o0 n1 n2] ∧ ([] : List Deferred) = [])))))))))))
    (T.drew
    (T.ite (decide (i11 < (↑n6 : Int)))
    (T.req (0 ≤ i11 ∧ i11 < (↑n6 : Int))
    (T.sm o5 fun n44 n45 =>
    T.ldI IntKind.i32 n44 (n45 + Int.toNat i11 * 2) fun i46 =>
    T.ldI IntKind.i64 n44 (n45 + Int.toNat i11 * 2 + 1) fun i47 =>
    T.req (0 ≤ i8 ∧ i8 < (↑n1 : Int))
    (T.sm o0 fun n48 n49 =>
    T.ldI IntKind.i32 n48 (n49 + Int.toNat i8 * 2) fun i50 =>
    T.ldI IntKind.i64 n48 (n49 + Int.toNat i8 * 2 + 1) fun i51 =>
    T.ite (i46 == i50 && (i47 == i51 && true))
    (T.next 0 [Value.slice o5 n6 n7, Value.int IntKind.i64 (IntKind.wrap IntKind.i64 (i8 + 1))]
    ([Value.slice o0 n1 n2] = [Value.slice o0 n1 n2] ∧ ([] : List Deferred) = []))
    (T.next 1 []
    ([Value.slice o0 n1 n2, Value.slice o5 n6 n7, Value.int IntKind.i64 i8, Value.int IntKind.i64 i11] =
    [Value.slice o0 n1 n2, Value.slice o5 n6 n7, Value.int IntKind.i64 i8, Value.int IntKind.i64 i11] ∧ ([] : List Deferred) = [])))))
    (T.next 1 []
    ([Value.slice o0 n1 n2, Value.slice o5 n6 n7, Value.int IntKind.i64 i8, Value.int IntKind.i64 i11] =
    [Value.slice o0 n1 n2, Value.slice o5 n6 n7, Value.int IntKind.i64 i8, Value.int IntKind.i64 i11] ∧ ([] : List Deferred) = [])))))
    (T.loop 2 [Value.int IntKind.i64 0] fun l52 j53 =>
    T.asI IntKind.i64 (List.headD l52 (Value.tuple (Array.mk []))) fun i54 =>
    T.drew
    (T.ite (decide (i54 < (↑n6 : Int)))
    (T.req (0 ≤ i54 ∧ i54 < (↑n6 : Int))
    (T.sm o5 fun n55 n56 =>
    T.ldI IntKind.i32 n55 (n56 + Int.toNat i54 * 2) fun i57 =>
    T.ldI IntKind.i64 n55 (n56 + Int.toNat i54 * 2 + 1) fun i58 =>
    T.req (0 ≤ i8 ∧ i8 < (↑n1 : Int))
    (T.sm o0 fun n59 n60 =>
    T.ldI IntKind.i32 n59 (n60 + Int.toNat i8 * 2) fun i61 =>
    T.ldI IntKind.i64 n59 (n60 + Int.toNat i8 * 2 + 1) fun i62 =>
    T.call 14
    [Value.agg (Array.mk [Value.int IntKind.i32 i57, Value.int IntKind.i64 i58]),
    Value.agg (Array.mk [Value.int IntKind.i32 i61, Value.int IntKind.i64 i62])]
    fun v63 =>
    T.asI IntKind.i64 v63 fun i64 =>
    T.chk []
    (T.ite (decide (i64 < 0))
    (T.next 2 [Value.int IntKind.i64 (IntKind.wrap IntKind.i64 (i54 + 1))]
    ([Value.slice o0 n1 n2, Value.slice o5 n6 n7, Value.int IntKind.i64 i8] =
    [Value.slice o0 n1 n2, Value.slice o5 n6 n7, Value.int IntKind.i64 i8] ∧ ([] : List Deferred) = []))
    (T.next 1 [Value.int IntKind.i64 i54]
    ([Value.slice o0 n1 n2, Value.slice o5 n6 n7, Value.int IntKind.i64 i8] =
    [Value.slice o0 n1 n2, Value.slice o5 n6 n7, Value.int IntKind.i64 i8] ∧ ([] : List Deferred) = []))))))
    (T.chk []
    (T.next 1 [Value.int IntKind.i64 i54]
    ([Value.slice o0 n1 n2, Value.slice o5 n6 n7, Value.int IntKind.i64 i8] =
    [Value.slice o0 n1 n2, Value.slice o5 n6 n7, Value.int IntKind.i64 i8] ∧ ([] : List Deferred) = []))))))
    (T.ret (Value.slice o5 n6 n7))
theorem e24 (o0 : Option Addr) (n1 n2 : Nat) : treeOf Try.prog Try.f24 (codeOf Try.f24) (.s .n (.s .n (.s (.s .n (.u (.l [(3, .slice), (4, .int .i64)] [0] (.s .n (.s (.u (.s .n (.c [(5, .int .i64)] [0, 3, 4] (.u (.l [(5, .int .i64)] [0, 3, 4] (.s (.s (.p [0, 1, 2, 3, 4, 5, 6, 7, 8, 9, 10, 11, 12, 13, 14, 15]) .n) .n))) (.c [] [0, 3, 4, 5] (.s (.p [0, 1, 2, 3, 4, 5, 6, 7, 8, 9, 10, 11, 12, 13, 14]) .n) (.s .n (.p [0, 1, 2, 3, 5, 6, 7, 8, 11, 12, 13, 4, 9, 10, 14, 15])))))) .n))))) .n))) [.v (.slice o0 n1 n2)] = (t24 o0 n1 n2) := by kernel_rfl
theorem c24 (o0 : Option Addr) (n1 n2 : Nat) {w : World} {R : Ending → World → Prop} (h : (t24 o0 n1 n2).sem Try.prog R ρ0 w) : Calls Try.prog 24 #[.slice o0 n1 n2] w R :=
  calls_of mixed Try.func24 rfl rfl (e24 o0 n1 n2) h
def t25 (o0 : Option Addr) (n1 n2 : Nat) (o3 : Option Addr) (n4 n5 : Nat) : T :=
  T.ite ((↑n1 : Int) != (↑n4 : Int)) (T.ret (Value.bool false))
  (T.loop 0 [Value.int IntKind.i64 0] fun l6 j7 =>
    T.asI IntKind.i64 (List.headD l6 (Value.tuple (Array.mk []))) fun i8 =>
    T.ite (decide (i8 < (↑n1 : Int)))
    (T.drew
    (T.req (0 ≤ i8 ∧ i8 < (↑n1 : Int))
    (T.sm o0 fun n9 n10 =>
    T.ldI IntKind.i32 n9 (n10 + Int.toNat i8 * 3) fun i11 =>
    T.ldI IntKind.i64 n9 (n10 + Int.toNat i8 * 3 + 1) fun i12 =>
    T.ldI IntKind.i64 n9 (n10 + Int.toNat i8 * 3 + 2) fun i13 =>
    T.req (0 ≤ i8 ∧ i8 < (↑n4 : Int))
    (T.sm o3 fun n14 n15 =>
    T.ldI IntKind.i32 n14 (n15 + Int.toNat i8 * 3) fun i16 =>
    T.ldI IntKind.i64 n14 (n15 + Int.toNat i8 * 3 + 1) fun i17 =>
    T.ldI IntKind.i64 n14 (n15 + Int.toNat i8 * 3 + 2) fun i18 =>
    T.ite (!(i11 == i16 && (i12 == i17 && true) && (i13 == i18 && true))) (T.ret (Value.bool false))
    (T.next 0 [Value.int IntKind.i64 (IntKind.wrap IntKind.i64 (i8 + 1))]
    ([Value.slice o0 n1 n2, Value.slice o3 n4 n5] = [Value.slice o0 n1 n2, Value.slice o3 n4 n5] ∧ ([] : List Deferred) = []))))))
    (T.ret (Value.bool true)))
theorem e25 (o0 : Option Addr) (n1 n2 : Nat) (o3 : Option Addr) (n4 n5 : Nat) : treeOf Try.prog Try.f25 (codeOf Try.f25) (.s .n (.s .n (.s (.s .n (.u (.l [(5, .int .i64)] [0, 1] (.s .n (.s (.u (.s (.p [0, 1, 2, 3, 4, 5, 6, 7, 8]) .n)) .n))))) .n))) [.v (.slice o0 n1 n2), .v (.slice o3 n4 n5)] = (t25 o0 n1 n2 o3 n4 n5) := by kernel_rfl
theorem c25 (o0 : Option Addr) (n1 n2 : Nat) (o3 : Option Addr) (n4 n5 : Nat) {w : World} {R : Ending → World → Prop} (h : (t25 o0 n1 n2 o3 n4 n5).sem Try.prog R ρ0 w) : Calls Try.prog 25 #[.slice o0 n1 n2, .slice o3 n4 n5] w R :=
  calls_of mixed Try.func25 rfl rfl (e25 o0 n1 n2 o3 n4 n5) h
def t27 (o0 : Option Addr) (n1 n2 : Nat) : T :=
  T.loop 0 [Value.slice none 0 0, Value.int IntKind.i64 0] fun l3 j4 =>
  T.asS (List.headD l3 (Value.tuple (Array.mk []))) fun o5 n6 n7 =>
    T.asI IntKind.i64 (List.headD (List.tail l3) (Value.tuple (Array.mk []))) fun i8 =>
    T.ite (decide (i8 < (↑n1 : Int)))
    (T.blk 1
    (fun l9 j10 =>
    T.asI IntKind.i64 (List.headD l9 (Value.tuple (Array.mk []))) fun i11 =>
    T.drew
    (T.req (0 ≤ i11 ∧ i11 ≤ (↑n7 : Int))
    (T.req (0 ≤ i8 ∧ i8 < (↑n1 : Int))
    (T.sm o0 fun n12 n13 =>
    T.ldI IntKind.i32 n12 (n13 + Int.toNat i8 * 3) fun i14 =>
    T.ldI IntKind.i64 n12 (n13 + Int.toNat i8 * 3 + 1) fun i15 =>
    T.ldI IntKind.i64 n12 (n13 + Int.toNat i8 * 3 + 2) fun i16 =>
    T.both
    (T.run
    (biV Builtin.append (Array.mk [40, 40]) 40
    (Array.mk [Value.slice none 0 0, Value.slice (sliceBase o5 0 n7 3) (Int.toNat i11) n7]))
    fun v17 =>
    T.asS v17 fun o18 n19 n20 =>
    T.chk
    [(Addr.mk n12 (n13 + Int.toNat i8 * 3) none, Value.int IntKind.i32 i14),
    (Addr.mk n12 (n13 + Int.toNat i8 * 3 + 1) none, Value.int IntKind.i64 i15),
    (Addr.mk n12 (n13 + Int.toNat i8 * 3 + 2) none, Value.int IntKind.i64 i16)]
    (T.new (Obj.cells (Array.mk [Value.int IntKind.i32 i14, Value.int IntKind.i64 i15, Value.int IntKind.i64 i16]) 51)
    fun n21 =>
    T.chk []
    (T.run
    (biV Builtin.append (Array.mk [40, 40]) 40
    (Array.mk [Value.slice o18 n19 n20, Value.slice (some (Addr.mk n21 0 none)) 1 1]))
    fun v22 =>
    T.asS v22 fun o23 n24 n25 =>
    T.chk []
    (T.blk 1
    (fun l26 j27 =>
    T.asI IntKind.i64 (List.headD l26 (Value.tuple (Array.mk []))) fun i28 =>
    T.req (0 ≤ i28 ∧ i28 ≤ (↑n6 : Int))
    (T.run
    (biV Builtin.append (Array.mk [40, 40]) 40
    (Array.mk
    [Value.slice o23 n24 n25,
    Value.slice (sliceBase o5 (Int.toNat i28) n7 3) (n6 - Int.toNat i28) (n7 - Int.toNat i28)]))
    fun v29 =>
    T.asS v29 fun o30 n31 n32 =>
    T.next 0 [Value.slice o30 n31 n32, Value.int IntKind.i64 (IntKind.wrap IntKind.i64 (i8 + 1))]
    ([Value.slice o0 n1 n2] = [Value.slice o0 n1 n2] ∧ ([] : List Deferred) = [])))
    (T.drew
    (T.ite (decide (i11 < (↑n6 : Int)))
    (T.req (0 ≤ i11 ∧ i11 < (↑n6 : Int))
    (T.sm o5 fun n33 n34 =>
    T.ldI IntKind.i32 n33 (n34 + Int.toNat i11 * 3) fun i35 =>
    T.ldI IntKind.i64 n33 (n34 + Int.toNat i11 * 3 + 1) fun i36 =>
    T.req (0 ≤ i8 ∧ i8 < (↑n1 : Int))
    (T.sm o0 fun n37 n38 =>
    T.ldI IntKind.i32 n37 (n38 + Int.toNat i8 * 3) fun i39 =>
    T.ldI IntKind.i64 n37 (n38 + Int.toNat i8 * 3 + 1) fun i40 =>
    T.ite (i35 == i39 && (i36 == i40 && true))
    (T.next 1 [Value.int IntKind.i64 (IntKind.wrap IntKind.i64 (i11 + 1))]
    ([Value.slice o0 n1 n2, Value.slice o5 n6 n7, Value.int IntKind.i64 i8,
    Value.slice o23 n24 n25] =
    [Value.slice o0 n1 n2, Value.slice o5 n6 n7, Value.int IntKind.i64 i8,
    Value.slice o23 n24 n25] ∧ ([] : List Deferred) = []))
    (T.next 1 [Value.int IntKind.i64 i11]
    ([Value.slice o0 n1 n2, Value.slice o5 n6 n7, Value.int IntKind.i64 i8,
    Value.slice o23 n24 n25] =
    [Value.slice o0 n1 n2, Value.slice o5 n6 n7, Value.int IntKind.i64 i8,
    Value.slice o23 n24 n25] ∧ ([] : List Deferred) = [])))))
    (T.next 1 [Value.int IntKind.i64 i11]
    ([Value.slice o0 n1 n2, Value.slice o5 n6 n7, Value.int IntKind.i64 i8, Value.slice o23 n24 n25] =
    [Value.slice o0 n1 n2, Value.slice o5 n6 n7, Value.int IntKind.i64 i8, Value.slice o23 n24 n25] ∧ ([] : List Deferred) = []))))))))
    (T.new (Obj.cells (Array.mk [Value.int IntKind.i32 i14, Value.int IntKind.i64 i15, Value.int IntKind.i64 i16]) 51) fun n41 =>
    T.chk []
    (T.run
    (biV Builtin.append (Array.mk [40, 40]) 40
    (Array.mk [Value.slice none 0 0, Value.slice (sliceBase o5 0 n7 3) (Int.toNat i11) n7]))
    fun v42 =>
    T.asS v42 fun o43 n44 n45 =>
    T.chk []
    (T.run
    (biV Builtin.append (Array.mk [40, 40]) 40
    (Array.mk [Value.slice o43 n44 n45, Value.slice (some (Addr.mk n41 0 none)) 1 1]))
    fun v46 =>
    T.asS v46 fun o47 n48 n49 =>
    T.chk []
    (T.blk 1
    (fun l50 j51 =>
    T.asI IntKind.i64 (List.headD l50 (Value.tuple (Array.mk []))) fun i52 =>
    T.req (0 ≤ i52 ∧ i52 ≤ (↑n6 : Int))
    (T.run
    (biV Builtin.append (Array.mk [40, 40]) 40
    (Array.mk
    [Value.slice o47 n48 n49,
    Value.slice (sliceBase o5 (Int.toNat i52) n7 3) (n6 - Int.toNat i52) (n7 - Int.toNat i52)]))
    fun v53 =>
    T.asS v53 fun o54 n55 n56 =>
    T.next 0 [Value.slice o54 n55 n56, Value.int IntKind.i64 (IntKind.wrap IntKind.i64 (i8 + 1))]
    ([Value.slice o0 n1 n2] = [Value.slice o0 n1 n2] ∧ ([] : List Deferred) = [])))
    (T.drew
    (T.ite (decide (i11 < (↑n6 : Int)))
    (T.req (0 ≤ i11 ∧ i11 < (↑n6 : Int))
    (T.sm o5 fun n57 n58 =>
    T.ldI IntKind.i32 n57 (n58 + Int.toNat i11 * 3) fun i59 =>
    T.ldI IntKind.i64 n57 (n58 + Int.toNat i11 * 3 + 1) fun i60 =>
    T.req (0 ≤ i8 ∧ i8 < (↑n1 : Int))
    (T.sm o0 fun n61 n62 =>
    T.ldI IntKind.i32 n61 (n62 + Int.toNat i8 * 3) fun i63 =>
    T.ldI IntKind.i64 n61 (n62 + Int.toNat i8 * 3 + 1) fun i64 =>
    T.ite (i59 == i63 && (i60 == i64 && true))
    (T.next 1 [Value.int IntKind.i64 (IntKind.wrap IntKind.i64 (i11 + 1))]
    ([Value.slice o0 n1 n2, Value.slice o5 n6 n7, Value.int IntKind.i64 i8,
    Value.slice o47 n48 n49] =
    [Value.slice o0 n1 n2, Value.slice o5 n6 n7, Value.int IntKind.i64 i8,
    Value.slice o47 n48 n49] ∧ ([] : List Deferred) = []))
    (T.next 1 [Value.int IntKind.i64 i11]
    ([Value.slice o0 n1 n2, Value.slice o5 n6 n7, Value.int IntKind.i64 i8,
    Value.slice o47 n48 n49] =
    [Value.slice o0 n1 n2, Value.slice o5 n6 n7, Value.int IntKind.i64 i8,
    Value.slice o47 n48 n49] ∧ ([] : List Deferred) = [])))))
    (T.next 1 [Value.int IntKind.i64 i11]
    ([Value.slice o0 n1 n2, Value.slice o5 n6 n7, Value.int IntKind.i64 i8, Value.slice o47 n48 n49] =
    [Value.slice o0 n1 n2, Value.slice o5 n6 n7, Value.int IntKind.i64 i8, Value.slice o47 n48 n49] ∧ ([] : List Deferred) = []))))))))))))
    (T.loop 2 [Value.int IntKind.i64 0] fun l65 j66 =>
    T.asI IntKind.i64 (List.headD l65 (Value.tuple (Array.mk []))) fun i67 =>
    T.drew
    (T.ite (decide (i67 < (↑n6 : Int)))
    (T.req (0 ≤ i67 ∧ i67 < (↑n6 : Int))
    (T.sm o5 fun n68 n69 =>
    T.ldI IntKind.i32 n68 (n69 + Int.toNat i67 * 3) fun i70 =>
    T.ldI IntKind.i64 n68 (n69 + Int.toNat i67 * 3 + 1) fun i71 =>
    T.req (0 ≤ i8 ∧ i8 < (↑n1 : Int))
    (T.sm o0 fun n72 n73 =>
    T.ldI IntKind.i32 n72 (n73 + Int.toNat i8 * 3) fun i74 =>
    T.ldI IntKind.i64 n72 (n73 + Int.toNat i8 * 3 + 1) fun i75 =>
    T.call 14
    [Value.agg (Array.mk [Value.int IntKind.i32 i70, Value.int IntKind.i64 i71]),
    Value.agg (Array.mk [Value.int IntKind.i32 i74, Value.int IntKind.i64 i75])]
    fun v76 =>
    T.asI IntKind.i64 v76 fun i77 =>
    T.chk []
    (T.ite (decide (i77 < 0))
    (T.next 2 [Value.int IntKind.i64 (IntKind.wrap IntKind.i64 (i67 + 1))]
    ([Value.slice o0 n1 n2, Value.slice o5 n6 n7, Value.int IntKind.i64 i8] =
    [Value.slice o0 n1 n2, Value.slice o5 n6 n7, Value.int IntKind.i64 i8] ∧ ([] : List Deferred) = []))
    (T.next 1 [Value.int IntKind.i64 i67]
    ([Value.slice o0 n1 n2, Value.slice o5 n6 n7, Value.int IntKind.i64 i8] =
    [Value.slice o0 n1 n2, Value.slice o5 n6 n7, Value.int IntKind.i64 i8] ∧ ([] : List Deferred) = []))))))
    (T.chk []
    (T.next 1 [Value.int IntKind.i64 i67]
    ([Value.slice o0 n1 n2, Value.slice o5 n6 n7, Value.int IntKind.i64 i8] =
    [Value.slice o0 n1 n2, Value.slice o5 n6 n7, Value.int IntKind.i64 i8] ∧ ([] : List Deferred) = []))))))
    (T.ret (Value.slice o5 n6 n7))
theorem e27 (o0 : Option Addr) (n1 n2 : Nat) : treeOf Try.prog Try.f27 (codeOf Try.f27) (.s .n (.s .n (.s (.s .n (.u (.l [(3, .slice), (4, .int .i64)] [0] (.s .n (.s (.u (.s .n (.c [(5, .int .i64)] [0, 3, 4] (.u (.l [(5, .int .i64)] [0, 3, 4] (.s (.s (.p [0, 1, 2, 3, 4, 5, 6, 7, 8, 9, 10, 11, 12, 13, 14, 15, 16, 17]) .n) .n))) (.s .n (.s (.p [0, 1, 2, 3, 5, 6, 7, 8, 4, 9, 10, 11]) (.c [(5, .int .i64)] [0, 3, 4, 6] (.s (.p [0, 1, 2, 3, 4, 5, 6, 7, 8, 9, 10, 11, 12, 13, 14, 15, 16]) .n) .n)))))) .n))))) .n))) [.v (.slice o0 n1 n2)] = (t27 o0 n1 n2) := by kernel_rfl
theorem c27 (o0 : Option Addr) (n1 n2 : Nat) {w : World} {R : Ending → World → Prop} (h : (t27 o0 n1 n2).sem Try.prog R ρ0 w) : Calls Try.prog 27 #[.slice o0 n1 n2] w R :=
  calls_of mixed Try.func27 rfl rfl (e27 o0 n1 n2) h
def t28 (o0 : Option Addr) (n1 n2 : Nat) (i3 : Int) (i4 : Int) : T :=
  T.new (Obj.cells (Array.mk [Value.int IntKind.i32 i3, Value.int IntKind.i64 i4]) 23) fun n5 =>
  T.loop 0 [Value.int IntKind.i64 0] fun l6 j7 =>
    T.asI IntKind.i64 (List.headD l6 (Value.tuple (Array.mk []))) fun i8 =>
    T.ite (decide (i8 < (↑n1 : Int)))
    (T.drew
    (T.req (0 ≤ i8 ∧ i8 < (↑n1 : Int))
    (T.sm o0 fun n9 n10 =>
    T.ldI IntKind.i32 n9 (n10 + Int.toNat i8 * 2) fun i11 =>
    T.ldI IntKind.i64 n9 (n10 + Int.toNat i8 * 2 + 1) fun i12 =>
    T.ldI IntKind.i32 n5 0 fun i13 =>
    T.ldI IntKind.i64 n5 1 fun i14 =>
    T.ite (i11 == i13 && (i12 == i14 && true)) (T.ret (Value.bool true))
    (T.next 0 [Value.int IntKind.i64 (IntKind.wrap IntKind.i64 (i8 + 1))]
    ([Value.slice o0 n1 n2, Value.pointer (some (Addr.mk n5 0 none))] = [Value.slice o0 n1 n2, Value.pointer (some (Addr.mk n5 0 none))] ∧ ([] : List Deferred) = [])))))
    (T.ret (Value.bool false))
theorem e28 (o0 : Option Addr) (n1 n2 : Nat) (i3 : Int) (i4 : Int) : treeOf Try.prog Try.f28 (codeOf Try.f28) (.s .n (.s (.s .n (.u (.l [(5, .int .i64)] [0, 3] (.s .n (.s (.u (.s (.p [0, 1, 2, 3, 4, 5]) .n)) .n))))) .n)) [.v (.slice o0 n1 n2), .v (.agg #[.int .i32 i3, .int .i64 i4])] = (t28 o0 n1 n2 i3 i4) := by kernel_rfl
theorem c28 (o0 : Option Addr) (n1 n2 : Nat) (i3 : Int) (i4 : Int) {w : World} {R : Ending → World → Prop} (h : (t28 o0 n1 n2 i3 i4).sem Try.prog R ρ0 w) : Calls Try.prog 28 #[.slice o0 n1 n2, .agg #[.int .i32 i3, .int .i64 i4]] w R :=
  calls_of mixed Try.func28 rfl rfl (e28 o0 n1 n2 i3 i4) h
def t44 (n0 n1 : Nat) : T :=
  T.call 52 [Value.func (Fn.func 53) (Array.mk []) (Array.mk [Value.pointer (some (Addr.mk n0 n1 none))])] fun v2 =>
  T.asS v2 fun o3 n4 n5 => T.call 42 [Value.slice o3 n4 n5, Value.func (Fn.func 10) (Array.mk []) (Array.mk [])] fun v6 => T.ret (Value.slice o3 n4 n5)
theorem e44 (n0 n1 : Nat) : treeOf Try.prog Try.f44 (codeOf Try.f44) .n [.v (.func (.func 53) #[] #[.pointer (some ⟨n0, n1, none⟩)]), .v (.func (.func 10) #[] #[])] = (t44 n0 n1) := by kernel_rfl
theorem c44 (n0 n1 : Nat) {w : World} {R : Ending → World → Prop} (h : (t44 n0 n1).sem Try.prog R ρ0 w) : Calls Try.prog 44 #[.func (.func 53) #[] #[.pointer (some ⟨n0, n1, none⟩)], .func (.func 10) #[] #[]] w R :=
  calls_of mixed Try.func44 rfl rfl (e44 n0 n1) h
def t52 (n0 n1 : Nat) : T :=
  T.call 65 [Value.slice none 0 0, Value.func (Fn.func 53) (Array.mk []) (Array.mk [Value.pointer (some (Addr.mk n0 n1 none))])] fun v2 =>
  T.asS v2 fun o3 n4 n5 => T.ret (Value.slice o3 n4 n5)
theorem e52 (n0 n1 : Nat) : treeOf Try.prog Try.f52 (codeOf Try.f52) .n [.v (.func (.func 53) #[] #[.pointer (some ⟨n0, n1, none⟩)])] = (t52 n0 n1) := by kernel_rfl
theorem c52 (n0 n1 : Nat) {w : World} {R : Ending → World → Prop} (h : (t52 n0 n1).sem Try.prog R ρ0 w) : Calls Try.prog 52 #[.func (.func 53) #[] #[.pointer (some ⟨n0, n1, none⟩)]] w R :=
  calls_of mixed Try.func52 rfl rfl (e52 n0 n1) h
def t53 (n0 : Nat) (n1 n2 : Nat) : T :=
  T.ldM n1 n2 fun o3 =>
  T.run (Instr.range 65 (Value.map o3)) fun v4 =>
    T.asP v4 fun o5 =>
    T.sm o5 fun n6 n7 =>
    T.req (n7 = 0)
    (T.loop 0 [] fun l8 j9 =>
    T.run (Instr.next (Value.pointer (some (Addr.mk n6 0 none))) false 0) fun v10 =>
    T.asU v10 fun l11 =>
    T.ite (decide (List.length l11 = 1))
    (T.req (l11 = [Value.bool false])
    (T.ite false
    (T.run (Instr.entry (Value.pointer (some (Addr.mk n6 0 none)))) fun v12 =>
    T.asU v12 fun l13 =>
    T.req (List.length l13 = 2)
    (T.asA (List.getD l13 0 (Value.tuple (Array.mk []))) fun l14 =>
    T.req (List.length l14 = 2)
    (T.asI IntKind.i32 (List.headD l14 (Value.tuple (Array.mk []))) fun i15 =>
    T.asI IntKind.i64 (List.headD (List.tail l14) (Value.tuple (Array.mk []))) fun i16 =>
    T.asI IntKind.i64 (List.getD l13 1 (Value.tuple (Array.mk []))) fun i17 =>
    T.new (Obj.cells (Array.mk [Value.int IntKind.i32 0, Value.int IntKind.i64 0]) 23) fun n18 =>
    T.st n18 0 (Value.int IntKind.i32 i15)
    (T.st n18 1 (Value.int IntKind.i64 i16)
    (T.ldI IntKind.i32 n18 0 fun i19 =>
    T.ldI IntKind.i64 n18 1 fun i20 =>
    T.yl n0 [Value.agg (Array.mk [Value.int IntKind.i32 i19, Value.int IntKind.i64 i20])] fun v21 =>
    T.asB v21 fun b22 =>
    T.ite (!b22) (T.ret (Value.tuple (Array.mk [])))
    (T.next 0 []
    ([Value.func (Fn.yield n0) (Array.mk []) (Array.mk []), Value.pointer (some (Addr.mk n6 0 none))] =
    [Value.func (Fn.yield n0) (Array.mk []) (Array.mk []), Value.pointer (some (Addr.mk n6 0 none))] ∧ ([] : List Deferred) = [])))))))
    (T.ret (Value.tuple (Array.mk [])))))
    (T.req (List.length l11 = 3 ∧ List.headD l11 (Value.tuple (Array.mk [])) = Value.bool true)
    (T.asA (List.getD l11 1 (Value.tuple (Array.mk []))) fun l23 =>
    T.req (List.length l23 = 2)
    (T.asI IntKind.i32 (List.headD l23 (Value.tuple (Array.mk []))) fun i24 =>
    T.asI IntKind.i64 (List.headD (List.tail l23) (Value.tuple (Array.mk []))) fun i25 =>
    T.asI IntKind.i64 (List.getD l11 2 (Value.tuple (Array.mk []))) fun i26 =>
    T.ite true
    (T.run (Instr.entry (Value.pointer (some (Addr.mk n6 0 none)))) fun v27 =>
    T.asU v27 fun l28 =>
    T.req (List.length l28 = 2)
    (T.asA (List.getD l28 0 (Value.tuple (Array.mk []))) fun l29 =>
    T.req (List.length l29 = 2)
    (T.asI IntKind.i32 (List.headD l29 (Value.tuple (Array.mk []))) fun i30 =>
    T.asI IntKind.i64 (List.headD (List.tail l29) (Value.tuple (Array.mk []))) fun i31 =>
    T.asI IntKind.i64 (List.getD l28 1 (Value.tuple (Array.mk []))) fun i32 =>
    T.new (Obj.cells (Array.mk [Value.int IntKind.i32 0, Value.int IntKind.i64 0]) 23) fun n33 =>
    T.st n33 0 (Value.int IntKind.i32 i30)
    (T.st n33 1 (Value.int IntKind.i64 i31)
    (T.ldI IntKind.i32 n33 0 fun i34 =>
    T.ldI IntKind.i64 n33 1 fun i35 =>
    T.yl n0 [Value.agg (Array.mk [Value.int IntKind.i32 i34, Value.int IntKind.i64 i35])] fun v36 =>
    T.asB v36 fun b37 =>
    T.ite (!b37) (T.ret (Value.tuple (Array.mk [])))
    (T.next 0 []
    ([Value.func (Fn.yield n0) (Array.mk []) (Array.mk []),
    Value.pointer (some (Addr.mk n6 0 none))] =
    [Value.func (Fn.yield n0) (Array.mk []) (Array.mk []),
    Value.pointer (some (Addr.mk n6 0 none))] ∧ ([] : List Deferred) = [])))))))
    (T.ret (Value.tuple (Array.mk [])))))))
theorem e53 (n0 : Nat) (n1 n2 : Nat) : treeOf Try.prog Try.f53 (codeOf Try.f53) (.s .n (.u (.l [] [0, 5] .n))) [.v (.func (.yield n0) #[] #[]), .p n1 n2] = (t53 n0 n1 n2) := by kernel_rfl
theorem c53 (n0 : Nat) (n1 n2 : Nat) {w : World} {R : Ending → World → Prop} (h : (t53 n0 n1 n2).sem Try.prog R ρ0 w) : Calls Try.prog 53 #[.func (.yield n0) #[] #[], .pointer (some ⟨n1, n2, none⟩)] w R :=
  calls_of mixed Try.func53 rfl rfl (e53 n0 n1 n2) h
def t65 (o0 : Option Addr) (n1 n2 : Nat) (n3 n4 : Nat) : T :=
  T.new (Obj.cells (Array.mk [Value.slice o0 n1 n2]) 35) fun n5 =>
  T.rf none 0 53 [Value.pointer (some (Addr.mk n3 n4 none))]
    (fun n6 l7 =>
    T.req (List.length l7 = 1)
    (T.asA (List.headD l7 (Value.tuple (Array.mk []))) fun l8 =>
    T.req (List.length l8 = 2)
    (T.asI IntKind.i32 (List.headD l8 (Value.tuple (Array.mk []))) fun i9 =>
    T.asI IntKind.i64 (List.headD (List.tail l8) (Value.tuple (Array.mk []))) fun i10 =>
    T.new (Obj.cells (Array.mk [Value.int IntKind.i32 0, Value.int IntKind.i64 0]) 23) fun n11 =>
    T.st n11 0 (Value.int IntKind.i32 i9)
    (T.st n11 1 (Value.int IntKind.i64 i10)
    (T.beg n6
    (T.ldS n5 0 fun o12 n13 n14 =>
    T.ldI IntKind.i32 n11 0 fun i15 =>
    T.ldI IntKind.i64 n11 1 fun i16 =>
    T.new (Obj.cells (Array.mk [Value.int IntKind.i32 i15, Value.int IntKind.i64 i16]) 23) fun n17 =>
    T.run
    (biV Builtin.append (Array.mk [35, 35]) 35 (Array.mk [Value.slice o12 n13 n14, Value.slice (some (Addr.mk n17 0 none)) 1 1]))
    fun v18 =>
    T.asS v18 fun o19 n20 n21 =>
    T.st n5 0 (Value.slice o19 n20 n21) (T.run (Instr.endRound n6 none) fun v22 => T.next 0 [v22] True)))))))
    (fun n23 => T.ldS n5 0 fun o24 n25 n26 => T.col n23 (T.ret (Value.slice o24 n25 n26))) (fun n27 => T.col n27 (T.ret (Value.slice none 0 0))) []
theorem e65 (o0 : Option Addr) (n1 n2 : Nat) (n3 n4 : Nat) : treeOf Try.prog Try.f65 (codeOf Try.f65) (.s .n (.s (.s .n (.u (.f [.agg [.int .i32, .int .i64]] .n .n))) .n)) [.v (.slice o0 n1 n2), .v (.func (.func 53) #[] #[.pointer (some ⟨n3, n4, none⟩)])] = (t65 o0 n1 n2 n3 n4) := by kernel_rfl
theorem c65 (o0 : Option Addr) (n1 n2 : Nat) (n3 n4 : Nat) {w : World} {R : Ending → World → Prop} (h : (t65 o0 n1 n2 n3 n4).sem Try.prog R ρ0 w) : Calls Try.prog 65 #[.slice o0 n1 n2, .func (.func 53) #[] #[.pointer (some ⟨n3, n4, none⟩)]] w R :=
  calls_of mixed Try.func65 rfl rfl (e65 o0 n1 n2 n3 n4) h
def t45 (o0 : Option Nat) : T :=
  T.new (Obj.cells (Array.mk [Value.map o0]) 65) fun n1 => T.ret (Value.func (Fn.func 53) (Array.mk []) (Array.mk [Value.pointer (some (Addr.mk n1 0 none))]))
theorem e45 (o0 : Option Nat) : treeOf Try.prog Try.f45 (codeOf Try.f45) .n [.v (.map o0)] = (t45 o0) := by kernel_rfl
theorem c45 (o0 : Option Nat) {w : World} {R : Ending → World → Prop} (h : (t45 o0).sem Try.prog R ρ0 w) : Calls Try.prog 45 #[.map o0] w R :=
  calls_of mixed Try.func45 rfl rfl (e45 o0) h
def t29 (o0 : Option Addr) (n1 n2 : Nat) : T :=
  T.call 26 [Value.slice o0 n1 n2] fun v3 =>
  T.asS v3 fun o4 n5 n6 =>
    T.loop 0 [Value.int IntKind.u64 0, Value.int IntKind.i64 0] fun l7 j8 =>
    T.asI IntKind.u64 (List.headD l7 (Value.tuple (Array.mk []))) fun i9 =>
    T.asI IntKind.i64 (List.headD (List.tail l7) (Value.tuple (Array.mk []))) fun i10 =>
    T.ite (decide (i10 < (↑n5 : Int)))
    (T.req (0 ≤ i10 ∧ i10 < (↑n5 : Int))
    (T.sm o4 fun n11 n12 =>
    T.ldI IntKind.i32 n11 (n12 + Int.toNat i10 * 3) fun i13 =>
    T.ldI IntKind.i64 n11 (n12 + Int.toNat i10 * 3 + 1) fun i14 =>
    T.ldI IntKind.i64 n11 (n12 + Int.toNat i10 * 3 + 2) fun i15 =>
    T.new (Obj.cells (Array.mk [Value.int IntKind.i32 0, Value.int IntKind.i64 0, Value.int IntKind.i64 0]) 51) fun n16 =>
    T.st n16 0 (Value.int IntKind.i32 i13)
    (T.st n16 1 (Value.int IntKind.i64 i14)
    (T.st n16 2 (Value.int IntKind.i64 i15)
    (T.ldI IntKind.i32 n16 0 fun i17 =>
    T.ldI IntKind.i64 n16 1 fun i18 =>
    T.call 16 [Value.agg (Array.mk [Value.int IntKind.i32 i17, Value.int IntKind.i64 i18])] fun v19 =>
    T.asI IntKind.u64 v19 fun i20 =>
    T.call 36 [Value.int IntKind.u64 (IntKind.wrap IntKind.u64 (i9 + i20))] fun v21 =>
    T.asI IntKind.u64 v21 fun i22 =>
    T.ldI IntKind.i64 n16 2 fun i23 =>
    T.call 36
    [Value.int IntKind.u64
    (IntKind.wrap IntKind.u64 (IntKind.wrap IntKind.u64 (i22 + IntKind.wrap IntKind.u64 i23) + 1))]
    fun v24 =>
    T.asI IntKind.u64 v24 fun i25 =>
    T.next 0 [Value.int IntKind.u64 i25, Value.int IntKind.i64 (IntKind.wrap IntKind.i64 (i10 + 1))]
    ([Value.slice o4 n5 n6, Value.int IntKind.i64 (↑n5 : Int)] =
    [Value.slice o4 n5 n6, Value.int IntKind.i64 (↑n5 : Int)] ∧ ([] : List Deferred) = []))))))
    (T.ret (Value.int IntKind.u64 i9))
theorem e29 (o0 : Option Addr) (n1 n2 : Nat) : treeOf Try.prog Try.f29 (codeOf Try.f29) (.s .n (.s .n (.s (.s .n (.u (.l [(3, .int .u64), (9, .int .i64)] [7, 8] .n))) .n))) [.v (.slice o0 n1 n2)] = (t29 o0 n1 n2) := by kernel_rfl
theorem c29 (o0 : Option Addr) (n1 n2 : Nat) {w : World} {R : Ending → World → Prop} (h : (t29 o0 n1 n2).sem Try.prog R ρ0 w) : Calls Try.prog 29 #[.slice o0 n1 n2] w R :=
  calls_of mixed Try.func29 rfl rfl (e29 o0 n1 n2) h
def t30 (o0 : Option Addr) (n1 n2 : Nat) : T :=
  T.call 27 [Value.slice o0 n1 n2] fun v3 =>
  T.asS v3 fun o4 n5 n6 =>
    T.loop 0 [Value.int IntKind.u64 0, Value.int IntKind.i64 0] fun l7 j8 =>
    T.asI IntKind.u64 (List.headD l7 (Value.tuple (Array.mk []))) fun i9 =>
    T.asI IntKind.i64 (List.headD (List.tail l7) (Value.tuple (Array.mk []))) fun i10 =>
    T.ite (decide (i10 < (↑n5 : Int)))
    (T.drew
    (T.req (0 ≤ i10 ∧ i10 < (↑n5 : Int))
    (T.sm o4 fun n11 n12 =>
    T.ldI IntKind.i32 n11 (n12 + Int.toNat i10 * 3) fun i13 =>
    T.ldI IntKind.i64 n11 (n12 + Int.toNat i10 * 3 + 1) fun i14 =>
    T.req (0 ≤ i10 ∧ i10 < (↑n5 : Int))
    (T.sm o4 fun n15 n16 =>
    T.ldI IntKind.i64 n15 (n16 + Int.toNat i10 * 3 + 2) fun i17 =>
    T.call 17 [Value.agg (Array.mk [Value.int IntKind.i32 i13, Value.int IntKind.i64 i14])] fun v18 =>
    T.asI IntKind.u64 v18 fun i19 =>
    T.chk [(Addr.mk n15 (n16 + Int.toNat i10 * 3 + 2) none, Value.int IntKind.i64 i17)]
    (T.call 37 [Value.int IntKind.u64 (IntKind.wrap IntKind.u64 (i9 + i19))] fun v20 =>
    T.asI IntKind.u64 v20 fun i21 =>
    T.chk [(Addr.mk n15 (n16 + Int.toNat i10 * 3 + 2) none, Value.int IntKind.i64 i17)]
    (T.call 37
    [Value.int IntKind.u64 (IntKind.wrap IntKind.u64 (IntKind.wrap IntKind.u64 (i21 + IntKind.wrap IntKind.u64 i17) + 1))]
    fun v22 =>
    T.asI IntKind.u64 v22 fun i23 =>
    T.chk [(Addr.mk n15 (n16 + Int.toNat i10 * 3 + 2) none, Value.int IntKind.i64 i17)]
    (T.next 0 [Value.int IntKind.u64 i23, Value.int IntKind.i64 (IntKind.wrap IntKind.i64 (i10 + 1))]
    ([Value.slice o4 n5 n6] = [Value.slice o4 n5 n6] ∧ ([] : List Deferred) = []))))))))
    (T.ret (Value.int IntKind.u64 i9))
theorem e30 (o0 : Option Addr) (n1 n2 : Nat) : treeOf Try.prog Try.f30 (codeOf Try.f30) (.s .n (.s .n (.s .n (.s (.s .n (.u (.l [(3, .int .u64), (5, .int .i64)] [4] (.s .n (.s (.u (.p [0, 1, 2, 3, 4, 5, 9, 10, 11, 12, 13, 14, 6, 7, 8, 15, 16, 17, 18])) .n))))) .n)))) [.v (.slice o0 n1 n2)] = (t30 o0 n1 n2) := by kernel_rfl
theorem c30 (o0 : Option Addr) (n1 n2 : Nat) {w : World} {R : Ending → World → Prop} (h : (t30 o0 n1 n2).sem Try.prog R ρ0 w) : Calls Try.prog 30 #[.slice o0 n1 n2] w R :=
  calls_of mixed Try.func30 rfl rfl (e30 o0 n1 n2) h
def t26 (o0 : Option Addr) (n1 n2 : Nat) : T :=
  T.new (Obj.map (Array.mk []) 0) fun n3 =>
  T.loop 0 [Value.int IntKind.i64 0] fun l4 j5 =>
    T.asI IntKind.i64 (List.headD l4 (Value.tuple (Array.mk []))) fun i6 =>
    T.ite (decide (i6 < (↑n1 : Int)))
    (T.req (0 ≤ i6 ∧ i6 < (↑n1 : Int))
    (T.sm o0 fun n7 n8 =>
    T.ldI IntKind.i32 n7 (n8 + Int.toNat i6 * 3) fun i9 =>
    T.ldI IntKind.i64 n7 (n8 + Int.toNat i6 * 3 + 1) fun i10 =>
    T.ldI IntKind.i64 n7 (n8 + Int.toNat i6 * 3 + 2) fun i11 =>
    T.new (Obj.cells (Array.mk [Value.int IntKind.i32 0, Value.int IntKind.i64 0, Value.int IntKind.i64 0]) 51) fun n12 =>
    T.st n12 0 (Value.int IntKind.i32 i9)
    (T.st n12 1 (Value.int IntKind.i64 i10)
    (T.st n12 2 (Value.int IntKind.i64 i11)
    (T.ldI IntKind.i32 n12 0 fun i13 =>
    T.ldI IntKind.i64 n12 1 fun i14 =>
    T.ldI IntKind.i64 n12 2 fun i15 =>
    T.run
    (muV 65 (Value.map (some n3)) (Value.agg (Array.mk [Value.int IntKind.i32 i13, Value.int IntKind.i64 i14]))
    (Value.int IntKind.i64 i15))
    fun v16 =>
    T.next 0 [Value.int IntKind.i64 (IntKind.wrap IntKind.i64 (i6 + 1))]
    ([Value.map (some n3), Value.slice o0 n1 n2, Value.int IntKind.i64 (↑n1 : Int)] =
    [Value.map (some n3), Value.slice o0 n1 n2, Value.int IntKind.i64 (↑n1 : Int)] ∧ ([] : List Deferred) = []))))))
    (T.call 45 [Value.map (some n3)] fun v17 =>
    T.asC 53 v17 fun l18 =>
    T.req (List.length l18 = 1)
    (T.asP (List.headD l18 (Value.tuple (Array.mk []))) fun o19 =>
    T.call 44 [Value.func (Fn.func 53) (Array.mk []) (Array.mk [Value.pointer o19]), Value.func (Fn.func 10) (Array.mk []) (Array.mk [])] fun v20 =>
    T.asS v20 fun o21 n22 n23 =>
    T.loop 0 [Value.slice none 0 0, Value.int IntKind.i64 0] fun l24 j25 =>
    T.asS (List.headD l24 (Value.tuple (Array.mk []))) fun o26 n27 n28 =>
    T.asI IntKind.i64 (List.headD (List.tail l24) (Value.tuple (Array.mk []))) fun i29 =>
    T.ite (decide (i29 < (↑n22 : Int)))
    (T.req (0 ≤ i29 ∧ i29 < (↑n22 : Int))
    (T.sm o21 fun n30 n31 =>
    T.ldI IntKind.i32 n30 (n31 + Int.toNat i29 * 2) fun i32 =>
    T.ldI IntKind.i64 n30 (n31 + Int.toNat i29 * 2 + 1) fun i33 =>
    T.new (Obj.cells (Array.mk [Value.int IntKind.i32 0, Value.int IntKind.i64 0]) 23) fun n34 =>
    T.st n34 0 (Value.int IntKind.i32 i32)
    (T.st n34 1 (Value.int IntKind.i64 i33)
    (T.drew
    (T.ldI IntKind.i32 n34 0 fun i35 =>
    T.ldI IntKind.i64 n34 1 fun i36 =>
    T.ldI IntKind.i32 n34 0 fun i37 =>
    T.ldI IntKind.i64 n34 1 fun i38 =>
    T.run
    (Instr.lookup 65 (Value.map (some n3))
    (Value.agg (Array.mk [Value.int IntKind.i32 i37, Value.int IntKind.i64 i38])) false)
    fun v39 =>
    T.asI IntKind.i64 v39 fun i40 =>
    T.chk [(Addr.mk n34 0 none, Value.int IntKind.i32 i35), (Addr.mk n34 1 none, Value.int IntKind.i64 i36)]
    (T.new
    (Obj.cells
    (Array.mk [Value.int IntKind.i32 i35, Value.int IntKind.i64 i36, Value.int IntKind.i64 i40]) 51)
    fun n41 =>
    T.chk
    [(Addr.mk n34 0 none, Value.int IntKind.i32 i35), (Addr.mk n34 1 none, Value.int IntKind.i64 i36)]
    (T.run
    (biV Builtin.append (Array.mk [40, 40]) 40
    (Array.mk [Value.slice o26 n27 n28, Value.slice (some (Addr.mk n41 0 none)) 1 1]))
    fun v42 =>
    T.asS v42 fun o43 n44 n45 =>
    T.chk
    [(Addr.mk n34 0 none, Value.int IntKind.i32 i35),
    (Addr.mk n34 1 none, Value.int IntKind.i64 i36)]
    (T.next 0
    [Value.slice o43 n44 n45, Value.int IntKind.i64 (IntKind.wrap IntKind.i64 (i29 + 1))]
    ([Value.map (some n3), Value.slice o21 n22 n23, Value.int IntKind.i64 (↑n22 : Int)] =
    [Value.map (some n3), Value.slice o21 n22 n23, Value.int IntKind.i64 (↑n22 : Int)] ∧ ([] : List Deferred) = [])))))))))
    (T.ret (Value.slice o26 n27 n28))))
theorem e26 (o0 : Option Addr) (n1 n2 : Nat) : treeOf Try.prog Try.f26 (codeOf Try.f26) (.s .n (.s .n (.s (.s .n (.u (.l [(12, .int .i64)] [3, 10, 11] .n))) (.s .n (.s (.s .n (.u (.l [(6, .slice), (26, .int .i64)] [3, 24, 25] (.s .n (.s .n (.s (.u (.s .n (.p [0, 1, 2, 3, 4, 5, 6, 7, 8]))) .n)))))) .n))))) [.v (.slice o0 n1 n2)] = (t26 o0 n1 n2) := by kernel_rfl
theorem c26 (o0 : Option Addr) (n1 n2 : Nat) {w : World} {R : Ending → World → Prop} (h : (t26 o0 n1 n2).sem Try.prog R ρ0 w) : Calls Try.prog 26 #[.slice o0 n1 n2] w R :=
  calls_of mixed Try.func26 rfl rfl (e26 o0 n1 n2) h
end Go.Proofs.Yteimilnigiagjaa
