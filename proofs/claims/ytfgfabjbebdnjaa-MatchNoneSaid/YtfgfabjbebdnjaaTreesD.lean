/- The functions' trees, printed by a program (wip/tools/Emit.lean) and checked by the kernel against the model's own code. -/
import Derived.Test.YtfgfabjbebdnjaaTrees
import Derived.Test.YtfgfabjbebdnjaaProg
namespace Go.Proofs.Ytfgfabjbebdnjaa
open Go hiding Expr
open Go.Proofs.Ytfgfabjbebdnjaa.Tr
set_option linter.unusedVariables false
set_option maxRecDepth 100000
def t6 (i0 : Int) (i1 : Int) (i2 : Int) : T :=
  T.new (Obj.cells (Array.mk [Value.int IntKind.i64 i0, Value.int IntKind.i64 i1, Value.int IntKind.i64 i2]) 31) fun n3 =>
  T.call 8 [] fun v4 =>
    T.asB v4 fun b5 =>
    T.ite (!b5) (T.ret (Value.bool false))
    (T.new
    (Obj.cells
    (Array.mk
    [Value.int IntKind.i64 0, Value.int IntKind.i64 0, Value.int IntKind.i64 0, Value.int IntKind.i64 0, Value.int IntKind.i64 0,
    Value.int IntKind.i64 0, Value.int IntKind.i64 0, Value.int IntKind.i64 0, Value.int IntKind.i64 0, Value.int IntKind.i64 0,
    Value.int IntKind.i64 0, Value.int IntKind.i64 0, Value.int IntKind.i64 0])
    46)
    fun n6 =>
    T.new (Obj.cells (Array.mk [Value.pointer none, Value.pointer (some (Addr.mk n6 0 none))]) 25) fun n7 =>
    T.loop 0 [Value.int IntKind.i64 0] fun l8 j9 =>
    T.asI IntKind.i64 (List.headD l8 (Value.tuple (Array.mk []))) fun i10 =>
    T.ite (decide (i10 < 2))
    (T.req (0 ≤ i10 ∧ i10 < 2)
    (T.sm (some (Addr.mk n7 0 none)) fun n11 n12 =>
    T.ldP n11 (n12 + Int.toNat i10 * 1) fun o13 =>
    T.ldI IntKind.i64 n3 1 fun i14 =>
    T.ldI IntKind.i64 n3 2 fun i15 =>
    T.call 9 [Value.pointer o13, Value.int IntKind.i64 i14, Value.bool true, Value.int IntKind.i64 i15] fun v16 =>
    T.asU v16 fun l17 =>
    T.req (List.length l17 = 2)
    (T.asB (List.headD l17 (Value.tuple (Array.mk []))) fun b18 =>
    T.asI IntKind.i64 (List.headD (List.tail l17) (Value.tuple (Array.mk []))) fun i19 =>
    T.ldI IntKind.i64 n3 2 fun i20 =>
    T.call 13 [Value.pointer o13, Value.int IntKind.i64 i20] fun v21 =>
    T.asI IntKind.i64 v21 fun i22 =>
    T.ite (i22 != 2) (T.ret (Value.bool false))
    (T.ldI IntKind.i64 n3 1 fun i23 =>
    T.ldI IntKind.i64 n3 2 fun i24 =>
    T.call 14 [Value.pointer o13, Value.int IntKind.i64 i23, Value.int IntKind.i64 i24] fun v25 =>
    T.asI IntKind.i64 v25 fun i26 =>
    T.ite (i26 != 2) (T.ret (Value.bool false))
    (T.ite b18 (T.ret (Value.bool false))
    (T.ite (i19 != 2) (T.ret (Value.bool false))
    (T.ldI IntKind.i64 n3 1 fun i27 =>
    T.call 15 [Value.pointer o13, Value.int IntKind.i64 i27] fun v28 =>
    T.asI IntKind.i64 v28 fun i29 =>
    T.ite (i29 != 0) (T.ret (Value.bool false))
    (T.ldI IntKind.i64 n3 1 fun i30 =>
    T.call 10 [Value.pointer o13, Value.int IntKind.i64 i30] fun v31 =>
    T.asI IntKind.i64 v31 fun i32 =>
    T.ite (i32 != 0) (T.ret (Value.bool false))
    (T.call 12 [Value.pointer o13] fun v33 =>
    T.asI IntKind.i64 v33 fun i34 =>
    T.ite (i34 != 0) (T.ret (Value.bool false))
    (T.call 11 [Value.pointer o13] fun v35 =>
    T.asI IntKind.i64 v35 fun i36 =>
    T.ite (i36 != 0) (T.ret (Value.bool false))
    (T.call 17 [Value.pointer o13] fun v37 =>
    T.asC 25 v37 fun l38 =>
    T.req (List.length l38 = 1)
    (T.asP (List.headD l38 (Value.tuple (Array.mk []))) fun o39 =>
    T.call 16
    [Value.func (Fn.func 25) (Array.mk [])
    (Array.mk [Value.pointer o39]),
    Value.slice none 0 0]
    fun v40 =>
    T.asB v40 fun b41 =>
    T.ite (!b41) (T.ret (Value.bool false))
    (T.call 18 [Value.pointer o13] fun v42 =>
    T.asP v42 fun o43 =>
    T.ite (!Option.isNone o43) (T.ret (Value.bool false))
    (T.next 0
    [Value.int IntKind.i64
    (IntKind.wrap IntKind.i64 (i10 + 1))]
    ([Value.pointer (some (Addr.mk n3 0 none)),
    Value.slice (some (Addr.mk n7 0 none)) 2 2,
    Value.int IntKind.i64 2] =
    [Value.pointer (some (Addr.mk n3 0 none)),
    Value.slice (some (Addr.mk n7 0 none)) 2 2,
    Value.int IntKind.i64 2] ∧ ([] : List Deferred) = [])))))))))))))))
    (T.ret (Value.bool true)))
theorem e6 (i0 : Int) (i1 : Int) (i2 : Int) : treeOf Try.prog Try.f6 (codeOf Try.f6) (.s .n (.s .n (.s (.s .n (.u (.l [(13, .int .i64)] [1, 11, 12] .n))) .n))) [.v (.agg #[.int .i64 i0, .int .i64 i1, .int .i64 i2])] = (t6 i0 i1 i2) := by kernel_rfl
theorem c6 (i0 : Int) (i1 : Int) (i2 : Int) {w : World} {R : Ending → World → Prop} (h : (t6 i0 i1 i2).sem Try.prog R ρ0 w) : Calls Try.prog 6 #[.agg #[.int .i64 i0, .int .i64 i1, .int .i64 i2]] w R :=
  calls_of mixed Try.func6 rfl rfl (e6 i0 i1 i2) h
def t22o (o0 : Option Addr) : T :=
  T.ite (Option.isNone o0) (T.ret (Value.bool true)) (T.sm o0 fun n1 n2 => T.ldI IntKind.i64 n1 n2 fun i3 => T.ret (Value.bool (i3 == 0)))
theorem e22o (o0 : Option Addr) : treeOf Try.prog Try.f22 (codeOf Try.f22) .n [.v (.pointer o0)] = (t22o o0) := by kernel_rfl
theorem c22o (o0 : Option Addr) {w : World} {R : Ending → World → Prop} (h : (t22o o0).sem Try.prog R ρ0 w) : Calls Try.prog 22 #[.pointer o0] w R :=
  calls_of mixed Try.func22 rfl rfl (e22o o0) h
def t20o (o0 : Option Addr) (i1 : Int) : T :=
  T.call 22 [Value.pointer o0] fun v2 =>
  T.asB v2 fun b3 =>
    T.ite b3 (T.ret (Value.tuple (Array.mk [Value.pointer none, Value.int IntKind.i64 2])))
    (T.ite (decide (i1 < 0)) (T.ret (Value.tuple (Array.mk [Value.pointer none, Value.int IntKind.i64 80])))
    (T.sm o0 fun n4 n5 =>
    T.ldI IntKind.i64 n4 n5 fun i6 =>
    T.ite (decide (i1 ≥ i6)) (T.ret (Value.tuple (Array.mk [Value.pointer none, Value.int IntKind.i64 80])))
    (T.sm o0 fun n7 n8 =>
    T.ldI IntKind.i64 n7 (n8 + 1) fun i9 =>
    T.ite (i1 == i9) (T.ret (Value.tuple (Array.mk [Value.pointer none, Value.int IntKind.i64 80])))
    (T.sm o0 fun n10 n11 =>
    T.req (0 ≤ i1 ∧ i1 < 5)
    (T.ret (Value.tuple (Array.mk [Value.pointer (some (Addr.mk n10 (n11 + 3 + Int.toNat i1 * 2) none)), Value.int IntKind.i64 0])))))))
theorem e20o (o0 : Option Addr) (i1 : Int) : treeOf Try.prog Try.f20 (codeOf Try.f20) .n [.v (.pointer o0), .v (.int .i64 i1)] = (t20o o0 i1) := by kernel_rfl
theorem c20o (o0 : Option Addr) (i1 : Int) {w : World} {R : Ending → World → Prop} (h : (t20o o0 i1).sem Try.prog R ρ0 w) : Calls Try.prog 20 #[.pointer o0, .int .i64 i1] w R :=
  calls_of mixed Try.func20 rfl rfl (e20o o0 i1) h
def t21o (o0 : Option Addr) (i1 : Int) : T :=
  T.new (Obj.cells (Array.mk [Value.int IntKind.i64 0, Value.int IntKind.i64 0]) 43) fun n2 =>
  T.call 22 [Value.pointer o0] fun v3 =>
    T.asB v3 fun b4 =>
    T.ite b4
    (T.st n2 0 (Value.int IntKind.i64 0)
    (T.st n2 1 (Value.int IntKind.i64 0)
    (T.ldI IntKind.i64 n2 0 fun i5 =>
    T.ldI IntKind.i64 n2 1 fun i6 => T.ret (Value.agg (Array.mk [Value.int IntKind.i64 i5, Value.int IntKind.i64 i6])))))
    (T.ite (decide (i1 < 0))
    (T.st n2 0 (Value.int IntKind.i64 0)
    (T.st n2 1 (Value.int IntKind.i64 0)
    (T.ldI IntKind.i64 n2 0 fun i7 =>
    T.ldI IntKind.i64 n2 1 fun i8 => T.ret (Value.agg (Array.mk [Value.int IntKind.i64 i7, Value.int IntKind.i64 i8])))))
    (T.sm o0 fun n9 n10 =>
    T.ldI IntKind.i64 n9 n10 fun i11 =>
    T.ite (decide (i1 ≥ i11))
    (T.st n2 0 (Value.int IntKind.i64 0)
    (T.st n2 1 (Value.int IntKind.i64 0)
    (T.ldI IntKind.i64 n2 0 fun i12 =>
    T.ldI IntKind.i64 n2 1 fun i13 => T.ret (Value.agg (Array.mk [Value.int IntKind.i64 i12, Value.int IntKind.i64 i13])))))
    (T.sm o0 fun n14 n15 =>
    T.req (0 ≤ i1 ∧ i1 < 5)
    (T.ldI IntKind.i64 n14 (n15 + 3 + Int.toNat i1 * 2) fun i16 =>
    T.ldI IntKind.i64 n14 (n15 + 3 + Int.toNat i1 * 2 + 1) fun i17 =>
    T.st n2 0 (Value.int IntKind.i64 i16)
    (T.st n2 1 (Value.int IntKind.i64 i17)
    (T.ldI IntKind.i64 n2 0 fun i18 =>
    T.ldI IntKind.i64 n2 1 fun i19 => T.ret (Value.agg (Array.mk [Value.int IntKind.i64 i18, Value.int IntKind.i64 i19]))))))))
theorem e21o (o0 : Option Addr) (i1 : Int) : treeOf Try.prog Try.f21 (codeOf Try.f21) .n [.v (.pointer o0), .v (.int .i64 i1)] = (t21o o0 i1) := by kernel_rfl
theorem c21o (o0 : Option Addr) (i1 : Int) {w : World} {R : Ending → World → Prop} (h : (t21o o0 i1).sem Try.prog R ρ0 w) : Calls Try.prog 21 #[.pointer o0, .int .i64 i1] w R :=
  calls_of mixed Try.func21 rfl rfl (e21o o0 i1) h
def t9o (o0 : Option Addr) (i1 : Int) (b2 : Bool) (i3 : Int) : T :=
  T.call 20 [Value.pointer o0, Value.int IntKind.i64 i1] fun v4 =>
  T.asU v4 fun l5 =>
    T.req (List.length l5 = 2)
    (T.asP (List.headD l5 (Value.tuple (Array.mk []))) fun o6 =>
    T.asI IntKind.i64 (List.headD (List.tail l5) (Value.tuple (Array.mk []))) fun i7 =>
    T.ite (i7 != 0) (T.ret (Value.tuple (Array.mk [Value.bool false, Value.int IntKind.i64 i7])))
    (T.ite (decide (i3 < 0)) (T.ret (Value.tuple (Array.mk [Value.bool false, Value.int IntKind.i64 1])))
    (T.ite b2
    (T.sm o0 fun n8 n9 =>
    T.ldI IntKind.i64 n8 (n9 + 2) fun i10 =>
    T.ite (decide (i3 > i10)) (T.ret (Value.tuple (Array.mk [Value.bool false, Value.int IntKind.i64 1])))
    (T.ite (!b2)
    (T.sm o6 fun n11 n12 =>
    T.ldI IntKind.i64 n11 n12 fun i13 =>
    T.ite (decide (i3 < i13))
    (T.sm o6 fun n14 n15 =>
    T.ldI IntKind.i64 n14 (n15 + 1) fun i16 =>
    T.run (biV Builtin.max (Array.mk [2, 2]) 2 (Array.mk [Value.int IntKind.i64 i3, Value.int IntKind.i64 i16])) fun v17 =>
    T.asI IntKind.i64 v17 fun i18 =>
    T.sm o6 fun n19 n20 =>
    T.st n19 n20 (Value.int IntKind.i64 i18) (T.ret (Value.tuple (Array.mk [Value.bool false, Value.int IntKind.i64 0]))))
    (T.ret (Value.tuple (Array.mk [Value.bool false, Value.int IntKind.i64 0]))))
    (T.call 11 [Value.pointer o0] fun v21 =>
    T.asI IntKind.i64 v21 fun i22 =>
    T.sm o6 fun n23 n24 =>
    T.ldI IntKind.i64 n23 (n24 + 1) fun i25 =>
    T.run (biV Builtin.max (Array.mk [2, 2]) 2 (Array.mk [Value.int IntKind.i64 i25, Value.int IntKind.i64 i3])) fun v26 =>
    T.asI IntKind.i64 v26 fun i27 =>
    T.sm o6 fun n28 n29 =>
    T.st n28 (n29 + 1) (Value.int IntKind.i64 i27)
    (T.drew
    (T.sm o6 fun n30 n31 =>
    T.ldI IntKind.i64 n30 n31 fun i32 =>
    T.sm o6 fun n33 n34 =>
    T.ldI IntKind.i64 n33 (n34 + 1) fun i35 =>
    T.run (biV Builtin.max (Array.mk [2, 2]) 2 (Array.mk [Value.int IntKind.i64 i32, Value.int IntKind.i64 i35]))
    fun v36 =>
    T.asI IntKind.i64 v36 fun i37 =>
    T.chk []
    (T.sm o6 fun n38 n39 =>
    T.st n38 n39 (Value.int IntKind.i64 i37)
    (T.chk []
    (T.call 11 [Value.pointer o0] fun v40 =>
    T.asI IntKind.i64 v40 fun i41 =>
    T.ret
    (Value.tuple (Array.mk [Value.bool (decide (i41 > i22)), Value.int IntKind.i64 0]))))))))))
    (T.ite (!b2)
    (T.sm o6 fun n42 n43 =>
    T.ldI IntKind.i64 n42 n43 fun i44 =>
    T.ite (decide (i3 < i44))
    (T.sm o6 fun n45 n46 =>
    T.ldI IntKind.i64 n45 (n46 + 1) fun i47 =>
    T.run (biV Builtin.max (Array.mk [2, 2]) 2 (Array.mk [Value.int IntKind.i64 i3, Value.int IntKind.i64 i47])) fun v48 =>
    T.asI IntKind.i64 v48 fun i49 =>
    T.sm o6 fun n50 n51 =>
    T.st n50 n51 (Value.int IntKind.i64 i49) (T.ret (Value.tuple (Array.mk [Value.bool false, Value.int IntKind.i64 0]))))
    (T.ret (Value.tuple (Array.mk [Value.bool false, Value.int IntKind.i64 0]))))
    (T.call 11 [Value.pointer o0] fun v52 =>
    T.asI IntKind.i64 v52 fun i53 =>
    T.sm o6 fun n54 n55 =>
    T.ldI IntKind.i64 n54 (n55 + 1) fun i56 =>
    T.run (biV Builtin.max (Array.mk [2, 2]) 2 (Array.mk [Value.int IntKind.i64 i56, Value.int IntKind.i64 i3])) fun v57 =>
    T.asI IntKind.i64 v57 fun i58 =>
    T.sm o6 fun n59 n60 =>
    T.st n59 (n60 + 1) (Value.int IntKind.i64 i58)
    (T.drew
    (T.sm o6 fun n61 n62 =>
    T.ldI IntKind.i64 n61 n62 fun i63 =>
    T.sm o6 fun n64 n65 =>
    T.ldI IntKind.i64 n64 (n65 + 1) fun i66 =>
    T.run (biV Builtin.max (Array.mk [2, 2]) 2 (Array.mk [Value.int IntKind.i64 i63, Value.int IntKind.i64 i66]))
    fun v67 =>
    T.asI IntKind.i64 v67 fun i68 =>
    T.chk []
    (T.sm o6 fun n69 n70 =>
    T.st n69 n70 (Value.int IntKind.i64 i68)
    (T.chk []
    (T.call 11 [Value.pointer o0] fun v71 =>
    T.asI IntKind.i64 v71 fun i72 =>
    T.ret (Value.tuple (Array.mk [Value.bool (decide (i72 > i53)), Value.int IntKind.i64 0]))))))))))))
theorem e9o (o0 : Option Addr) (i1 : Int) (b2 : Bool) (i3 : Int) : treeOf Try.prog Try.f9 (codeOf Try.f9) (.s .n (.s .n (.s .n (.s .n (.s .n (.s .n (.s .n (.s (.p [0, 1, 2, 3, 4, 5, 6, 7, 8, 9, 10, 11, 12]) .n)))))))) [.v (.pointer o0), .v (.int .i64 i1), .v (.bool b2), .v (.int .i64 i3)] = (t9o o0 i1 b2 i3) := by kernel_rfl
theorem c9o (o0 : Option Addr) (i1 : Int) (b2 : Bool) (i3 : Int) {w : World} {R : Ending → World → Prop} (h : (t9o o0 i1 b2 i3).sem Try.prog R ρ0 w) : Calls Try.prog 9 #[.pointer o0, .int .i64 i1, .bool b2, .int .i64 i3] w R :=
  calls_of mixed Try.func9 rfl rfl (e9o o0 i1 b2 i3) h
def t13o (o0 : Option Addr) (i1 : Int) : T :=
  T.call 22 [Value.pointer o0] fun v2 =>
  T.asB v2 fun b3 =>
    T.ite b3 (T.ret (Value.int IntKind.i64 2))
    (T.sm o0 fun n4 n5 =>
    T.ldI IntKind.i64 n4 (n5 + 2) fun i6 =>
    T.ite (decide (i1 < i6)) (T.ret (Value.int IntKind.i64 1))
    (T.call 19 [Value.int IntKind.i64 i1] fun v7 =>
    T.asB v7 fun b8 =>
    T.ite (!b8) (T.ret (Value.int IntKind.i64 1))
    (T.sm o0 fun n9 n10 =>
    T.st n9 (n10 + 2) (Value.int IntKind.i64 i1)
    (T.drew
    (T.sm o0 fun n11 n12 =>
    T.ldI IntKind.i64 n11 (n12 + 1) fun i13 =>
    T.sm o0 fun n14 n15 =>
    T.req (0 ≤ i13 ∧ i13 < 5)
    (T.st n14 (n15 + 3 + Int.toNat i13 * 2) (Value.int IntKind.i64 i1)
    (T.st n14 (n15 + 3 + Int.toNat i13 * 2 + 1) (Value.int IntKind.i64 i1) (T.chk [] (T.ret (Value.int IntKind.i64 0))))))))))
theorem e13o (o0 : Option Addr) (i1 : Int) : treeOf Try.prog Try.f13 (codeOf Try.f13) (.s .n (.s .n (.s .n (.s (.p [0, 1, 2, 3, 4, 5, 6, 7, 8, 9, 10, 11, 12]) .n)))) [.v (.pointer o0), .v (.int .i64 i1)] = (t13o o0 i1) := by kernel_rfl
theorem c13o (o0 : Option Addr) (i1 : Int) {w : World} {R : Ending → World → Prop} (h : (t13o o0 i1).sem Try.prog R ρ0 w) : Calls Try.prog 13 #[.pointer o0, .int .i64 i1] w R :=
  calls_of mixed Try.func13 rfl rfl (e13o o0 i1) h
def t14o (o0 : Option Addr) (i1 : Int) (i2 : Int) : T :=
  T.call 20 [Value.pointer o0, Value.int IntKind.i64 i1] fun v3 =>
  T.asU v3 fun l4 =>
    T.req (List.length l4 = 2)
    (T.asP (List.headD l4 (Value.tuple (Array.mk []))) fun o5 =>
    T.asI IntKind.i64 (List.headD (List.tail l4) (Value.tuple (Array.mk []))) fun i6 =>
    T.ite (i6 != 0) (T.ret (Value.int IntKind.i64 i6))
    (T.sm o5 fun n7 n8 =>
    T.ldI IntKind.i64 n7 n8 fun i9 =>
    T.ite (decide (i2 < i9)) (T.ret (Value.int IntKind.i64 1))
    (T.sm o0 fun n10 n11 =>
    T.ldI IntKind.i64 n10 (n11 + 2) fun i12 =>
    T.ite (decide (i2 > i12)) (T.ret (Value.int IntKind.i64 1))
    (T.sm o5 fun n13 n14 => T.st n13 n14 (Value.int IntKind.i64 i2) (T.ret (Value.int IntKind.i64 0))))))
theorem e14o (o0 : Option Addr) (i1 : Int) (i2 : Int) : treeOf Try.prog Try.f14 (codeOf Try.f14) .n [.v (.pointer o0), .v (.int .i64 i1), .v (.int .i64 i2)] = (t14o o0 i1 i2) := by kernel_rfl
theorem c14o (o0 : Option Addr) (i1 : Int) (i2 : Int) {w : World} {R : Ending → World → Prop} (h : (t14o o0 i1 i2).sem Try.prog R ρ0 w) : Calls Try.prog 14 #[.pointer o0, .int .i64 i1, .int .i64 i2] w R :=
  calls_of mixed Try.func14 rfl rfl (e14o o0 i1 i2) h
def t15o (o0 : Option Addr) (i1 : Int) : T :=
  T.call 21 [Value.pointer o0, Value.int IntKind.i64 i1] fun v2 =>
  T.asA v2 fun l3 =>
    T.req (List.length l3 = 2)
    (T.asI IntKind.i64 (List.headD l3 (Value.tuple (Array.mk []))) fun i4 =>
    T.asI IntKind.i64 (List.headD (List.tail l3) (Value.tuple (Array.mk []))) fun i5 => T.ret (Value.int IntKind.i64 i4))
theorem e15o (o0 : Option Addr) (i1 : Int) : treeOf Try.prog Try.f15 (codeOf Try.f15) .n [.v (.pointer o0), .v (.int .i64 i1)] = (t15o o0 i1) := by kernel_rfl
theorem c15o (o0 : Option Addr) (i1 : Int) {w : World} {R : Ending → World → Prop} (h : (t15o o0 i1).sem Try.prog R ρ0 w) : Calls Try.prog 15 #[.pointer o0, .int .i64 i1] w R :=
  calls_of mixed Try.func15 rfl rfl (e15o o0 i1) h
def t10o (o0 : Option Addr) (i1 : Int) : T :=
  T.call 21 [Value.pointer o0, Value.int IntKind.i64 i1] fun v2 =>
  T.asA v2 fun l3 =>
    T.req (List.length l3 = 2)
    (T.asI IntKind.i64 (List.headD l3 (Value.tuple (Array.mk []))) fun i4 =>
    T.asI IntKind.i64 (List.headD (List.tail l3) (Value.tuple (Array.mk []))) fun i5 => T.ret (Value.int IntKind.i64 i5))
theorem e10o (o0 : Option Addr) (i1 : Int) : treeOf Try.prog Try.f10 (codeOf Try.f10) .n [.v (.pointer o0), .v (.int .i64 i1)] = (t10o o0 i1) := by kernel_rfl
theorem c10o (o0 : Option Addr) (i1 : Int) {w : World} {R : Ending → World → Prop} (h : (t10o o0 i1).sem Try.prog R ρ0 w) : Calls Try.prog 10 #[.pointer o0, .int .i64 i1] w R :=
  calls_of mixed Try.func10 rfl rfl (e10o o0 i1) h
def t12o (o0 : Option Addr) : T :=
  T.call 22 [Value.pointer o0] fun v1 =>
  T.asB v1 fun b2 => T.ite b2 (T.ret (Value.int IntKind.i64 0)) (T.sm o0 fun n3 n4 => T.ldI IntKind.i64 n3 (n4 + 2) fun i5 => T.ret (Value.int IntKind.i64 i5))
theorem e12o (o0 : Option Addr) : treeOf Try.prog Try.f12 (codeOf Try.f12) .n [.v (.pointer o0)] = (t12o o0) := by kernel_rfl
theorem c12o (o0 : Option Addr) {w : World} {R : Ending → World → Prop} (h : (t12o o0).sem Try.prog R ρ0 w) : Calls Try.prog 12 #[.pointer o0] w R :=
  calls_of mixed Try.func12 rfl rfl (e12o o0) h
def t11o (o0 : Option Addr) : T :=
  T.call 22 [Value.pointer o0] fun v1 =>
  T.asB v1 fun b2 =>
    T.ite b2 (T.ret (Value.int IntKind.i64 0))
    (T.new (Obj.cells (Array.mk [Value.slice none 0 0]) 59) fun n3 =>
    T.call 23 [Value.pointer o0] fun v4 =>
    T.asC 26 v4 fun l5 =>
    T.req (List.length l5 = 1)
    (T.asP (List.headD l5 (Value.tuple (Array.mk []))) fun o6 =>
    T.rf none 0 26 [Value.pointer o6]
    (fun n7 l8 =>
    T.req (List.length l8 = 2)
    (T.asA (List.headD (List.tail l8) (Value.tuple (Array.mk []))) fun l9 =>
    T.req (List.length l9 = 2)
    (T.asI IntKind.i64 (List.headD l9 (Value.tuple (Array.mk []))) fun i10 =>
    T.asI IntKind.i64 (List.headD (List.tail l9) (Value.tuple (Array.mk []))) fun i11 =>
    T.new (Obj.cells (Array.mk [Value.int IntKind.i64 0, Value.int IntKind.i64 0]) 43) fun n12 =>
    T.st n12 0 (Value.int IntKind.i64 i10)
    (T.st n12 1 (Value.int IntKind.i64 i11)
    (T.beg n7
    (T.ldS n3 0 fun o13 n14 n15 =>
    T.ldI IntKind.i64 n12 1 fun i16 =>
    T.new (Obj.cells (Array.mk [Value.int IntKind.i64 i16]) 2) fun n17 =>
    T.run
    (biV Builtin.append (Array.mk [59, 59]) 59
    (Array.mk [Value.slice o13 n14 n15, Value.slice (some (Addr.mk n17 0 none)) 1 1]))
    fun v18 =>
    T.asS v18 fun o19 n20 n21 =>
    T.st n3 0 (Value.slice o19 n20 n21) (T.run (Instr.endRound n7 none) fun v22 => T.next 0 [v22] True)))))))
    (fun n23 =>
    T.ldS n3 0 fun o24 n25 n26 =>
    T.call2 24 [Value.slice o24 n25 n26]
    (fun v27 =>
    T.ldS n3 0 fun o28 n29 n30 =>
    T.ldS n3 0 fun o31 n32 n33 =>
    T.req ((2 : Int) ≠ 0)
    (T.req
    (0 ≤ IntKind.wrap IntKind.i64 (Int.tdiv (IntKind.wrap IntKind.i64 ((↑n32 : Int) - 1)) 2) ∧
    IntKind.wrap IntKind.i64 (Int.tdiv (IntKind.wrap IntKind.i64 ((↑n32 : Int) - 1)) 2) < (↑n29 : Int))
    (T.sm o28 fun n34 n35 =>
    T.ldI IntKind.i64 n34
    (n35 + Int.toNat (IntKind.wrap IntKind.i64 (Int.tdiv (IntKind.wrap IntKind.i64 ((↑n32 : Int) - 1)) 2)) * 1) fun i36 =>
    T.col n23 (T.ret (Value.int IntKind.i64 i36)))))
    fun v37 => T.col n23 (T.pan v37))
    (fun n38 => T.col n38 (T.ret (Value.int IntKind.i64 0))) []))
theorem e11o (o0 : Option Addr) : treeOf Try.prog Try.f11 (codeOf Try.f11) (.s .n (.s .n (.s .n (.s (.s .n (.u (.f [.any, .agg [.int .i64, .int .i64]] .n .n))) .n)))) [.v (.pointer o0)] = (t11o o0) := by kernel_rfl
theorem c11o (o0 : Option Addr) {w : World} {R : Ending → World → Prop} (h : (t11o o0).sem Try.prog R ρ0 w) : Calls Try.prog 11 #[.pointer o0] w R :=
  calls_of mixed Try.func11 rfl rfl (e11o o0) h
def t17o (o0 : Option Addr) : T :=
  T.new (Obj.cells (Array.mk [Value.pointer o0]) 25) fun n1 =>
  T.new (Obj.cells (Array.mk [Value.slice none 0 0]) 64) fun n2 =>
    T.ldP n1 0 fun o3 =>
    T.call 22 [Value.pointer o3] fun v4 =>
    T.asB v4 fun b5 =>
    T.ite (!b5)
    (T.ldP n1 0 fun o6 =>
    T.call 23 [Value.pointer o6] fun v7 =>
    T.asC 26 v7 fun l8 =>
    T.req (List.length l8 = 1)
    (T.asP (List.headD l8 (Value.tuple (Array.mk []))) fun o9 =>
    T.rf none 0 26 [Value.pointer o9]
    (fun n10 l11 =>
    T.req (List.length l11 = 2)
    (T.asI IntKind.i64 (List.headD l11 (Value.tuple (Array.mk []))) fun i12 =>
    T.asA (List.headD (List.tail l11) (Value.tuple (Array.mk []))) fun l13 =>
    T.req (List.length l13 = 2)
    (T.asI IntKind.i64 (List.headD l13 (Value.tuple (Array.mk []))) fun i14 =>
    T.asI IntKind.i64 (List.headD (List.tail l13) (Value.tuple (Array.mk []))) fun i15 =>
    T.new (Obj.cells (Array.mk [Value.int IntKind.i64 0, Value.int IntKind.i64 0]) 43) fun n16 =>
    T.st n16 0 (Value.int IntKind.i64 i14)
    (T.st n16 1 (Value.int IntKind.i64 i15)
    (T.beg n10
    (T.drew
    (T.ldI IntKind.i64 n16 1 fun i17 =>
    T.ldP n1 0 fun o18 =>
    T.sm o18 fun n19 n20 =>
    T.ldI IntKind.i64 n19 (n20 + 2) fun i21 =>
    T.ite (decide (i17 < i21))
    (T.ldS n2 0 fun o22 n23 n24 =>
    T.new (Obj.cells (Array.mk [Value.int IntKind.i64 i12]) 3) fun n25 =>
    T.run
    (biV Builtin.append (Array.mk [64, 64]) 64
    (Array.mk [Value.slice o22 n23 n24, Value.slice (some (Addr.mk n25 0 none)) 1 1]))
    fun v26 =>
    T.asS v26 fun o27 n28 n29 =>
    T.st n2 0 (Value.slice o27 n28 n29)
    (T.run (Instr.endRound n10 none) fun v30 => T.next 0 [v30] True))
    (T.run (Instr.endRound n10 none) fun v31 => T.next 0 [v31] True))))))))
    (fun n32 => T.col n32 (T.ret (Value.func (Fn.func 25) (Array.mk []) (Array.mk [Value.pointer (some (Addr.mk n2 0 none))]))))
    (fun n33 => T.col n33 (T.ret Value.nilFunc)) []))
    (T.ret (Value.func (Fn.func 25) (Array.mk []) (Array.mk [Value.pointer (some (Addr.mk n2 0 none))])))
theorem e17o (o0 : Option Addr) : treeOf Try.prog Try.f17 (codeOf Try.f17) (.s .n (.s .n (.s (.s .n (.s (.s .n (.u (.f [.int .i64, .agg [.int .i64, .int .i64]] .n (.u (.s (.p [0, 1, 2, 3, 4, 5, 6]) .n))))) .n)) .n))) [.v (.pointer o0)] = (t17o o0) := by kernel_rfl
theorem c17o (o0 : Option Addr) {w : World} {R : Ending → World → Prop} (h : (t17o o0).sem Try.prog R ρ0 w) : Calls Try.prog 17 #[.pointer o0] w R :=
  calls_of mixed Try.func17 rfl rfl (e17o o0) h
def t18o (o0 : Option Addr) : T :=
  T.call 22 [Value.pointer o0] fun v1 =>
  T.asB v1 fun b2 =>
    T.ite b2 (T.ret (Value.pointer none))
    (T.sm o0 fun n3 n4 =>
    T.ldI IntKind.i64 n3 n4 fun i5 =>
    T.ldI IntKind.i64 n3 (n4 + 1) fun i6 =>
    T.ldI IntKind.i64 n3 (n4 + 2) fun i7 =>
    T.ldI IntKind.i64 n3 (n4 + 3) fun i8 =>
    T.ldI IntKind.i64 n3 (n4 + 4) fun i9 =>
    T.ldI IntKind.i64 n3 (n4 + 5) fun i10 =>
    T.ldI IntKind.i64 n3 (n4 + 6) fun i11 =>
    T.ldI IntKind.i64 n3 (n4 + 7) fun i12 =>
    T.ldI IntKind.i64 n3 (n4 + 8) fun i13 =>
    T.ldI IntKind.i64 n3 (n4 + 9) fun i14 =>
    T.ldI IntKind.i64 n3 (n4 + 10) fun i15 =>
    T.ldI IntKind.i64 n3 (n4 + 11) fun i16 =>
    T.ldI IntKind.i64 n3 (n4 + 12) fun i17 =>
    T.new
    (Obj.cells
    (Array.mk
    [Value.int IntKind.i64 0, Value.int IntKind.i64 0, Value.int IntKind.i64 0, Value.int IntKind.i64 0,
    Value.int IntKind.i64 0, Value.int IntKind.i64 0, Value.int IntKind.i64 0, Value.int IntKind.i64 0,
    Value.int IntKind.i64 0, Value.int IntKind.i64 0, Value.int IntKind.i64 0, Value.int IntKind.i64 0,
    Value.int IntKind.i64 0])
    46)
    fun n18 =>
    T.st n18 0 (Value.int IntKind.i64 i5)
    (T.st n18 1 (Value.int IntKind.i64 i6)
    (T.st n18 2 (Value.int IntKind.i64 i7)
    (T.st n18 3 (Value.int IntKind.i64 i8)
    (T.st n18 4 (Value.int IntKind.i64 i9)
    (T.st n18 5 (Value.int IntKind.i64 i10)
    (T.st n18 6 (Value.int IntKind.i64 i11)
    (T.st n18 7 (Value.int IntKind.i64 i12)
    (T.st n18 8 (Value.int IntKind.i64 i13)
    (T.st n18 9 (Value.int IntKind.i64 i14)
    (T.st n18 10 (Value.int IntKind.i64 i15)
    (T.st n18 11 (Value.int IntKind.i64 i16)
    (T.st n18 12 (Value.int IntKind.i64 i17)
    (T.ret (Value.pointer (some (Addr.mk n18 0 none)))))))))))))))))
theorem e18o (o0 : Option Addr) : treeOf Try.prog Try.f18 (codeOf Try.f18) .n [.v (.pointer o0)] = (t18o o0) := by kernel_rfl
theorem c18o (o0 : Option Addr) {w : World} {R : Ending → World → Prop} (h : (t18o o0).sem Try.prog R ρ0 w) : Calls Try.prog 18 #[.pointer o0] w R :=
  calls_of mixed Try.func18 rfl rfl (e18o o0) h
end Go.Proofs.Ytfgfabjbebdnjaa
