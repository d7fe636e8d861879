/- The functions' trees, printed by a program (wip/tools/Emit.lean) and checked by the kernel against the model's own code. -/
import Derived.Test.YteebkalajidehaaTrees
import Derived.Test.YteebkalajidehaaProg
namespace Go.Proofs.Yteebkalajidehaa
open Go hiding Expr
open Go.Proofs.Yteebkalajidehaa.Tr
set_option linter.unusedVariables false
set_option maxRecDepth 100000
def t25n  : T :=
  T.ite true (T.ret (Value.bool true)) (T.sm none fun n0 n1 => T.ldI IntKind.i64 n0 n1 fun i2 => T.ret (Value.bool (i2 == 0)))
theorem e25n  : treeOf Try.prog Try.f25 (codeOf Try.f25) .n [.v (.pointer none)] = t25n := by kernel_rfl
theorem c25n  {w : World} {R : Ending → World → Prop} (h : t25n.sem Try.prog R ρ0 w) : Calls Try.prog 25 #[.pointer none] w R :=
  calls_of mixed Try.func25 rfl rfl (e25n ) h
def t7o (o0 : Option Addr) : T :=
  T.call 25 [Value.pointer o0] fun v1 =>
  T.asB v1 fun b2 => T.ite b2 (T.ret (Value.int IntKind.i64 0)) (T.sm o0 fun n3 n4 => T.ldI IntKind.i64 n3 (n4 + 2) fun i5 => T.ret (Value.int IntKind.i64 i5))
theorem e7o (o0 : Option Addr) : treeOf Try.prog Try.f7 (codeOf Try.f7) .n [.v (.pointer o0)] = (t7o o0) := by kernel_rfl
theorem c7o (o0 : Option Addr) {w : World} {R : Ending → World → Prop} (h : (t7o o0).sem Try.prog R ρ0 w) : Calls Try.prog 7 #[.pointer o0] w R :=
  calls_of mixed Try.func7 rfl rfl (e7o o0) h
def t8o (o0 : Option Addr) : T :=
  T.call 25 [Value.pointer o0] fun v1 =>
  T.asB v1 fun b2 =>
    T.ite b2 (T.ret (Value.int IntKind.i64 2))
    (T.sm o0 fun n3 n4 =>
    T.ldI IntKind.i64 n3 (n4 + 2) fun i5 =>
    T.ite (i5 == 1099511627776) (T.ret (Value.int IntKind.i64 3))
    (T.sm o0 fun n6 n7 =>
    T.ldI IntKind.i64 n6 (n7 + 2) fun i8 =>
    T.sm o0 fun n9 n10 =>
    T.st n9 (n10 + 2) (Value.int IntKind.i64 (IntKind.wrap IntKind.i64 (i8 + 1)))
    (T.drew
    (T.sm o0 fun n11 n12 =>
    T.ldI IntKind.i64 n11 (n12 + 1) fun i13 =>
    T.sm o0 fun n14 n15 =>
    T.ldI IntKind.i64 n14 (n15 + 1) fun i16 =>
    T.req (0 ≤ i16)
    (T.sm o0 fun n17 n18 =>
    T.st n17 (n18 + 3) (Value.int IntKind.i64 i13)
    (T.chk []
    (T.sm o0 fun n19 n20 =>
    T.st n19 (n20 + 4) (Value.int IntKind.u8 (shlI IntKind.u8 1 i16)) (T.chk [] (T.ret (Value.int IntKind.i64 0))))))))))
theorem e8o (o0 : Option Addr) : treeOf Try.prog Try.f8 (codeOf Try.f8) (.s .n (.s .n (.s .n (.s .n (.s (.p [0, 1, 2, 3, 4, 5, 6, 7, 8, 9, 10, 11, 12, 13, 14, 15, 16, 17, 18]) .n))))) [.v (.pointer o0)] = (t8o o0) := by kernel_rfl
theorem c8o (o0 : Option Addr) {w : World} {R : Ending → World → Prop} (h : (t8o o0).sem Try.prog R ρ0 w) : Calls Try.prog 8 #[.pointer o0] w R :=
  calls_of mixed Try.func8 rfl rfl (e8o o0) h
def t9o (o0 : Option Addr) : T :=
  T.call 25 [Value.pointer o0] fun v1 =>
  T.asB v1 fun b2 => T.ite (!b2) (T.sm o0 fun n3 n4 => T.ldI IntKind.u8 n3 (n4 + 4) fun i5 => T.ret (Value.bool (i5 != 0))) (T.ret (Value.bool false))
theorem e9o (o0 : Option Addr) : treeOf Try.prog Try.f9 (codeOf Try.f9) .n [.v (.pointer o0)] = (t9o o0) := by kernel_rfl
theorem c9o (o0 : Option Addr) {w : World} {R : Ending → World → Prop} (h : (t9o o0).sem Try.prog R ρ0 w) : Calls Try.prog 9 #[.pointer o0] w R :=
  calls_of mixed Try.func9 rfl rfl (e9o o0) h
def t10o (o0 : Option Addr) (i1 : Int) (i2 : Int) (i3 : Int) (i4 : Int) (i5 : Int) (i6 : Int) : T :=
  T.new (Obj.cells (Array.mk [Value.int IntKind.i64 i1, Value.int IntKind.i64 i2, Value.int IntKind.i64 i3, Value.int IntKind.i64 i4]) 39) fun n7 =>
  T.call 25 [Value.pointer o0] fun v8 =>
    T.asB v8 fun b9 =>
    T.ite b9 (T.ret (Value.bool false))
    (T.ldI IntKind.i64 n7 0 fun i10 =>
    T.call 26 [Value.pointer o0, Value.int IntKind.i64 i10] fun v11 =>
    T.asB v11 fun b12 =>
    T.ite (!b12) (T.ret (Value.bool false))
    (T.ldI IntKind.i64 n7 1 fun i13 =>
    T.ite (decide (i13 < 0)) (T.ret (Value.bool false))
    (T.ldI IntKind.i64 n7 1 fun i14 =>
    T.ite (decide (i14 > 1099511627776)) (T.ret (Value.bool false))
    (T.ldI IntKind.i64 n7 1 fun i15 =>
    T.call 20 [Value.pointer o0, Value.int IntKind.i64 i15] fun v16 =>
    T.asB v16 fun b17 =>
    T.drew
    (T.ldI IntKind.i64 n7 1 fun i18 =>
    T.sm o0 fun n19 n20 =>
    T.ldI IntKind.i64 n19 (n20 + 2) fun i21 =>
    T.ite (decide (i18 < i21))
    (T.chk [(Addr.mk n19 (n20 + 2) none, Value.int IntKind.i64 i21), (Addr.mk n7 1 none, Value.int IntKind.i64 i18)]
    (T.ret (Value.bool false)))
    (T.sm o0 fun n22 n23 =>
    T.ldI IntKind.i64 n22 (n23 + 3) fun i24 =>
    T.ite (decide (i24 ≥ 0))
    (T.sm o0 fun n25 n26 =>
    T.ldI IntKind.i64 n25 (n26 + 3) fun i27 =>
    T.ldI IntKind.i64 n7 0 fun i28 =>
    T.ite (i27 != i28)
    (T.chk
    [(Addr.mk n7 0 none, Value.int IntKind.i64 i28),
    (Addr.mk n25 (n26 + 3) none, Value.int IntKind.i64 i27),
    (Addr.mk n22 (n23 + 3) none, Value.int IntKind.i64 i24),
    (Addr.mk n19 (n20 + 2) none, Value.int IntKind.i64 i21),
    (Addr.mk n7 1 none, Value.int IntKind.i64 i18)]
    (T.ret (Value.bool false)))
    (T.ldI IntKind.i64 n7 0 fun i29 =>
    T.ldI IntKind.i64 n7 1 fun i30 =>
    T.ldI IntKind.i64 n7 2 fun i31 =>
    T.ldI IntKind.i64 n7 3 fun i32 =>
    T.call 11
    [Value.agg
    (Array.mk
    [Value.int IntKind.i64 0, Value.int IntKind.i64 0, Value.int IntKind.i64 i5,
    Value.int IntKind.i64 i6]),
    Value.agg
    (Array.mk
    [Value.int IntKind.i64 i29, Value.int IntKind.i64 i30, Value.int IntKind.i64 i31,
    Value.int IntKind.i64 i32])]
    fun v33 =>
    T.asB v33 fun b34 =>
    T.chk
    [(Addr.mk n7 0 none, Value.int IntKind.i64 i28),
    (Addr.mk n25 (n26 + 3) none, Value.int IntKind.i64 i27),
    (Addr.mk n22 (n23 + 3) none, Value.int IntKind.i64 i24),
    (Addr.mk n19 (n20 + 2) none, Value.int IntKind.i64 i21),
    (Addr.mk n7 1 none, Value.int IntKind.i64 i18)]
    (T.ite b34 (T.ret (Value.bool false))
    (T.ldI IntKind.i64 n7 0 fun i35 =>
    T.sm o0 fun n36 n37 =>
    T.st n36 (n37 + 3) (Value.int IntKind.i64 i35) (T.ret (Value.bool true))))))
    (T.ldI IntKind.i64 n7 0 fun i38 =>
    T.ldI IntKind.i64 n7 1 fun i39 =>
    T.ldI IntKind.i64 n7 2 fun i40 =>
    T.ldI IntKind.i64 n7 3 fun i41 =>
    T.call 11
    [Value.agg
    (Array.mk
    [Value.int IntKind.i64 0, Value.int IntKind.i64 0, Value.int IntKind.i64 i5,
    Value.int IntKind.i64 i6]),
    Value.agg
    (Array.mk
    [Value.int IntKind.i64 i38, Value.int IntKind.i64 i39, Value.int IntKind.i64 i40,
    Value.int IntKind.i64 i41])]
    fun v42 =>
    T.asB v42 fun b43 =>
    T.chk
    [(Addr.mk n22 (n23 + 3) none, Value.int IntKind.i64 i24),
    (Addr.mk n19 (n20 + 2) none, Value.int IntKind.i64 i21),
    (Addr.mk n7 1 none, Value.int IntKind.i64 i18)]
    (T.ite b43 (T.ret (Value.bool false))
    (T.ldI IntKind.i64 n7 0 fun i44 =>
    T.sm o0 fun n45 n46 =>
    T.st n45 (n46 + 3) (Value.int IntKind.i64 i44) (T.ret (Value.bool true)))))))))))
theorem e10o (o0 : Option Addr) (i1 : Int) (i2 : Int) (i3 : Int) (i4 : Int) (i5 : Int) (i6 : Int) : treeOf Try.prog Try.f10 (codeOf Try.f10) (.s .n (.s .n (.s .n (.s (.s (.p [0, 1, 2, 3, 4, 5, 6, 7, 8, 9, 10, 11, 12, 13, 14, 15, 16, 17, 18, 19, 20, 21, 22, 23, 24, 25, 26, 27, 28, 29]) .n) .n)))) [.v (.pointer o0), .v (.agg #[.int .i64 i1, .int .i64 i2, .int .i64 i3, .int .i64 i4]), .v (.int .i64 i5), .v (.int .i64 i6)] = (t10o o0 i1 i2 i3 i4 i5 i6) := by kernel_rfl
theorem c10o (o0 : Option Addr) (i1 : Int) (i2 : Int) (i3 : Int) (i4 : Int) (i5 : Int) (i6 : Int) {w : World} {R : Ending → World → Prop} (h : (t10o o0 i1 i2 i3 i4 i5 i6).sem Try.prog R ρ0 w) : Calls Try.prog 10 #[.pointer o0, .agg #[.int .i64 i1, .int .i64 i2, .int .i64 i3, .int .i64 i4], .int .i64 i5, .int .i64 i6] w R :=
  calls_of mixed Try.func10 rfl rfl (e10o o0 i1 i2 i3 i4 i5 i6) h
def t12o (o0 : Option Addr) (i1 : Int) (i2 : Int) (b3 : Bool) : T :=
  T.call 9 [Value.pointer o0] fun v4 =>
  T.asB v4 fun b5 =>
    T.ite (!b5) (T.ret (Value.bool false))
    (T.sm o0 fun n6 n7 =>
    T.ldI IntKind.i64 n6 (n7 + 2) fun i8 =>
    T.ite (i2 != i8) (T.ret (Value.bool false))
    (T.ite (!b3) (T.ret (Value.bool false))
    (T.call 26 [Value.pointer o0, Value.int IntKind.i64 i1] fun v9 =>
    T.asB v9 fun b10 =>
    T.ite (!b10) (T.ret (Value.bool false))
    (T.sm o0 fun n11 n12 =>
    T.ldI IntKind.u8 n11 (n12 + 4) fun i13 =>
    T.req (0 ≤ i1)
    (T.ite (bitsI BinOp.and IntKind.u8 (shrI IntKind.u8 i13 i1) 1 == 1) (T.ret (Value.bool false))
    (T.call 13 [Value.pointer o0] fun v14 =>
    T.asB v14 fun b15 =>
    T.drew
    (T.sm o0 fun n16 n17 =>
    T.ldI IntKind.u8 n16 (n17 + 4) fun i18 =>
    T.req (0 ≤ i1)
    (T.sm o0 fun n19 n20 =>
    T.st n19 (n20 + 4) (Value.int IntKind.u8 (bitsI BinOp.or IntKind.u8 i18 (shlI IntKind.u8 1 i1)))
    (T.chk []
    (T.call 13 [Value.pointer o0] fun v21 =>
    T.asB v21 fun b22 => T.ite b22 (T.ret (Value.bool !b15)) (T.ret (Value.bool false))))))))))))
theorem e12o (o0 : Option Addr) (i1 : Int) (i2 : Int) (b3 : Bool) : treeOf Try.prog Try.f12 (codeOf Try.f12) (.s .n (.s .n (.s .n (.s (.p [0, 1, 2, 3, 4, 5, 6, 7, 8, 9]) .n)))) [.v (.pointer o0), .v (.int .i64 i1), .v (.int .i64 i2), .v (.bool b3)] = (t12o o0 i1 i2 b3) := by kernel_rfl
theorem c12o (o0 : Option Addr) (i1 : Int) (i2 : Int) (b3 : Bool) {w : World} {R : Ending → World → Prop} (h : (t12o o0 i1 i2 b3).sem Try.prog R ρ0 w) : Calls Try.prog 12 #[.pointer o0, .int .i64 i1, .int .i64 i2, .bool b3] w R :=
  calls_of mixed Try.func12 rfl rfl (e12o o0 i1 i2 b3) h
def t13o (o0 : Option Addr) : T :=
  T.drew
  (T.call 9 [Value.pointer o0] fun v1 =>
    T.asB v1 fun b2 =>
    T.chk []
    (T.ite b2
    (T.sm o0 fun n3 n4 =>
    T.ldI IntKind.u8 n3 (n4 + 4) fun i5 =>
    T.sm o0 fun n6 n7 =>
    T.ldI IntKind.i64 n6 n7 fun i8 =>
    T.call 27 [Value.int IntKind.u8 i5] fun v9 =>
    T.asI IntKind.i64 v9 fun i10 =>
    T.chk [(Addr.mk n6 n7 none, Value.int IntKind.i64 i8)] (T.ret (Value.bool (decide (IntKind.wrap IntKind.i64 (2 * i10) > i8)))))
    (T.chk [] (T.ret (Value.bool false)))))
theorem e13o (o0 : Option Addr) : treeOf Try.prog Try.f13 (codeOf Try.f13) (.s .n (.s (.p [0, 1, 2, 3, 4, 5, 6, 9, 10, 11, 12, 13, 7, 8, 14, 15, 16]) .n)) [.v (.pointer o0)] = (t13o o0) := by kernel_rfl
theorem c13o (o0 : Option Addr) {w : World} {R : Ending → World → Prop} (h : (t13o o0).sem Try.prog R ρ0 w) : Calls Try.prog 13 #[.pointer o0] w R :=
  calls_of mixed Try.func13 rfl rfl (e13o o0) h
def t19o (o0 : Option Addr) : T :=
  T.call 25 [Value.pointer o0] fun v1 =>
  T.asB v1 fun b2 =>
    T.ite b2 (T.ret (Value.tuple (Array.mk [Value.int IntKind.i64 0, Value.bool false])))
    (T.drew
    (T.sm o0 fun n3 n4 =>
    T.ldI IntKind.i64 n3 (n4 + 3) fun i5 =>
    T.sm o0 fun n6 n7 =>
    T.ldI IntKind.i64 n6 (n7 + 3) fun i8 => T.ret (Value.tuple (Array.mk [Value.int IntKind.i64 i5, Value.bool (decide (i8 ≥ 0))]))))
theorem e19o (o0 : Option Addr) : treeOf Try.prog Try.f19 (codeOf Try.f19) (.s .n (.s .n (.s (.p [0, 1, 2, 3, 4, 5, 6, 7, 8, 9, 10]) .n))) [.v (.pointer o0)] = (t19o o0) := by kernel_rfl
theorem c19o (o0 : Option Addr) {w : World} {R : Ending → World → Prop} (h : (t19o o0).sem Try.prog R ρ0 w) : Calls Try.prog 19 #[.pointer o0] w R :=
  calls_of mixed Try.func19 rfl rfl (e19o o0) h
def t20o (o0 : Option Addr) (i1 : Int) : T :=
  T.call 25 [Value.pointer o0] fun v2 =>
  T.asB v2 fun b3 =>
    T.ite b3 (T.ret (Value.bool false))
    (T.sm o0 fun n4 n5 =>
    T.ldI IntKind.i64 n4 (n5 + 2) fun i6 =>
    T.ite (decide (i1 ≤ i6)) (T.ret (Value.bool false))
    (T.ite (decide (i1 > 1099511627776)) (T.ret (Value.bool false))
    (T.sm o0 fun n7 n8 =>
    T.st n7 (n8 + 2) (Value.int IntKind.i64 i1)
    (T.sm o0 fun n9 n10 =>
    T.st n9 (n10 + 3) (Value.int IntKind.i64 (-1))
    (T.sm o0 fun n11 n12 => T.st n11 (n12 + 4) (Value.int IntKind.u8 0) (T.ret (Value.bool true)))))))
theorem e20o (o0 : Option Addr) (i1 : Int) : treeOf Try.prog Try.f20 (codeOf Try.f20) .n [.v (.pointer o0), .v (.int .i64 i1)] = (t20o o0 i1) := by kernel_rfl
theorem c20o (o0 : Option Addr) (i1 : Int) {w : World} {R : Ending → World → Prop} (h : (t20o o0 i1).sem Try.prog R ρ0 w) : Calls Try.prog 20 #[.pointer o0, .int .i64 i1] w R :=
  calls_of mixed Try.func20 rfl rfl (e20o o0 i1) h
def t22o (o0 : Option Addr) : T :=
  T.new (Obj.cells (Array.mk [Value.pointer o0]) 24) fun n1 => T.ret (Value.func (Fn.func 34) (Array.mk []) (Array.mk [Value.pointer (some (Addr.mk n1 0 none))]))
theorem e22o (o0 : Option Addr) : treeOf Try.prog Try.f22 (codeOf Try.f22) .n [.v (.pointer o0)] = (t22o o0) := by kernel_rfl
theorem c22o (o0 : Option Addr) {w : World} {R : Ending → World → Prop} (h : (t22o o0).sem Try.prog R ρ0 w) : Calls Try.prog 22 #[.pointer o0] w R :=
  calls_of mixed Try.func22 rfl rfl (e22o o0) h
def t23o (o0 : Option Addr) : T :=
  T.call 25 [Value.pointer o0] fun v1 =>
  T.asB v1 fun b2 =>
    T.ite b2 (T.ret (Value.pointer none))
    (T.sm o0 fun n3 n4 =>
    T.ldI IntKind.i64 n3 n4 fun i5 =>
    T.ldI IntKind.i64 n3 (n4 + 1) fun i6 =>
    T.ldI IntKind.i64 n3 (n4 + 2) fun i7 =>
    T.ldI IntKind.i64 n3 (n4 + 3) fun i8 =>
    T.ldI IntKind.u8 n3 (n4 + 4) fun i9 =>
    T.new
    (Obj.cells
    (Array.mk [Value.int IntKind.i64 0, Value.int IntKind.i64 0, Value.int IntKind.i64 0, Value.int IntKind.i64 0, Value.int IntKind.u8 0])
    57)
    fun n10 =>
    T.st n10 0 (Value.int IntKind.i64 i5)
    (T.st n10 1 (Value.int IntKind.i64 i6)
    (T.st n10 2 (Value.int IntKind.i64 i7)
    (T.st n10 3 (Value.int IntKind.i64 i8) (T.st n10 4 (Value.int IntKind.u8 i9) (T.ret (Value.pointer (some (Addr.mk n10 0 none)))))))))
theorem e23o (o0 : Option Addr) : treeOf Try.prog Try.f23 (codeOf Try.f23) .n [.v (.pointer o0)] = (t23o o0) := by kernel_rfl
theorem c23o (o0 : Option Addr) {w : World} {R : Ending → World → Prop} (h : (t23o o0).sem Try.prog R ρ0 w) : Calls Try.prog 23 #[.pointer o0] w R :=
  calls_of mixed Try.func23 rfl rfl (e23o o0) h
end Go.Proofs.Yteebkalajidehaa
