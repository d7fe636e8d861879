/- The functions' trees, printed by a program (wip/tools/Emit.lean) and checked by the kernel against the model's own code. -/
import Derived.Test.YtcmdbaafnbdpbaaTreesM
import Derived.Test.YtcmdbaafnbdpbaaProg
namespace Go.Proofs.Ytcmdbaafnbdpbaa
open Go hiding Expr
open Go.Proofs.Ytcmdbaafnbdpbaa.Tr
set_option linter.unusedVariables false
set_option maxRecDepth 100000
def t25o (o0 : Option Addr) : T :=
  T.ite (Option.isNone o0) (T.ret (Value.bool true)) (T.sm o0 fun n1 n2 => T.ldM n1 n2 fun o3 => T.ret (Value.bool (Option.isNone o3)))
theorem e25o (o0 : Option Addr) : treeOf Try.prog Try.f25 (codeOf Try.f25) .n [.v (.pointer o0)] = (t25o o0) := by kernel_rfl
theorem c25o (o0 : Option Addr) {w : World} {R : Ending → World → Prop} (h : (t25o o0).sem Try.prog R ρ0 w) : Calls Try.prog 25 #[.pointer o0] w R :=
  calls_of mixed Try.func25 rfl rfl (e25o o0) h
def t13o (o0 : Option Addr) (i1 : Int) (i2 : Int) : T :=
  T.new (Obj.cells (Array.mk [Value.int IntKind.i64 0, Value.slice none 0 0, Value.int IntKind.i64 0, Value.int IntKind.i64 0]) 30) fun n3 =>
  T.call 25 [Value.pointer o0] fun v4 =>
    T.asB v4 fun b5 =>
    T.ite b5
    (T.st n3 0 (Value.int IntKind.i64 0)
    (T.st n3 1 (Value.slice none 0 0)
    (T.st n3 2 (Value.int IntKind.i64 0)
    (T.st n3 3 (Value.int IntKind.i64 0)
    (T.ldI IntKind.i64 n3 0 fun i6 =>
    T.ldS n3 1 fun o7 n8 n9 =>
    T.ldI IntKind.i64 n3 2 fun i10 =>
    T.ldI IntKind.i64 n3 3 fun i11 =>
    T.ret
    (Value.tuple
    (Array.mk
    [Value.agg (Array.mk [Value.int IntKind.i64 i6, Value.slice o7 n8 n9, Value.int IntKind.i64 i10, Value.int IntKind.i64 i11]),
    Value.int IntKind.i64 0])))))))
    (T.call 27 [Value.pointer o0, Value.int IntKind.i64 i1, Value.int IntKind.i64 i2] fun v12 =>
    T.asI IntKind.i64 v12 fun i13 =>
    T.ite (i13 != 2)
    (T.st n3 0 (Value.int IntKind.i64 0)
    (T.st n3 1 (Value.slice none 0 0)
    (T.st n3 2 (Value.int IntKind.i64 0)
    (T.st n3 3 (Value.int IntKind.i64 0)
    (T.ldI IntKind.i64 n3 0 fun i14 =>
    T.ldS n3 1 fun o15 n16 n17 =>
    T.ldI IntKind.i64 n3 2 fun i18 =>
    T.ldI IntKind.i64 n3 3 fun i19 =>
    T.ret
    (Value.tuple
    (Array.mk
    [Value.agg
    (Array.mk [Value.int IntKind.i64 i14, Value.slice o15 n16 n17, Value.int IntKind.i64 i18, Value.int IntKind.i64 i19]),
    Value.int IntKind.i64 i13])))))))
    (T.sm o0 fun n20 n21 =>
    T.ldM n20 n21 fun o22 =>
    T.run (Instr.lookup 59 (Value.map o22) (Value.int IntKind.i64 i1) false) fun v23 =>
    T.asA v23 fun l24 =>
    T.req (List.length l24 = 5)
    (T.asI IntKind.i64 (List.headD l24 (Value.tuple (Array.mk []))) fun i25 =>
    T.asI IntKind.i64 (List.headD (List.tail l24) (Value.tuple (Array.mk []))) fun i26 =>
    T.asS (List.headD (List.tail (List.tail l24)) (Value.tuple (Array.mk []))) fun o27 n28 n29 =>
    T.asI IntKind.i64 (List.headD (List.tail (List.tail (List.tail l24))) (Value.tuple (Array.mk []))) fun i30 =>
    T.asI IntKind.i64 (List.headD (List.tail (List.tail (List.tail (List.tail l24)))) (Value.tuple (Array.mk []))) fun i31 =>
    T.call 29
    [Value.agg
    (Array.mk [Value.int IntKind.i64 i26, Value.slice o27 n28 n29, Value.int IntKind.i64 i30, Value.int IntKind.i64 i31])]
    fun v32 =>
    T.asA v32 fun l33 =>
    T.req (List.length l33 = 4)
    (T.asI IntKind.i64 (List.headD l33 (Value.tuple (Array.mk []))) fun i34 =>
    T.asS (List.headD (List.tail l33) (Value.tuple (Array.mk []))) fun o35 n36 n37 =>
    T.asI IntKind.i64 (List.headD (List.tail (List.tail l33)) (Value.tuple (Array.mk []))) fun i38 =>
    T.asI IntKind.i64 (List.headD (List.tail (List.tail (List.tail l33))) (Value.tuple (Array.mk []))) fun i39 =>
    T.st n3 0 (Value.int IntKind.i64 i34)
    (T.st n3 1 (Value.slice o35 n36 n37)
    (T.st n3 2 (Value.int IntKind.i64 i38)
    (T.st n3 3 (Value.int IntKind.i64 i39)
    (T.ldI IntKind.i64 n3 0 fun i40 =>
    T.ldS n3 1 fun o41 n42 n43 =>
    T.ldI IntKind.i64 n3 2 fun i44 =>
    T.ldI IntKind.i64 n3 3 fun i45 =>
    T.ret
    (Value.tuple
    (Array.mk
    [Value.agg
    (Array.mk
    [Value.int IntKind.i64 i40, Value.slice o41 n42 n43, Value.int IntKind.i64 i44,
    Value.int IntKind.i64 i45]),
    Value.int IntKind.i64 i13]))))))))))
theorem e13o (o0 : Option Addr) (i1 : Int) (i2 : Int) : treeOf Try.prog Try.f13 (codeOf Try.f13) .n [.v (.pointer o0), .v (.int .i64 i1), .v (.int .i64 i2)] = (t13o o0 i1 i2) := by kernel_rfl
theorem c13o (o0 : Option Addr) (i1 : Int) (i2 : Int) {w : World} {R : Ending → World → Prop} (h : (t13o o0 i1 i2).sem Try.prog R ρ0 w) : Calls Try.prog 13 #[.pointer o0, .int .i64 i1, .int .i64 i2] w R :=
  calls_of mixed Try.func13 rfl rfl (e13o o0 i1 i2) h
def t12o (o0 : Option Addr) (i1 : Int) (i2 : Int) (i3 : Int) (o4 : Option Addr) (n5 n6 : Nat) (i7 : Int) (i8 : Int) : T :=
  T.new (Obj.cells (Array.mk [Value.int IntKind.i64 i3, Value.slice o4 n5 n6, Value.int IntKind.i64 i7, Value.int IntKind.i64 i8]) 30) fun n9 =>
  T.call 25 [Value.pointer o0] fun v10 =>
    T.asB v10 fun b11 =>
    T.ite b11 (T.ret (Value.int IntKind.i64 2))
    (T.call 27 [Value.pointer o0, Value.int IntKind.i64 i1, Value.int IntKind.i64 i2] fun v12 =>
    T.asI IntKind.i64 v12 fun i13 =>
    T.call 26 [Value.int IntKind.i64 i13] fun v14 =>
    T.asI IntKind.i64 v14 fun i15 =>
    T.ite (i15 == 0)
    (T.ldI IntKind.i64 n9 0 fun i16 =>
    T.ldS n9 1 fun o17 n18 n19 =>
    T.ldI IntKind.i64 n9 2 fun i20 =>
    T.ldI IntKind.i64 n9 3 fun i21 =>
    T.call 28
    [Value.pointer o0, Value.int IntKind.i64 i1, Value.int IntKind.i64 i2,
    Value.agg (Array.mk [Value.int IntKind.i64 i16, Value.slice o17 n18 n19, Value.int IntKind.i64 i20, Value.int IntKind.i64 i21])]
    fun v22 => T.ret (Value.int IntKind.i64 i15))
    (T.ret (Value.int IntKind.i64 i15)))
theorem e12o (o0 : Option Addr) (i1 : Int) (i2 : Int) (i3 : Int) (o4 : Option Addr) (n5 n6 : Nat) (i7 : Int) (i8 : Int) : treeOf Try.prog Try.f12 (codeOf Try.f12) .n [.v (.pointer o0), .v (.int .i64 i1), .v (.int .i64 i2), .v (.agg #[.int .i64 i3, .slice o4 n5 n6, .int .i64 i7, .int .i64 i8])] = (t12o o0 i1 i2 i3 o4 n5 n6 i7 i8) := by kernel_rfl
theorem c12o (o0 : Option Addr) (i1 : Int) (i2 : Int) (i3 : Int) (o4 : Option Addr) (n5 n6 : Nat) (i7 : Int) (i8 : Int) {w : World} {R : Ending → World → Prop} (h : (t12o o0 i1 i2 i3 o4 n5 n6 i7 i8).sem Try.prog R ρ0 w) : Calls Try.prog 12 #[.pointer o0, .int .i64 i1, .int .i64 i2, .agg #[.int .i64 i3, .slice o4 n5 n6, .int .i64 i7, .int .i64 i8]] w R :=
  calls_of mixed Try.func12 rfl rfl (e12o o0 i1 i2 i3 o4 n5 n6 i7 i8) h
def t23o (o0 : Option Addr) (i1 : Int) : T :=
  T.call 25 [Value.pointer o0] fun v2 =>
  T.asB v2 fun b3 =>
    T.ite b3 (T.ret (Value.int IntKind.i64 0))
    (T.sm o0 fun n4 n5 =>
    T.ldM n4 n5 fun o6 =>
    T.run (Instr.lookup 59 (Value.map o6) (Value.int IntKind.i64 i1) false) fun v7 =>
    T.asA v7 fun l8 =>
    T.req (List.length l8 = 5)
    (T.asI IntKind.i64 (List.headD l8 (Value.tuple (Array.mk []))) fun i9 =>
    T.asI IntKind.i64 (List.headD (List.tail l8) (Value.tuple (Array.mk []))) fun i10 =>
    T.asS (List.headD (List.tail (List.tail l8)) (Value.tuple (Array.mk []))) fun o11 n12 n13 =>
    T.asI IntKind.i64 (List.headD (List.tail (List.tail (List.tail l8))) (Value.tuple (Array.mk []))) fun i14 =>
    T.asI IntKind.i64 (List.headD (List.tail (List.tail (List.tail (List.tail l8)))) (Value.tuple (Array.mk []))) fun i15 =>
    T.ret (Value.int IntKind.i64 i9)))
theorem e23o (o0 : Option Addr) (i1 : Int) : treeOf Try.prog Try.f23 (codeOf Try.f23) .n [.v (.pointer o0), .v (.int .i64 i1)] = (t23o o0 i1) := by kernel_rfl
theorem c23o (o0 : Option Addr) (i1 : Int) {w : World} {R : Ending → World → Prop} (h : (t23o o0 i1).sem Try.prog R ρ0 w) : Calls Try.prog 23 #[.pointer o0, .int .i64 i1] w R :=
  calls_of mixed Try.func23 rfl rfl (e23o o0 i1) h
def t15o (o0 : Option Addr) : T :=
  T.call 30 [Value.pointer o0] fun v1 => T.asS v1 fun o2 n3 n4 => T.ret (Value.int IntKind.i64 (↑n3 : Int))
theorem e15o (o0 : Option Addr) : treeOf Try.prog Try.f15 (codeOf Try.f15) .n [.v (.pointer o0)] = (t15o o0) := by kernel_rfl
theorem c15o (o0 : Option Addr) {w : World} {R : Ending → World → Prop} (h : (t15o o0).sem Try.prog R ρ0 w) : Calls Try.prog 15 #[.pointer o0] w R :=
  calls_of mixed Try.func15 rfl rfl (e15o o0) h
def t20o (o0 : Option Addr) : T :=
  T.call 25 [Value.pointer o0] fun v1 =>
  T.asB v1 fun b2 =>
    T.ite b2 (T.ret (Value.pointer none))
    (T.call 30 [Value.pointer o0] fun v3 =>
    T.asS v3 fun o4 n5 n6 =>
    T.call 16 [Value.slice o4 n5 n6] fun v7 =>
    T.asU v7 fun l8 =>
    T.req (List.length l8 = 2)
    (T.asP (List.headD l8 (Value.tuple (Array.mk []))) fun o9 =>
    T.asI IntKind.i64 (List.headD (List.tail l8) (Value.tuple (Array.mk []))) fun i10 => T.ret (Value.pointer o9)))
theorem e20o (o0 : Option Addr) : treeOf Try.prog Try.f20 (codeOf Try.f20) .n [.v (.pointer o0)] = (t20o o0) := by kernel_rfl
theorem c20o (o0 : Option Addr) {w : World} {R : Ending → World → Prop} (h : (t20o o0).sem Try.prog R ρ0 w) : Calls Try.prog 20 #[.pointer o0] w R :=
  calls_of mixed Try.func20 rfl rfl (e20o o0) h
def t18o (o0 : Option Addr) (o1 : Option Addr) (n2 n3 : Nat) (i4 : Int) : T :=
  T.call 19 [Value.pointer o0] fun v5 =>
  T.asC 36 v5 fun l6 =>
    T.req (List.length l6 = 1)
    (T.asP (List.headD l6 (Value.tuple (Array.mk []))) fun o7 =>
    T.call 35 [Value.func (Fn.func 36) (Array.mk []) (Array.mk [Value.pointer o7]), Value.slice o1 n2 n3, Value.int IntKind.i64 i4] fun v8 =>
    T.asB v8 fun b9 =>
    T.ite b9
    (T.call 35 [Value.func (Fn.func 36) (Array.mk []) (Array.mk [Value.pointer o7]), Value.slice o1 n2 n3, Value.int IntKind.i64 0] fun v10 =>
    T.asB v10 fun b11 =>
    T.ite b11 (T.call 15 [Value.pointer o0] fun v12 => T.asI IntKind.i64 v12 fun i13 => T.ret (Value.bool (i13 == (↑n2 : Int))))
    (T.ret (Value.bool false)))
    (T.ret (Value.bool false)))
theorem e18o (o0 : Option Addr) (o1 : Option Addr) (n2 n3 : Nat) (i4 : Int) : treeOf Try.prog Try.f18 (codeOf Try.f18) .n [.v (.pointer o0), .v (.slice o1 n2 n3), .v (.int .i64 i4)] = (t18o o0 o1 n2 n3 i4) := by kernel_rfl
theorem c18o (o0 : Option Addr) (o1 : Option Addr) (n2 n3 : Nat) (i4 : Int) {w : World} {R : Ending → World → Prop} (h : (t18o o0 o1 n2 n3 i4).sem Try.prog R ρ0 w) : Calls Try.prog 18 #[.pointer o0, .slice o1 n2 n3, .int .i64 i4] w R :=
  calls_of mixed Try.func18 rfl rfl (e18o o0 o1 n2 n3 i4) h
def t19o (o0 : Option Addr) : T :=
  T.call 30 [Value.pointer o0] fun v1 =>
  T.asS v1 fun o2 n3 n4 =>
    T.new (Obj.cells (Array.mk [Value.slice none 0 0]) 42) fun n5 =>
    T.st n5 0 (Value.slice o2 n3 n4) (T.ret (Value.func (Fn.func 36) (Array.mk []) (Array.mk [Value.pointer (some (Addr.mk n5 0 none))])))
theorem e19o (o0 : Option Addr) : treeOf Try.prog Try.f19 (codeOf Try.f19) .n [.v (.pointer o0)] = (t19o o0) := by kernel_rfl
theorem c19o (o0 : Option Addr) {w : World} {R : Ending → World → Prop} (h : (t19o o0).sem Try.prog R ρ0 w) : Calls Try.prog 19 #[.pointer o0] w R :=
  calls_of mixed Try.func19 rfl rfl (e19o o0) h
def t30o (o0 : Option Addr) : T :=
  T.call 25 [Value.pointer o0] fun v1 =>
  T.asB v1 fun b2 =>
    T.ite b2 (T.ret (Value.slice none 0 0))
    (T.sm o0 fun n3 n4 =>
    T.ldS n3 (n4 + 1) fun o5 n6 n7 =>
    T.loop 0 [Value.slice none 0 0, Value.int IntKind.i64 0] fun l8 j9 =>
    T.asS (List.headD l8 (Value.tuple (Array.mk []))) fun o10 n11 n12 =>
    T.asI IntKind.i64 (List.headD (List.tail l8) (Value.tuple (Array.mk []))) fun i13 =>
    T.ite (decide (i13 < (↑n6 : Int)))
    (T.req (0 ≤ i13 ∧ i13 < (↑n6 : Int))
    (T.sm o5 fun n14 n15 =>
    T.ldI IntKind.i64 n14 (n15 + Int.toNat i13 * 1) fun i16 =>
    T.drew
    (T.sm o0 fun n17 n18 =>
    T.ldM n17 n18 fun o19 =>
    T.sm o0 fun n20 n21 =>
    T.ldM n20 n21 fun o22 =>
    T.both
    (T.run (Instr.lookup 59 (Value.map o19) (Value.int IntKind.i64 i16) false) fun v23 =>
    T.asA v23 fun l24 =>
    T.req (List.length l24 = 5)
    (T.asI IntKind.i64 (List.headD l24 (Value.tuple (Array.mk []))) fun i25 =>
    T.asI IntKind.i64 (List.headD (List.tail l24) (Value.tuple (Array.mk []))) fun i26 =>
    T.asS (List.headD (List.tail (List.tail l24)) (Value.tuple (Array.mk []))) fun o27 n28 n29 =>
    T.asI IntKind.i64 (List.headD (List.tail (List.tail (List.tail l24))) (Value.tuple (Array.mk []))) fun i30 =>
    T.asI IntKind.i64 (List.headD (List.tail (List.tail (List.tail (List.tail l24)))) (Value.tuple (Array.mk [])))
    fun i31 =>
    T.chk [(Addr.mk n20 n21 none, Value.map o22)]
    (T.run (Instr.lookup 59 (Value.map o22) (Value.int IntKind.i64 i16) false) fun v32 =>
    T.asA v32 fun l33 =>
    T.req (List.length l33 = 5)
    (T.asI IntKind.i64 (List.headD l33 (Value.tuple (Array.mk []))) fun i34 =>
    T.asI IntKind.i64 (List.headD (List.tail l33) (Value.tuple (Array.mk []))) fun i35 =>
    T.asS (List.headD (List.tail (List.tail l33)) (Value.tuple (Array.mk []))) fun o36 n37 n38 =>
    T.asI IntKind.i64
    (List.headD (List.tail (List.tail (List.tail l33))) (Value.tuple (Array.mk []))) fun i39 =>
    T.asI IntKind.i64
    (List.headD (List.tail (List.tail (List.tail (List.tail l33))))
    (Value.tuple (Array.mk [])))
    fun i40 =>
    T.chk []
    (T.call 29
    [Value.agg
    (Array.mk
    [Value.int IntKind.i64 i35, Value.slice o36 n37 n38, Value.int IntKind.i64 i39,
    Value.int IntKind.i64 i40])]
    fun v41 =>
    T.asA v41 fun l42 =>
    T.req (List.length l42 = 4)
    (T.asI IntKind.i64 (List.headD l42 (Value.tuple (Array.mk []))) fun i43 =>
    T.asS (List.headD (List.tail l42) (Value.tuple (Array.mk [])))
    fun o44 n45 n46 =>
    T.asI IntKind.i64
    (List.headD (List.tail (List.tail l42)) (Value.tuple (Array.mk [])))
    fun i47 =>
    T.asI IntKind.i64
    (List.headD (List.tail (List.tail (List.tail l42)))
    (Value.tuple (Array.mk [])))
    fun i48 =>
    T.chk []
    (T.new
    (Obj.cells
    (Array.mk
    [Value.int IntKind.i64 i16, Value.int IntKind.i64 i25,
    Value.int IntKind.i64 i43, Value.slice o44 n45 n46,
    Value.int IntKind.i64 i47, Value.int IntKind.i64 i48])
    56)
    fun n49 =>
    T.chk []
    (T.run
    (biV Builtin.append (Array.mk [42, 42]) 42
    (Array.mk
    [Value.slice o10 n11 n12,
    Value.slice (some (Addr.mk n49 0 none)) 1 1]))
    fun v50 =>
    T.asS v50 fun o51 n52 n53 =>
    T.chk []
    (T.next 0
    [Value.slice o51 n52 n53,
    Value.int IntKind.i64
    (IntKind.wrap IntKind.i64 (i13 + 1))]
    ([Value.pointer o0, Value.slice o5 n6 n7,
    Value.int IntKind.i64 (↑n6 : Int)] =
    [Value.pointer o0, Value.slice o5 n6 n7,
    Value.int IntKind.i64 (↑n6 : Int)] ∧ ([] : List Deferred) = []))))))))))
    (T.run (Instr.lookup 59 (Value.map o22) (Value.int IntKind.i64 i16) false) fun v54 =>
    T.asA v54 fun l55 =>
    T.req (List.length l55 = 5)
    (T.asI IntKind.i64 (List.headD l55 (Value.tuple (Array.mk []))) fun i56 =>
    T.asI IntKind.i64 (List.headD (List.tail l55) (Value.tuple (Array.mk []))) fun i57 =>
    T.asS (List.headD (List.tail (List.tail l55)) (Value.tuple (Array.mk []))) fun o58 n59 n60 =>
    T.asI IntKind.i64 (List.headD (List.tail (List.tail (List.tail l55))) (Value.tuple (Array.mk []))) fun i61 =>
    T.asI IntKind.i64 (List.headD (List.tail (List.tail (List.tail (List.tail l55)))) (Value.tuple (Array.mk [])))
    fun i62 =>
    T.chk [(Addr.mk n17 n18 none, Value.map o19)]
    (T.both
    (T.run (Instr.lookup 59 (Value.map o19) (Value.int IntKind.i64 i16) false) fun v63 =>
    T.asA v63 fun l64 =>
    T.req (List.length l64 = 5)
    (T.asI IntKind.i64 (List.headD l64 (Value.tuple (Array.mk []))) fun i65 =>
    T.asI IntKind.i64 (List.headD (List.tail l64) (Value.tuple (Array.mk []))) fun i66 =>
    T.asS (List.headD (List.tail (List.tail l64)) (Value.tuple (Array.mk []))) fun o67 n68 n69 =>
    T.asI IntKind.i64
    (List.headD (List.tail (List.tail (List.tail l64))) (Value.tuple (Array.mk [])))
    fun i70 =>
    T.asI IntKind.i64
    (List.headD (List.tail (List.tail (List.tail (List.tail l64))))
    (Value.tuple (Array.mk [])))
    fun i71 =>
    T.chk []
    (T.call 29
    [Value.agg
    (Array.mk
    [Value.int IntKind.i64 i57, Value.slice o58 n59 n60,
    Value.int IntKind.i64 i61, Value.int IntKind.i64 i62])]
    fun v72 =>
    T.asA v72 fun l73 =>
    T.req (List.length l73 = 4)
    (T.asI IntKind.i64 (List.headD l73 (Value.tuple (Array.mk []))) fun i74 =>
    T.asS (List.headD (List.tail l73) (Value.tuple (Array.mk [])))
    fun o75 n76 n77 =>
    T.asI IntKind.i64
    (List.headD (List.tail (List.tail l73)) (Value.tuple (Array.mk [])))
    fun i78 =>
    T.asI IntKind.i64
    (List.headD (List.tail (List.tail (List.tail l73)))
    (Value.tuple (Array.mk [])))
    fun i79 =>
    T.chk []
    (T.new
    (Obj.cells
    (Array.mk
    [Value.int IntKind.i64 i16, Value.int IntKind.i64 i65,
    Value.int IntKind.i64 i74, Value.slice o75 n76 n77,
    Value.int IntKind.i64 i78, Value.int IntKind.i64 i79])
    56)
    fun n80 =>
    T.chk []
    (T.run
    (biV Builtin.append (Array.mk [42, 42]) 42
    (Array.mk
    [Value.slice o10 n11 n12,
    Value.slice (some (Addr.mk n80 0 none)) 1 1]))
    fun v81 =>
    T.asS v81 fun o82 n83 n84 =>
    T.chk []
    (T.next 0
    [Value.slice o82 n83 n84,
    Value.int IntKind.i64
    (IntKind.wrap IntKind.i64 (i13 + 1))]
    ([Value.pointer o0, Value.slice o5 n6 n7,
    Value.int IntKind.i64 (↑n6 : Int)] =
    [Value.pointer o0, Value.slice o5 n6 n7,
    Value.int IntKind.i64 (↑n6 : Int)] ∧ ([] : List Deferred) = []))))))))
    (T.call 29
    [Value.agg
    (Array.mk
    [Value.int IntKind.i64 i57, Value.slice o58 n59 n60, Value.int IntKind.i64 i61,
    Value.int IntKind.i64 i62])]
    fun v85 =>
    T.asA v85 fun l86 =>
    T.req (List.length l86 = 4)
    (T.asI IntKind.i64 (List.headD l86 (Value.tuple (Array.mk []))) fun i87 =>
    T.asS (List.headD (List.tail l86) (Value.tuple (Array.mk []))) fun o88 n89 n90 =>
    T.asI IntKind.i64 (List.headD (List.tail (List.tail l86)) (Value.tuple (Array.mk [])))
    fun i91 =>
    T.asI IntKind.i64
    (List.headD (List.tail (List.tail (List.tail l86))) (Value.tuple (Array.mk [])))
    fun i92 =>
    T.chk [(Addr.mk n17 n18 none, Value.map o19)]
    (T.run (Instr.lookup 59 (Value.map o19) (Value.int IntKind.i64 i16) false) fun v93 =>
    T.asA v93 fun l94 =>
    T.req (List.length l94 = 5)
    (T.asI IntKind.i64 (List.headD l94 (Value.tuple (Array.mk []))) fun i95 =>
    T.asI IntKind.i64 (List.headD (List.tail l94) (Value.tuple (Array.mk [])))
    fun i96 =>
    T.asS (List.headD (List.tail (List.tail l94)) (Value.tuple (Array.mk [])))
    fun o97 n98 n99 =>
    T.asI IntKind.i64
    (List.headD (List.tail (List.tail (List.tail l94)))
    (Value.tuple (Array.mk [])))
    fun i100 =>
    T.asI IntKind.i64
    (List.headD (List.tail (List.tail (List.tail (List.tail l94))))
    (Value.tuple (Array.mk [])))
    fun i101 =>
    T.chk []
    (T.new
    (Obj.cells
    (Array.mk
    [Value.int IntKind.i64 i16, Value.int IntKind.i64 i95,
    Value.int IntKind.i64 i87, Value.slice o88 n89 n90,
    Value.int IntKind.i64 i91, Value.int IntKind.i64 i92])
    56)
    fun n102 =>
    T.chk []
    (T.run
    (biV Builtin.append (Array.mk [42, 42]) 42
    (Array.mk
    [Value.slice o10 n11 n12,
    Value.slice (some (Addr.mk n102 0 none)) 1 1]))
    fun v103 =>
    T.asS v103 fun o104 n105 n106 =>
    T.chk []
    (T.next 0
    [Value.slice o104 n105 n106,
    Value.int IntKind.i64
    (IntKind.wrap IntKind.i64 (i13 + 1))]
    ([Value.pointer o0, Value.slice o5 n6 n7,
    Value.int IntKind.i64 (↑n6 : Int)] =
    [Value.pointer o0, Value.slice o5 n6 n7,
    Value.int IntKind.i64 (↑n6 : Int)] ∧ ([] : List Deferred) = []))))))))))))))
    (T.ret (Value.slice o10 n11 n12)))
theorem e30o (o0 : Option Addr) : treeOf Try.prog Try.f30 (codeOf Try.f30) (.s .n (.s .n (.s .n (.s (.s .n (.u (.l [(3, .slice), (13, .int .i64)] [0, 11, 12] (.s .n (.s .n (.s (.u (.s .n (.p [0, 1, 2, 3, 4, 5, 6, 9, 10, 11, 12, 13, 7, 8, 14, 15, 16, 17, 18, 19, 20]))) .n)))))) .n)))) [.v (.pointer o0)] = (t30o o0) := by kernel_rfl
theorem c30o (o0 : Option Addr) {w : World} {R : Ending → World → Prop} (h : (t30o o0).sem Try.prog R ρ0 w) : Calls Try.prog 30 #[.pointer o0] w R :=
  calls_of mixed Try.func30 rfl rfl (e30o o0) h
def t9 (i0 : Int) (i1 : Int) (b2 : Bool) (b3 : Bool) (i4 : Int) (o5 : Option Addr) (n6 n7 : Nat) (i8 : Int) (i9 : Int) (i10 : Int) : T :=
  T.new
  (Obj.cells
    (Array.mk
    [Value.int IntKind.i64 i0, Value.int IntKind.i64 i1, Value.bool b2, Value.bool b3, Value.int IntKind.i64 i4, Value.slice o5 n6 n7,
    Value.int IntKind.i64 i8, Value.int IntKind.i64 i9, Value.int IntKind.i64 i10])
    32)
  fun n11 =>
  T.call 11 [] fun v12 =>
    T.asB v12 fun b13 =>
    T.ite (!b13) (T.ret (Value.bool false))
    (T.new (Obj.cells (Array.mk [Value.map none, Value.slice none 0 0]) 61) fun n14 =>
    T.new (Obj.cells (Array.mk [Value.pointer none, Value.pointer (some (Addr.mk n14 0 none))]) 23) fun n15 =>
    T.loop 0 [Value.int IntKind.i64 0] fun l16 j17 =>
    T.asI IntKind.i64 (List.headD l16 (Value.tuple (Array.mk []))) fun i18 =>
    T.ite (decide (i18 < 2))
    (T.req (0 ≤ i18 ∧ i18 < 2)
    (T.sm (some (Addr.mk n15 0 none)) fun n19 n20 =>
    T.ldP n19 (n20 + Int.toNat i18 * 1) fun o21 =>
    T.ldI IntKind.i64 n11 0 fun i22 =>
    T.ldI IntKind.i64 n11 1 fun i23 =>
    T.call 13 [Value.pointer o21, Value.int IntKind.i64 i22, Value.int IntKind.i64 i23] fun v24 =>
    T.asU v24 fun l25 =>
    T.req (List.length l25 = 2)
    (T.asA (List.headD l25 (Value.tuple (Array.mk []))) fun l26 =>
    T.req (List.length l26 = 4)
    (T.asI IntKind.i64 (List.headD l26 (Value.tuple (Array.mk []))) fun i27 =>
    T.asS (List.headD (List.tail l26) (Value.tuple (Array.mk []))) fun o28 n29 n30 =>
    T.asI IntKind.i64 (List.headD (List.tail (List.tail l26)) (Value.tuple (Array.mk []))) fun i31 =>
    T.asI IntKind.i64 (List.headD (List.tail (List.tail (List.tail l26))) (Value.tuple (Array.mk []))) fun i32 =>
    T.asI IntKind.i64 (List.headD (List.tail l25) (Value.tuple (Array.mk []))) fun i33 =>
    T.new
    (Obj.cells
    (Array.mk [Value.int IntKind.i64 0, Value.slice none 0 0, Value.int IntKind.i64 0, Value.int IntKind.i64 0])
    30)
    fun n34 =>
    T.st n34 0 (Value.int IntKind.i64 i27)
    (T.st n34 1 (Value.slice o28 n29 n30)
    (T.st n34 2 (Value.int IntKind.i64 i31)
    (T.st n34 3 (Value.int IntKind.i64 i32)
    (T.blk 1
    (fun l35 j36 =>
    T.call 18 [Value.pointer o21, Value.slice none 0 0, Value.int IntKind.i64 0] fun v37 =>
    T.asB v37 fun b38 =>
    T.ite (!b38) (T.ret (Value.bool false))
    (T.next 0 [Value.int IntKind.i64 (IntKind.wrap IntKind.i64 (i18 + 1))]
    ([Value.pointer (some (Addr.mk n11 0 none)), Value.slice (some (Addr.mk n15 0 none)) 2 2,
    Value.int IntKind.i64 2] =
    [Value.pointer (some (Addr.mk n11 0 none)),
    Value.slice (some (Addr.mk n15 0 none)) 2 2, Value.int IntKind.i64 2] ∧ ([] : List Deferred) = [])))
    (T.ldI IntKind.i64 n34 0 fun i39 =>
    T.ldS n34 1 fun o40 n41 n42 =>
    T.ldI IntKind.i64 n34 2 fun i43 =>
    T.ldI IntKind.i64 n34 3 fun i44 =>
    T.call 14
    [Value.agg
    (Array.mk
    [Value.int IntKind.i64 i39, Value.slice o40 n41 n42, Value.int IntKind.i64 i43,
    Value.int IntKind.i64 i44]),
    Value.agg
    (Array.mk
    [Value.int IntKind.i64 0, Value.slice none 0 0, Value.int IntKind.i64 0,
    Value.int IntKind.i64 0])]
    fun v45 =>
    T.asB v45 fun b46 =>
    T.ite (!b46) (T.ret (Value.bool false))
    (T.ite (i33 != 0) (T.ret (Value.bool false))
    (T.ldI IntKind.i64 n11 0 fun i47 =>
    T.ldI IntKind.i64 n11 1 fun i48 =>
    T.ldI IntKind.i64 n11 4 fun i49 =>
    T.ldS n11 5 fun o50 n51 n52 =>
    T.ldI IntKind.i64 n11 6 fun i53 =>
    T.ldI IntKind.i64 n11 7 fun i54 =>
    T.call 12
    [Value.pointer o21, Value.int IntKind.i64 i47,
    Value.int IntKind.i64 i48,
    Value.agg
    (Array.mk
    [Value.int IntKind.i64 i49, Value.slice o50 n51 n52,
    Value.int IntKind.i64 i53, Value.int IntKind.i64 i54])]
    fun v55 =>
    T.asI IntKind.i64 v55 fun i56 =>
    T.ite (i56 != 2) (T.ret (Value.bool false))
    (T.ldI IntKind.i64 n11 0 fun i57 =>
    T.call 23 [Value.pointer o21, Value.int IntKind.i64 i57]
    fun v58 =>
    T.asI IntKind.i64 v58 fun i59 =>
    T.ite (i59 != 0) (T.ret (Value.bool false))
    (T.call 15 [Value.pointer o21] fun v60 =>
    T.asI IntKind.i64 v60 fun i61 =>
    T.ite (i61 != 0) (T.ret (Value.bool false))
    (T.call 20 [Value.pointer o21] fun v62 =>
    T.asP v62 fun o63 =>
    T.ite (!Option.isNone o63)
    (T.ret (Value.bool false))
    (T.next 1 []
    ([Value.pointer (some (Addr.mk n11 0 none)),
    Value.pointer o21,
    Value.slice
    (some (Addr.mk n15 0 none)) 2 2,
    Value.int IntKind.i64 2,
    Value.int IntKind.i64 i18] =
    [Value.pointer
    (some (Addr.mk n11 0 none)),
    Value.pointer o21,
    Value.slice
    (some (Addr.mk n15 0 none)) 2 2,
    Value.int IntKind.i64 2,
    Value.int IntKind.i64 i18] ∧ ([] : List Deferred) = []))))))))))))))))
    (T.ret (Value.bool true)))
theorem e9 (i0 : Int) (i1 : Int) (b2 : Bool) (b3 : Bool) (i4 : Int) (o5 : Option Addr) (n6 n7 : Nat) (i8 : Int) (i9 : Int) (i10 : Int) : treeOf Try.prog Try.f9 (codeOf Try.f9) (.s .n (.s .n (.s (.s .n (.u (.l [(13, .int .i64)] [1, 11, 12] (.s .n (.s .n (.s (.u (.s .n (.s .n (.c [] [1, 4, 11, 12, 13] .n .n)))) .n)))))) .n))) [.v (.agg #[.int .i64 i0, .int .i64 i1, .bool b2, .bool b3, .int .i64 i4, .slice o5 n6 n7, .int .i64 i8, .int .i64 i9, .int .i64 i10])] = (t9 i0 i1 b2 b3 i4 o5 n6 n7 i8 i9 i10) := by kernel_rfl
theorem c9 (i0 : Int) (i1 : Int) (b2 : Bool) (b3 : Bool) (i4 : Int) (o5 : Option Addr) (n6 n7 : Nat) (i8 : Int) (i9 : Int) (i10 : Int) {w : World} {R : Ending → World → Prop} (h : (t9 i0 i1 b2 b3 i4 o5 n6 n7 i8 i9 i10).sem Try.prog R ρ0 w) : Calls Try.prog 9 #[.agg #[.int .i64 i0, .int .i64 i1, .bool b2, .bool b3, .int .i64 i4, .slice o5 n6 n7, .int .i64 i8, .int .i64 i9, .int .i64 i10]] w R :=
  calls_of mixed Try.func9 rfl rfl (e9 i0 i1 b2 b3 i4 o5 n6 n7 i8 i9 i10) h
end Go.Proofs.Ytcmdbaafnbdpbaa
