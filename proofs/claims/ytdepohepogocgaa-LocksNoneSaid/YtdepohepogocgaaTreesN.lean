/- The functions' trees, printed by a program (wip/tools/Emit.lean) and checked by the kernel against the model's own code. -/
import Derived.Test.YtdepohepogocgaaTreesA
import Derived.Test.YtdepohepogocgaaProg
namespace Go.Proofs.Ytdepohepogocgaa
open Go hiding Expr
open Go.Proofs.Ytdepohepogocgaa.Tr
set_option linter.unusedVariables false
set_option maxRecDepth 100000
def t33o (o0 : Option Addr) : T :=
  T.ite (Option.isNone o0) (T.ret (Value.bool true)) (T.sm o0 fun n1 n2 => T.ldM n1 n2 fun o3 => T.ret (Value.bool (Option.isNone o3)))
theorem e33o (o0 : Option Addr) : treeOf Try.prog Try.f33 (codeOf Try.f33) .n [.v (.pointer o0)] = (t33o o0) := by kernel_rfl
theorem c33o (o0 : Option Addr) {w : World} {R : Ending → World → Prop} (h : (t33o o0).sem Try.prog R ρ0 w) : Calls Try.prog 33 #[.pointer o0] w R :=
  calls_of mixed Try.func33 rfl rfl (e33o o0) h
def t23o (o0 : Option Addr) : T :=
  T.call 33 [Value.pointer o0] fun v1 =>
  T.asB v1 fun b2 =>
    T.ite b2 (T.ret (Value.int IntKind.i64 0)) (T.sm o0 fun n3 n4 => T.ldS n3 (n4 + 2) fun o5 n6 n7 => T.ret (Value.int IntKind.i64 (↑n6 : Int)))
theorem e23o (o0 : Option Addr) : treeOf Try.prog Try.f23 (codeOf Try.f23) .n [.v (.pointer o0)] = (t23o o0) := by kernel_rfl
theorem c23o (o0 : Option Addr) {w : World} {R : Ending → World → Prop} (h : (t23o o0).sem Try.prog R ρ0 w) : Calls Try.prog 23 #[.pointer o0] w R :=
  calls_of mixed Try.func23 rfl rfl (e23o o0) h
def t12o (o0 : Option Addr) : T :=
  T.call 33 [Value.pointer o0] fun v1 =>
  T.asB v1 fun b2 =>
    T.ite b2 (T.ret (Value.slice none 0 0))
    (T.sm o0 fun n3 n4 =>
    T.ldM n3 n4 fun o5 =>
    T.call 43 [Value.map o5] fun v6 =>
    T.asC 69 v6 fun l7 =>
    T.req (List.length l7 = 1)
    (T.asP (List.headD l7 (Value.tuple (Array.mk []))) fun o8 =>
    T.call 42 [Value.func (Fn.func 69) (Array.mk []) (Array.mk [Value.pointer o8])] fun v9 =>
    T.asS v9 fun o10 n11 n12 => T.call 41 [Value.slice o10 n11 n12] fun v13 => T.asS v13 fun o14 n15 n16 => T.ret (Value.slice o14 n15 n16)))
theorem e12o (o0 : Option Addr) : treeOf Try.prog Try.f12 (codeOf Try.f12) .n [.v (.pointer o0)] = (t12o o0) := by kernel_rfl
theorem c12o (o0 : Option Addr) {w : World} {R : Ending → World → Prop} (h : (t12o o0).sem Try.prog R ρ0 w) : Calls Try.prog 12 #[.pointer o0] w R :=
  calls_of mixed Try.func12 rfl rfl (e12o o0) h
def t17o (o0 : Option Addr) : T :=
  T.new (Obj.cells (Array.mk [Value.slice none 0 0]) 33) fun n1 =>
  T.call 33 [Value.pointer o0] fun v2 =>
    T.asB v2 fun b3 =>
    T.ite (!b3)
    (T.call 35 [Value.pointer o0] fun v4 =>
    T.asS v4 fun o5 n6 n7 =>
    T.st n1 0 (Value.slice o5 n6 n7) (T.ret (Value.func (Fn.func 46) (Array.mk []) (Array.mk [Value.pointer (some (Addr.mk n1 0 none))]))))
    (T.ret (Value.func (Fn.func 46) (Array.mk []) (Array.mk [Value.pointer (some (Addr.mk n1 0 none))])))
theorem e17o (o0 : Option Addr) : treeOf Try.prog Try.f17 (codeOf Try.f17) .n [.v (.pointer o0)] = (t17o o0) := by kernel_rfl
theorem c17o (o0 : Option Addr) {w : World} {R : Ending → World → Prop} (h : (t17o o0).sem Try.prog R ρ0 w) : Calls Try.prog 17 #[.pointer o0] w R :=
  calls_of mixed Try.func17 rfl rfl (e17o o0) h
def t31o (o0 : Option Addr) : T :=
  T.call 33 [Value.pointer o0] fun v1 =>
  T.asB v1 fun b2 =>
    T.ite b2 (T.ret (Value.pointer none))
    (T.call 8 [] fun v3 =>
    T.asP v3 fun o4 =>
    T.sm o0 fun n5 n6 =>
    T.ldS n5 (n6 + 2) fun o7 n8 n9 =>
    T.loop 0 [Value.int IntKind.i64 0] fun l10 j11 =>
    T.asI IntKind.i64 (List.headD l10 (Value.tuple (Array.mk []))) fun i12 =>
    T.ite (decide (i12 < (↑n8 : Int)))
    (T.req (0 ≤ i12 ∧ i12 < (↑n8 : Int))
    (T.sm o7 fun n13 n14 =>
    T.ldI IntKind.i64 n13 (n14 + Int.toNat i12 * 2) fun i15 =>
    T.ldI IntKind.i64 n13 (n14 + Int.toNat i12 * 2 + 1) fun i16 =>
    T.new (Obj.cells (Array.mk [Value.int IntKind.i64 0, Value.int IntKind.i64 0]) 27) fun n17 =>
    T.st n17 0 (Value.int IntKind.i64 i15)
    (T.st n17 1 (Value.int IntKind.i64 i16)
    (T.drew
    (T.ldI IntKind.i64 n17 0 fun i18 =>
    T.ldI IntKind.i64 n17 1 fun i19 =>
    T.sm o0 fun n20 n21 =>
    T.ldM n20 (n21 + 1) fun o22 =>
    T.ldI IntKind.i64 n17 0 fun i23 =>
    T.ldI IntKind.i64 n17 1 fun i24 =>
    T.run
    (Instr.lookup 69 (Value.map o22) (Value.agg (Array.mk [Value.int IntKind.i64 i23, Value.int IntKind.i64 i24]))
    false)
    fun v25 =>
    T.asS v25 fun o26 n27 n28 =>
    T.chk [(Addr.mk n17 0 none, Value.int IntKind.i64 i18), (Addr.mk n17 1 none, Value.int IntKind.i64 i19)]
    (T.call 10
    [Value.pointer o4, Value.agg (Array.mk [Value.int IntKind.i64 i18, Value.int IntKind.i64 i19]),
    Value.slice o26 n27 n28]
    fun v29 =>
    T.asI IntKind.i64 v29 fun i30 =>
    T.chk []
    (T.next 0 [Value.int IntKind.i64 (IntKind.wrap IntKind.i64 (i12 + 1))]
    ([Value.pointer o0, Value.pointer o4, Value.slice o7 n8 n9, Value.int IntKind.i64 (↑n8 : Int)] =
    [Value.pointer o0, Value.pointer o4, Value.slice o7 n8 n9,
    Value.int IntKind.i64 (↑n8 : Int)] ∧ ([] : List Deferred) = []))))))))
    (T.ret (Value.pointer o4)))
theorem e31o (o0 : Option Addr) : treeOf Try.prog Try.f31 (codeOf Try.f31) (.s .n (.s .n (.s .n (.s (.s .n (.u (.l [(14, .int .i64)] [0, 3, 12, 13] (.s .n (.s .n (.s (.u (.s .n (.p [0, 1, 2, 3, 4, 5, 6, 7, 8]))) .n)))))) .n)))) [.v (.pointer o0)] = (t31o o0) := by kernel_rfl
theorem c31o (o0 : Option Addr) {w : World} {R : Ending → World → Prop} (h : (t31o o0).sem Try.prog R ρ0 w) : Calls Try.prog 31 #[.pointer o0] w R :=
  calls_of mixed Try.func31 rfl rfl (e31o o0) h
def t13o (o0 : Option Addr) (i1 : Int) (i2 : Int) : T :=
  T.new (Obj.cells (Array.mk [Value.int IntKind.i32 i1, Value.int IntKind.i64 i2]) 39) fun n3 =>
  T.call 33 [Value.pointer o0] fun v4 =>
    T.asB v4 fun b5 =>
    T.ite b5 (T.ret (Value.slice none 0 0))
    (T.drew
    (T.sm o0 fun n6 n7 =>
    T.ldM n6 n7 fun o8 =>
    T.ldI IntKind.i32 n3 0 fun i9 =>
    T.ldI IntKind.i64 n3 1 fun i10 =>
    T.run (Instr.lookup 68 (Value.map o8) (Value.agg (Array.mk [Value.int IntKind.i32 i9, Value.int IntKind.i64 i10])) false) fun v11 =>
    T.asS v11 fun o12 n13 n14 =>
    T.chk []
    (T.call 37 [Value.slice o12 n13 n14] fun v15 =>
    T.asS v15 fun o16 n17 n18 =>
    T.chk []
    (T.loop 0 [Value.bool true, Value.int IntKind.i64 0] fun l19 j20 =>
    T.asB (List.headD l19 (Value.tuple (Array.mk []))) fun b21 =>
    T.asI IntKind.i64 (List.headD (List.tail l19) (Value.tuple (Array.mk []))) fun i22 =>
    T.ite (decide (i22 < (↑n17 : Int)))
    (T.blk 1
    (fun l23 j24 =>
    T.asB (List.headD l23 (Value.tuple (Array.mk []))) fun b25 =>
    T.ite (i22 == 0)
    (T.req (0 ≤ i22 ∧ i22 < (↑n17 : Int))
    (T.sm o16 fun n26 n27 =>
    T.st n26 (n27 + Int.toNat i22 * 4 + 3) (Value.bool true)
    (T.next 0 [Value.bool b25, Value.int IntKind.i64 (IntKind.wrap IntKind.i64 (i22 + 1))]
    ([Value.slice o16 n17 n18, Value.int IntKind.i64 (↑n17 : Int)] =
    [Value.slice o16 n17 n18, Value.int IntKind.i64 (↑n17 : Int)] ∧ ([] : List Deferred) = []))))
    (T.req (0 ≤ i22 ∧ i22 < (↑n17 : Int))
    (T.sm o16 fun n28 n29 =>
    T.st n28 (n29 + Int.toNat i22 * 4 + 3) (Value.bool b25)
    (T.next 0 [Value.bool b25, Value.int IntKind.i64 (IntKind.wrap IntKind.i64 (i22 + 1))]
    ([Value.slice o16 n17 n18, Value.int IntKind.i64 (↑n17 : Int)] =
    [Value.slice o16 n17 n18, Value.int IntKind.i64 (↑n17 : Int)] ∧ ([] : List Deferred) = [])))))
    (T.ite b21
    (T.req (0 ≤ i22 ∧ i22 < (↑n17 : Int))
    (T.sm o16 fun n30 n31 =>
    T.ldB n30 (n31 + Int.toNat i22 * 4 + 2) fun b32 =>
    T.next 1 [Value.bool !b32]
    ([Value.slice o16 n17 n18, Value.int IntKind.i64 i22, Value.int IntKind.i64 (↑n17 : Int),
    Value.int IntKind.i64 i22] =
    [Value.slice o16 n17 n18, Value.int IntKind.i64 i22, Value.int IntKind.i64 (↑n17 : Int),
    Value.int IntKind.i64 i22] ∧ ([] : List Deferred) = [])))
    (T.next 1 [Value.bool false]
    ([Value.slice o16 n17 n18, Value.int IntKind.i64 i22, Value.int IntKind.i64 (↑n17 : Int),
    Value.int IntKind.i64 i22] =
    [Value.slice o16 n17 n18, Value.int IntKind.i64 i22, Value.int IntKind.i64 (↑n17 : Int),
    Value.int IntKind.i64 i22] ∧ ([] : List Deferred) = []))))
    (T.ret (Value.slice o16 n17 n18))))))
theorem e13o (o0 : Option Addr) (i1 : Int) (i2 : Int) : treeOf Try.prog Try.f13 (codeOf Try.f13) (.s .n (.s .n (.s (.p [0, 1, 2, 3, 4, 5, 6, 7]) (.s .n (.s (.s .n (.u (.l [(6, .bool), (19, .int .i64)] [5, 18] (.s .n (.s .n (.s (.u (.s .n (.c [(6, .bool)] [5, 7, 18, 19] .n .n))) .n)))))) .n))))) [.v (.pointer o0), .v (.agg #[.int .i32 i1, .int .i64 i2])] = (t13o o0 i1 i2) := by kernel_rfl
theorem c13o (o0 : Option Addr) (i1 : Int) (i2 : Int) {w : World} {R : Ending → World → Prop} (h : (t13o o0 i1 i2).sem Try.prog R ρ0 w) : Calls Try.prog 13 #[.pointer o0, .agg #[.int .i32 i1, .int .i64 i2]] w R :=
  calls_of mixed Try.func13 rfl rfl (e13o o0 i1 i2) h
def t30o (o0 : Option Addr) (i1 : Int) (i2 : Int) : T :=
  T.new (Obj.cells (Array.mk [Value.int IntKind.i64 i1, Value.int IntKind.i64 i2]) 27) fun n3 =>
  T.call 33 [Value.pointer o0] fun v4 =>
    T.asB v4 fun b5 =>
    T.ite b5 (T.ret (Value.slice none 0 0))
    (T.drew
    (T.sm o0 fun n6 n7 =>
    T.ldM n6 (n7 + 1) fun o8 =>
    T.ldI IntKind.i64 n3 0 fun i9 =>
    T.ldI IntKind.i64 n3 1 fun i10 =>
    T.run (Instr.lookup 69 (Value.map o8) (Value.agg (Array.mk [Value.int IntKind.i64 i9, Value.int IntKind.i64 i10])) false) fun v11 =>
    T.asS v11 fun o12 n13 n14 =>
    T.chk []
    (T.loop 0 [Value.slice none 0 0, Value.int IntKind.i64 0] fun l15 j16 =>
    T.asS (List.headD l15 (Value.tuple (Array.mk []))) fun o17 n18 n19 =>
    T.asI IntKind.i64 (List.headD (List.tail l15) (Value.tuple (Array.mk []))) fun i20 =>
    T.ite (decide (i20 < (↑n13 : Int)))
    (T.req (0 ≤ i20 ∧ i20 < (↑n13 : Int))
    (T.sm o12 fun n21 n22 =>
    T.ldI IntKind.i32 n21 (n22 + Int.toNat i20 * 3) fun i23 =>
    T.ldI IntKind.i64 n21 (n22 + Int.toNat i20 * 3 + 1) fun i24 =>
    T.ldB n21 (n22 + Int.toNat i20 * 3 + 2) fun b25 =>
    T.new (Obj.cells (Array.mk [Value.int IntKind.i32 0, Value.int IntKind.i64 0, Value.bool false]) 63) fun n26 =>
    T.st n26 0 (Value.int IntKind.i32 i23)
    (T.st n26 1 (Value.int IntKind.i64 i24)
    (T.st n26 2 (Value.bool b25)
    (T.ldI IntKind.i64 n3 0 fun i27 =>
    T.ldI IntKind.i64 n3 1 fun i28 =>
    T.ldI IntKind.i32 n26 0 fun i29 =>
    T.ldI IntKind.i64 n26 1 fun i30 =>
    T.call 49
    [Value.pointer o0, Value.agg (Array.mk [Value.int IntKind.i64 i27, Value.int IntKind.i64 i28]),
    Value.agg (Array.mk [Value.int IntKind.i32 i29, Value.int IntKind.i64 i30])]
    fun v31 =>
    T.asB v31 fun b32 =>
    T.ite (!b32)
    (T.ldI IntKind.i32 n26 0 fun i33 =>
    T.ldI IntKind.i64 n26 1 fun i34 =>
    T.new (Obj.cells (Array.mk [Value.int IntKind.i32 i33, Value.int IntKind.i64 i34]) 39)
    fun n35 =>
    T.run
    (biV Builtin.append (Array.mk [36, 36]) 36
    (Array.mk [Value.slice o17 n18 n19, Value.slice (some (Addr.mk n35 0 none)) 1 1]))
    fun v36 =>
    T.asS v36 fun o37 n38 n39 =>
    T.next 0
    [Value.slice o37 n38 n39,
    Value.int IntKind.i64 (IntKind.wrap IntKind.i64 (i20 + 1))]
    ([Value.pointer o0, Value.pointer (some (Addr.mk n3 0 none)),
    Value.slice o12 n13 n14, Value.int IntKind.i64 (↑n13 : Int)] =
    [Value.pointer o0, Value.pointer (some (Addr.mk n3 0 none)),
    Value.slice o12 n13 n14, Value.int IntKind.i64 (↑n13 : Int)] ∧ ([] : List Deferred) = []))
    (T.next 0 [Value.slice o17 n18 n19, Value.int IntKind.i64 (IntKind.wrap IntKind.i64 (i20 + 1))]
    ([Value.pointer o0, Value.pointer (some (Addr.mk n3 0 none)), Value.slice o12 n13 n14,
    Value.int IntKind.i64 (↑n13 : Int)] =
    [Value.pointer o0, Value.pointer (some (Addr.mk n3 0 none)), Value.slice o12 n13 n14,
    Value.int IntKind.i64 (↑n13 : Int)] ∧ ([] : List Deferred) = [])))))))
    (T.ret (Value.slice o17 n18 n19)))))
theorem e30o (o0 : Option Addr) (i1 : Int) (i2 : Int) : treeOf Try.prog Try.f30 (codeOf Try.f30) (.s .n (.s .n (.s .n (.s (.s (.p [0, 1, 2, 3, 4, 7, 5, 6]) (.u (.l [(5, .slice), (17, .int .i64)] [0, 3, 15, 16] .n))) .n)))) [.v (.pointer o0), .v (.agg #[.int .i64 i1, .int .i64 i2])] = (t30o o0 i1 i2) := by kernel_rfl
theorem c30o (o0 : Option Addr) (i1 : Int) (i2 : Int) {w : World} {R : Ending → World → Prop} (h : (t30o o0 i1 i2).sem Try.prog R ρ0 w) : Calls Try.prog 30 #[.pointer o0, .agg #[.int .i64 i1, .int .i64 i2]] w R :=
  calls_of mixed Try.func30 rfl rfl (e30o o0 i1 i2) h
def t18o (o0 : Option Addr) (i1 : Int) (i2 : Int) : T :=
  T.new (Obj.cells (Array.mk [Value.pointer o0]) 23) fun n3 =>
  T.new (Obj.cells (Array.mk [Value.int IntKind.i64 i1, Value.int IntKind.i64 i2]) 27) fun n4 =>
    T.ldP n3 0 fun o5 =>
    T.call 33 [Value.pointer o5] fun v6 =>
    T.asB v6 fun b7 =>
    T.ite b7 (T.ret (Value.bool false))
    (T.drew
    (T.ldP n3 0 fun o8 =>
    T.sm o8 fun n9 n10 =>
    T.ldM n9 (n10 + 1) fun o11 =>
    T.ldI IntKind.i64 n4 0 fun i12 =>
    T.ldI IntKind.i64 n4 1 fun i13 =>
    T.run (Instr.lookup 69 (Value.map o11) (Value.agg (Array.mk [Value.int IntKind.i64 i12, Value.int IntKind.i64 i13])) true) fun v14 =>
    T.asU v14 fun l15 =>
    T.req (List.length l15 = 2)
    (T.asS (List.headD l15 (Value.tuple (Array.mk []))) fun o16 n17 n18 =>
    T.asB (List.headD (List.tail l15) (Value.tuple (Array.mk []))) fun b19 =>
    T.chk [(Addr.mk n3 0 none, Value.pointer o8)]
    (T.ite b19
    (T.call 47
    [Value.slice o16 n17 n18,
    Value.func (Fn.func 48) (Array.mk [])
    (Array.mk [Value.pointer (some (Addr.mk n3 0 none)), Value.pointer (some (Addr.mk n4 0 none))])]
    fun v20 => T.asB v20 fun b21 => T.ret (Value.bool !b21))
    (T.ret (Value.bool false))))))
theorem e18o (o0 : Option Addr) (i1 : Int) (i2 : Int) : treeOf Try.prog Try.f18 (codeOf Try.f18) (.s .n (.s .n (.s (.p [0, 1, 2, 3, 4, 5, 6, 7, 8, 9, 10]) .n))) [.v (.pointer o0), .v (.agg #[.int .i64 i1, .int .i64 i2])] = (t18o o0 i1 i2) := by kernel_rfl
theorem c18o (o0 : Option Addr) (i1 : Int) (i2 : Int) {w : World} {R : Ending → World → Prop} (h : (t18o o0 i1 i2).sem Try.prog R ρ0 w) : Calls Try.prog 18 #[.pointer o0, .agg #[.int .i64 i1, .int .i64 i2]] w R :=
  calls_of mixed Try.func18 rfl rfl (e18o o0 i1 i2) h
def t11o (o0 : Option Addr) (i1 : Int) (i2 : Int) : T :=
  T.new (Obj.cells (Array.mk [Value.int IntKind.i64 i1, Value.int IntKind.i64 i2]) 27) fun n3 =>
  T.call 33 [Value.pointer o0] fun v4 =>
    T.asB v4 fun b5 =>
    T.ite b5 (T.ret (Value.tuple (Array.mk [Value.slice none 0 0, Value.int IntKind.i64 2])))
    (T.drew
    (T.sm o0 fun n6 n7 =>
    T.ldM n6 (n7 + 1) fun o8 =>
    T.ldI IntKind.i64 n3 0 fun i9 =>
    T.ldI IntKind.i64 n3 1 fun i10 =>
    T.run (Instr.lookup 69 (Value.map o8) (Value.agg (Array.mk [Value.int IntKind.i64 i9, Value.int IntKind.i64 i10])) true) fun v11 =>
    T.asU v11 fun l12 =>
    T.req (List.length l12 = 2)
    (T.asS (List.headD l12 (Value.tuple (Array.mk []))) fun o13 n14 n15 =>
    T.asB (List.headD (List.tail l12) (Value.tuple (Array.mk []))) fun b16 =>
    T.chk []
    (T.ite (!b16) (T.ret (Value.tuple (Array.mk [Value.slice none 0 0, Value.int IntKind.i64 4])))
    (T.call 35 [Value.pointer o0] fun v17 =>
    T.asS v17 fun o18 n19 n20 =>
    T.new (Obj.cells (Array.mk [Value.slice none 0 0]) 33) fun n21 =>
    T.st n21 0 (Value.slice o18 n19 n20)
    (T.loop 0 [Value.int IntKind.i64 0] fun l22 j23 =>
    T.asI IntKind.i64 (List.headD l22 (Value.tuple (Array.mk []))) fun i24 =>
    T.ite (decide (i24 < (↑n14 : Int)))
    (T.req (0 ≤ i24 ∧ i24 < (↑n14 : Int))
    (T.sm o13 fun n25 n26 =>
    T.ldI IntKind.i32 n25 (n26 + Int.toNat i24 * 3) fun i27 =>
    T.ldI IntKind.i64 n25 (n26 + Int.toNat i24 * 3 + 1) fun i28 =>
    T.ldB n25 (n26 + Int.toNat i24 * 3 + 2) fun b29 =>
    T.new (Obj.cells (Array.mk [Value.int IntKind.i32 0, Value.int IntKind.i64 0, Value.bool false]) 63)
    fun n30 =>
    T.st n30 0 (Value.int IntKind.i32 i27)
    (T.st n30 1 (Value.int IntKind.i64 i28)
    (T.st n30 2 (Value.bool b29)
    (T.drew
    (T.sm o0 fun n31 n32 =>
    T.ldM n31 n32 fun o33 =>
    T.ldI IntKind.i32 n30 0 fun i34 =>
    T.ldI IntKind.i64 n30 1 fun i35 =>
    T.run
    (Instr.lookup 68 (Value.map o33)
    (Value.agg (Array.mk [Value.int IntKind.i32 i34, Value.int IntKind.i64 i35]))
    false)
    fun v36 =>
    T.asS v36 fun o37 n38 n39 =>
    T.chk []
    (T.call 37 [Value.slice o37 n38 n39] fun v40 =>
    T.asS v40 fun o41 n42 n43 =>
    T.chk []
    (T.call 36
    [Value.slice o41 n42 n43,
    Value.func (Fn.func 38) (Array.mk [])
    (Array.mk [Value.pointer (some (Addr.mk n3 0 none))])]
    fun v44 =>
    T.asS v44 fun o45 n46 n47 =>
    T.chk []
    (T.ite ((↑n46 : Int) == 0)
    (T.drew
    (T.sm o0 fun n48 n49 =>
    T.ldM n48 n49 fun o50 =>
    T.ldI IntKind.i32 n30 0 fun i51 =>
    T.ldI IntKind.i64 n30 1 fun i52 =>
    T.run
    (biV Builtin.delete (Array.mk [68, 39]) 0
    (Array.mk
    [Value.map o50,
    Value.agg
    (Array.mk
    [Value.int IntKind.i32 i51,
    Value.int IntKind.i64 i52])]))
    fun v53 =>
    T.chk []
    (T.next 0
    [Value.int IntKind.i64
    (IntKind.wrap IntKind.i64 (i24 + 1))]
    ([Value.pointer o0,
    Value.pointer (some (Addr.mk n3 0 none)),
    Value.slice none 0 0,
    Value.int IntKind.i64 0,
    Value.pointer (some (Addr.mk n21 0 none)),
    Value.slice o13 n14 n15,
    Value.int IntKind.i64 (↑n14 : Int)] =
    [Value.pointer o0,
    Value.pointer (some (Addr.mk n3 0 none)),
    Value.slice none 0 0,
    Value.int IntKind.i64 0,
    Value.pointer (some (Addr.mk n21 0 none)),
    Value.slice o13 n14 n15,
    Value.int IntKind.i64 (↑n14 : Int)] ∧ ([] : List Deferred) = []))))
    (T.drew
    (T.sm o0 fun n54 n55 =>
    T.ldM n54 n55 fun o56 =>
    T.ldI IntKind.i32 n30 0 fun i57 =>
    T.ldI IntKind.i64 n30 1 fun i58 =>
    T.run
    (muV 68 (Value.map o56)
    (Value.agg
    (Array.mk
    [Value.int IntKind.i32 i57,
    Value.int IntKind.i64 i58]))
    (Value.slice o45 n46 n47))
    fun v59 =>
    T.chk []
    (T.next 0
    [Value.int IntKind.i64
    (IntKind.wrap IntKind.i64 (i24 + 1))]
    ([Value.pointer o0,
    Value.pointer (some (Addr.mk n3 0 none)),
    Value.slice none 0 0,
    Value.int IntKind.i64 0,
    Value.pointer (some (Addr.mk n21 0 none)),
    Value.slice o13 n14 n15,
    Value.int IntKind.i64 (↑n14 : Int)] =
    [Value.pointer o0,
    Value.pointer (some (Addr.mk n3 0 none)),
    Value.slice none 0 0,
    Value.int IntKind.i64 0,
    Value.pointer (some (Addr.mk n21 0 none)),
    Value.slice o13 n14 n15,
    Value.int IntKind.i64 (↑n14 : Int)] ∧ ([] : List Deferred) = [])))))))))))))
    (T.drew
    (T.sm o0 fun n60 n61 =>
    T.ldM n60 (n61 + 1) fun o62 =>
    T.ldI IntKind.i64 n3 0 fun i63 =>
    T.ldI IntKind.i64 n3 1 fun i64 =>
    T.run
    (biV Builtin.delete (Array.mk [69, 27]) 0
    (Array.mk
    [Value.map o62, Value.agg (Array.mk [Value.int IntKind.i64 i63, Value.int IntKind.i64 i64])]))
    fun v65 =>
    T.chk []
    (T.sm o0 fun n66 n67 =>
    T.ldS n66 (n67 + 2) fun o68 n69 n70 =>
    T.call 39 [Value.slice o68 n69 n70] fun v71 =>
    T.asS v71 fun o72 n73 n74 =>
    T.call 20
    [Value.slice o72 n73 n74,
    Value.func (Fn.func 40) (Array.mk [])
    (Array.mk [Value.pointer (some (Addr.mk n3 0 none))])]
    fun v75 =>
    T.asS v75 fun o76 n77 n78 =>
    T.sm o0 fun n79 n80 =>
    T.st n79 (n80 + 2) (Value.slice o76 n77 n78)
    (T.new (Obj.cells (Array.mk [Value.slice none 0 0]) 33) fun n81 =>
    T.call 17 [Value.pointer o0] fun v82 =>
    T.asC 46 v82 fun l83 =>
    T.req (List.length l83 = 1)
    (T.asP (List.headD l83 (Value.tuple (Array.mk []))) fun o84 =>
    T.rf none 0 46 [Value.pointer o84]
    (fun n85 l86 =>
    T.req (List.length l86 = 1)
    (T.asA (List.headD l86 (Value.tuple (Array.mk []))) fun l87 =>
    T.req (List.length l87 = 2)
    (T.asI IntKind.i64 (List.headD l87 (Value.tuple (Array.mk [])))
    fun i88 =>
    T.asI IntKind.i64
    (List.headD (List.tail l87) (Value.tuple (Array.mk [])))
    fun i89 =>
    T.new
    (Obj.cells
    (Array.mk
    [Value.int IntKind.i64 0, Value.int IntKind.i64 0])
    27)
    fun n90 =>
    T.st n90 0 (Value.int IntKind.i64 i88)
    (T.st n90 1 (Value.int IntKind.i64 i89)
    (T.beg n85
    (T.ldS n21 0 fun o91 n92 n93 =>
    T.ldI IntKind.i64 n90 0 fun i94 =>
    T.ldI IntKind.i64 n90 1 fun i95 =>
    T.call 19
    [Value.slice o91 n92 n93,
    Value.agg
    (Array.mk
    [Value.int IntKind.i64 i94,
    Value.int IntKind.i64 i95])]
    fun v96 =>
    T.asB v96 fun b97 =>
    T.ite (!b97)
    (T.ldS n81 0 fun o98 n99 n100 =>
    T.ldI IntKind.i64 n90 0 fun i101 =>
    T.ldI IntKind.i64 n90 1 fun i102 =>
    T.new
    (Obj.cells
    (Array.mk
    [Value.int IntKind.i64 i101,
    Value.int IntKind.i64
    i102])
    27)
    fun n103 =>
    T.run
    (biV Builtin.append
    (Array.mk [33, 33]) 33
    (Array.mk
    [Value.slice o98 n99 n100,
    Value.slice
    (some
    (Addr.mk n103 0
    none))
    1 1]))
    fun v104 =>
    T.asS v104
    fun o105 n106 n107 =>
    T.st n81 0
    (Value.slice o105 n106
    n107)
    (T.run
    (Instr.endRound n85
    none)
    fun v108 =>
    T.next 0 [v108] True))
    (T.run (Instr.endRound n85 none)
    fun v109 =>
    T.next 0 [v109] True)))))))
    (fun n110 =>
    T.ldS n81 0 fun o111 n112 n113 =>
    T.col n110
    (T.ret
    (Value.tuple
    (Array.mk
    [Value.slice o111 n112 n113, Value.int IntKind.i64 0]))))
    (fun n114 =>
    T.col n114
    (T.ret
    (Value.tuple
    (Array.mk [Value.slice none 0 0, Value.int IntKind.i64 0]))))
    [])))))))))))
theorem e11o (o0 : Option Addr) (i1 : Int) (i2 : Int) : treeOf Try.prog Try.f11 (codeOf Try.f11) (.s .n (.s .n (.s (.p [0, 1, 2, 3, 4, 5, 6, 7, 8, 9, 10]) (.s .n (.s .n (.s (.s .n (.u (.l [(31, .int .i64)] [0, 3, 4, 5, 8, 29, 30] (.s .n (.s .n (.s (.u (.s .n (.s (.p [0, 1, 2, 3, 4, 5, 8, 6, 7, 9, 10]) (.s .n (.s (.p [0, 1, 2, 3, 4, 5, 6]) (.p [0, 1, 2, 3, 4, 5, 6, 7])))))) .n)))))) (.s (.p [0, 1, 2, 3, 4, 5]) (.s .n (.s .n (.s (.s .n (.u (.f [.agg [.int .i64, .int .i64]] .n .n))) .n)))))))))) [.v (.pointer o0), .v (.agg #[.int .i64 i1, .int .i64 i2])] = (t11o o0 i1 i2) := by kernel_rfl
theorem c11o (o0 : Option Addr) (i1 : Int) (i2 : Int) {w : World} {R : Ending → World → Prop} (h : (t11o o0 i1 i2).sem Try.prog R ρ0 w) : Calls Try.prog 11 #[.pointer o0, .agg #[.int .i64 i1, .int .i64 i2]] w R :=
  calls_of mixed Try.func11 rfl rfl (e11o o0 i1 i2) h
def t10o (o0 : Option Addr) (i1 : Int) (i2 : Int) (o3 : Option Addr) (n4 n5 : Nat) : T :=
  T.new (Obj.cells (Array.mk [Value.int IntKind.i64 i1, Value.int IntKind.i64 i2]) 27) fun n6 =>
  T.call 33 [Value.pointer o0] fun v7 =>
    T.asB v7 fun b8 =>
    T.ite b8 (T.ret (Value.int IntKind.i64 2))
    (T.loop 0 [Value.int IntKind.i64 1] fun l9 j10 =>
    T.asI IntKind.i64 (List.headD l9 (Value.tuple (Array.mk []))) fun i11 =>
    T.ite (decide (i11 < (↑n4 : Int)))
    (T.drew
    (T.req (0 ≤ IntKind.wrap IntKind.i64 (i11 - 1) ∧ IntKind.wrap IntKind.i64 (i11 - 1) < (↑n4 : Int))
    (T.sm o3 fun n12 n13 =>
    T.ldI IntKind.i32 n12 (n13 + Int.toNat (IntKind.wrap IntKind.i64 (i11 - 1)) * 3) fun i14 =>
    T.ldI IntKind.i64 n12 (n13 + Int.toNat (IntKind.wrap IntKind.i64 (i11 - 1)) * 3 + 1) fun i15 =>
    T.req (0 ≤ i11 ∧ i11 < (↑n4 : Int))
    (T.sm o3 fun n16 n17 =>
    T.ldI IntKind.i32 n16 (n17 + Int.toNat i11 * 3) fun i18 =>
    T.ldI IntKind.i64 n16 (n17 + Int.toNat i11 * 3 + 1) fun i19 =>
    T.call 34
    [Value.agg (Array.mk [Value.int IntKind.i32 i14, Value.int IntKind.i64 i15]),
    Value.agg (Array.mk [Value.int IntKind.i32 i18, Value.int IntKind.i64 i19])]
    fun v20 =>
    T.asI IntKind.i64 v20 fun i21 =>
    T.chk []
    (T.ite (decide (i21 ≥ 0)) (T.ret (Value.int IntKind.i64 1))
    (T.next 0 [Value.int IntKind.i64 (IntKind.wrap IntKind.i64 (i11 + 1))]
    ([Value.pointer o0, Value.slice o3 n4 n5, Value.pointer (some (Addr.mk n6 0 none))] =
    [Value.pointer o0, Value.slice o3 n4 n5, Value.pointer (some (Addr.mk n6 0 none))] ∧ ([] : List Deferred) = [])))))))
    (T.drew
    (T.sm o0 fun n22 n23 =>
    T.ldM n22 (n23 + 1) fun o24 =>
    T.ldI IntKind.i64 n6 0 fun i25 =>
    T.ldI IntKind.i64 n6 1 fun i26 =>
    T.run (Instr.lookup 69 (Value.map o24) (Value.agg (Array.mk [Value.int IntKind.i64 i25, Value.int IntKind.i64 i26])) true) fun v27 =>
    T.asU v27 fun l28 =>
    T.req (List.length l28 = 2)
    (T.asS (List.headD l28 (Value.tuple (Array.mk []))) fun o29 n30 n31 =>
    T.asB (List.headD (List.tail l28) (Value.tuple (Array.mk []))) fun b32 =>
    T.chk []
    (T.ite b32 (T.ret (Value.int IntKind.i64 5))
    (T.drew
    (T.sm o0 fun n33 n34 =>
    T.ldM n33 (n34 + 1) fun o35 =>
    T.ldI IntKind.i64 n6 0 fun i36 =>
    T.ldI IntKind.i64 n6 1 fun i37 =>
    T.call 25 [Value.slice o3 n4 n5] fun v38 =>
    T.asS v38 fun o39 n40 n41 =>
    T.chk
    [(Addr.mk n6 0 none, Value.int IntKind.i64 i36), (Addr.mk n6 1 none, Value.int IntKind.i64 i37),
    (Addr.mk n33 (n34 + 1) none, Value.map o35)]
    (T.run
    (muV 69 (Value.map o35) (Value.agg (Array.mk [Value.int IntKind.i64 i36, Value.int IntKind.i64 i37]))
    (Value.slice o39 n40 n41))
    fun v42 =>
    T.chk []
    (T.drew
    (T.sm o0 fun n43 n44 =>
    T.ldS n43 (n44 + 2) fun o45 n46 n47 =>
    T.ldI IntKind.i64 n6 0 fun i48 =>
    T.ldI IntKind.i64 n6 1 fun i49 =>
    T.new (Obj.cells (Array.mk [Value.int IntKind.i64 i48, Value.int IntKind.i64 i49]) 27)
    fun n50 =>
    T.chk [(Addr.mk n43 (n44 + 2) none, Value.slice o45 n46 n47)]
    (T.run
    (biV Builtin.append (Array.mk [33, 33]) 33
    (Array.mk [Value.slice o45 n46 n47, Value.slice (some (Addr.mk n50 0 none)) 1 1]))
    fun v51 =>
    T.asS v51 fun o52 n53 n54 =>
    T.chk []
    (T.sm o0 fun n55 n56 =>
    T.st n55 (n56 + 2) (Value.slice o52 n53 n54)
    (T.chk []
    (T.loop 0 [Value.int IntKind.i64 0] fun l57 j58 =>
    T.asI IntKind.i64 (List.headD l57 (Value.tuple (Array.mk []))) fun i59 =>
    T.ite (decide (i59 < (↑n4 : Int)))
    (T.req (0 ≤ i59 ∧ i59 < (↑n4 : Int))
    (T.sm o3 fun n60 n61 =>
    T.ldI IntKind.i32 n60 (n61 + Int.toNat i59 * 3) fun i62 =>
    T.ldI IntKind.i64 n60 (n61 + Int.toNat i59 * 3 + 1) fun i63 =>
    T.ldB n60 (n61 + Int.toNat i59 * 3 + 2) fun b64 =>
    T.new
    (Obj.cells
    (Array.mk
    [Value.int IntKind.i32 0, Value.int IntKind.i64 0,
    Value.bool false])
    63)
    fun n65 =>
    T.st n65 0 (Value.int IntKind.i32 i62)
    (T.st n65 1 (Value.int IntKind.i64 i63)
    (T.st n65 2 (Value.bool b64)
    (T.drew
    (T.sm o0 fun n66 n67 =>
    T.ldM n66 n67 fun o68 =>
    T.ldI IntKind.i32 n65 0 fun i69 =>
    T.ldI IntKind.i64 n65 1 fun i70 =>
    T.ldI IntKind.i64 n6 0 fun i71 =>
    T.ldI IntKind.i64 n6 1 fun i72 =>
    T.ldB n65 2 fun b73 =>
    T.new
    (Obj.cells
    (Array.mk
    [Value.int IntKind.i64 i71,
    Value.int IntKind.i64 i72,
    Value.bool b73,
    Value.bool false])
    43)
    fun n74 =>
    T.chk
    [(Addr.mk n65 2 none,
    Value.bool b73),
    (Addr.mk n6 0 none,
    Value.int IntKind.i64 i71),
    (Addr.mk n6 1 none,
    Value.int IntKind.i64 i72),
    (Addr.mk n65 0 none,
    Value.int IntKind.i32 i69),
    (Addr.mk n65 1 none,
    Value.int IntKind.i64 i70),
    (Addr.mk n66 n67 none,
    Value.map o68)]
    (T.run
    (Instr.mapEntry 68
    (Value.map o68)
    (Value.agg
    (Array.mk
    [Value.int IntKind.i32
    i69,
    Value.int IntKind.i64
    i70])))
    fun v75 =>
    T.asU v75 fun l76 =>
    T.req (List.length l76 = 2)
    (T.asS
    (List.getD l76 0
    (Value.tuple
    (Array.mk [])))
    fun o77 n78 n79 =>
    T.asI IntKind.i64
    (List.getD l76 1
    (Value.tuple
    (Array.mk [])))
    fun i80 =>
    T.chk []
    (T.run
    (biV
    Builtin.append
    (Array.mk
    [40, 40])
    40
    (Array.mk
    [Value.slice
    o77 n78
    n79,
    Value.slice
    (some
    (Addr.mk
    n74 0
    none))
    1 1]))
    fun v81 =>
    T.asS v81
    fun o82 n83
    n84 =>
    T.chk []
    (T.run
    (esV 68
    (Value.map
    o68)
    (Value.int
    IntKind.i64
    i80)
    (Value.slice
    o82 n83
    n84))
    fun v85 =>
    T.chk []
    (T.next 0
    [Value.int
    IntKind.i64
    (IntKind.wrap
    IntKind.i64
    (i59 +
    1))]
    ([Value.pointer
    o0,
    Value.pointer
    (some
    (Addr.mk
    n6
    0
    none)),
    Value.slice
    o3
    n4
    n5,
    Value.int
    IntKind.i64
    (↑n4 :
    Int)] =
    [Value.pointer
    o0,
    Value.pointer
    (some
    (Addr.mk
    n6
    0
    none)),
    Value.slice
    o3
    n4
    n5,
    Value.int
    IntKind.i64
    (↑n4 :
    Int)] ∧ ([] : List Deferred) = []))))))))))))
    (T.ret (Value.int IntKind.i64 0))))))))))))))))
theorem e10o (o0 : Option Addr) (i1 : Int) (i2 : Int) (o3 : Option Addr) (n4 n5 : Nat) : treeOf Try.prog Try.f10 (codeOf Try.f10) (.s .n (.s .n (.s (.s .n (.u (.l [(7, .int .i64)] [0, 2, 4] (.s .n (.s (.u (.s (.p [0, 1, 2, 3, 4, 5, 6, 7, 8, 9, 10, 11, 12]) .n)) .n))))) (.s (.s (.p [0, 1, 2, 3, 4, 5, 6, 7, 8, 9, 10]) .n) (.s (.p [0, 1, 2, 3, 4, 5, 6, 7]) (.s (.p [0, 1, 2, 3, 4, 5, 6, 7, 8, 9, 10]) (.s (.s .n (.u (.l [(62, .int .i64)] [0, 4, 60, 61] (.s .n (.s .n (.s (.u (.s .n (.p [0, 1, 2, 3, 4, 5, 6, 7, 8, 9, 10, 11, 12, 14, 13, 15]))) .n)))))) .n))))))) [.v (.pointer o0), .v (.agg #[.int .i64 i1, .int .i64 i2]), .v (.slice o3 n4 n5)] = (t10o o0 i1 i2 o3 n4 n5) := by kernel_rfl
theorem c10o (o0 : Option Addr) (i1 : Int) (i2 : Int) (o3 : Option Addr) (n4 n5 : Nat) {w : World} {R : Ending → World → Prop} (h : (t10o o0 i1 i2 o3 n4 n5).sem Try.prog R ρ0 w) : Calls Try.prog 10 #[.pointer o0, .agg #[.int .i64 i1, .int .i64 i2], .slice o3 n4 n5] w R :=
  calls_of mixed Try.func10 rfl rfl (e10o o0 i1 i2 o3 n4 n5) h
end Go.Proofs.Ytdepohepogocgaa
