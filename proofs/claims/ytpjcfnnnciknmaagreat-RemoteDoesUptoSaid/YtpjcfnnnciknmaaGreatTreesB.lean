/- The functions' trees, printed by a program (wip/tools/Emit.lean) and checked by the kernel against the model's own code. -/
import Derived.Test.YtpjcfnnnciknmaaGreatTreesA
import Derived.Test.YtpjcfnnnciknmaaGreatProg
namespace Go.Proofs.YtpjcfnnnciknmaaGreat
open Go hiding Expr
open Go.Proofs.YtpjcfnnnciknmaaGreat.Tr
set_option linter.unusedVariables false
set_option maxRecDepth 100000
def t14 (n0 n1 : Nat) (i2 : Int) (i3 : Int) : T :=
  T.new (Obj.cells (Array.mk [Value.int IntKind.i64 i2, Value.int IntKind.i64 i3]) 32) fun n4 =>
  T.call 27 [Value.pointer (some (Addr.mk n0 n1 none))] fun v5 =>
    T.asB v5 fun b6 =>
    T.ite b6 (T.ret (Value.int IntKind.i64 2))
    (T.drew
    (T.ldI IntKind.i64 n4 0 fun i7 =>
    T.ldI IntKind.i64 n4 1 fun i8 =>
    T.call 40 [Value.pointer (some (Addr.mk n0 n1 none))] fun v9 =>
    T.asS v9 fun o10 n11 n12 =>
    T.chk [(Addr.mk n4 0 none, Value.int IntKind.i64 i7), (Addr.mk n4 1 none, Value.int IntKind.i64 i8)]
    (T.call 39 [Value.slice o10 n11 n12, Value.agg (Array.mk [Value.int IntKind.i64 i7, Value.int IntKind.i64 i8])] fun v13 =>
    T.asB v13 fun b14 =>
    T.chk []
    (T.ite (!b14) (T.ret (Value.int IntKind.i64 4))
    (T.drew
    (T.ldM n0 (n1 + 1) fun o15 =>
    T.ldI IntKind.i64 n4 0 fun i16 =>
    T.ldI IntKind.i64 n4 1 fun i17 =>
    T.run
    (biV Builtin.delete (Array.mk [41, 32]) 0
    (Array.mk [Value.map o15, Value.agg (Array.mk [Value.int IntKind.i64 i16, Value.int IntKind.i64 i17])]))
    fun v18 =>
    T.chk []
    (T.ldM n0 (n1 + 2) fun o19 =>
    T.call 41 [Value.map o19, Value.func (Fn.func 42) (Array.mk []) (Array.mk [Value.pointer (some (Addr.mk n4 0 none))])]
    fun v20 => T.ret (Value.int IntKind.i64 0))))))))
theorem e14 (n0 n1 : Nat) (i2 : Int) (i3 : Int) : treeOf Tryz.prog Tryz.f14 (codeOf Tryz.f14) (.s .n (.s .n (.s (.s (.p [0, 2, 1, 3, 4]) .n) (.s (.p [0, 1, 2, 3, 4, 5]) .n)))) [.p n0 n1, .v (.agg #[.int .i64 i2, .int .i64 i3])] = (t14 n0 n1 i2 i3) := by kernel_rfl
theorem c14 (n0 n1 : Nat) (i2 : Int) (i3 : Int) {w : World} {R : Ending → World → Prop} (h : (t14 n0 n1 i2 i3).sem Tryz.prog R ρ0 w) : Calls Tryz.prog 14 #[.pointer (some ⟨n0, n1, none⟩), .agg #[.int .i64 i2, .int .i64 i3]] w R :=
  calls_of mixed Tryz.func14 rfl rfl (e14 n0 n1 i2 i3) h
def t26 (n0 n1 : Nat) : T :=
  T.call 27 [Value.pointer (some (Addr.mk n0 n1 none))] fun v2 =>
  T.asB v2 fun b3 =>
    T.ite b3 (T.ret (Value.int IntKind.i64 0))
    (T.call 40 [Value.pointer (some (Addr.mk n0 n1 none))] fun v4 => T.asS v4 fun o5 n6 n7 => T.ret (Value.int IntKind.i64 (↑n6 : Int)))
theorem e26 (n0 n1 : Nat) : treeOf Tryz.prog Tryz.f26 (codeOf Tryz.f26) .n [.p n0 n1] = (t26 n0 n1) := by kernel_rfl
theorem c26 (n0 n1 : Nat) {w : World} {R : Ending → World → Prop} (h : (t26 n0 n1).sem Tryz.prog R ρ0 w) : Calls Tryz.prog 26 #[.pointer (some ⟨n0, n1, none⟩)] w R :=
  calls_of mixed Tryz.func26 rfl rfl (e26 n0 n1) h
def t40 (n0 n1 : Nat) : T :=
  T.ldM n0 (n1 + 1) fun o2 =>
  T.call 56 [Value.map o2] fun v3 =>
    T.asC 81 v3 fun l4 =>
    T.req (List.length l4 = 1)
    (T.asP (List.headD l4 (Value.tuple (Array.mk []))) fun o5 =>
    T.call 55 [Value.func (Fn.func 81) (Array.mk []) (Array.mk [Value.pointer o5])] fun v6 =>
    T.asS v6 fun o7 n8 n9 =>
    T.ldM n0 (n1 + 2) fun o10 =>
    T.run (Instr.range 42 (Value.map o10)) fun v11 =>
    T.asP v11 fun o12 =>
    T.sm o12 fun n13 n14 =>
    T.req (n14 = 0)
    (T.loop 0 [Value.slice o7 n8 n9] fun l15 j16 =>
    T.asS (List.headD l15 (Value.tuple (Array.mk []))) fun o17 n18 n19 =>
    T.run (Instr.next (Value.pointer (some (Addr.mk n13 0 none))) false 0) fun v20 =>
    T.asU v20 fun l21 =>
    T.ite (decide (List.length l21 = 1))
    (T.req (l21 = [Value.bool false])
    (T.ite false
    (T.run (Instr.entry (Value.pointer (some (Addr.mk n13 0 none)))) fun v22 =>
    T.asU v22 fun l23 =>
    T.req (List.length l23 = 2)
    (T.asA (List.getD l23 0 (Value.tuple (Array.mk []))) fun l24 =>
    T.req (List.length l24 = 3)
    (T.asI IntKind.i64 (List.headD l24 (Value.tuple (Array.mk []))) fun i25 =>
    T.asI IntKind.i64 (List.headD (List.tail l24) (Value.tuple (Array.mk []))) fun i26 =>
    T.asI IntKind.i64 (List.headD (List.tail (List.tail l24)) (Value.tuple (Array.mk []))) fun i27 =>
    T.asS (List.getD l23 1 (Value.tuple (Array.mk []))) fun o28 n29 n30 =>
    T.new
    (Obj.cells (Array.mk [Value.int IntKind.i64 0, Value.int IntKind.i64 0, Value.int IntKind.i64 0]) 72)
    fun n31 =>
    T.st n31 0 (Value.int IntKind.i64 i25)
    (T.st n31 1 (Value.int IntKind.i64 i26)
    (T.st n31 2 (Value.int IntKind.i64 i27)
    (T.ldI IntKind.i64 n31 0 fun i32 =>
    T.ldI IntKind.i64 n31 1 fun i33 =>
    T.new (Obj.cells (Array.mk [Value.int IntKind.i64 i32, Value.int IntKind.i64 i33]) 32)
    fun n34 =>
    T.run
    (biV Builtin.append (Array.mk [89, 89]) 89
    (Array.mk [Value.slice o17 n18 n19, Value.slice (some (Addr.mk n34 0 none)) 1 1]))
    fun v35 =>
    T.asS v35 fun o36 n37 n38 =>
    T.next 0 [Value.slice o36 n37 n38]
    ([Value.pointer (some (Addr.mk n13 0 none))] =
    [Value.pointer (some (Addr.mk n13 0 none))] ∧ ([] : List Deferred) = [])))))))
    (T.call 57 [Value.slice o17 n18 n19, Value.func (Fn.func 58) (Array.mk []) (Array.mk [])] fun v39 =>
    T.call 59 [Value.slice o17 n18 n19] fun v40 => T.asS v40 fun o41 n42 n43 => T.ret (Value.slice o41 n42 n43))))
    (T.req (List.length l21 = 3 ∧ List.headD l21 (Value.tuple (Array.mk [])) = Value.bool true)
    (T.asA (List.getD l21 1 (Value.tuple (Array.mk []))) fun l44 =>
    T.req (List.length l44 = 3)
    (T.asI IntKind.i64 (List.headD l44 (Value.tuple (Array.mk []))) fun i45 =>
    T.asI IntKind.i64 (List.headD (List.tail l44) (Value.tuple (Array.mk []))) fun i46 =>
    T.asI IntKind.i64 (List.headD (List.tail (List.tail l44)) (Value.tuple (Array.mk []))) fun i47 =>
    T.asS (List.getD l21 2 (Value.tuple (Array.mk []))) fun o48 n49 n50 =>
    T.ite true
    (T.run (Instr.entry (Value.pointer (some (Addr.mk n13 0 none)))) fun v51 =>
    T.asU v51 fun l52 =>
    T.req (List.length l52 = 2)
    (T.asA (List.getD l52 0 (Value.tuple (Array.mk []))) fun l53 =>
    T.req (List.length l53 = 3)
    (T.asI IntKind.i64 (List.headD l53 (Value.tuple (Array.mk []))) fun i54 =>
    T.asI IntKind.i64 (List.headD (List.tail l53) (Value.tuple (Array.mk []))) fun i55 =>
    T.asI IntKind.i64 (List.headD (List.tail (List.tail l53)) (Value.tuple (Array.mk [])))
    fun i56 =>
    T.asS (List.getD l52 1 (Value.tuple (Array.mk []))) fun o57 n58 n59 =>
    T.new
    (Obj.cells
    (Array.mk [Value.int IntKind.i64 0, Value.int IntKind.i64 0, Value.int IntKind.i64 0])
    72)
    fun n60 =>
    T.st n60 0 (Value.int IntKind.i64 i54)
    (T.st n60 1 (Value.int IntKind.i64 i55)
    (T.st n60 2 (Value.int IntKind.i64 i56)
    (T.ldI IntKind.i64 n60 0 fun i61 =>
    T.ldI IntKind.i64 n60 1 fun i62 =>
    T.new
    (Obj.cells (Array.mk [Value.int IntKind.i64 i61, Value.int IntKind.i64 i62])
    32)
    fun n63 =>
    T.run
    (biV Builtin.append (Array.mk [89, 89]) 89
    (Array.mk
    [Value.slice o17 n18 n19, Value.slice (some (Addr.mk n63 0 none)) 1 1]))
    fun v64 =>
    T.asS v64 fun o65 n66 n67 =>
    T.next 0 [Value.slice o65 n66 n67]
    ([Value.pointer (some (Addr.mk n13 0 none))] =
    [Value.pointer (some (Addr.mk n13 0 none))] ∧ ([] : List Deferred) = [])))))))
    (T.call 57 [Value.slice o17 n18 n19, Value.func (Fn.func 58) (Array.mk []) (Array.mk [])] fun v68 =>
    T.call 59 [Value.slice o17 n18 n19] fun v69 =>
    T.asS v69 fun o70 n71 n72 => T.ret (Value.slice o70 n71 n72)))))))
theorem e40 (n0 n1 : Nat) : treeOf Tryz.prog Tryz.f40 (codeOf Tryz.f40) (.s .n (.s .n (.s (.s .n (.u (.l [(3, .slice)] [15] .n))) .n))) [.p n0 n1] = (t40 n0 n1) := by kernel_rfl
theorem c40 (n0 n1 : Nat) {w : World} {R : Ending → World → Prop} (h : (t40 n0 n1).sem Tryz.prog R ρ0 w) : Calls Tryz.prog 40 #[.pointer (some ⟨n0, n1, none⟩)] w R :=
  calls_of mixed Tryz.func40 rfl rfl (e40 n0 n1) h
def t39 (o0 : Option Addr) (n1 n2 : Nat) (i3 : Int) (i4 : Int) : T :=
  T.new (Obj.cells (Array.mk [Value.int IntKind.i64 i3, Value.int IntKind.i64 i4]) 32) fun n5 =>
  T.ldI IntKind.i64 n5 0 fun i6 =>
    T.ldI IntKind.i64 n5 1 fun i7 =>
    T.call 54 [Value.slice o0 n1 n2, Value.agg (Array.mk [Value.int IntKind.i64 i6, Value.int IntKind.i64 i7])] fun v8 =>
    T.asI IntKind.i64 v8 fun i9 => T.ret (Value.bool (decide (i9 ≥ 0)))
theorem e39 (o0 : Option Addr) (n1 n2 : Nat) (i3 : Int) (i4 : Int) : treeOf Tryz.prog Tryz.f39 (codeOf Tryz.f39) .n [.v (.slice o0 n1 n2), .v (.agg #[.int .i64 i3, .int .i64 i4])] = (t39 o0 n1 n2 i3 i4) := by kernel_rfl
theorem c39 (o0 : Option Addr) (n1 n2 : Nat) (i3 : Int) (i4 : Int) {w : World} {R : Ending → World → Prop} (h : (t39 o0 n1 n2 i3 i4).sem Tryz.prog R ρ0 w) : Calls Tryz.prog 39 #[.slice o0 n1 n2, .agg #[.int .i64 i3, .int .i64 i4]] w R :=
  calls_of mixed Tryz.func39 rfl rfl (e39 o0 n1 n2 i3 i4) h
def t54 (o0 : Option Addr) (n1 n2 : Nat) (i3 : Int) (i4 : Int) : T :=
  T.new (Obj.cells (Array.mk [Value.int IntKind.i64 i3, Value.int IntKind.i64 i4]) 32) fun n5 =>
  T.loop 0 [Value.int IntKind.i64 0] fun l6 j7 =>
    T.asI IntKind.i64 (List.headD l6 (Value.tuple (Array.mk []))) fun i8 =>
    T.ite (decide (i8 < (↑n1 : Int)))
    (T.drew
    (T.ldI IntKind.i64 n5 0 fun i9 =>
    T.ldI IntKind.i64 n5 1 fun i10 =>
    T.req (0 ≤ i8 ∧ i8 < (↑n1 : Int))
    (T.sm o0 fun n11 n12 =>
    T.ldI IntKind.i64 n11 (n12 + Int.toNat i8 * 2) fun i13 =>
    T.ldI IntKind.i64 n11 (n12 + Int.toNat i8 * 2 + 1) fun i14 =>
    T.ite (i9 == i13 && (i10 == i14 && true)) (T.ret (Value.int IntKind.i64 i8))
    (T.next 0 [Value.int IntKind.i64 (IntKind.wrap IntKind.i64 (i8 + 1))]
    ([Value.slice o0 n1 n2, Value.pointer (some (Addr.mk n5 0 none)), Value.int IntKind.i64 (↑n1 : Int)] =
    [Value.slice o0 n1 n2, Value.pointer (some (Addr.mk n5 0 none)), Value.int IntKind.i64 (↑n1 : Int)] ∧ ([] : List Deferred) = [])))))
    (T.ret (Value.int IntKind.i64 (-1)))
theorem e54 (o0 : Option Addr) (n1 n2 : Nat) (i3 : Int) (i4 : Int) : treeOf Tryz.prog Tryz.f54 (codeOf Tryz.f54) (.s .n (.s (.s .n (.u (.l [(8, .int .i64)] [0, 3, 7] (.s .n (.s .n (.s (.u (.s .n (.s (.p [0, 1, 2, 3, 4, 5]) .n))) .n)))))) .n)) [.v (.slice o0 n1 n2), .v (.agg #[.int .i64 i3, .int .i64 i4])] = (t54 o0 n1 n2 i3 i4) := by kernel_rfl
theorem c54 (o0 : Option Addr) (n1 n2 : Nat) (i3 : Int) (i4 : Int) {w : World} {R : Ending → World → Prop} (h : (t54 o0 n1 n2 i3 i4).sem Tryz.prog R ρ0 w) : Calls Tryz.prog 54 #[.slice o0 n1 n2, .agg #[.int .i64 i3, .int .i64 i4]] w R :=
  calls_of mixed Tryz.func54 rfl rfl (e54 o0 n1 n2 i3 i4) h
def t55 (n0 n1 : Nat) : T :=
  T.call 80 [Value.slice none 0 0, Value.func (Fn.func 81) (Array.mk []) (Array.mk [Value.pointer (some (Addr.mk n0 n1 none))])] fun v2 =>
  T.asS v2 fun o3 n4 n5 => T.ret (Value.slice o3 n4 n5)
theorem e55 (n0 n1 : Nat) : treeOf Tryz.prog Tryz.f55 (codeOf Tryz.f55) .n [.v (.func (.func 81) #[] #[.pointer (some ⟨n0, n1, none⟩)])] = (t55 n0 n1) := by kernel_rfl
theorem c55 (n0 n1 : Nat) {w : World} {R : Ending → World → Prop} (h : (t55 n0 n1).sem Tryz.prog R ρ0 w) : Calls Tryz.prog 55 #[.func (.func 81) #[] #[.pointer (some ⟨n0, n1, none⟩)]] w R :=
  calls_of mixed Tryz.func55 rfl rfl (e55 n0 n1) h
def t80 (o0 : Option Addr) (n1 n2 : Nat) (n3 n4 : Nat) : T :=
  T.new (Obj.cells (Array.mk [Value.slice o0 n1 n2]) 89) fun n5 =>
  T.rf none 0 81 [Value.pointer (some (Addr.mk n3 n4 none))]
    (fun n6 l7 =>
    T.req (List.length l7 = 1)
    (T.asA (List.headD l7 (Value.tuple (Array.mk []))) fun l8 =>
    T.req (List.length l8 = 2)
    (T.asI IntKind.i64 (List.headD l8 (Value.tuple (Array.mk []))) fun i9 =>
    T.asI IntKind.i64 (List.headD (List.tail l8) (Value.tuple (Array.mk []))) fun i10 =>
    T.new (Obj.cells (Array.mk [Value.int IntKind.i64 0, Value.int IntKind.i64 0]) 32) fun n11 =>
    T.st n11 0 (Value.int IntKind.i64 i9)
    (T.st n11 1 (Value.int IntKind.i64 i10)
    (T.beg n6
    (T.ldS n5 0 fun o12 n13 n14 =>
    T.ldI IntKind.i64 n11 0 fun i15 =>
    T.ldI IntKind.i64 n11 1 fun i16 =>
    T.new (Obj.cells (Array.mk [Value.int IntKind.i64 i15, Value.int IntKind.i64 i16]) 32) fun n17 =>
    T.run
    (biV Builtin.append (Array.mk [89, 89]) 89 (Array.mk [Value.slice o12 n13 n14, Value.slice (some (Addr.mk n17 0 none)) 1 1]))
    fun v18 =>
    T.asS v18 fun o19 n20 n21 =>
    T.st n5 0 (Value.slice o19 n20 n21) (T.run (Instr.endRound n6 none) fun v22 => T.next 0 [v22] True)))))))
    (fun n23 => T.ldS n5 0 fun o24 n25 n26 => T.col n23 (T.ret (Value.slice o24 n25 n26))) (fun n27 => T.col n27 (T.ret (Value.slice none 0 0))) []
theorem e80 (o0 : Option Addr) (n1 n2 : Nat) (n3 n4 : Nat) : treeOf Tryz.prog Tryz.f80 (codeOf Tryz.f80) (.s .n (.s (.s .n (.u (.f [.agg [.int .i64, .int .i64]] .n .n))) .n)) [.v (.slice o0 n1 n2), .v (.func (.func 81) #[] #[.pointer (some ⟨n3, n4, none⟩)])] = (t80 o0 n1 n2 n3 n4) := by kernel_rfl
theorem c80 (o0 : Option Addr) (n1 n2 : Nat) (n3 n4 : Nat) {w : World} {R : Ending → World → Prop} (h : (t80 o0 n1 n2 n3 n4).sem Tryz.prog R ρ0 w) : Calls Tryz.prog 80 #[.slice o0 n1 n2, .func (.func 81) #[] #[.pointer (some ⟨n3, n4, none⟩)]] w R :=
  calls_of mixed Tryz.func80 rfl rfl (e80 o0 n1 n2 n3 n4) h
def t56 (o0 : Option Nat) : T :=
  T.new (Obj.cells (Array.mk [Value.map o0]) 41) fun n1 => T.ret (Value.func (Fn.func 81) (Array.mk []) (Array.mk [Value.pointer (some (Addr.mk n1 0 none))]))
theorem e56 (o0 : Option Nat) : treeOf Tryz.prog Tryz.f56 (codeOf Tryz.f56) .n [.v (.map o0)] = (t56 o0) := by kernel_rfl
theorem c56 (o0 : Option Nat) {w : World} {R : Ending → World → Prop} (h : (t56 o0).sem Tryz.prog R ρ0 w) : Calls Tryz.prog 56 #[.map o0] w R :=
  calls_of mixed Tryz.func56 rfl rfl (e56 o0) h
def t81 (n0 : Nat) (n1 n2 : Nat) : T :=
  T.ldM n1 n2 fun o3 =>
  T.run (Instr.range 41 (Value.map o3)) fun v4 =>
    T.asP v4 fun o5 =>
    T.sm o5 fun n6 n7 =>
    T.req (n7 = 0)
    (T.loop 0 [] fun l8 j9 =>
    T.run (Instr.next (Value.pointer (some (Addr.mk n6 0 none))) false 0) fun v10 =>
    T.asU v10 fun l11 =>
    T.ite (decide (List.length l11 = 1))
    (T.req (l11 = [Value.bool false])
    (T.ite false
    (T.run (Instr.entry (Value.pointer (some (Addr.mk n6 0 none)))) fun v12 =>
    T.asU v12 fun l13 =>
    T.req (List.length l13 = 2)
    (T.asA (List.getD l13 0 (Value.tuple (Array.mk []))) fun l14 =>
    T.req (List.length l14 = 2)
    (T.asI IntKind.i64 (List.headD l14 (Value.tuple (Array.mk []))) fun i15 =>
    T.asI IntKind.i64 (List.headD (List.tail l14) (Value.tuple (Array.mk []))) fun i16 =>
    T.asS (List.getD l13 1 (Value.tuple (Array.mk []))) fun o17 n18 n19 =>
    T.new (Obj.cells (Array.mk [Value.int IntKind.i64 0, Value.int IntKind.i64 0]) 32) fun n20 =>
    T.st n20 0 (Value.int IntKind.i64 i15)
    (T.st n20 1 (Value.int IntKind.i64 i16)
    (T.ldI IntKind.i64 n20 0 fun i21 =>
    T.ldI IntKind.i64 n20 1 fun i22 =>
    T.yl n0 [Value.agg (Array.mk [Value.int IntKind.i64 i21, Value.int IntKind.i64 i22])] fun v23 =>
    T.asB v23 fun b24 =>
    T.ite (!b24) (T.ret (Value.tuple (Array.mk [])))
    (T.next 0 []
    ([Value.func (Fn.yield n0) (Array.mk []) (Array.mk []), Value.pointer (some (Addr.mk n6 0 none))] =
    [Value.func (Fn.yield n0) (Array.mk []) (Array.mk []), Value.pointer (some (Addr.mk n6 0 none))] ∧ ([] : List Deferred) = [])))))))
    (T.ret (Value.tuple (Array.mk [])))))
    (T.req (List.length l11 = 3 ∧ List.headD l11 (Value.tuple (Array.mk [])) = Value.bool true)
    (T.asA (List.getD l11 1 (Value.tuple (Array.mk []))) fun l25 =>
    T.req (List.length l25 = 2)
    (T.asI IntKind.i64 (List.headD l25 (Value.tuple (Array.mk []))) fun i26 =>
    T.asI IntKind.i64 (List.headD (List.tail l25) (Value.tuple (Array.mk []))) fun i27 =>
    T.asS (List.getD l11 2 (Value.tuple (Array.mk []))) fun o28 n29 n30 =>
    T.ite true
    (T.run (Instr.entry (Value.pointer (some (Addr.mk n6 0 none)))) fun v31 =>
    T.asU v31 fun l32 =>
    T.req (List.length l32 = 2)
    (T.asA (List.getD l32 0 (Value.tuple (Array.mk []))) fun l33 =>
    T.req (List.length l33 = 2)
    (T.asI IntKind.i64 (List.headD l33 (Value.tuple (Array.mk []))) fun i34 =>
    T.asI IntKind.i64 (List.headD (List.tail l33) (Value.tuple (Array.mk []))) fun i35 =>
    T.asS (List.getD l32 1 (Value.tuple (Array.mk []))) fun o36 n37 n38 =>
    T.new (Obj.cells (Array.mk [Value.int IntKind.i64 0, Value.int IntKind.i64 0]) 32) fun n39 =>
    T.st n39 0 (Value.int IntKind.i64 i34)
    (T.st n39 1 (Value.int IntKind.i64 i35)
    (T.ldI IntKind.i64 n39 0 fun i40 =>
    T.ldI IntKind.i64 n39 1 fun i41 =>
    T.yl n0 [Value.agg (Array.mk [Value.int IntKind.i64 i40, Value.int IntKind.i64 i41])] fun v42 =>
    T.asB v42 fun b43 =>
    T.ite (!b43) (T.ret (Value.tuple (Array.mk [])))
    (T.next 0 []
    ([Value.func (Fn.yield n0) (Array.mk []) (Array.mk []),
    Value.pointer (some (Addr.mk n6 0 none))] =
    [Value.func (Fn.yield n0) (Array.mk []) (Array.mk []),
    Value.pointer (some (Addr.mk n6 0 none))] ∧ ([] : List Deferred) = [])))))))
    (T.ret (Value.tuple (Array.mk [])))))))
theorem e81 (n0 : Nat) (n1 n2 : Nat) : treeOf Tryz.prog Tryz.f81 (codeOf Tryz.f81) (.s .n (.u (.l [] [0, 5] .n))) [.v (.func (.yield n0) #[] #[]), .p n1 n2] = (t81 n0 n1 n2) := by kernel_rfl
theorem c81 (n0 : Nat) (n1 n2 : Nat) {w : World} {R : Ending → World → Prop} (h : (t81 n0 n1 n2).sem Tryz.prog R ρ0 w) : Calls Tryz.prog 81 #[.func (.yield n0) #[] #[], .pointer (some ⟨n1, n2, none⟩)] w R :=
  calls_of mixed Tryz.func81 rfl rfl (e81 n0 n1 n2) h
def t59 (o0 : Option Addr) (n1 n2 : Nat) : T :=
  T.ite (decide ((↑n1 : Int) < 2)) (T.ret (Value.slice o0 n1 n2))
  (T.loop 0 [Value.int IntKind.i64 1] fun l3 j4 =>
    T.asI IntKind.i64 (List.headD l3 (Value.tuple (Array.mk []))) fun i5 =>
    T.ite (decide (i5 < (↑n1 : Int)))
    (T.drew
    (T.req (0 ≤ i5 ∧ i5 < (↑n1 : Int))
    (T.sm o0 fun n6 n7 =>
    T.ldI IntKind.i64 n6 (n7 + Int.toNat i5 * 2) fun i8 =>
    T.ldI IntKind.i64 n6 (n7 + Int.toNat i5 * 2 + 1) fun i9 =>
    T.req (0 ≤ IntKind.wrap IntKind.i64 (i5 - 1) ∧ IntKind.wrap IntKind.i64 (i5 - 1) < (↑n1 : Int))
    (T.sm o0 fun n10 n11 =>
    T.ldI IntKind.i64 n10 (n11 + Int.toNat (IntKind.wrap IntKind.i64 (i5 - 1)) * 2) fun i12 =>
    T.ldI IntKind.i64 n10 (n11 + Int.toNat (IntKind.wrap IntKind.i64 (i5 - 1)) * 2 + 1) fun i13 =>
    T.ite (i8 == i12 && (i9 == i13 && true))
    (T.req (0 ≤ i5 ∧ i5 ≤ (↑n1 : Int))
    (T.loop 1 [Value.int IntKind.i64 i5, Value.int IntKind.i64 1] fun l14 j15 =>
    T.asI IntKind.i64 (List.headD l14 (Value.tuple (Array.mk []))) fun i16 =>
    T.asI IntKind.i64 (List.headD (List.tail l14) (Value.tuple (Array.mk []))) fun i17 =>
    T.ite (decide (i17 < (↑(n1 - Int.toNat i5) : Int)))
    (T.drew
    (T.req (0 ≤ i17 ∧ i17 < (↑(n1 - Int.toNat i5) : Int))
    (T.sm (sliceBase o0 (Int.toNat i5) n2 2) fun n18 n19 =>
    T.ldI IntKind.i64 n18 (n19 + Int.toNat i17 * 2) fun i20 =>
    T.ldI IntKind.i64 n18 (n19 + Int.toNat i17 * 2 + 1) fun i21 =>
    T.req
    (0 ≤ IntKind.wrap IntKind.i64 (i17 - 1) ∧ IntKind.wrap IntKind.i64 (i17 - 1) < (↑(n1 - Int.toNat i5) : Int))
    (T.sm (sliceBase o0 (Int.toNat i5) n2 2) fun n22 n23 =>
    T.ldI IntKind.i64 n22 (n23 + Int.toNat (IntKind.wrap IntKind.i64 (i17 - 1)) * 2) fun i24 =>
    T.ldI IntKind.i64 n22 (n23 + Int.toNat (IntKind.wrap IntKind.i64 (i17 - 1)) * 2 + 1) fun i25 =>
    T.ite (!(i20 == i24 && (i21 == i25 && true)))
    (T.req (0 ≤ i17 ∧ i17 < (↑(n1 - Int.toNat i5) : Int))
    (T.sm (sliceBase o0 (Int.toNat i5) n2 2) fun n26 n27 =>
    T.ldI IntKind.i64 n26 (n27 + Int.toNat i17 * 2) fun i28 =>
    T.ldI IntKind.i64 n26 (n27 + Int.toNat i17 * 2 + 1) fun i29 =>
    T.req (0 ≤ i16 ∧ i16 < (↑n1 : Int))
    (T.sm o0 fun n30 n31 =>
    T.st n30 (n31 + Int.toNat i16 * 2) (Value.int IntKind.i64 i28)
    (T.st n30 (n31 + Int.toNat i16 * 2 + 1) (Value.int IntKind.i64 i29)
    (T.next 1
    [Value.int IntKind.i64 (IntKind.wrap IntKind.i64 (i16 + 1)),
    Value.int IntKind.i64 (IntKind.wrap IntKind.i64 (i17 + 1))]
    ([Value.slice o0 n1 n2,
    Value.slice (sliceBase o0 (Int.toNat i5) n2 2) (n1 - Int.toNat i5)
    (n2 - Int.toNat i5)] =
    [Value.slice o0 n1 n2,
    Value.slice (sliceBase o0 (Int.toNat i5) n2 2) (n1 - Int.toNat i5)
    (n2 - Int.toNat i5)] ∧ ([] : List Deferred) = []))))))
    (T.next 1 [Value.int IntKind.i64 i16, Value.int IntKind.i64 (IntKind.wrap IntKind.i64 (i17 + 1))]
    ([Value.slice o0 n1 n2,
    Value.slice (sliceBase o0 (Int.toNat i5) n2 2) (n1 - Int.toNat i5) (n2 - Int.toNat i5)] =
    [Value.slice o0 n1 n2,
    Value.slice (sliceBase o0 (Int.toNat i5) n2 2) (n1 - Int.toNat i5) (n2 - Int.toNat i5)] ∧ ([] : List Deferred) = []))))))
    (T.req (0 ≤ i16 ∧ i16 ≤ (↑n1 : Int))
    (T.run
    (biV Builtin.clear (Array.mk [89]) 0
    (Array.mk [Value.slice (sliceBase o0 (Int.toNat i16) n2 2) (n1 - Int.toNat i16) (n2 - Int.toNat i16)]))
    fun v32 => T.req (0 ≤ i16 ∧ i16 ≤ (↑n2 : Int)) (T.ret (Value.slice (sliceBase o0 0 n2 2) (Int.toNat i16) n2))))))
    (T.next 0 [Value.int IntKind.i64 (IntKind.wrap IntKind.i64 (i5 + 1))]
    ([Value.slice o0 n1 n2] = [Value.slice o0 n1 n2] ∧ ([] : List Deferred) = []))))))
    (T.ret (Value.slice o0 n1 n2)))
theorem e59 (o0 : Option Addr) (n1 n2 : Nat) : treeOf Tryz.prog Tryz.f59 (codeOf Tryz.f59) (.s .n (.s .n (.s (.s .n (.u (.l [(3, .int .i64)] [0] (.s .n (.s (.u (.s (.p [0, 1, 2, 3, 4, 5, 6, 7, 8, 9]) (.s (.s .n (.s (.s .n (.u (.l [(3, .int .i64), (5, .int .i64)] [0, 4] (.s .n (.s (.u (.s (.p [0, 1, 2, 3, 4, 5, 6, 7, 8, 9]) .n)) .n))))) .n)) .n))) .n))))) .n))) [.v (.slice o0 n1 n2)] = (t59 o0 n1 n2) := by kernel_rfl
theorem c59 (o0 : Option Addr) (n1 n2 : Nat) {w : World} {R : Ending → World → Prop} (h : (t59 o0 n1 n2).sem Tryz.prog R ρ0 w) : Calls Tryz.prog 59 #[.slice o0 n1 n2] w R :=
  calls_of mixed Tryz.func59 rfl rfl (e59 o0 n1 n2) h
def t41 (o0 : Option Nat) (n1 n2 : Nat) : T :=
  T.run (Instr.range 42 (Value.map o0)) fun v3 =>
  T.asP v3 fun o4 =>
    T.sm o4 fun n5 n6 =>
    T.req (n6 = 0)
    (T.loop 0 [] fun l7 j8 =>
    T.run (Instr.next (Value.pointer (some (Addr.mk n5 0 none))) false 0) fun v9 =>
    T.asU v9 fun l10 =>
    T.ite (decide (List.length l10 = 1))
    (T.req (l10 = [Value.bool false])
    (T.ite false
    (T.run (Instr.entry (Value.pointer (some (Addr.mk n5 0 none)))) fun v11 =>
    T.asU v11 fun l12 =>
    T.req (List.length l12 = 2)
    (T.asA (List.getD l12 0 (Value.tuple (Array.mk []))) fun l13 =>
    T.req (List.length l13 = 3)
    (T.asI IntKind.i64 (List.headD l13 (Value.tuple (Array.mk []))) fun i14 =>
    T.asI IntKind.i64 (List.headD (List.tail l13) (Value.tuple (Array.mk []))) fun i15 =>
    T.asI IntKind.i64 (List.headD (List.tail (List.tail l13)) (Value.tuple (Array.mk []))) fun i16 =>
    T.asS (List.getD l12 1 (Value.tuple (Array.mk []))) fun o17 n18 n19 =>
    T.new (Obj.cells (Array.mk [Value.int IntKind.i64 0, Value.int IntKind.i64 0, Value.int IntKind.i64 0]) 72) fun n20 =>
    T.st n20 0 (Value.int IntKind.i64 i14)
    (T.st n20 1 (Value.int IntKind.i64 i15)
    (T.st n20 2 (Value.int IntKind.i64 i16)
    (T.ldI IntKind.i64 n20 0 fun i21 =>
    T.ldI IntKind.i64 n20 1 fun i22 =>
    T.ldI IntKind.i64 n20 2 fun i23 =>
    T.call 42
    [Value.agg (Array.mk [Value.int IntKind.i64 i21, Value.int IntKind.i64 i22, Value.int IntKind.i64 i23]),
    Value.slice o17 n18 n19, Value.pointer (some (Addr.mk n1 n2 none))]
    fun v24 =>
    T.asB v24 fun b25 =>
    T.ite b25
    (T.ldI IntKind.i64 n20 0 fun i26 =>
    T.ldI IntKind.i64 n20 1 fun i27 =>
    T.ldI IntKind.i64 n20 2 fun i28 =>
    T.run
    (biV Builtin.delete (Array.mk [42, 72]) 0
    (Array.mk
    [Value.map o0,
    Value.agg
    (Array.mk
    [Value.int IntKind.i64 i26, Value.int IntKind.i64 i27,
    Value.int IntKind.i64 i28])]))
    fun v29 =>
    T.next 0 []
    ([Value.map o0,
    Value.func (Fn.func 42) (Array.mk [])
    (Array.mk [Value.pointer (some (Addr.mk n1 n2 none))]),
    Value.pointer (some (Addr.mk n5 0 none))] =
    [Value.map o0,
    Value.func (Fn.func 42) (Array.mk [])
    (Array.mk [Value.pointer (some (Addr.mk n1 n2 none))]),
    Value.pointer (some (Addr.mk n5 0 none))] ∧ ([] : List Deferred) = []))
    (T.next 0 []
    ([Value.map o0,
    Value.func (Fn.func 42) (Array.mk []) (Array.mk [Value.pointer (some (Addr.mk n1 n2 none))]),
    Value.pointer (some (Addr.mk n5 0 none))] =
    [Value.map o0,
    Value.func (Fn.func 42) (Array.mk []) (Array.mk [Value.pointer (some (Addr.mk n1 n2 none))]),
    Value.pointer (some (Addr.mk n5 0 none))] ∧ ([] : List Deferred) = []))))))))
    (T.ret (Value.tuple (Array.mk [])))))
    (T.req (List.length l10 = 3 ∧ List.headD l10 (Value.tuple (Array.mk [])) = Value.bool true)
    (T.asA (List.getD l10 1 (Value.tuple (Array.mk []))) fun l30 =>
    T.req (List.length l30 = 3)
    (T.asI IntKind.i64 (List.headD l30 (Value.tuple (Array.mk []))) fun i31 =>
    T.asI IntKind.i64 (List.headD (List.tail l30) (Value.tuple (Array.mk []))) fun i32 =>
    T.asI IntKind.i64 (List.headD (List.tail (List.tail l30)) (Value.tuple (Array.mk []))) fun i33 =>
    T.asS (List.getD l10 2 (Value.tuple (Array.mk []))) fun o34 n35 n36 =>
    T.ite true
    (T.run (Instr.entry (Value.pointer (some (Addr.mk n5 0 none)))) fun v37 =>
    T.asU v37 fun l38 =>
    T.req (List.length l38 = 2)
    (T.asA (List.getD l38 0 (Value.tuple (Array.mk []))) fun l39 =>
    T.req (List.length l39 = 3)
    (T.asI IntKind.i64 (List.headD l39 (Value.tuple (Array.mk []))) fun i40 =>
    T.asI IntKind.i64 (List.headD (List.tail l39) (Value.tuple (Array.mk []))) fun i41 =>
    T.asI IntKind.i64 (List.headD (List.tail (List.tail l39)) (Value.tuple (Array.mk []))) fun i42 =>
    T.asS (List.getD l38 1 (Value.tuple (Array.mk []))) fun o43 n44 n45 =>
    T.new (Obj.cells (Array.mk [Value.int IntKind.i64 0, Value.int IntKind.i64 0, Value.int IntKind.i64 0]) 72)
    fun n46 =>
    T.st n46 0 (Value.int IntKind.i64 i40)
    (T.st n46 1 (Value.int IntKind.i64 i41)
    (T.st n46 2 (Value.int IntKind.i64 i42)
    (T.ldI IntKind.i64 n46 0 fun i47 =>
    T.ldI IntKind.i64 n46 1 fun i48 =>
    T.ldI IntKind.i64 n46 2 fun i49 =>
    T.call 42
    [Value.agg
    (Array.mk
    [Value.int IntKind.i64 i47, Value.int IntKind.i64 i48, Value.int IntKind.i64 i49]),
    Value.slice o43 n44 n45, Value.pointer (some (Addr.mk n1 n2 none))]
    fun v50 =>
    T.asB v50 fun b51 =>
    T.ite b51
    (T.ldI IntKind.i64 n46 0 fun i52 =>
    T.ldI IntKind.i64 n46 1 fun i53 =>
    T.ldI IntKind.i64 n46 2 fun i54 =>
    T.run
    (biV Builtin.delete (Array.mk [42, 72]) 0
    (Array.mk
    [Value.map o0,
    Value.agg
    (Array.mk
    [Value.int IntKind.i64 i52, Value.int IntKind.i64 i53,
    Value.int IntKind.i64 i54])]))
    fun v55 =>
    T.next 0 []
    ([Value.map o0,
    Value.func (Fn.func 42) (Array.mk [])
    (Array.mk [Value.pointer (some (Addr.mk n1 n2 none))]),
    Value.pointer (some (Addr.mk n5 0 none))] =
    [Value.map o0,
    Value.func (Fn.func 42) (Array.mk [])
    (Array.mk [Value.pointer (some (Addr.mk n1 n2 none))]),
    Value.pointer (some (Addr.mk n5 0 none))] ∧ ([] : List Deferred) = []))
    (T.next 0 []
    ([Value.map o0,
    Value.func (Fn.func 42) (Array.mk [])
    (Array.mk [Value.pointer (some (Addr.mk n1 n2 none))]),
    Value.pointer (some (Addr.mk n5 0 none))] =
    [Value.map o0,
    Value.func (Fn.func 42) (Array.mk [])
    (Array.mk [Value.pointer (some (Addr.mk n1 n2 none))]),
    Value.pointer (some (Addr.mk n5 0 none))] ∧ ([] : List Deferred) = []))))))))
    (T.ret (Value.tuple (Array.mk [])))))))
theorem e41 (o0 : Option Nat) (n1 n2 : Nat) : treeOf Tryz.prog Tryz.f41 (codeOf Tryz.f41) (.s .n (.u (.l [] [0, 1, 7] .n))) [.v (.map o0), .v (.func (.func 42) #[] #[.pointer (some ⟨n1, n2, none⟩)])] = (t41 o0 n1 n2) := by kernel_rfl
theorem c41 (o0 : Option Nat) (n1 n2 : Nat) {w : World} {R : Ending → World → Prop} (h : (t41 o0 n1 n2).sem Tryz.prog R ρ0 w) : Calls Tryz.prog 41 #[.map o0, .func (.func 42) #[] #[.pointer (some ⟨n1, n2, none⟩)]] w R :=
  calls_of mixed Tryz.func41 rfl rfl (e41 o0 n1 n2) h
def t42 (i0 : Int) (i1 : Int) (i2 : Int) (o3 : Option Addr) (n4 n5 : Nat) (n6 n7 : Nat) : T :=
  T.new (Obj.cells (Array.mk [Value.int IntKind.i64 i0, Value.int IntKind.i64 i1, Value.int IntKind.i64 i2]) 72) fun n8 =>
  T.ldI IntKind.i64 n8 0 fun i9 =>
    T.ldI IntKind.i64 n8 1 fun i10 =>
    T.ldI IntKind.i64 n6 n7 fun i11 => T.ldI IntKind.i64 n6 (n7 + 1) fun i12 => T.ret (Value.bool (i9 == i11 && (i10 == i12 && true)))
theorem e42 (i0 : Int) (i1 : Int) (i2 : Int) (o3 : Option Addr) (n4 n5 : Nat) (n6 n7 : Nat) : treeOf Tryz.prog Tryz.f42 (codeOf Tryz.f42) .n [.v (.agg #[.int .i64 i0, .int .i64 i1, .int .i64 i2]), .v (.slice o3 n4 n5), .p n6 n7] = (t42 i0 i1 i2 o3 n4 n5 n6 n7) := by kernel_rfl
theorem c42 (i0 : Int) (i1 : Int) (i2 : Int) (o3 : Option Addr) (n4 n5 : Nat) (n6 n7 : Nat) {w : World} {R : Ending → World → Prop} (h : (t42 i0 i1 i2 o3 n4 n5 n6 n7).sem Tryz.prog R ρ0 w) : Calls Tryz.prog 42 #[.agg #[.int .i64 i0, .int .i64 i1, .int .i64 i2], .slice o3 n4 n5, .pointer (some ⟨n6, n7, none⟩)] w R :=
  calls_of mixed Tryz.func42 rfl rfl (e42 i0 i1 i2 o3 n4 n5 n6 n7) h
end Go.Proofs.YtpjcfnnnciknmaaGreat
