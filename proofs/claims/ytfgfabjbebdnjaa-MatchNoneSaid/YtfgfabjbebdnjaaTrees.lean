/- The functions' trees, printed by a program (wip/tools/Emit.lean) and checked by the kernel against the model's own code. -/
import Derived.Test.YtfgfabjbebdnjaaCode
import Derived.Test.YtfgfabjbebdnjaaProg
namespace Go.Proofs.Ytfgfabjbebdnjaa
open Go hiding Expr
open Go.Proofs.Ytfgfabjbebdnjaa.Tr
set_option linter.unusedVariables false
set_option maxRecDepth 100000
theorem mixed : Try.prog.follows .mixedOrders = true := by kernel_rfl
def t7 (i0 : Int) (i1 : Int) (i2 : Int) : T :=
  T.new (Obj.cells (Array.mk [Value.int IntKind.i64 i0, Value.int IntKind.i64 i1]) 23) fun n3 =>
  T.ldI IntKind.i64 n3 0 fun i4 =>
    T.ite (decide (i4 < 1)) (T.ret (Value.tuple (Array.mk [Value.pointer none, Value.int IntKind.i64 1])))
    (T.ldI IntKind.i64 n3 0 fun i5 =>
    T.ite (decide (i5 > 5)) (T.ret (Value.tuple (Array.mk [Value.pointer none, Value.int IntKind.i64 1])))
    (T.ldI IntKind.i64 n3 1 fun i6 =>
    T.ite (decide (i6 < 0)) (T.ret (Value.tuple (Array.mk [Value.pointer none, Value.int IntKind.i64 1])))
    (T.ldI IntKind.i64 n3 1 fun i7 =>
    T.ldI IntKind.i64 n3 0 fun i8 =>
    T.ite (decide (i7 ≥ i8)) (T.ret (Value.tuple (Array.mk [Value.pointer none, Value.int IntKind.i64 1])))
    (T.call 19 [Value.int IntKind.i64 i2] fun v9 =>
    T.asB v9 fun b10 =>
    T.ite (!b10) (T.ret (Value.tuple (Array.mk [Value.pointer none, Value.int IntKind.i64 1])))
    (T.ldI IntKind.i64 n3 0 fun i11 =>
    T.ldI IntKind.i64 n3 1 fun i12 =>
    T.new
    (Obj.cells
    (Array.mk
    [Value.int IntKind.i64 i11, Value.int IntKind.i64 i12, Value.int IntKind.i64 i2, Value.int IntKind.i64 0,
    Value.int IntKind.i64 0, Value.int IntKind.i64 0, Value.int IntKind.i64 0, Value.int IntKind.i64 0,
    Value.int IntKind.i64 0, Value.int IntKind.i64 0, Value.int IntKind.i64 0, Value.int IntKind.i64 0,
    Value.int IntKind.i64 0])
    46)
    fun n13 =>
    T.ldI IntKind.i64 n3 0 fun i14 =>
    T.loop 0 [Value.int IntKind.i64 0] fun l15 j16 =>
    T.asI IntKind.i64 (List.headD l15 (Value.tuple (Array.mk []))) fun i17 =>
    T.ite (decide (i17 < i14))
    (T.req (0 ≤ i17 ∧ i17 < 5)
    (T.st n13 (3 + Int.toNat i17 * 2) (Value.int IntKind.i64 i2)
    (T.st n13 (3 + Int.toNat i17 * 2 + 1) (Value.int IntKind.i64 0)
    (T.next 0 [Value.int IntKind.i64 (IntKind.wrap IntKind.i64 (i17 + 1))]
    ([Value.int IntKind.i64 i2, Value.pointer (some (Addr.mk n3 0 none)), Value.pointer (some (Addr.mk n13 0 none)),
    Value.int IntKind.i64 i14] =
    [Value.int IntKind.i64 i2, Value.pointer (some (Addr.mk n3 0 none)),
    Value.pointer (some (Addr.mk n13 0 none)), Value.int IntKind.i64 i14] ∧ ([] : List Deferred) = [])))))
    (T.drew
    (T.ldI IntKind.i64 n3 1 fun i18 =>
    T.req (0 ≤ i18 ∧ i18 < 5)
    (T.st n13 (3 + Int.toNat i18 * 2) (Value.int IntKind.i64 i2)
    (T.st n13 (3 + Int.toNat i18 * 2 + 1) (Value.int IntKind.i64 i2)
    (T.chk []
    (T.ret
    (Value.tuple (Array.mk [Value.pointer (some (Addr.mk n13 0 none)), Value.int IntKind.i64 0])))))))))))))
theorem e7 (i0 : Int) (i1 : Int) (i2 : Int) : treeOf Try.prog Try.f7 (codeOf Try.f7) (.s .n (.s .n (.s .n (.s (.s .n (.u (.l [(39, .int .i64)] [1, 2, 6, 38] .n))) (.s (.p [0, 1, 2, 3, 4, 5, 6, 7, 8, 9]) .n))))) [.v (.agg #[.int .i64 i0, .int .i64 i1]), .v (.int .i64 i2)] = (t7 i0 i1 i2) := by kernel_rfl
theorem c7 (i0 : Int) (i1 : Int) (i2 : Int) {w : World} {R : Ending → World → Prop} (h : (t7 i0 i1 i2).sem Try.prog R ρ0 w) : Calls Try.prog 7 #[.agg #[.int .i64 i0, .int .i64 i1], .int .i64 i2] w R :=
  calls_of mixed Try.func7 rfl rfl (e7 i0 i1 i2) h
def t8  : T :=
  T.call 7 [Value.agg (Array.mk [Value.int IntKind.i64 3, Value.int IntKind.i64 0]), Value.int IntKind.i64 5] fun v0 =>
  T.asU v0 fun l1 =>
    T.req (List.length l1 = 2)
    (T.asP (List.headD l1 (Value.tuple (Array.mk []))) fun o2 =>
    T.asI IntKind.i64 (List.headD (List.tail l1) (Value.tuple (Array.mk []))) fun i3 =>
    T.ite (Option.isNone o2) (T.ret (Value.bool false))
    (T.ite (i3 != 0) (T.ret (Value.bool false))
    (T.call 9 [Value.pointer o2, Value.int IntKind.i64 1, Value.bool false, Value.int IntKind.i64 2] fun v4 =>
    T.asU v4 fun l5 =>
    T.req (List.length l5 = 2)
    (T.asB (List.headD l5 (Value.tuple (Array.mk []))) fun b6 =>
    T.asI IntKind.i64 (List.headD (List.tail l5) (Value.tuple (Array.mk []))) fun i7 =>
    T.call 15 [Value.pointer o2, Value.int IntKind.i64 1] fun v8 =>
    T.asI IntKind.i64 v8 fun i9 =>
    T.call 9 [Value.pointer o2, Value.int IntKind.i64 1, Value.bool true, Value.int IntKind.i64 4] fun v10 =>
    T.asU v10 fun l11 =>
    T.req (List.length l11 = 2)
    (T.asB (List.headD l11 (Value.tuple (Array.mk []))) fun b12 =>
    T.asI IntKind.i64 (List.headD (List.tail l11) (Value.tuple (Array.mk []))) fun i13 =>
    T.ite (!b6)
    (T.ite (i7 == 0)
    (T.ite (i9 == 2)
    (T.ite b12
    (T.ite (i13 == 0)
    (T.call 11 [Value.pointer o2] fun v14 =>
    T.asI IntKind.i64 v14 fun i15 =>
    T.ite (i15 == 4)
    (T.call 10 [Value.pointer o2, Value.int IntKind.i64 0] fun v16 =>
    T.asI IntKind.i64 v16 fun i17 => T.ret (Value.bool (i17 == 5)))
    (T.ret (Value.bool false)))
    (T.ret (Value.bool false)))
    (T.ret (Value.bool false)))
    (T.ret (Value.bool false)))
    (T.ret (Value.bool false)))
    (T.ret (Value.bool false)))))))
theorem e8  : treeOf Try.prog Try.f8 (codeOf Try.f8) .n [] = t8 := by kernel_rfl
theorem c8  {w : World} {R : Ending → World → Prop} (h : t8.sem Try.prog R ρ0 w) : Calls Try.prog 8 #[] w R :=
  calls_of mixed Try.func8 rfl rfl (e8 ) h
def t9 (n0 n1 : Nat) (i2 : Int) (b3 : Bool) (i4 : Int) : T :=
  T.call 20 [Value.pointer (some (Addr.mk n0 n1 none)), Value.int IntKind.i64 i2] fun v5 =>
  T.asU v5 fun l6 =>
    T.req (List.length l6 = 2)
    (T.asP (List.headD l6 (Value.tuple (Array.mk []))) fun o7 =>
    T.asI IntKind.i64 (List.headD (List.tail l6) (Value.tuple (Array.mk []))) fun i8 =>
    T.ite (i8 != 0) (T.ret (Value.tuple (Array.mk [Value.bool false, Value.int IntKind.i64 i8])))
    (T.ite (decide (i4 < 0)) (T.ret (Value.tuple (Array.mk [Value.bool false, Value.int IntKind.i64 1])))
    (T.ite b3
    (T.ldI IntKind.i64 n0 (n1 + 2) fun i9 =>
    T.ite (decide (i4 > i9)) (T.ret (Value.tuple (Array.mk [Value.bool false, Value.int IntKind.i64 1])))
    (T.ite (!b3)
    (T.sm o7 fun n10 n11 =>
    T.ldI IntKind.i64 n10 n11 fun i12 =>
    T.ite (decide (i4 < i12))
    (T.sm o7 fun n13 n14 =>
    T.ldI IntKind.i64 n13 (n14 + 1) fun i15 =>
    T.run (biV Builtin.max (Array.mk [2, 2]) 2 (Array.mk [Value.int IntKind.i64 i4, Value.int IntKind.i64 i15])) fun v16 =>
    T.asI IntKind.i64 v16 fun i17 =>
    T.sm o7 fun n18 n19 =>
    T.st n18 n19 (Value.int IntKind.i64 i17) (T.ret (Value.tuple (Array.mk [Value.bool false, Value.int IntKind.i64 0]))))
    (T.ret (Value.tuple (Array.mk [Value.bool false, Value.int IntKind.i64 0]))))
    (T.call 11 [Value.pointer (some (Addr.mk n0 n1 none))] fun v20 =>
    T.asI IntKind.i64 v20 fun i21 =>
    T.sm o7 fun n22 n23 =>
    T.ldI IntKind.i64 n22 (n23 + 1) fun i24 =>
    T.run (biV Builtin.max (Array.mk [2, 2]) 2 (Array.mk [Value.int IntKind.i64 i24, Value.int IntKind.i64 i4])) fun v25 =>
    T.asI IntKind.i64 v25 fun i26 =>
    T.sm o7 fun n27 n28 =>
    T.st n27 (n28 + 1) (Value.int IntKind.i64 i26)
    (T.drew
    (T.sm o7 fun n29 n30 =>
    T.ldI IntKind.i64 n29 n30 fun i31 =>
    T.sm o7 fun n32 n33 =>
    T.ldI IntKind.i64 n32 (n33 + 1) fun i34 =>
    T.run (biV Builtin.max (Array.mk [2, 2]) 2 (Array.mk [Value.int IntKind.i64 i31, Value.int IntKind.i64 i34]))
    fun v35 =>
    T.asI IntKind.i64 v35 fun i36 =>
    T.chk []
    (T.sm o7 fun n37 n38 =>
    T.st n37 n38 (Value.int IntKind.i64 i36)
    (T.chk []
    (T.call 11 [Value.pointer (some (Addr.mk n0 n1 none))] fun v39 =>
    T.asI IntKind.i64 v39 fun i40 =>
    T.ret
    (Value.tuple (Array.mk [Value.bool (decide (i40 > i21)), Value.int IntKind.i64 0]))))))))))
    (T.ite (!b3)
    (T.sm o7 fun n41 n42 =>
    T.ldI IntKind.i64 n41 n42 fun i43 =>
    T.ite (decide (i4 < i43))
    (T.sm o7 fun n44 n45 =>
    T.ldI IntKind.i64 n44 (n45 + 1) fun i46 =>
    T.run (biV Builtin.max (Array.mk [2, 2]) 2 (Array.mk [Value.int IntKind.i64 i4, Value.int IntKind.i64 i46])) fun v47 =>
    T.asI IntKind.i64 v47 fun i48 =>
    T.sm o7 fun n49 n50 =>
    T.st n49 n50 (Value.int IntKind.i64 i48) (T.ret (Value.tuple (Array.mk [Value.bool false, Value.int IntKind.i64 0]))))
    (T.ret (Value.tuple (Array.mk [Value.bool false, Value.int IntKind.i64 0]))))
    (T.call 11 [Value.pointer (some (Addr.mk n0 n1 none))] fun v51 =>
    T.asI IntKind.i64 v51 fun i52 =>
    T.sm o7 fun n53 n54 =>
    T.ldI IntKind.i64 n53 (n54 + 1) fun i55 =>
    T.run (biV Builtin.max (Array.mk [2, 2]) 2 (Array.mk [Value.int IntKind.i64 i55, Value.int IntKind.i64 i4])) fun v56 =>
    T.asI IntKind.i64 v56 fun i57 =>
    T.sm o7 fun n58 n59 =>
    T.st n58 (n59 + 1) (Value.int IntKind.i64 i57)
    (T.drew
    (T.sm o7 fun n60 n61 =>
    T.ldI IntKind.i64 n60 n61 fun i62 =>
    T.sm o7 fun n63 n64 =>
    T.ldI IntKind.i64 n63 (n64 + 1) fun i65 =>
    T.run (biV Builtin.max (Array.mk [2, 2]) 2 (Array.mk [Value.int IntKind.i64 i62, Value.int IntKind.i64 i65]))
    fun v66 =>
    T.asI IntKind.i64 v66 fun i67 =>
    T.chk []
    (T.sm o7 fun n68 n69 =>
    T.st n68 n69 (Value.int IntKind.i64 i67)
    (T.chk []
    (T.call 11 [Value.pointer (some (Addr.mk n0 n1 none))] fun v70 =>
    T.asI IntKind.i64 v70 fun i71 =>
    T.ret (Value.tuple (Array.mk [Value.bool (decide (i71 > i52)), Value.int IntKind.i64 0]))))))))))))
theorem e9 (n0 n1 : Nat) (i2 : Int) (b3 : Bool) (i4 : Int) : treeOf Try.prog Try.f9 (codeOf Try.f9) (.s .n (.s .n (.s .n (.s .n (.s .n (.s .n (.s .n (.s (.p [0, 1, 2, 3, 4, 5, 6, 7, 8, 9, 10, 11, 12]) .n)))))))) [.p n0 n1, .v (.int .i64 i2), .v (.bool b3), .v (.int .i64 i4)] = (t9 n0 n1 i2 b3 i4) := by kernel_rfl
theorem c9 (n0 n1 : Nat) (i2 : Int) (b3 : Bool) (i4 : Int) {w : World} {R : Ending → World → Prop} (h : (t9 n0 n1 i2 b3 i4).sem Try.prog R ρ0 w) : Calls Try.prog 9 #[.pointer (some ⟨n0, n1, none⟩), .int .i64 i2, .bool b3, .int .i64 i4] w R :=
  calls_of mixed Try.func9 rfl rfl (e9 n0 n1 i2 b3 i4) h
def t10 (n0 n1 : Nat) (i2 : Int) : T :=
  T.call 21 [Value.pointer (some (Addr.mk n0 n1 none)), Value.int IntKind.i64 i2] fun v3 =>
  T.asA v3 fun l4 =>
    T.req (List.length l4 = 2)
    (T.asI IntKind.i64 (List.headD l4 (Value.tuple (Array.mk []))) fun i5 =>
    T.asI IntKind.i64 (List.headD (List.tail l4) (Value.tuple (Array.mk []))) fun i6 => T.ret (Value.int IntKind.i64 i6))
theorem e10 (n0 n1 : Nat) (i2 : Int) : treeOf Try.prog Try.f10 (codeOf Try.f10) .n [.p n0 n1, .v (.int .i64 i2)] = (t10 n0 n1 i2) := by kernel_rfl
theorem c10 (n0 n1 : Nat) (i2 : Int) {w : World} {R : Ending → World → Prop} (h : (t10 n0 n1 i2).sem Try.prog R ρ0 w) : Calls Try.prog 10 #[.pointer (some ⟨n0, n1, none⟩), .int .i64 i2] w R :=
  calls_of mixed Try.func10 rfl rfl (e10 n0 n1 i2) h
def t11 (n0 n1 : Nat) : T :=
  T.call 22 [Value.pointer (some (Addr.mk n0 n1 none))] fun v2 =>
  T.asB v2 fun b3 =>
    T.ite b3 (T.ret (Value.int IntKind.i64 0))
    (T.new (Obj.cells (Array.mk [Value.slice none 0 0]) 59) fun n4 =>
    T.call 23 [Value.pointer (some (Addr.mk n0 n1 none))] fun v5 =>
    T.asC 26 v5 fun l6 =>
    T.req (List.length l6 = 1)
    (T.asP (List.headD l6 (Value.tuple (Array.mk []))) fun o7 =>
    T.rf none 0 26 [Value.pointer o7]
    (fun n8 l9 =>
    T.req (List.length l9 = 2)
    (T.asA (List.headD (List.tail l9) (Value.tuple (Array.mk []))) fun l10 =>
    T.req (List.length l10 = 2)
    (T.asI IntKind.i64 (List.headD l10 (Value.tuple (Array.mk []))) fun i11 =>
    T.asI IntKind.i64 (List.headD (List.tail l10) (Value.tuple (Array.mk []))) fun i12 =>
    T.new (Obj.cells (Array.mk [Value.int IntKind.i64 0, Value.int IntKind.i64 0]) 43) fun n13 =>
    T.st n13 0 (Value.int IntKind.i64 i11)
    (T.st n13 1 (Value.int IntKind.i64 i12)
    (T.beg n8
    (T.ldS n4 0 fun o14 n15 n16 =>
    T.ldI IntKind.i64 n13 1 fun i17 =>
    T.new (Obj.cells (Array.mk [Value.int IntKind.i64 i17]) 2) fun n18 =>
    T.run
    (biV Builtin.append (Array.mk [59, 59]) 59
    (Array.mk [Value.slice o14 n15 n16, Value.slice (some (Addr.mk n18 0 none)) 1 1]))
    fun v19 =>
    T.asS v19 fun o20 n21 n22 =>
    T.st n4 0 (Value.slice o20 n21 n22) (T.run (Instr.endRound n8 none) fun v23 => T.next 0 [v23] True)))))))
    (fun n24 =>
    T.ldS n4 0 fun o25 n26 n27 =>
    T.call2 24 [Value.slice o25 n26 n27]
    (fun v28 =>
    T.ldS n4 0 fun o29 n30 n31 =>
    T.ldS n4 0 fun o32 n33 n34 =>
    T.req ((2 : Int) ≠ 0)
    (T.req
    (0 ≤ IntKind.wrap IntKind.i64 (Int.tdiv (IntKind.wrap IntKind.i64 ((↑n33 : Int) - 1)) 2) ∧
    IntKind.wrap IntKind.i64 (Int.tdiv (IntKind.wrap IntKind.i64 ((↑n33 : Int) - 1)) 2) < (↑n30 : Int))
    (T.sm o29 fun n35 n36 =>
    T.ldI IntKind.i64 n35
    (n36 + Int.toNat (IntKind.wrap IntKind.i64 (Int.tdiv (IntKind.wrap IntKind.i64 ((↑n33 : Int) - 1)) 2)) * 1) fun i37 =>
    T.col n24 (T.ret (Value.int IntKind.i64 i37)))))
    fun v38 => T.col n24 (T.pan v38))
    (fun n39 => T.col n39 (T.ret (Value.int IntKind.i64 0))) []))
theorem e11 (n0 n1 : Nat) : treeOf Try.prog Try.f11 (codeOf Try.f11) (.s .n (.s .n (.s .n (.s (.s .n (.u (.f [.any, .agg [.int .i64, .int .i64]] .n .n))) .n)))) [.p n0 n1] = (t11 n0 n1) := by kernel_rfl
theorem c11 (n0 n1 : Nat) {w : World} {R : Ending → World → Prop} (h : (t11 n0 n1).sem Try.prog R ρ0 w) : Calls Try.prog 11 #[.pointer (some ⟨n0, n1, none⟩)] w R :=
  calls_of mixed Try.func11 rfl rfl (e11 n0 n1) h
def t12 (n0 n1 : Nat) : T :=
  T.call 22 [Value.pointer (some (Addr.mk n0 n1 none))] fun v2 =>
  T.asB v2 fun b3 => T.ite b3 (T.ret (Value.int IntKind.i64 0)) (T.ldI IntKind.i64 n0 (n1 + 2) fun i4 => T.ret (Value.int IntKind.i64 i4))
theorem e12 (n0 n1 : Nat) : treeOf Try.prog Try.f12 (codeOf Try.f12) .n [.p n0 n1] = (t12 n0 n1) := by kernel_rfl
theorem c12 (n0 n1 : Nat) {w : World} {R : Ending → World → Prop} (h : (t12 n0 n1).sem Try.prog R ρ0 w) : Calls Try.prog 12 #[.pointer (some ⟨n0, n1, none⟩)] w R :=
  calls_of mixed Try.func12 rfl rfl (e12 n0 n1) h
def t13 (n0 n1 : Nat) (i2 : Int) : T :=
  T.call 22 [Value.pointer (some (Addr.mk n0 n1 none))] fun v3 =>
  T.asB v3 fun b4 =>
    T.ite b4 (T.ret (Value.int IntKind.i64 2))
    (T.ldI IntKind.i64 n0 (n1 + 2) fun i5 =>
    T.ite (decide (i2 < i5)) (T.ret (Value.int IntKind.i64 1))
    (T.call 19 [Value.int IntKind.i64 i2] fun v6 =>
    T.asB v6 fun b7 =>
    T.ite (!b7) (T.ret (Value.int IntKind.i64 1))
    (T.st n0 (n1 + 2) (Value.int IntKind.i64 i2)
    (T.drew
    (T.ldI IntKind.i64 n0 (n1 + 1) fun i8 =>
    T.req (0 ≤ i8 ∧ i8 < 5)
    (T.st n0 (n1 + 3 + Int.toNat i8 * 2) (Value.int IntKind.i64 i2)
    (T.st n0 (n1 + 3 + Int.toNat i8 * 2 + 1) (Value.int IntKind.i64 i2) (T.chk [] (T.ret (Value.int IntKind.i64 0))))))))))
theorem e13 (n0 n1 : Nat) (i2 : Int) : treeOf Try.prog Try.f13 (codeOf Try.f13) (.s .n (.s .n (.s .n (.s (.p [0, 1, 2, 3, 4, 5, 6, 7, 8, 9, 10, 11, 12]) .n)))) [.p n0 n1, .v (.int .i64 i2)] = (t13 n0 n1 i2) := by kernel_rfl
theorem c13 (n0 n1 : Nat) (i2 : Int) {w : World} {R : Ending → World → Prop} (h : (t13 n0 n1 i2).sem Try.prog R ρ0 w) : Calls Try.prog 13 #[.pointer (some ⟨n0, n1, none⟩), .int .i64 i2] w R :=
  calls_of mixed Try.func13 rfl rfl (e13 n0 n1 i2) h
def t14 (n0 n1 : Nat) (i2 : Int) (i3 : Int) : T :=
  T.call 20 [Value.pointer (some (Addr.mk n0 n1 none)), Value.int IntKind.i64 i2] fun v4 =>
  T.asU v4 fun l5 =>
    T.req (List.length l5 = 2)
    (T.asP (List.headD l5 (Value.tuple (Array.mk []))) fun o6 =>
    T.asI IntKind.i64 (List.headD (List.tail l5) (Value.tuple (Array.mk []))) fun i7 =>
    T.ite (i7 != 0) (T.ret (Value.int IntKind.i64 i7))
    (T.sm o6 fun n8 n9 =>
    T.ldI IntKind.i64 n8 n9 fun i10 =>
    T.ite (decide (i3 < i10)) (T.ret (Value.int IntKind.i64 1))
    (T.ldI IntKind.i64 n0 (n1 + 2) fun i11 =>
    T.ite (decide (i3 > i11)) (T.ret (Value.int IntKind.i64 1))
    (T.sm o6 fun n12 n13 => T.st n12 n13 (Value.int IntKind.i64 i3) (T.ret (Value.int IntKind.i64 0))))))
theorem e14 (n0 n1 : Nat) (i2 : Int) (i3 : Int) : treeOf Try.prog Try.f14 (codeOf Try.f14) .n [.p n0 n1, .v (.int .i64 i2), .v (.int .i64 i3)] = (t14 n0 n1 i2 i3) := by kernel_rfl
theorem c14 (n0 n1 : Nat) (i2 : Int) (i3 : Int) {w : World} {R : Ending → World → Prop} (h : (t14 n0 n1 i2 i3).sem Try.prog R ρ0 w) : Calls Try.prog 14 #[.pointer (some ⟨n0, n1, none⟩), .int .i64 i2, .int .i64 i3] w R :=
  calls_of mixed Try.func14 rfl rfl (e14 n0 n1 i2 i3) h
def t15 (n0 n1 : Nat) (i2 : Int) : T :=
  T.call 21 [Value.pointer (some (Addr.mk n0 n1 none)), Value.int IntKind.i64 i2] fun v3 =>
  T.asA v3 fun l4 =>
    T.req (List.length l4 = 2)
    (T.asI IntKind.i64 (List.headD l4 (Value.tuple (Array.mk []))) fun i5 =>
    T.asI IntKind.i64 (List.headD (List.tail l4) (Value.tuple (Array.mk []))) fun i6 => T.ret (Value.int IntKind.i64 i5))
theorem e15 (n0 n1 : Nat) (i2 : Int) : treeOf Try.prog Try.f15 (codeOf Try.f15) .n [.p n0 n1, .v (.int .i64 i2)] = (t15 n0 n1 i2) := by kernel_rfl
theorem c15 (n0 n1 : Nat) (i2 : Int) {w : World} {R : Ending → World → Prop} (h : (t15 n0 n1 i2).sem Try.prog R ρ0 w) : Calls Try.prog 15 #[.pointer (some ⟨n0, n1, none⟩), .int .i64 i2] w R :=
  calls_of mixed Try.func15 rfl rfl (e15 n0 n1 i2) h
def t17 (n0 n1 : Nat) : T :=
  T.new (Obj.cells (Array.mk [Value.pointer (some (Addr.mk n0 n1 none))]) 25) fun n2 =>
  T.new (Obj.cells (Array.mk [Value.slice none 0 0]) 64) fun n3 =>
    T.ldP n2 0 fun o4 =>
    T.call 22 [Value.pointer o4] fun v5 =>
    T.asB v5 fun b6 =>
    T.ite (!b6)
    (T.ldP n2 0 fun o7 =>
    T.call 23 [Value.pointer o7] fun v8 =>
    T.asC 26 v8 fun l9 =>
    T.req (List.length l9 = 1)
    (T.asP (List.headD l9 (Value.tuple (Array.mk []))) fun o10 =>
    T.rf none 0 26 [Value.pointer o10]
    (fun n11 l12 =>
    T.req (List.length l12 = 2)
    (T.asI IntKind.i64 (List.headD l12 (Value.tuple (Array.mk []))) fun i13 =>
    T.asA (List.headD (List.tail l12) (Value.tuple (Array.mk []))) fun l14 =>
    T.req (List.length l14 = 2)
    (T.asI IntKind.i64 (List.headD l14 (Value.tuple (Array.mk []))) fun i15 =>
    T.asI IntKind.i64 (List.headD (List.tail l14) (Value.tuple (Array.mk []))) fun i16 =>
    T.new (Obj.cells (Array.mk [Value.int IntKind.i64 0, Value.int IntKind.i64 0]) 43) fun n17 =>
    T.st n17 0 (Value.int IntKind.i64 i15)
    (T.st n17 1 (Value.int IntKind.i64 i16)
    (T.beg n11
    (T.drew
    (T.ldI IntKind.i64 n17 1 fun i18 =>
    T.ldP n2 0 fun o19 =>
    T.sm o19 fun n20 n21 =>
    T.ldI IntKind.i64 n20 (n21 + 2) fun i22 =>
    T.ite (decide (i18 < i22))
    (T.ldS n3 0 fun o23 n24 n25 =>
    T.new (Obj.cells (Array.mk [Value.int IntKind.i64 i13]) 3) fun n26 =>
    T.run
    (biV Builtin.append (Array.mk [64, 64]) 64
    (Array.mk [Value.slice o23 n24 n25, Value.slice (some (Addr.mk n26 0 none)) 1 1]))
    fun v27 =>
    T.asS v27 fun o28 n29 n30 =>
    T.st n3 0 (Value.slice o28 n29 n30)
    (T.run (Instr.endRound n11 none) fun v31 => T.next 0 [v31] True))
    (T.run (Instr.endRound n11 none) fun v32 => T.next 0 [v32] True))))))))
    (fun n33 => T.col n33 (T.ret (Value.func (Fn.func 25) (Array.mk []) (Array.mk [Value.pointer (some (Addr.mk n3 0 none))]))))
    (fun n34 => T.col n34 (T.ret Value.nilFunc)) []))
    (T.ret (Value.func (Fn.func 25) (Array.mk []) (Array.mk [Value.pointer (some (Addr.mk n3 0 none))])))
theorem e17 (n0 n1 : Nat) : treeOf Try.prog Try.f17 (codeOf Try.f17) (.s .n (.s .n (.s (.s .n (.s (.s .n (.u (.f [.int .i64, .agg [.int .i64, .int .i64]] .n (.u (.s (.p [0, 1, 2, 3, 4, 5, 6]) .n))))) .n)) .n))) [.p n0 n1] = (t17 n0 n1) := by kernel_rfl
theorem c17 (n0 n1 : Nat) {w : World} {R : Ending → World → Prop} (h : (t17 n0 n1).sem Try.prog R ρ0 w) : Calls Try.prog 17 #[.pointer (some ⟨n0, n1, none⟩)] w R :=
  calls_of mixed Try.func17 rfl rfl (e17 n0 n1) h
def t18 (n0 n1 : Nat) : T :=
  T.call 22 [Value.pointer (some (Addr.mk n0 n1 none))] fun v2 =>
  T.asB v2 fun b3 =>
    T.ite b3 (T.ret (Value.pointer none))
    (T.ldI IntKind.i64 n0 n1 fun i4 =>
    T.ldI IntKind.i64 n0 (n1 + 1) fun i5 =>
    T.ldI IntKind.i64 n0 (n1 + 2) fun i6 =>
    T.ldI IntKind.i64 n0 (n1 + 3) fun i7 =>
    T.ldI IntKind.i64 n0 (n1 + 4) fun i8 =>
    T.ldI IntKind.i64 n0 (n1 + 5) fun i9 =>
    T.ldI IntKind.i64 n0 (n1 + 6) fun i10 =>
    T.ldI IntKind.i64 n0 (n1 + 7) fun i11 =>
    T.ldI IntKind.i64 n0 (n1 + 8) fun i12 =>
    T.ldI IntKind.i64 n0 (n1 + 9) fun i13 =>
    T.ldI IntKind.i64 n0 (n1 + 10) fun i14 =>
    T.ldI IntKind.i64 n0 (n1 + 11) fun i15 =>
    T.ldI IntKind.i64 n0 (n1 + 12) fun i16 =>
    T.new
    (Obj.cells
    (Array.mk
    [Value.int IntKind.i64 0, Value.int IntKind.i64 0, Value.int IntKind.i64 0, Value.int IntKind.i64 0,
    Value.int IntKind.i64 0, Value.int IntKind.i64 0, Value.int IntKind.i64 0, Value.int IntKind.i64 0,
    Value.int IntKind.i64 0, Value.int IntKind.i64 0, Value.int IntKind.i64 0, Value.int IntKind.i64 0,
    Value.int IntKind.i64 0])
    46)
    fun n17 =>
    T.st n17 0 (Value.int IntKind.i64 i4)
    (T.st n17 1 (Value.int IntKind.i64 i5)
    (T.st n17 2 (Value.int IntKind.i64 i6)
    (T.st n17 3 (Value.int IntKind.i64 i7)
    (T.st n17 4 (Value.int IntKind.i64 i8)
    (T.st n17 5 (Value.int IntKind.i64 i9)
    (T.st n17 6 (Value.int IntKind.i64 i10)
    (T.st n17 7 (Value.int IntKind.i64 i11)
    (T.st n17 8 (Value.int IntKind.i64 i12)
    (T.st n17 9 (Value.int IntKind.i64 i13)
    (T.st n17 10 (Value.int IntKind.i64 i14)
    (T.st n17 11 (Value.int IntKind.i64 i15)
    (T.st n17 12 (Value.int IntKind.i64 i16)
    (T.ret (Value.pointer (some (Addr.mk n17 0 none)))))))))))))))))
theorem e18 (n0 n1 : Nat) : treeOf Try.prog Try.f18 (codeOf Try.f18) .n [.p n0 n1] = (t18 n0 n1) := by kernel_rfl
theorem c18 (n0 n1 : Nat) {w : World} {R : Ending → World → Prop} (h : (t18 n0 n1).sem Try.prog R ρ0 w) : Calls Try.prog 18 #[.pointer (some ⟨n0, n1, none⟩)] w R :=
  calls_of mixed Try.func18 rfl rfl (e18 n0 n1) h
def t19 (i0 : Int) : T :=
  T.ite (decide (i0 ≥ 0)) (T.ret (Value.bool (decide (i0 ≤ 1099511627776)))) (T.ret (Value.bool false))
theorem e19 (i0 : Int) : treeOf Try.prog Try.f19 (codeOf Try.f19) .n [.v (.int .i64 i0)] = (t19 i0) := by kernel_rfl
theorem c19 (i0 : Int) {w : World} {R : Ending → World → Prop} (h : (t19 i0).sem Try.prog R ρ0 w) : Calls Try.prog 19 #[.int .i64 i0] w R :=
  calls_of mixed Try.func19 rfl rfl (e19 i0) h
def t20 (n0 n1 : Nat) (i2 : Int) : T :=
  T.call 22 [Value.pointer (some (Addr.mk n0 n1 none))] fun v3 =>
  T.asB v3 fun b4 =>
    T.ite b4 (T.ret (Value.tuple (Array.mk [Value.pointer none, Value.int IntKind.i64 2])))
    (T.ite (decide (i2 < 0)) (T.ret (Value.tuple (Array.mk [Value.pointer none, Value.int IntKind.i64 80])))
    (T.ldI IntKind.i64 n0 n1 fun i5 =>
    T.ite (decide (i2 ≥ i5)) (T.ret (Value.tuple (Array.mk [Value.pointer none, Value.int IntKind.i64 80])))
    (T.ldI IntKind.i64 n0 (n1 + 1) fun i6 =>
    T.ite (i2 == i6) (T.ret (Value.tuple (Array.mk [Value.pointer none, Value.int IntKind.i64 80])))
    (T.req (0 ≤ i2 ∧ i2 < 5)
    (T.ret (Value.tuple (Array.mk [Value.pointer (some (Addr.mk n0 (n1 + 3 + Int.toNat i2 * 2) none)), Value.int IntKind.i64 0])))))))
theorem e20 (n0 n1 : Nat) (i2 : Int) : treeOf Try.prog Try.f20 (codeOf Try.f20) .n [.p n0 n1, .v (.int .i64 i2)] = (t20 n0 n1 i2) := by kernel_rfl
theorem c20 (n0 n1 : Nat) (i2 : Int) {w : World} {R : Ending → World → Prop} (h : (t20 n0 n1 i2).sem Try.prog R ρ0 w) : Calls Try.prog 20 #[.pointer (some ⟨n0, n1, none⟩), .int .i64 i2] w R :=
  calls_of mixed Try.func20 rfl rfl (e20 n0 n1 i2) h
def t21 (n0 n1 : Nat) (i2 : Int) : T :=
  T.new (Obj.cells (Array.mk [Value.int IntKind.i64 0, Value.int IntKind.i64 0]) 43) fun n3 =>
  T.call 22 [Value.pointer (some (Addr.mk n0 n1 none))] fun v4 =>
    T.asB v4 fun b5 =>
    T.ite b5
    (T.st n3 0 (Value.int IntKind.i64 0)
    (T.st n3 1 (Value.int IntKind.i64 0)
    (T.ldI IntKind.i64 n3 0 fun i6 =>
    T.ldI IntKind.i64 n3 1 fun i7 => T.ret (Value.agg (Array.mk [Value.int IntKind.i64 i6, Value.int IntKind.i64 i7])))))
    (T.ite (decide (i2 < 0))
    (T.st n3 0 (Value.int IntKind.i64 0)
    (T.st n3 1 (Value.int IntKind.i64 0)
    (T.ldI IntKind.i64 n3 0 fun i8 =>
    T.ldI IntKind.i64 n3 1 fun i9 => T.ret (Value.agg (Array.mk [Value.int IntKind.i64 i8, Value.int IntKind.i64 i9])))))
    (T.ldI IntKind.i64 n0 n1 fun i10 =>
    T.ite (decide (i2 ≥ i10))
    (T.st n3 0 (Value.int IntKind.i64 0)
    (T.st n3 1 (Value.int IntKind.i64 0)
    (T.ldI IntKind.i64 n3 0 fun i11 =>
    T.ldI IntKind.i64 n3 1 fun i12 => T.ret (Value.agg (Array.mk [Value.int IntKind.i64 i11, Value.int IntKind.i64 i12])))))
    (T.req (0 ≤ i2 ∧ i2 < 5)
    (T.ldI IntKind.i64 n0 (n1 + 3 + Int.toNat i2 * 2) fun i13 =>
    T.ldI IntKind.i64 n0 (n1 + 3 + Int.toNat i2 * 2 + 1) fun i14 =>
    T.st n3 0 (Value.int IntKind.i64 i13)
    (T.st n3 1 (Value.int IntKind.i64 i14)
    (T.ldI IntKind.i64 n3 0 fun i15 =>
    T.ldI IntKind.i64 n3 1 fun i16 => T.ret (Value.agg (Array.mk [Value.int IntKind.i64 i15, Value.int IntKind.i64 i16]))))))))
theorem e21 (n0 n1 : Nat) (i2 : Int) : treeOf Try.prog Try.f21 (codeOf Try.f21) .n [.p n0 n1, .v (.int .i64 i2)] = (t21 n0 n1 i2) := by kernel_rfl
theorem c21 (n0 n1 : Nat) (i2 : Int) {w : World} {R : Ending → World → Prop} (h : (t21 n0 n1 i2).sem Try.prog R ρ0 w) : Calls Try.prog 21 #[.pointer (some ⟨n0, n1, none⟩), .int .i64 i2] w R :=
  calls_of mixed Try.func21 rfl rfl (e21 n0 n1 i2) h
def t22 (n0 n1 : Nat) : T :=
  T.ldI IntKind.i64 n0 n1 fun i2 => T.ret (Value.bool (i2 == 0))
theorem e22 (n0 n1 : Nat) : treeOf Try.prog Try.f22 (codeOf Try.f22) .n [.p n0 n1] = (t22 n0 n1) := by kernel_rfl
theorem c22 (n0 n1 : Nat) {w : World} {R : Ending → World → Prop} (h : (t22 n0 n1).sem Try.prog R ρ0 w) : Calls Try.prog 22 #[.pointer (some ⟨n0, n1, none⟩)] w R :=
  calls_of mixed Try.func22 rfl rfl (e22 n0 n1) h
def t23 (n0 n1 : Nat) : T :=
  T.new (Obj.cells (Array.mk [Value.pointer (some (Addr.mk n0 n1 none))]) 25) fun n2 =>
  T.ret (Value.func (Fn.func 26) (Array.mk []) (Array.mk [Value.pointer (some (Addr.mk n2 0 none))]))
theorem e23 (n0 n1 : Nat) : treeOf Try.prog Try.f23 (codeOf Try.f23) .n [.p n0 n1] = (t23 n0 n1) := by kernel_rfl
theorem c23 (n0 n1 : Nat) {w : World} {R : Ending → World → Prop} (h : (t23 n0 n1).sem Try.prog R ρ0 w) : Calls Try.prog 23 #[.pointer (some ⟨n0, n1, none⟩)] w R :=
  calls_of mixed Try.func23 rfl rfl (e23 n0 n1) h
def t24 (o0 : Option Addr) (n1 n2 : Nat) : T :=
  T.call 28 [Value.int IntKind.u64 (IntKind.wrap IntKind.u64 (↑n1 : Int))] fun v3 =>
  T.asI IntKind.i64 v3 fun i4 =>
    T.call 27 [Value.slice o0 n1 n2, Value.int IntKind.i64 0, Value.int IntKind.i64 (↑n1 : Int), Value.int IntKind.i64 i4] fun v5 =>
    T.ret (Value.tuple (Array.mk []))
theorem e24 (o0 : Option Addr) (n1 n2 : Nat) : treeOf Try.prog Try.f24 (codeOf Try.f24) .n [.v (.slice o0 n1 n2)] = (t24 o0 n1 n2) := by kernel_rfl
theorem c24 (o0 : Option Addr) (n1 n2 : Nat) {w : World} {R : Ending → World → Prop} (h : (t24 o0 n1 n2).sem Try.prog R ρ0 w) : Calls Try.prog 24 #[.slice o0 n1 n2] w R :=
  calls_of mixed Try.func24 rfl rfl (e24 o0 n1 n2) h
def t28 (i0 : Int) : T :=
  T.call 39 [Value.int IntKind.u64 i0] fun v1 => T.asI IntKind.i64 v1 fun i2 => T.ret (Value.int IntKind.i64 i2)
theorem e28 (i0 : Int) : treeOf Try.prog Try.f28 (codeOf Try.f28) .n [.v (.int .u64 i0)] = (t28 i0) := by kernel_rfl
theorem c28 (i0 : Int) {w : World} {R : Ending → World → Prop} (h : (t28 i0).sem Try.prog R ρ0 w) : Calls Try.prog 28 #[.int .u64 i0] w R :=
  calls_of mixed Try.func28 rfl rfl (e28 i0) h
def t29 (o0 : Option Addr) (n1 n2 : Nat) (i3 : Int) (i4 : Int) : T :=
  T.loop 0 [Value.int IntKind.i64 (IntKind.wrap IntKind.i64 (i3 + 1))] fun l5 j6 =>
  T.asI IntKind.i64 (List.headD l5 (Value.tuple (Array.mk []))) fun i7 =>
    T.ite (decide (i7 < i4))
    (T.loop 1 [Value.int IntKind.i64 i7] fun l8 j9 =>
    T.asI IntKind.i64 (List.headD l8 (Value.tuple (Array.mk []))) fun i10 =>
    T.drew
    (T.ite (decide (i10 > i3))
    (T.req (0 ≤ i10 ∧ i10 < (↑n1 : Int))
    (T.sm o0 fun n11 n12 =>
    T.ldI IntKind.i64 n11 (n12 + Int.toNat i10 * 1) fun i13 =>
    T.req (0 ≤ IntKind.wrap IntKind.i64 (i10 - 1) ∧ IntKind.wrap IntKind.i64 (i10 - 1) < (↑n1 : Int))
    (T.sm o0 fun n14 n15 =>
    T.ldI IntKind.i64 n14 (n15 + Int.toNat (IntKind.wrap IntKind.i64 (i10 - 1)) * 1) fun i16 =>
    T.call 35 [Value.int IntKind.i64 i13, Value.int IntKind.i64 i16] fun v17 =>
    T.asB v17 fun b18 =>
    T.chk []
    (T.ite b18
    (T.drew
    (T.req (0 ≤ IntKind.wrap IntKind.i64 (i10 - 1) ∧ IntKind.wrap IntKind.i64 (i10 - 1) < (↑n1 : Int))
    (T.sm o0 fun n19 n20 =>
    T.ldI IntKind.i64 n19 (n20 + Int.toNat (IntKind.wrap IntKind.i64 (i10 - 1)) * 1) fun i21 =>
    T.req (0 ≤ i10 ∧ i10 < (↑n1 : Int))
    (T.sm o0 fun n22 n23 =>
    T.ldI IntKind.i64 n22 (n23 + Int.toNat i10 * 1) fun i24 =>
    T.req (0 ≤ i10 ∧ i10 < (↑n1 : Int))
    (T.sm o0 fun n25 n26 =>
    T.st n25 (n26 + Int.toNat i10 * 1) (Value.int IntKind.i64 i21)
    (T.chk []
    (T.req (0 ≤ IntKind.wrap IntKind.i64 (i10 - 1) ∧ IntKind.wrap IntKind.i64 (i10 - 1) < (↑n1 : Int))
    (T.sm o0 fun n27 n28 =>
    T.st n27 (n28 + Int.toNat (IntKind.wrap IntKind.i64 (i10 - 1)) * 1) (Value.int IntKind.i64 i24)
    (T.chk []
    (T.next 1 [Value.int IntKind.i64 (IntKind.wrap IntKind.i64 (i10 - 1))]
    ([Value.slice o0 n1 n2, Value.int IntKind.i64 i3, Value.int IntKind.i64 i4,
    Value.int IntKind.i64 i7] =
    [Value.slice o0 n1 n2, Value.int IntKind.i64 i3, Value.int IntKind.i64 i4,
    Value.int IntKind.i64 i7] ∧ ([] : List Deferred) = [])))))))))))
    (T.next 0 [Value.int IntKind.i64 (IntKind.wrap IntKind.i64 (i7 + 1))]
    ([Value.slice o0 n1 n2, Value.int IntKind.i64 i3, Value.int IntKind.i64 i4] =
    [Value.slice o0 n1 n2, Value.int IntKind.i64 i3, Value.int IntKind.i64 i4] ∧ ([] : List Deferred) = []))))))
    (T.chk []
    (T.next 0 [Value.int IntKind.i64 (IntKind.wrap IntKind.i64 (i7 + 1))]
    ([Value.slice o0 n1 n2, Value.int IntKind.i64 i3, Value.int IntKind.i64 i4] =
    [Value.slice o0 n1 n2, Value.int IntKind.i64 i3, Value.int IntKind.i64 i4] ∧ ([] : List Deferred) = [])))))
    (T.ret (Value.tuple (Array.mk [])))
theorem e29 (o0 : Option Addr) (n1 n2 : Nat) (i3 : Int) (i4 : Int) : treeOf Try.prog Try.f29 (codeOf Try.f29) (.s .n (.u (.l [(6, .int .i64)] [0, 1, 2] (.s .n (.s (.u (.s .n (.u (.l [(7, .int .i64)] [0, 1, 2, 6] (.s (.s (.p [0, 1, 2, 3, 4, 5, 6, 7, 8, 9, 10, 11, 12, 13, 14]) .n) (.s (.u (.p [0, 1, 2, 3, 4, 5, 6, 7, 8, 9, 10, 11, 12, 13, 14, 15, 16, 17])) .n)))))) .n))))) [.v (.slice o0 n1 n2), .v (.int .i64 i3), .v (.int .i64 i4)] = (t29 o0 n1 n2 i3 i4) := by kernel_rfl
theorem c29 (o0 : Option Addr) (n1 n2 : Nat) (i3 : Int) (i4 : Int) {w : World} {R : Ending → World → Prop} (h : (t29 o0 n1 n2 i3 i4).sem Try.prog R ρ0 w) : Calls Try.prog 29 #[.slice o0 n1 n2, .int .i64 i3, .int .i64 i4] w R :=
  calls_of mixed Try.func29 rfl rfl (e29 o0 n1 n2 i3 i4) h
def t35 (i0 : Int) (i1 : Int) : T :=
  T.call 45 [Value.int IntKind.i64 i0] fun v2 =>
  T.asB v2 fun b3 =>
    T.ite b3 (T.call 45 [Value.int IntKind.i64 i1] fun v4 => T.asB v4 fun b5 => T.ite (!b5) (T.ret (Value.bool true)) (T.ret (Value.bool (decide (i0 < i1)))))
    (T.ret (Value.bool (decide (i0 < i1))))
theorem e35 (i0 : Int) (i1 : Int) : treeOf Try.prog Try.f35 (codeOf Try.f35) .n [.v (.int .i64 i0), .v (.int .i64 i1)] = (t35 i0 i1) := by kernel_rfl
theorem c35 (i0 : Int) (i1 : Int) {w : World} {R : Ending → World → Prop} (h : (t35 i0 i1).sem Try.prog R ρ0 w) : Calls Try.prog 35 #[.int .i64 i0, .int .i64 i1] w R :=
  calls_of mixed Try.func35 rfl rfl (e35 i0 i1) h
def t26 (n0 : Nat) (n1 n2 : Nat) : T :=
  T.drew
  (T.ldP n1 n2 fun o3 =>
    T.sm o3 fun n4 n5 =>
    T.ldP n1 n2 fun o6 =>
    T.sm o6 fun n7 n8 =>
    T.ldI IntKind.i64 n7 n8 fun i9 =>
    T.req (0 ≤ i9 ∧ i9 ≤ 5)
    (T.loop 0 [Value.int IntKind.i64 0] fun l10 j11 =>
    T.asI IntKind.i64 (List.headD l10 (Value.tuple (Array.mk []))) fun i12 =>
    T.ite (decide (i12 < (↑(Int.toNat i9) : Int)))
    (T.req (0 ≤ i12 ∧ i12 < (↑(Int.toNat i9) : Int))
    (T.sm (some (Addr.mk n4 (n5 + 3) none)) fun n13 n14 =>
    T.ldI IntKind.i64 n13 (n14 + Int.toNat i12 * 2) fun i15 =>
    T.ldI IntKind.i64 n13 (n14 + Int.toNat i12 * 2 + 1) fun i16 =>
    T.new (Obj.cells (Array.mk [Value.int IntKind.i64 0, Value.int IntKind.i64 0]) 43) fun n17 =>
    T.st n17 0 (Value.int IntKind.i64 i15)
    (T.st n17 1 (Value.int IntKind.i64 i16)
    (T.ldI IntKind.i64 n17 0 fun i18 =>
    T.ldI IntKind.i64 n17 1 fun i19 =>
    T.yl n0 [Value.int IntKind.i64 i12, Value.agg (Array.mk [Value.int IntKind.i64 i18, Value.int IntKind.i64 i19])]
    fun v20 =>
    T.asB v20 fun b21 =>
    T.ite (!b21) (T.ret (Value.tuple (Array.mk [])))
    (T.next 0 [Value.int IntKind.i64 (IntKind.wrap IntKind.i64 (i12 + 1))]
    ([Value.func (Fn.yield n0) (Array.mk []) (Array.mk []),
    Value.slice (some (Addr.mk n4 (n5 + 3) none)) (Int.toNat i9) 5,
    Value.int IntKind.i64 (↑(Int.toNat i9) : Int)] =
    [Value.func (Fn.yield n0) (Array.mk []) (Array.mk []),
    Value.slice (some (Addr.mk n4 (n5 + 3) none)) (Int.toNat i9) 5,
    Value.int IntKind.i64 (↑(Int.toNat i9) : Int)] ∧ ([] : List Deferred) = []))))))
    (T.ret (Value.tuple (Array.mk [])))))
theorem e26 (n0 : Nat) (n1 n2 : Nat) : treeOf Try.prog Try.f26 (codeOf Try.f26) (.s (.p [0, 1, 2, 3, 4, 5, 6, 7, 8, 9, 10]) (.u (.l [(15, .int .i64)] [0, 13, 14] .n))) [.v (.func (.yield n0) #[] #[]), .p n1 n2] = (t26 n0 n1 n2) := by kernel_rfl
theorem c26 (n0 : Nat) (n1 n2 : Nat) {w : World} {R : Ending → World → Prop} (h : (t26 n0 n1 n2).sem Try.prog R ρ0 w) : Calls Try.prog 26 #[.func (.yield n0) #[] #[], .pointer (some ⟨n1, n2, none⟩)] w R :=
  calls_of mixed Try.func26 rfl rfl (e26 n0 n1 n2) h
def t25 (n0 : Nat) (n1 n2 : Nat) : T :=
  T.ldS n1 n2 fun o3 n4 n5 =>
  T.loop 0 [Value.int IntKind.i64 0] fun l6 j7 =>
    T.asI IntKind.i64 (List.headD l6 (Value.tuple (Array.mk []))) fun i8 =>
    T.ite (decide (i8 < (↑n4 : Int)))
    (T.req (0 ≤ i8 ∧ i8 < (↑n4 : Int))
    (T.sm o3 fun n9 n10 =>
    T.ldI IntKind.i64 n9 (n10 + Int.toNat i8 * 1) fun i11 =>
    T.yl n0 [Value.int IntKind.i64 i11] fun v12 =>
    T.asB v12 fun b13 =>
    T.ite (!b13) (T.ret (Value.tuple (Array.mk [])))
    (T.next 0 [Value.int IntKind.i64 (IntKind.wrap IntKind.i64 (i8 + 1))]
    ([Value.func (Fn.yield n0) (Array.mk []) (Array.mk []), Value.slice o3 n4 n5, Value.int IntKind.i64 (↑n4 : Int)] =
    [Value.func (Fn.yield n0) (Array.mk []) (Array.mk []), Value.slice o3 n4 n5, Value.int IntKind.i64 (↑n4 : Int)] ∧ ([] : List Deferred) = []))))
    (T.ret (Value.tuple (Array.mk [])))
theorem e25 (n0 : Nat) (n1 n2 : Nat) : treeOf Try.prog Try.f25 (codeOf Try.f25) (.s .n (.u (.l [(7, .int .i64)] [0, 5, 6] .n))) [.v (.func (.yield n0) #[] #[]), .p n1 n2] = (t25 n0 n1 n2) := by kernel_rfl
theorem c25 (n0 : Nat) (n1 n2 : Nat) {w : World} {R : Ending → World → Prop} (h : (t25 n0 n1 n2).sem Try.prog R ρ0 w) : Calls Try.prog 25 #[.func (.yield n0) #[] #[], .pointer (some ⟨n1, n2, none⟩)] w R :=
  calls_of mixed Try.func25 rfl rfl (e25 n0 n1 n2) h
def t16 (n0 n1 : Nat) (o2 : Option Addr) (n3 n4 : Nat) : T :=
  T.new (Obj.cells (Array.mk [Value.slice o2 n3 n4]) 64) fun n5 =>
  T.new (Obj.cells (Array.mk [Value.bool false]) 4) fun n6 =>
    T.new (Obj.cells (Array.mk [Value.int IntKind.i64 0]) 3) fun n7 =>
    T.st n7 0 (Value.int IntKind.i64 0)
    (T.rf none 0 25 [Value.pointer (some (Addr.mk n0 n1 none))]
    (fun n8 l9 =>
    T.req (List.length l9 = 1)
    (T.asI IntKind.i64 (List.headD l9 (Value.tuple (Array.mk []))) fun i10 =>
    T.beg n8
    (T.ldI IntKind.i64 n7 0 fun i11 =>
    T.ldS n5 0 fun o12 n13 n14 =>
    T.ite (decide (i11 ≥ (↑n13 : Int)))
    (T.st n6 0 (Value.bool false) (T.run (Instr.endRound n8 (some Code.ret)) fun v15 => T.next 0 [v15] True))
    (T.ldS n5 0 fun o16 n17 n18 =>
    T.ldI IntKind.i64 n7 0 fun i19 =>
    T.req (0 ≤ i19 ∧ i19 < (↑n17 : Int))
    (T.sm o16 fun n20 n21 =>
    T.ldI IntKind.i64 n20 (n21 + Int.toNat i19 * 1) fun i22 =>
    T.ite (i10 != i22) (T.st n6 0 (Value.bool false) (T.run (Instr.endRound n8 (some Code.ret)) fun v23 => T.next 0 [v23] True))
    (T.ldI IntKind.i64 n7 0 fun i24 =>
    T.st n7 0 (Value.int IntKind.i64 (IntKind.wrap IntKind.i64 (i24 + 1)))
    (T.run (Instr.endRound n8 none) fun v25 => T.next 0 [v25] True)))))))
    (fun n26 =>
    T.ldI IntKind.i64 n7 0 fun i27 =>
    T.ldS n5 0 fun o28 n29 n30 => T.st n6 0 (Value.bool (i27 == (↑n29 : Int))) (T.col n26 (T.ldB n6 0 fun b31 => T.ret (Value.bool b31))))
    (fun n32 => T.col n32 (T.ldB n6 0 fun b33 => T.ret (Value.bool b33))) [])
theorem e16 (n0 n1 : Nat) (o2 : Option Addr) (n3 n4 : Nat) : treeOf Try.prog Try.f16 (codeOf Try.f16) (.s .n (.s .n (.s (.s .n (.u (.f [.int .i64] .n .n))) .n))) [.v (.func (.func 25) #[] #[.pointer (some ⟨n0, n1, none⟩)]), .v (.slice o2 n3 n4)] = (t16 n0 n1 o2 n3 n4) := by kernel_rfl
theorem c16 (n0 n1 : Nat) (o2 : Option Addr) (n3 n4 : Nat) {w : World} {R : Ending → World → Prop} (h : (t16 n0 n1 o2 n3 n4).sem Try.prog R ρ0 w) : Calls Try.prog 16 #[.func (.func 25) #[] #[.pointer (some ⟨n0, n1, none⟩)], .slice o2 n3 n4] w R :=
  calls_of mixed Try.func16 rfl rfl (e16 n0 n1 o2 n3 n4) h
def t45 (i0 : Int) : T :=
  T.ret (Value.bool (i0 != i0))
theorem e45 (i0 : Int) : treeOf Try.prog Try.f45 (codeOf Try.f45) .n [.v (.int .i64 i0)] = (t45 i0) := by kernel_rfl
theorem c45 (i0 : Int) {w : World} {R : Ending → World → Prop} (h : (t45 i0).sem Try.prog R ρ0 w) : Calls Try.prog 45 #[.int .i64 i0] w R :=
  calls_of mixed Try.func45 rfl rfl (e45 i0) h
end Go.Proofs.Ytfgfabjbebdnjaa
