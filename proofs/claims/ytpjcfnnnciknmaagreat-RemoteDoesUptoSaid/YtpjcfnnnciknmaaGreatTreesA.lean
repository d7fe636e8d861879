/- The functions' trees, printed by a program (wip/tools/Emit.lean) and checked by the kernel against the model's own code. -/
import Derived.Test.YtpjcfnnnciknmaaGreatTreesS
import Derived.Test.YtpjcfnnnciknmaaGreatProg
namespace Go.Proofs.YtpjcfnnnciknmaaGreat
open Go hiding Expr
open Go.Proofs.YtpjcfnnnciknmaaGreat.Tr
set_option linter.unusedVariables false
set_option maxRecDepth 100000
def t4 (i0 : Int) : T :=
  T.blk 0
  (fun l1 j2 =>
    T.new (Obj.map (Array.mk []) 0) fun n3 =>
    T.new (Obj.map (Array.mk []) 0) fun n4 =>
    T.new (Obj.cells (Array.mk [Value.int IntKind.i64 i0, Value.map (some n3), Value.map (some n4)]) 44) fun n5 =>
    T.ret (Value.tuple (Array.mk [Value.pointer (some (Addr.mk n5 0 none)), Value.int IntKind.i64 0])))
  (T.ite (decide (i0 < 1)) (T.ret (Value.tuple (Array.mk [Value.pointer none, Value.int IntKind.i64 1])))
    (T.ite (decide (i0 > 8)) (T.ret (Value.tuple (Array.mk [Value.pointer none, Value.int IntKind.i64 1])))
    (T.next 0 [] ([Value.int IntKind.i64 i0] = [Value.int IntKind.i64 i0] ∧ ([] : List Deferred) = []))))
theorem e4 (i0 : Int) : treeOf Tryz.prog Tryz.f4 (codeOf Tryz.f4) (.s .n (.c [] [0] .n .n)) [.v (.int .i64 i0)] = (t4 i0) := by kernel_rfl
theorem c4 (i0 : Int) {w : World} {R : Ending → World → Prop} (h : (t4 i0).sem Tryz.prog R ρ0 w) : Calls Tryz.prog 4 #[.int .i64 i0] w R :=
  calls_of mixed Tryz.func4 rfl rfl (e4 i0) h
def t6  : T :=
  T.call 4 [Value.int IntKind.i64 3] fun v0 =>
  T.asU v0 fun l1 =>
    T.req (List.length l1 = 2)
    (T.asP (List.headD l1 (Value.tuple (Array.mk []))) fun o2 =>
    T.asI IntKind.i64 (List.headD (List.tail l1) (Value.tuple (Array.mk []))) fun i3 =>
    T.new (Obj.cells (Array.mk [Value.int IntKind.i64 0, Value.int IntKind.i64 0]) 32) fun n4 =>
    T.st n4 0 (Value.int IntKind.i64 7)
    (T.st n4 1 (Value.int IntKind.i64 0)
    (T.blk 0
    (fun l5 j6 =>
    T.ldI IntKind.i64 n4 0 fun i7 =>
    T.ldI IntKind.i64 n4 1 fun i8 =>
    T.new (Obj.cells (Array.mk [Value.int IntKind.i32 0, Value.int IntKind.i64 1, Value.int IntKind.i64 5]) 53) fun n9 =>
    T.call 9
    [Value.pointer o2, Value.agg (Array.mk [Value.int IntKind.i64 i7, Value.int IntKind.i64 i8]), Value.int IntKind.i64 1,
    Value.slice (some (Addr.mk n9 0 none)) 1 1]
    fun v10 =>
    T.asU v10 fun l11 =>
    T.req (List.length l11 = 2)
    (T.asB (List.headD l11 (Value.tuple (Array.mk []))) fun b12 =>
    T.asI IntKind.i64 (List.headD (List.tail l11) (Value.tuple (Array.mk []))) fun i13 =>
    T.ldI IntKind.i64 n4 0 fun i14 =>
    T.ldI IntKind.i64 n4 1 fun i15 =>
    T.new (Obj.cells (Array.mk [Value.int IntKind.i64 1, Value.int IntKind.i64 2]) 3) fun n16 =>
    T.call 10
    [Value.pointer o2, Value.agg (Array.mk [Value.int IntKind.i64 i14, Value.int IntKind.i64 i15]),
    Value.slice (some (Addr.mk n16 0 none)) 2 2]
    fun v17 =>
    T.asI IntKind.i64 v17 fun i18 =>
    T.ldI IntKind.i64 n4 0 fun i19 =>
    T.ldI IntKind.i64 n4 1 fun i20 =>
    T.call 9
    [Value.pointer o2, Value.agg (Array.mk [Value.int IntKind.i64 i19, Value.int IntKind.i64 i20]),
    Value.int IntKind.i64 2, Value.slice none 0 0]
    fun v21 =>
    T.asU v21 fun l22 =>
    T.req (List.length l22 = 2)
    (T.asB (List.headD l22 (Value.tuple (Array.mk []))) fun b23 =>
    T.asI IntKind.i64 (List.headD (List.tail l22) (Value.tuple (Array.mk []))) fun i24 =>
    T.ldI IntKind.i64 n4 0 fun i25 =>
    T.ldI IntKind.i64 n4 1 fun i26 =>
    T.call 11
    [Value.pointer o2,
    Value.agg (Array.mk [Value.int IntKind.i64 i25, Value.int IntKind.i64 i26])]
    fun v27 =>
    T.asU v27 fun l28 =>
    T.req (List.length l28 = 2)
    (T.asS (List.headD l28 (Value.tuple (Array.mk []))) fun o29 n30 n31 =>
    T.asI IntKind.i64 (List.headD (List.tail l28) (Value.tuple (Array.mk []))) fun i32 =>
    T.ite (!b12)
    (T.ite (i13 == 0)
    (T.ite (i18 == 0)
    (T.ite b23
    (T.ite (i24 == 0)
    (T.ite (i32 == 0)
    (T.ite ((↑n30 : Int) == 1)
    (T.req ((0 : Int) ≤ 0 ∧ (0 : Int) < (↑n30 : Int))
    (T.sm o29 fun n33 n34 =>
    T.ldI IntKind.i64 n33 (n34 + 2) fun i35 =>
    T.ret (Value.bool (i35 == 5))))
    (T.ret (Value.bool false)))
    (T.ret (Value.bool false)))
    (T.ret (Value.bool false)))
    (T.ret (Value.bool false)))
    (T.ret (Value.bool false)))
    (T.ret (Value.bool false)))
    (T.ret (Value.bool false))))))
    (T.ite (Option.isNone o2) (T.ret (Value.bool false))
    (T.ite (i3 != 0) (T.ret (Value.bool false))
    (T.next 0 []
    ([Value.pointer o2, Value.pointer (some (Addr.mk n4 0 none))] = [Value.pointer o2, Value.pointer (some (Addr.mk n4 0 none))] ∧ ([] : List Deferred) = [])))))))
theorem e6  : treeOf Tryz.prog Tryz.f6 (codeOf Tryz.f6) (.s .n (.s .n (.s .n (.c [] [1, 3] .n .n)))) [] = t6 := by kernel_rfl
theorem c6  {w : World} {R : Ending → World → Prop} (h : t6.sem Tryz.prog R ρ0 w) : Calls Tryz.prog 6 #[] w R :=
  calls_of mixed Tryz.func6 rfl rfl (e6 ) h
def t9 (n0 n1 : Nat) (i2 : Int) (i3 : Int) (i4 : Int) (o5 : Option Addr) (n6 n7 : Nat) : T :=
  T.new (Obj.cells (Array.mk [Value.int IntKind.i64 i2, Value.int IntKind.i64 i3]) 32) fun n8 =>
  T.call 27 [Value.pointer (some (Addr.mk n0 n1 none))] fun v9 =>
    T.asB v9 fun b10 =>
    T.ite b10 (T.ret (Value.tuple (Array.mk [Value.bool false, Value.int IntKind.i64 2])))
    (T.call 28 [Value.pointer (some (Addr.mk n0 n1 none)), Value.int IntKind.i64 i4] fun v11 =>
    T.asB v11 fun b12 =>
    T.ite (!b12) (T.ret (Value.tuple (Array.mk [Value.bool false, Value.int IntKind.i64 1])))
    (T.drew
    (T.ldI IntKind.i64 n8 0 fun i13 =>
    T.ldI IntKind.i64 n8 1 fun i14 =>
    T.both
    (T.call 29 [Value.slice o5 n6 n7] fun v15 =>
    T.asS v15 fun o16 n17 n18 =>
    T.chk [(Addr.mk n8 0 none, Value.int IntKind.i64 i13), (Addr.mk n8 1 none, Value.int IntKind.i64 i14)]
    (T.new (Obj.cells (Array.mk [Value.int IntKind.i64 0, Value.int IntKind.i64 0, Value.int IntKind.i64 0]) 72) fun n19 =>
    T.chk [(Addr.mk n8 0 none, Value.int IntKind.i64 i13), (Addr.mk n8 1 none, Value.int IntKind.i64 i14)]
    (T.st n19 0 (Value.int IntKind.i64 i13)
    (T.st n19 1 (Value.int IntKind.i64 i14)
    (T.st n19 2 (Value.int IntKind.i64 i4)
    (T.chk []
    (T.blk 0
    (fun l20 j21 =>
    T.drew
    (T.ldM n0 (n1 + 2) fun o22 =>
    T.ldI IntKind.i64 n19 0 fun i23 =>
    T.ldI IntKind.i64 n19 1 fun i24 =>
    T.ldI IntKind.i64 n19 2 fun i25 =>
    T.run
    (muV 42 (Value.map o22)
    (Value.agg
    (Array.mk [Value.int IntKind.i64 i23, Value.int IntKind.i64 i24, Value.int IntKind.i64 i25]))
    (Value.slice o16 n17 n18))
    fun v26 =>
    T.chk []
    (T.ldI IntKind.i64 n8 0 fun i27 =>
    T.ldI IntKind.i64 n8 1 fun i28 =>
    T.call 20
    [Value.pointer (some (Addr.mk n0 n1 none)),
    Value.agg (Array.mk [Value.int IntKind.i64 i27, Value.int IntKind.i64 i28])]
    fun v29 =>
    T.asB v29 fun b30 => T.ret (Value.tuple (Array.mk [Value.bool b30, Value.int IntKind.i64 0])))))
    (T.drew
    (T.ldM n0 (n1 + 2) fun o31 =>
    T.ldI IntKind.i64 n19 0 fun i32 =>
    T.ldI IntKind.i64 n19 1 fun i33 =>
    T.ldI IntKind.i64 n19 2 fun i34 =>
    T.run
    (Instr.lookup 42 (Value.map o31)
    (Value.agg (Array.mk [Value.int IntKind.i64 i32, Value.int IntKind.i64 i33, Value.int IntKind.i64 i34]))
    true)
    fun v35 =>
    T.asU v35 fun l36 =>
    T.req (List.length l36 = 2)
    (T.asS (List.headD l36 (Value.tuple (Array.mk []))) fun o37 n38 n39 =>
    T.asB (List.headD (List.tail l36) (Value.tuple (Array.mk []))) fun b40 =>
    T.chk []
    (T.ite b40
    (T.call 19 [Value.slice o37 n38 n39, Value.slice o16 n17 n18] fun v41 =>
    T.asB v41 fun b42 =>
    T.ite (!b42)
    (T.ret (Value.tuple (Array.mk [Value.bool false, Value.int IntKind.i64 180])))
    (T.next 0 []
    ([Value.pointer (some (Addr.mk n0 n1 none)), Value.pointer (some (Addr.mk n8 0 none)),
    Value.pointer (some (Addr.mk n19 0 none)), Value.slice o16 n17 n18] =
    [Value.pointer (some (Addr.mk n0 n1 none)),
    Value.pointer (some (Addr.mk n8 0 none)),
    Value.pointer (some (Addr.mk n19 0 none)), Value.slice o16 n17 n18] ∧ ([] : List Deferred) = [])))
    (T.next 0 []
    ([Value.pointer (some (Addr.mk n0 n1 none)), Value.pointer (some (Addr.mk n8 0 none)),
    Value.pointer (some (Addr.mk n19 0 none)), Value.slice o16 n17 n18] =
    [Value.pointer (some (Addr.mk n0 n1 none)), Value.pointer (some (Addr.mk n8 0 none)),
    Value.pointer (some (Addr.mk n19 0 none)), Value.slice o16 n17 n18] ∧ ([] : List Deferred) = [])))))))))))))
    (T.new (Obj.cells (Array.mk [Value.int IntKind.i64 0, Value.int IntKind.i64 0, Value.int IntKind.i64 0]) 72) fun n43 =>
    T.chk [(Addr.mk n8 0 none, Value.int IntKind.i64 i13), (Addr.mk n8 1 none, Value.int IntKind.i64 i14)]
    (T.call 29 [Value.slice o5 n6 n7] fun v44 =>
    T.asS v44 fun o45 n46 n47 =>
    T.chk [(Addr.mk n8 0 none, Value.int IntKind.i64 i13), (Addr.mk n8 1 none, Value.int IntKind.i64 i14)]
    (T.st n43 0 (Value.int IntKind.i64 i13)
    (T.st n43 1 (Value.int IntKind.i64 i14)
    (T.st n43 2 (Value.int IntKind.i64 i4)
    (T.chk []
    (T.blk 0
    (fun l48 j49 =>
    T.drew
    (T.ldM n0 (n1 + 2) fun o50 =>
    T.ldI IntKind.i64 n43 0 fun i51 =>
    T.ldI IntKind.i64 n43 1 fun i52 =>
    T.ldI IntKind.i64 n43 2 fun i53 =>
    T.run
    (muV 42 (Value.map o50)
    (Value.agg
    (Array.mk [Value.int IntKind.i64 i51, Value.int IntKind.i64 i52, Value.int IntKind.i64 i53]))
    (Value.slice o45 n46 n47))
    fun v54 =>
    T.chk []
    (T.ldI IntKind.i64 n8 0 fun i55 =>
    T.ldI IntKind.i64 n8 1 fun i56 =>
    T.call 20
    [Value.pointer (some (Addr.mk n0 n1 none)),
    Value.agg (Array.mk [Value.int IntKind.i64 i55, Value.int IntKind.i64 i56])]
    fun v57 =>
    T.asB v57 fun b58 => T.ret (Value.tuple (Array.mk [Value.bool b58, Value.int IntKind.i64 0])))))
    (T.drew
    (T.ldM n0 (n1 + 2) fun o59 =>
    T.ldI IntKind.i64 n43 0 fun i60 =>
    T.ldI IntKind.i64 n43 1 fun i61 =>
    T.ldI IntKind.i64 n43 2 fun i62 =>
    T.run
    (Instr.lookup 42 (Value.map o59)
    (Value.agg (Array.mk [Value.int IntKind.i64 i60, Value.int IntKind.i64 i61, Value.int IntKind.i64 i62]))
    true)
    fun v63 =>
    T.asU v63 fun l64 =>
    T.req (List.length l64 = 2)
    (T.asS (List.headD l64 (Value.tuple (Array.mk []))) fun o65 n66 n67 =>
    T.asB (List.headD (List.tail l64) (Value.tuple (Array.mk []))) fun b68 =>
    T.chk []
    (T.ite b68
    (T.call 19 [Value.slice o65 n66 n67, Value.slice o45 n46 n47] fun v69 =>
    T.asB v69 fun b70 =>
    T.ite (!b70)
    (T.ret (Value.tuple (Array.mk [Value.bool false, Value.int IntKind.i64 180])))
    (T.next 0 []
    ([Value.pointer (some (Addr.mk n0 n1 none)), Value.pointer (some (Addr.mk n8 0 none)),
    Value.pointer (some (Addr.mk n43 0 none)), Value.slice o45 n46 n47] =
    [Value.pointer (some (Addr.mk n0 n1 none)),
    Value.pointer (some (Addr.mk n8 0 none)),
    Value.pointer (some (Addr.mk n43 0 none)), Value.slice o45 n46 n47] ∧ ([] : List Deferred) = [])))
    (T.next 0 []
    ([Value.pointer (some (Addr.mk n0 n1 none)), Value.pointer (some (Addr.mk n8 0 none)),
    Value.pointer (some (Addr.mk n43 0 none)), Value.slice o45 n46 n47] =
    [Value.pointer (some (Addr.mk n0 n1 none)), Value.pointer (some (Addr.mk n8 0 none)),
    Value.pointer (some (Addr.mk n43 0 none)), Value.slice o45 n46 n47] ∧ ([] : List Deferred) = []))))))))))))))))
theorem e9 (n0 n1 : Nat) (i2 : Int) (i3 : Int) (i4 : Int) (o5 : Option Addr) (n6 n7 : Nat) : treeOf Tryz.prog Tryz.f9 (codeOf Tryz.f9) (.s .n (.s .n (.s .n (.s (.p [0, 1, 2, 3, 4, 5, 6, 7]) (.c [] [0, 5, 10, 11] (.s (.p [0, 1, 2, 3, 4, 5, 6, 7, 8, 9, 10]) .n) (.s (.p [0, 1, 2, 3, 4, 5, 6]) .n)))))) [.p n0 n1, .v (.agg #[.int .i64 i2, .int .i64 i3]), .v (.int .i64 i4), .v (.slice o5 n6 n7)] = (t9 n0 n1 i2 i3 i4 o5 n6 n7) := by kernel_rfl
theorem c9 (n0 n1 : Nat) (i2 : Int) (i3 : Int) (i4 : Int) (o5 : Option Addr) (n6 n7 : Nat) {w : World} {R : Ending → World → Prop} (h : (t9 n0 n1 i2 i3 i4 o5 n6 n7).sem Tryz.prog R ρ0 w) : Calls Tryz.prog 9 #[.pointer (some ⟨n0, n1, none⟩), .agg #[.int .i64 i2, .int .i64 i3], .int .i64 i4, .slice o5 n6 n7] w R :=
  calls_of mixed Tryz.func9 rfl rfl (e9 n0 n1 i2 i3 i4 o5 n6 n7) h
def t37 (o0 : Option Addr) (n1 n2 : Nat) (o3 : Option Addr) (n4 n5 : Nat) : T :=
  T.ite ((↑n1 : Int) != (↑n4 : Int)) (T.ret (Value.bool false))
  (T.loop 0 [Value.int IntKind.i64 0] fun l6 j7 =>
    T.asI IntKind.i64 (List.headD l6 (Value.tuple (Array.mk []))) fun i8 =>
    T.ite (decide (i8 < (↑n1 : Int)))
    (T.drew
    (T.req (0 ≤ i8 ∧ i8 < (↑n1 : Int))
    (T.sm o0 fun n9 n10 =>
    T.ldI IntKind.i32 n9 (n10 + Int.toNat i8 * 3) fun i11 =>
    T.ldI IntKind.i64 n9 (n10 + Int.toNat i8 * 3 + 1) fun i12 =>
    T.ldI IntKind.i64 n9 (n10 + Int.toNat i8 * 3 + 2) fun i13 =>
    T.req (0 ≤ i8 ∧ i8 < (↑n4 : Int))
    (T.sm o3 fun n14 n15 =>
    T.ldI IntKind.i32 n14 (n15 + Int.toNat i8 * 3) fun i16 =>
    T.ldI IntKind.i64 n14 (n15 + Int.toNat i8 * 3 + 1) fun i17 =>
    T.ldI IntKind.i64 n14 (n15 + Int.toNat i8 * 3 + 2) fun i18 =>
    T.ite (!(i11 == i16 && (i12 == i17 && true) && (i13 == i18 && true))) (T.ret (Value.bool false))
    (T.next 0 [Value.int IntKind.i64 (IntKind.wrap IntKind.i64 (i8 + 1))]
    ([Value.slice o0 n1 n2, Value.slice o3 n4 n5] = [Value.slice o0 n1 n2, Value.slice o3 n4 n5] ∧ ([] : List Deferred) = []))))))
    (T.ret (Value.bool true)))
theorem e37 (o0 : Option Addr) (n1 n2 : Nat) (o3 : Option Addr) (n4 n5 : Nat) : treeOf Tryz.prog Tryz.f37 (codeOf Tryz.f37) (.s .n (.s .n (.s (.s .n (.u (.l [(5, .int .i64)] [0, 1] (.s .n (.s (.u (.s (.p [0, 1, 2, 3, 4, 5, 6, 7, 8]) .n)) .n))))) .n))) [.v (.slice o0 n1 n2), .v (.slice o3 n4 n5)] = (t37 o0 n1 n2 o3 n4 n5) := by kernel_rfl
theorem c37 (o0 : Option Addr) (n1 n2 : Nat) (o3 : Option Addr) (n4 n5 : Nat) {w : World} {R : Ending → World → Prop} (h : (t37 o0 n1 n2 o3 n4 n5).sem Tryz.prog R ρ0 w) : Calls Tryz.prog 37 #[.slice o0 n1 n2, .slice o3 n4 n5] w R :=
  calls_of mixed Tryz.func37 rfl rfl (e37 o0 n1 n2 o3 n4 n5) h
def t36 (o0 : Option Addr) (n1 n2 : Nat) : T :=
  T.loop 0 [Value.slice none 0 0, Value.int IntKind.i64 0] fun l3 j4 =>
  T.asS (List.headD l3 (Value.tuple (Array.mk []))) fun o5 n6 n7 =>
    T.asI IntKind.i64 (List.headD (List.tail l3) (Value.tuple (Array.mk []))) fun i8 =>
    T.ite (decide (i8 < (↑n1 : Int)))
    (T.blk 1
    (fun l9 j10 =>
    T.asI IntKind.i64 (List.headD l9 (Value.tuple (Array.mk []))) fun i11 =>
    T.drew
    (T.req (0 ≤ i11 ∧ i11 ≤ (↑n7 : Int))
    (T.req (0 ≤ i8 ∧ i8 < (↑n1 : Int))
    (T.sm o0 fun n12 n13 =>
    T.ldI IntKind.i32 n12 (n13 + Int.toNat i8 * 3) fun i14 =>
    T.ldI IntKind.i64 n12 (n13 + Int.toNat i8 * 3 + 1) fun i15 =>
    T.ldI IntKind.i64 n12 (n13 + Int.toNat i8 * 3 + 2) fun i16 =>
    T.both
    (T.run
    (biV Builtin.append (Array.mk [34, 34]) 34
    (Array.mk [Value.slice none 0 0, Value.slice (sliceBase o5 0 n7 3) (Int.toNat i11) n7]))
    fun v17 =>
    T.asS v17 fun o18 n19 n20 =>
    T.chk
    [(Addr.mk n12 (n13 + Int.toNat i8 * 3) none, Value.int IntKind.i32 i14),
    (Addr.mk n12 (n13 + Int.toNat i8 * 3 + 1) none, Value.int IntKind.i64 i15),
    (Addr.mk n12 (n13 + Int.toNat i8 * 3 + 2) none, Value.int IntKind.i64 i16)]
    (T.new (Obj.cells (Array.mk [Value.int IntKind.i32 i14, Value.int IntKind.i64 i15, Value.int IntKind.i64 i16]) 53)
    fun n21 =>
    T.chk []
    (T.run
    (biV Builtin.append (Array.mk [34, 34]) 34
    (Array.mk [Value.slice o18 n19 n20, Value.slice (some (Addr.mk n21 0 none)) 1 1]))
    fun v22 =>
    T.asS v22 fun o23 n24 n25 =>
    T.chk []
    (T.blk 1
    (fun l26 j27 =>
    T.asI IntKind.i64 (List.headD l26 (Value.tuple (Array.mk []))) fun i28 =>
    T.req (0 ≤ i28 ∧ i28 ≤ (↑n6 : Int))
    (T.run
    (biV Builtin.append (Array.mk [34, 34]) 34
    (Array.mk
    [Value.slice o23 n24 n25,
    Value.slice (sliceBase o5 (Int.toNat i28) n7 3) (n6 - Int.toNat i28) (n7 - Int.toNat i28)]))
    fun v29 =>
    T.asS v29 fun o30 n31 n32 =>
    T.next 0 [Value.slice o30 n31 n32, Value.int IntKind.i64 (IntKind.wrap IntKind.i64 (i8 + 1))]
    ([Value.slice o0 n1 n2] = [Value.slice o0 n1 n2] ∧ ([] : List Deferred) = [])))
    (T.drew
    (T.ite (decide (i11 < (↑n6 : Int)))
    (T.req (0 ≤ i11 ∧ i11 < (↑n6 : Int))
    (T.sm o5 fun n33 n34 =>
    T.ldI IntKind.i32 n33 (n34 + Int.toNat i11 * 3) fun i35 =>
    T.ldI IntKind.i64 n33 (n34 + Int.toNat i11 * 3 + 1) fun i36 =>
    T.req (0 ≤ i8 ∧ i8 < (↑n1 : Int))
    (T.sm o0 fun n37 n38 =>
    T.ldI IntKind.i32 n37 (n38 + Int.toNat i8 * 3) fun i39 =>
    T.ldI IntKind.i64 n37 (n38 + Int.toNat i8 * 3 + 1) fun i40 =>
    T.ite (i35 == i39 && (i36 == i40 && true))
    (T.next 1 [Value.int IntKind.i64 (IntKind.wrap IntKind.i64 (i11 + 1))]
    ([Value.slice o0 n1 n2, Value.slice o5 n6 n7, Value.int IntKind.i64 i8,
    Value.slice o23 n24 n25] =
    [Value.slice o0 n1 n2, Value.slice o5 n6 n7, Value.int IntKind.i64 i8,
    Value.slice o23 n24 n25] ∧ ([] : List Deferred) = []))
    (T.next 1 [Value.int IntKind.i64 i11]
    ([Value.slice o0 n1 n2, Value.slice o5 n6 n7, Value.int IntKind.i64 i8,
    Value.slice o23 n24 n25] =
    [Value.slice o0 n1 n2, Value.slice o5 n6 n7, Value.int IntKind.i64 i8,
    Value.slice o23 n24 n25] ∧ ([] : List Deferred) = [])))))
    (T.next 1 [Value.int IntKind.i64 i11]
    ([Value.slice o0 n1 n2, Value.slice o5 n6 n7, Value.int IntKind.i64 i8, Value.slice o23 n24 n25] =
    [Value.slice o0 n1 n2, Value.slice o5 n6 n7, Value.int IntKind.i64 i8, Value.slice o23 n24 n25] ∧ ([] : List Deferred) = []))))))))
    (T.new (Obj.cells (Array.mk [Value.int IntKind.i32 i14, Value.int IntKind.i64 i15, Value.int IntKind.i64 i16]) 53) fun n41 =>
    T.chk []
    (T.run
    (biV Builtin.append (Array.mk [34, 34]) 34
    (Array.mk [Value.slice none 0 0, Value.slice (sliceBase o5 0 n7 3) (Int.toNat i11) n7]))
    fun v42 =>
    T.asS v42 fun o43 n44 n45 =>
    T.chk []
    (T.run
    (biV Builtin.append (Array.mk [34, 34]) 34
    (Array.mk [Value.slice o43 n44 n45, Value.slice (some (Addr.mk n41 0 none)) 1 1]))
    fun v46 =>
    T.asS v46 fun o47 n48 n49 =>
    T.chk []
    (T.blk 1
    (fun l50 j51 =>
    T.asI IntKind.i64 (List.headD l50 (Value.tuple (Array.mk []))) fun i52 =>
    T.req (0 ≤ i52 ∧ i52 ≤ (↑n6 : Int))
    (T.run
    (biV Builtin.append (Array.mk [34, 34]) 34
    (Array.mk
    [Value.slice o47 n48 n49,
    Value.slice (sliceBase o5 (Int.toNat i52) n7 3) (n6 - Int.toNat i52) (n7 - Int.toNat i52)]))
    fun v53 =>
    T.asS v53 fun o54 n55 n56 =>
    T.next 0 [Value.slice o54 n55 n56, Value.int IntKind.i64 (IntKind.wrap IntKind.i64 (i8 + 1))]
    ([Value.slice o0 n1 n2] = [Value.slice o0 n1 n2] ∧ ([] : List Deferred) = [])))
    (T.drew
    (T.ite (decide (i11 < (↑n6 : Int)))
    (T.req (0 ≤ i11 ∧ i11 < (↑n6 : Int))
    (T.sm o5 fun n57 n58 =>
    T.ldI IntKind.i32 n57 (n58 + Int.toNat i11 * 3) fun i59 =>
    T.ldI IntKind.i64 n57 (n58 + Int.toNat i11 * 3 + 1) fun i60 =>
    T.req (0 ≤ i8 ∧ i8 < (↑n1 : Int))
    (T.sm o0 fun n61 n62 =>
    T.ldI IntKind.i32 n61 (n62 + Int.toNat i8 * 3) fun i63 =>
    T.ldI IntKind.i64 n61 (n62 + Int.toNat i8 * 3 + 1) fun i64 =>
    T.ite (i59 == i63 && (i60 == i64 && true))
    (T.next 1 [Value.int IntKind.i64 (IntKind.wrap IntKind.i64 (i11 + 1))]
    ([Value.slice o0 n1 n2, Value.slice o5 n6 n7, Value.int IntKind.i64 i8,
    Value.slice o47 n48 n49] =
    [Value.slice o0 n1 n2, Value.slice o5 n6 n7, Value.int IntKind.i64 i8,
    Value.slice o47 n48 n49] ∧ ([] : List Deferred) = []))
    (T.next 1 [Value.int IntKind.i64 i11]
    ([Value.slice o0 n1 n2, Value.slice o5 n6 n7, Value.int IntKind.i64 i8,
    Value.slice o47 n48 n49] =
    [Value.slice o0 n1 n2, Value.slice o5 n6 n7, Value.int IntKind.i64 i8,
    Value.slice o47 n48 n49] ∧ ([] : List Deferred) = [])))))
    (T.next 1 [Value.int IntKind.i64 i11]
    ([Value.slice o0 n1 n2, Value.slice o5 n6 n7, Value.int IntKind.i64 i8, Value.slice o47 n48 n49] =
    [Value.slice o0 n1 n2, Value.slice o5 n6 n7, Value.int IntKind.i64 i8, Value.slice o47 n48 n49] ∧ ([] : List Deferred) = []))))))))))))
    (T.loop 2 [Value.int IntKind.i64 0] fun l65 j66 =>
    T.asI IntKind.i64 (List.headD l65 (Value.tuple (Array.mk []))) fun i67 =>
    T.drew
    (T.ite (decide (i67 < (↑n6 : Int)))
    (T.req (0 ≤ i67 ∧ i67 < (↑n6 : Int))
    (T.sm o5 fun n68 n69 =>
    T.ldI IntKind.i32 n68 (n69 + Int.toNat i67 * 3) fun i70 =>
    T.ldI IntKind.i64 n68 (n69 + Int.toNat i67 * 3 + 1) fun i71 =>
    T.req (0 ≤ i8 ∧ i8 < (↑n1 : Int))
    (T.sm o0 fun n72 n73 =>
    T.ldI IntKind.i32 n72 (n73 + Int.toNat i8 * 3) fun i74 =>
    T.ldI IntKind.i64 n72 (n73 + Int.toNat i8 * 3 + 1) fun i75 =>
    T.call 53
    [Value.agg (Array.mk [Value.int IntKind.i32 i70, Value.int IntKind.i64 i71]),
    Value.agg (Array.mk [Value.int IntKind.i32 i74, Value.int IntKind.i64 i75])]
    fun v76 =>
    T.asI IntKind.i64 v76 fun i77 =>
    T.chk []
    (T.ite (decide (i77 < 0))
    (T.next 2 [Value.int IntKind.i64 (IntKind.wrap IntKind.i64 (i67 + 1))]
    ([Value.slice o0 n1 n2, Value.slice o5 n6 n7, Value.int IntKind.i64 i8] =
    [Value.slice o0 n1 n2, Value.slice o5 n6 n7, Value.int IntKind.i64 i8] ∧ ([] : List Deferred) = []))
    (T.next 1 [Value.int IntKind.i64 i67]
    ([Value.slice o0 n1 n2, Value.slice o5 n6 n7, Value.int IntKind.i64 i8] =
    [Value.slice o0 n1 n2, Value.slice o5 n6 n7, Value.int IntKind.i64 i8] ∧ ([] : List Deferred) = []))))))
    (T.chk []
    (T.next 1 [Value.int IntKind.i64 i67]
    ([Value.slice o0 n1 n2, Value.slice o5 n6 n7, Value.int IntKind.i64 i8] =
    [Value.slice o0 n1 n2, Value.slice o5 n6 n7, Value.int IntKind.i64 i8] ∧ ([] : List Deferred) = []))))))
    (T.ret (Value.slice o5 n6 n7))
theorem e36 (o0 : Option Addr) (n1 n2 : Nat) : treeOf Tryz.prog Tryz.f36 (codeOf Tryz.f36) (.s .n (.s .n (.s (.s .n (.u (.l [(3, .slice), (4, .int .i64)] [0] (.s .n (.s (.u (.s .n (.c [(5, .int .i64)] [0, 3, 4] (.u (.l [(5, .int .i64)] [0, 3, 4] (.s (.s (.p [0, 1, 2, 3, 4, 5, 6, 7, 8, 9, 10, 11, 12, 13, 14, 15, 16, 17]) .n) .n))) (.s .n (.s (.p [0, 1, 2, 3, 5, 6, 7, 8, 4, 9, 10, 11]) (.c [(5, .int .i64)] [0, 3, 4, 6] (.s (.p [0, 1, 2, 3, 4, 5, 6, 7, 8, 9, 10, 11, 12, 13, 14, 15, 16]) .n) .n)))))) .n))))) .n))) [.v (.slice o0 n1 n2)] = (t36 o0 n1 n2) := by kernel_rfl
theorem c36 (o0 : Option Addr) (n1 n2 : Nat) {w : World} {R : Ending → World → Prop} (h : (t36 o0 n1 n2).sem Tryz.prog R ρ0 w) : Calls Tryz.prog 36 #[.slice o0 n1 n2] w R :=
  calls_of mixed Tryz.func36 rfl rfl (e36 o0 n1 n2) h
def t10 (n0 n1 : Nat) (i2 : Int) (i3 : Int) (o4 : Option Addr) (n5 n6 : Nat) : T :=
  T.new (Obj.cells (Array.mk [Value.int IntKind.i64 i2, Value.int IntKind.i64 i3]) 32) fun n7 =>
  T.call 27 [Value.pointer (some (Addr.mk n0 n1 none))] fun v8 =>
    T.asB v8 fun b9 =>
    T.ite b9 (T.ret (Value.int IntKind.i64 2))
    (T.loop 0 [Value.int IntKind.i64 0] fun l10 j11 =>
    T.asI IntKind.i64 (List.headD l10 (Value.tuple (Array.mk []))) fun i12 =>
    T.ite (decide (i12 < (↑n5 : Int)))
    (T.req (0 ≤ i12 ∧ i12 < (↑n5 : Int))
    (T.sm o4 fun n13 n14 =>
    T.ldI IntKind.i64 n13 (n14 + Int.toNat i12 * 1) fun i15 =>
    T.call 28 [Value.pointer (some (Addr.mk n0 n1 none)), Value.int IntKind.i64 i15] fun v16 =>
    T.asB v16 fun b17 =>
    T.ite (!b17) (T.ret (Value.int IntKind.i64 1))
    (T.next 0 [Value.int IntKind.i64 (IntKind.wrap IntKind.i64 (i12 + 1))]
    ([Value.pointer (some (Addr.mk n0 n1 none)), Value.slice o4 n5 n6, Value.pointer (some (Addr.mk n7 0 none)), Value.slice o4 n5 n6,
    Value.int IntKind.i64 (↑n5 : Int)] =
    [Value.pointer (some (Addr.mk n0 n1 none)), Value.slice o4 n5 n6, Value.pointer (some (Addr.mk n7 0 none)),
    Value.slice o4 n5 n6, Value.int IntKind.i64 (↑n5 : Int)] ∧ ([] : List Deferred) = []))))
    (T.drew
    (T.ldM n0 (n1 + 1) fun o18 =>
    T.ldI IntKind.i64 n7 0 fun i19 =>
    T.ldI IntKind.i64 n7 1 fun i20 =>
    T.run (Instr.lookup 41 (Value.map o18) (Value.agg (Array.mk [Value.int IntKind.i64 i19, Value.int IntKind.i64 i20])) true) fun v21 =>
    T.asU v21 fun l22 =>
    T.req (List.length l22 = 2)
    (T.asS (List.headD l22 (Value.tuple (Array.mk []))) fun o23 n24 n25 =>
    T.asB (List.headD (List.tail l22) (Value.tuple (Array.mk []))) fun b26 =>
    T.chk []
    (T.ite b26 (T.ret (Value.int IntKind.i64 5))
    (T.call 30 [Value.slice o4 n5 n6] fun v27 =>
    T.asS v27 fun o28 n29 n30 =>
    T.call 31 [Value.slice o28 n29 n30] fun v31 =>
    T.drew
    (T.ldM n0 (n1 + 1) fun o32 =>
    T.ldI IntKind.i64 n7 0 fun i33 =>
    T.ldI IntKind.i64 n7 1 fun i34 =>
    T.call 32 [Value.slice o28 n29 n30] fun v35 =>
    T.asS v35 fun o36 n37 n38 =>
    T.chk
    [(Addr.mk n7 0 none, Value.int IntKind.i64 i33), (Addr.mk n7 1 none, Value.int IntKind.i64 i34),
    (Addr.mk n0 (n1 + 1) none, Value.map o32)]
    (T.run
    (muV 41 (Value.map o32) (Value.agg (Array.mk [Value.int IntKind.i64 i33, Value.int IntKind.i64 i34]))
    (Value.slice o36 n37 n38))
    fun v39 => T.chk [] (T.ret (Value.int IntKind.i64 0))))))))))
theorem e10 (n0 n1 : Nat) (i2 : Int) (i3 : Int) (o4 : Option Addr) (n5 n6 : Nat) : treeOf Tryz.prog Tryz.f10 (codeOf Tryz.f10) (.s .n (.s .n (.s (.s .n (.u (.l [(16, .int .i64)] [0, 2, 4, 14, 15] .n))) (.s (.s (.p [0, 1, 2, 3, 4, 5, 6, 7, 8, 9, 10]) .n) (.s .n (.s .n (.s (.p [0, 1, 2, 3, 4, 5, 6, 7]) .n))))))) [.p n0 n1, .v (.agg #[.int .i64 i2, .int .i64 i3]), .v (.slice o4 n5 n6)] = (t10 n0 n1 i2 i3 o4 n5 n6) := by kernel_rfl
theorem c10 (n0 n1 : Nat) (i2 : Int) (i3 : Int) (o4 : Option Addr) (n5 n6 : Nat) {w : World} {R : Ending → World → Prop} (h : (t10 n0 n1 i2 i3 o4 n5 n6).sem Tryz.prog R ρ0 w) : Calls Tryz.prog 10 #[.pointer (some ⟨n0, n1, none⟩), .agg #[.int .i64 i2, .int .i64 i3], .slice o4 n5 n6] w R :=
  calls_of mixed Tryz.func10 rfl rfl (e10 n0 n1 i2 i3 o4 n5 n6) h
def t11 (n0 n1 : Nat) (i2 : Int) (i3 : Int) : T :=
  T.new (Obj.cells (Array.mk [Value.int IntKind.i64 i2, Value.int IntKind.i64 i3]) 32) fun n4 =>
  T.call 27 [Value.pointer (some (Addr.mk n0 n1 none))] fun v5 =>
    T.asB v5 fun b6 =>
    T.ite b6 (T.ret (Value.tuple (Array.mk [Value.slice none 0 0, Value.int IntKind.i64 2])))
    (T.ldI IntKind.i64 n4 0 fun i7 =>
    T.ldI IntKind.i64 n4 1 fun i8 =>
    T.call 20 [Value.pointer (some (Addr.mk n0 n1 none)), Value.agg (Array.mk [Value.int IntKind.i64 i7, Value.int IntKind.i64 i8])] fun v9 =>
    T.asB v9 fun b10 =>
    T.ite (!b10) (T.ret (Value.tuple (Array.mk [Value.slice none 0 0, Value.int IntKind.i64 4])))
    (T.drew
    (T.ldM n0 (n1 + 1) fun o11 =>
    T.ldI IntKind.i64 n4 0 fun i12 =>
    T.ldI IntKind.i64 n4 1 fun i13 =>
    T.run (Instr.lookup 41 (Value.map o11) (Value.agg (Array.mk [Value.int IntKind.i64 i12, Value.int IntKind.i64 i13])) false) fun v14 =>
    T.asS v14 fun o15 n16 n17 =>
    T.chk []
    (T.loop 0 [Value.slice none 0 0, Value.int IntKind.i64 0] fun l18 j19 =>
    T.asS (List.headD l18 (Value.tuple (Array.mk []))) fun o20 n21 n22 =>
    T.asI IntKind.i64 (List.headD (List.tail l18) (Value.tuple (Array.mk []))) fun i23 =>
    T.ite (decide (i23 < (↑n16 : Int)))
    (T.req (0 ≤ i23 ∧ i23 < (↑n16 : Int))
    (T.sm o15 fun n24 n25 =>
    T.ldI IntKind.i64 n24 (n25 + Int.toNat i23 * 1) fun i26 =>
    T.drew
    (T.ldM n0 (n1 + 2) fun o27 =>
    T.ldI IntKind.i64 n4 0 fun i28 =>
    T.ldI IntKind.i64 n4 1 fun i29 =>
    T.run
    (Instr.lookup 42 (Value.map o27)
    (Value.agg
    (Array.mk [Value.int IntKind.i64 i28, Value.int IntKind.i64 i29, Value.int IntKind.i64 i26]))
    false)
    fun v30 =>
    T.asS v30 fun o31 n32 n33 =>
    T.chk [(Addr.mk n4 0 none, Value.int IntKind.i64 i28), (Addr.mk n4 1 none, Value.int IntKind.i64 i29)]
    (T.new (Obj.cells (Array.mk [Value.slice o31 n32 n33]) 34) fun n34 =>
    T.chk
    [(Addr.mk n4 0 none, Value.int IntKind.i64 i28), (Addr.mk n4 1 none, Value.int IntKind.i64 i29)]
    (T.run
    (biV Builtin.append (Array.mk [78, 78]) 78
    (Array.mk [Value.slice o20 n21 n22, Value.slice (some (Addr.mk n34 0 none)) 1 1]))
    fun v35 =>
    T.asS v35 fun o36 n37 n38 =>
    T.chk
    [(Addr.mk n4 0 none, Value.int IntKind.i64 i28),
    (Addr.mk n4 1 none, Value.int IntKind.i64 i29)]
    (T.next 0
    [Value.slice o36 n37 n38, Value.int IntKind.i64 (IntKind.wrap IntKind.i64 (i23 + 1))]
    ([Value.pointer (some (Addr.mk n0 n1 none)), Value.pointer (some (Addr.mk n4 0 none)),
    Value.slice o15 n16 n17, Value.int IntKind.i64 (↑n16 : Int)] =
    [Value.pointer (some (Addr.mk n0 n1 none)),
    Value.pointer (some (Addr.mk n4 0 none)), Value.slice o15 n16 n17,
    Value.int IntKind.i64 (↑n16 : Int)] ∧ ([] : List Deferred) = [])))))))
    (T.call 33 [Value.slice o20 n21 n22] fun v39 =>
    T.asS v39 fun o40 n41 n42 => T.ret (Value.tuple (Array.mk [Value.slice o40 n41 n42, Value.int IntKind.i64 0])))))))
theorem e11 (n0 n1 : Nat) (i2 : Int) (i3 : Int) : treeOf Tryz.prog Tryz.f11 (codeOf Tryz.f11) (.s .n (.s .n (.s .n (.s .n (.s (.s (.p [0, 1, 2, 3, 4, 7, 5, 6]) (.u (.l [(6, .slice), (22, .int .i64)] [0, 3, 20, 21] (.s .n (.s .n (.s (.u (.s .n (.p [0, 1, 2, 3, 4, 5, 6, 7, 8, 9, 10, 11]))) .n)))))) .n))))) [.p n0 n1, .v (.agg #[.int .i64 i2, .int .i64 i3])] = (t11 n0 n1 i2 i3) := by kernel_rfl
theorem c11 (n0 n1 : Nat) (i2 : Int) (i3 : Int) {w : World} {R : Ending → World → Prop} (h : (t11 n0 n1 i2 i3).sem Tryz.prog R ρ0 w) : Calls Tryz.prog 11 #[.pointer (some ⟨n0, n1, none⟩), .agg #[.int .i64 i2, .int .i64 i3]] w R :=
  calls_of mixed Tryz.func11 rfl rfl (e11 n0 n1 i2 i3) h
def t20 (n0 n1 : Nat) (i2 : Int) (i3 : Int) : T :=
  T.new (Obj.cells (Array.mk [Value.int IntKind.i64 i2, Value.int IntKind.i64 i3]) 32) fun n4 =>
  T.call 27 [Value.pointer (some (Addr.mk n0 n1 none))] fun v5 =>
    T.asB v5 fun b6 =>
    T.ite b6 (T.ret (Value.bool false))
    (T.drew
    (T.ldM n0 (n1 + 1) fun o7 =>
    T.ldI IntKind.i64 n4 0 fun i8 =>
    T.ldI IntKind.i64 n4 1 fun i9 =>
    T.run (Instr.lookup 41 (Value.map o7) (Value.agg (Array.mk [Value.int IntKind.i64 i8, Value.int IntKind.i64 i9])) true) fun v10 =>
    T.asU v10 fun l11 =>
    T.req (List.length l11 = 2)
    (T.asS (List.headD l11 (Value.tuple (Array.mk []))) fun o12 n13 n14 =>
    T.asB (List.headD (List.tail l11) (Value.tuple (Array.mk []))) fun b15 =>
    T.chk []
    (T.ite b15
    (T.ldI IntKind.i64 n4 0 fun i16 =>
    T.ldI IntKind.i64 n4 1 fun i17 =>
    T.call 23
    [Value.pointer (some (Addr.mk n0 n1 none)), Value.agg (Array.mk [Value.int IntKind.i64 i16, Value.int IntKind.i64 i17])]
    fun v18 => T.asS v18 fun o19 n20 n21 => T.ret (Value.bool ((↑n20 : Int) == 0)))
    (T.ret (Value.bool false))))))
theorem e20 (n0 n1 : Nat) (i2 : Int) (i3 : Int) : treeOf Tryz.prog Tryz.f20 (codeOf Tryz.f20) (.s .n (.s .n (.s (.p [0, 1, 2, 3, 4, 5, 6, 7, 8, 9, 10]) .n))) [.p n0 n1, .v (.agg #[.int .i64 i2, .int .i64 i3])] = (t20 n0 n1 i2 i3) := by kernel_rfl
theorem c20 (n0 n1 : Nat) (i2 : Int) (i3 : Int) {w : World} {R : Ending → World → Prop} (h : (t20 n0 n1 i2 i3).sem Tryz.prog R ρ0 w) : Calls Tryz.prog 20 #[.pointer (some ⟨n0, n1, none⟩), .agg #[.int .i64 i2, .int .i64 i3]] w R :=
  calls_of mixed Tryz.func20 rfl rfl (e20 n0 n1 i2 i3) h
def t19 (o0 : Option Addr) (n1 n2 : Nat) (o3 : Option Addr) (n4 n5 : Nat) : T :=
  T.ite ((↑n1 : Int) != (↑n4 : Int)) (T.ret (Value.bool false))
  (T.loop 0 [Value.int IntKind.i64 0] fun l6 j7 =>
    T.asI IntKind.i64 (List.headD l6 (Value.tuple (Array.mk []))) fun i8 =>
    T.ite (decide (i8 < (↑n1 : Int)))
    (T.drew
    (T.req (0 ≤ i8 ∧ i8 < (↑n1 : Int))
    (T.sm o0 fun n9 n10 =>
    T.ldI IntKind.i32 n9 (n10 + Int.toNat i8 * 3) fun i11 =>
    T.ldI IntKind.i64 n9 (n10 + Int.toNat i8 * 3 + 1) fun i12 =>
    T.ldI IntKind.i64 n9 (n10 + Int.toNat i8 * 3 + 2) fun i13 =>
    T.req (0 ≤ i8 ∧ i8 < (↑n4 : Int))
    (T.sm o3 fun n14 n15 =>
    T.ldI IntKind.i32 n14 (n15 + Int.toNat i8 * 3) fun i16 =>
    T.ldI IntKind.i64 n14 (n15 + Int.toNat i8 * 3 + 1) fun i17 =>
    T.ldI IntKind.i64 n14 (n15 + Int.toNat i8 * 3 + 2) fun i18 =>
    T.ite (!(i11 == i16 && (i12 == i17 && true) && (i13 == i18 && true))) (T.ret (Value.bool false))
    (T.next 0 [Value.int IntKind.i64 (IntKind.wrap IntKind.i64 (i8 + 1))]
    ([Value.slice o0 n1 n2, Value.slice o3 n4 n5, Value.int IntKind.i64 (↑n1 : Int)] =
    [Value.slice o0 n1 n2, Value.slice o3 n4 n5, Value.int IntKind.i64 (↑n1 : Int)] ∧ ([] : List Deferred) = []))))))
    (T.ret (Value.bool true)))
theorem e19 (o0 : Option Addr) (n1 n2 : Nat) (o3 : Option Addr) (n4 n5 : Nat) : treeOf Tryz.prog Tryz.f19 (codeOf Tryz.f19) (.s .n (.s .n (.s (.s .n (.u (.l [(13, .int .i64)] [0, 1, 12] (.s .n (.s .n (.s (.u (.s .n (.s (.p [0, 1, 2, 3, 4, 5, 6, 7, 8]) .n))) .n)))))) .n))) [.v (.slice o0 n1 n2), .v (.slice o3 n4 n5)] = (t19 o0 n1 n2 o3 n4 n5) := by kernel_rfl
theorem c19 (o0 : Option Addr) (n1 n2 : Nat) (o3 : Option Addr) (n4 n5 : Nat) {w : World} {R : Ending → World → Prop} (h : (t19 o0 n1 n2 o3 n4 n5).sem Tryz.prog R ρ0 w) : Calls Tryz.prog 19 #[.slice o0 n1 n2, .slice o3 n4 n5] w R :=
  calls_of mixed Tryz.func19 rfl rfl (e19 o0 n1 n2 o3 n4 n5) h
def t23 (n0 n1 : Nat) (i2 : Int) (i3 : Int) : T :=
  T.new (Obj.cells (Array.mk [Value.int IntKind.i64 i2, Value.int IntKind.i64 i3]) 32) fun n4 =>
  T.call 27 [Value.pointer (some (Addr.mk n0 n1 none))] fun v5 =>
    T.asB v5 fun b6 =>
    T.ite b6 (T.ret (Value.slice none 0 0))
    (T.drew
    (T.ldM n0 (n1 + 1) fun o7 =>
    T.ldI IntKind.i64 n4 0 fun i8 =>
    T.ldI IntKind.i64 n4 1 fun i9 =>
    T.run (Instr.lookup 41 (Value.map o7) (Value.agg (Array.mk [Value.int IntKind.i64 i8, Value.int IntKind.i64 i9])) false) fun v10 =>
    T.asS v10 fun o11 n12 n13 =>
    T.chk []
    (T.loop 0 [Value.slice none 0 0, Value.int IntKind.i64 0] fun l14 j15 =>
    T.asS (List.headD l14 (Value.tuple (Array.mk []))) fun o16 n17 n18 =>
    T.asI IntKind.i64 (List.headD (List.tail l14) (Value.tuple (Array.mk []))) fun i19 =>
    T.ite (decide (i19 < (↑n12 : Int)))
    (T.req (0 ≤ i19 ∧ i19 < (↑n12 : Int))
    (T.sm o11 fun n20 n21 =>
    T.ldI IntKind.i64 n20 (n21 + Int.toNat i19 * 1) fun i22 =>
    T.drew
    (T.ldM n0 (n1 + 2) fun o23 =>
    T.ldI IntKind.i64 n4 0 fun i24 =>
    T.ldI IntKind.i64 n4 1 fun i25 =>
    T.run
    (Instr.lookup 42 (Value.map o23)
    (Value.agg (Array.mk [Value.int IntKind.i64 i24, Value.int IntKind.i64 i25, Value.int IntKind.i64 i22])) true)
    fun v26 =>
    T.asU v26 fun l27 =>
    T.req (List.length l27 = 2)
    (T.asS (List.headD l27 (Value.tuple (Array.mk []))) fun o28 n29 n30 =>
    T.asB (List.headD (List.tail l27) (Value.tuple (Array.mk []))) fun b31 =>
    T.chk [(Addr.mk n4 0 none, Value.int IntKind.i64 i24), (Addr.mk n4 1 none, Value.int IntKind.i64 i25)]
    (T.ite (!b31)
    (T.new (Obj.cells (Array.mk [Value.int IntKind.i64 i22]) 3) fun n32 =>
    T.run
    (biV Builtin.append (Array.mk [33, 33]) 33
    (Array.mk [Value.slice o16 n17 n18, Value.slice (some (Addr.mk n32 0 none)) 1 1]))
    fun v33 =>
    T.asS v33 fun o34 n35 n36 =>
    T.next 0 [Value.slice o34 n35 n36, Value.int IntKind.i64 (IntKind.wrap IntKind.i64 (i19 + 1))]
    ([Value.pointer (some (Addr.mk n0 n1 none)), Value.pointer (some (Addr.mk n4 0 none)),
    Value.slice o11 n12 n13, Value.int IntKind.i64 (↑n12 : Int)] =
    [Value.pointer (some (Addr.mk n0 n1 none)), Value.pointer (some (Addr.mk n4 0 none)),
    Value.slice o11 n12 n13, Value.int IntKind.i64 (↑n12 : Int)] ∧ ([] : List Deferred) = []))
    (T.next 0 [Value.slice o16 n17 n18, Value.int IntKind.i64 (IntKind.wrap IntKind.i64 (i19 + 1))]
    ([Value.pointer (some (Addr.mk n0 n1 none)), Value.pointer (some (Addr.mk n4 0 none)),
    Value.slice o11 n12 n13, Value.int IntKind.i64 (↑n12 : Int)] =
    [Value.pointer (some (Addr.mk n0 n1 none)), Value.pointer (some (Addr.mk n4 0 none)),
    Value.slice o11 n12 n13, Value.int IntKind.i64 (↑n12 : Int)] ∧ ([] : List Deferred) = [])))))))
    (T.ret (Value.slice o16 n17 n18)))))
theorem e23 (n0 n1 : Nat) (i2 : Int) (i3 : Int) : treeOf Tryz.prog Tryz.f23 (codeOf Tryz.f23) (.s .n (.s .n (.s .n (.s (.s (.p [0, 1, 2, 3, 4, 7, 5, 6]) (.u (.l [(5, .slice), (19, .int .i64)] [0, 3, 17, 18] (.s .n (.s .n (.s (.u (.s .n (.s (.p [0, 1, 2, 3, 4, 5, 6, 7, 8, 9, 10, 11, 12]) .n))) .n)))))) .n)))) [.p n0 n1, .v (.agg #[.int .i64 i2, .int .i64 i3])] = (t23 n0 n1 i2 i3) := by kernel_rfl
theorem c23 (n0 n1 : Nat) (i2 : Int) (i3 : Int) {w : World} {R : Ending → World → Prop} (h : (t23 n0 n1 i2 i3).sem Tryz.prog R ρ0 w) : Calls Tryz.prog 23 #[.pointer (some ⟨n0, n1, none⟩), .agg #[.int .i64 i2, .int .i64 i3]] w R :=
  calls_of mixed Tryz.func23 rfl rfl (e23 n0 n1 i2 i3) h
def t27 (n0 n1 : Nat) : T :=
  T.ldM n0 (n1 + 1) fun o2 => T.ret (Value.bool (Option.isNone o2))
theorem e27 (n0 n1 : Nat) : treeOf Tryz.prog Tryz.f27 (codeOf Tryz.f27) .n [.p n0 n1] = (t27 n0 n1) := by kernel_rfl
theorem c27 (n0 n1 : Nat) {w : World} {R : Ending → World → Prop} (h : (t27 n0 n1).sem Tryz.prog R ρ0 w) : Calls Tryz.prog 27 #[.pointer (some ⟨n0, n1, none⟩)] w R :=
  calls_of mixed Tryz.func27 rfl rfl (e27 n0 n1) h
def t28 (n0 n1 : Nat) (i2 : Int) : T :=
  T.ite (decide (i2 ≥ 0)) (T.ldI IntKind.i64 n0 n1 fun i3 => T.ret (Value.bool (decide (i2 < i3)))) (T.ret (Value.bool false))
theorem e28 (n0 n1 : Nat) (i2 : Int) : treeOf Tryz.prog Tryz.f28 (codeOf Tryz.f28) .n [.p n0 n1, .v (.int .i64 i2)] = (t28 n0 n1 i2) := by kernel_rfl
theorem c28 (n0 n1 : Nat) (i2 : Int) {w : World} {R : Ending → World → Prop} (h : (t28 n0 n1 i2).sem Tryz.prog R ρ0 w) : Calls Tryz.prog 28 #[.pointer (some ⟨n0, n1, none⟩), .int .i64 i2] w R :=
  calls_of mixed Tryz.func28 rfl rfl (e28 n0 n1 i2) h
def t29 (o0 : Option Addr) (n1 n2 : Nat) : T :=
  T.new (Obj.map (Array.mk []) 0) fun n3 =>
  T.loop 0 [Value.int IntKind.i64 0] fun l4 j5 =>
    T.asI IntKind.i64 (List.headD l4 (Value.tuple (Array.mk []))) fun i6 =>
    T.ite (decide (i6 < (↑n1 : Int)))
    (T.req (0 ≤ i6 ∧ i6 < (↑n1 : Int))
    (T.sm o0 fun n7 n8 =>
    T.ldI IntKind.i32 n7 (n8 + Int.toNat i6 * 3) fun i9 =>
    T.ldI IntKind.i64 n7 (n8 + Int.toNat i6 * 3 + 1) fun i10 =>
    T.ldI IntKind.i64 n7 (n8 + Int.toNat i6 * 3 + 2) fun i11 =>
    T.new (Obj.cells (Array.mk [Value.int IntKind.i32 0, Value.int IntKind.i64 0, Value.int IntKind.i64 0]) 53) fun n12 =>
    T.st n12 0 (Value.int IntKind.i32 i9)
    (T.st n12 1 (Value.int IntKind.i64 i10)
    (T.st n12 2 (Value.int IntKind.i64 i11)
    (T.ldI IntKind.i32 n12 0 fun i13 =>
    T.ldI IntKind.i64 n12 1 fun i14 =>
    T.ldI IntKind.i64 n12 2 fun i15 =>
    T.run
    (muV 96 (Value.map (some n3)) (Value.agg (Array.mk [Value.int IntKind.i32 i13, Value.int IntKind.i64 i14]))
    (Value.int IntKind.i64 i15))
    fun v16 =>
    T.next 0 [Value.int IntKind.i64 (IntKind.wrap IntKind.i64 (i6 + 1))]
    ([Value.map (some n3), Value.slice o0 n1 n2, Value.int IntKind.i64 (↑n1 : Int)] =
    [Value.map (some n3), Value.slice o0 n1 n2, Value.int IntKind.i64 (↑n1 : Int)] ∧ ([] : List Deferred) = []))))))
    (T.call 47 [Value.map (some n3)] fun v17 =>
    T.asC 64 v17 fun l18 =>
    T.req (List.length l18 = 1)
    (T.asP (List.headD l18 (Value.tuple (Array.mk []))) fun o19 =>
    T.call 46 [Value.func (Fn.func 64) (Array.mk []) (Array.mk [Value.pointer o19]), Value.func (Fn.func 48) (Array.mk []) (Array.mk [])] fun v20 =>
    T.asS v20 fun o21 n22 n23 =>
    T.loop 0 [Value.slice none 0 0, Value.int IntKind.i64 0] fun l24 j25 =>
    T.asS (List.headD l24 (Value.tuple (Array.mk []))) fun o26 n27 n28 =>
    T.asI IntKind.i64 (List.headD (List.tail l24) (Value.tuple (Array.mk []))) fun i29 =>
    T.ite (decide (i29 < (↑n22 : Int)))
    (T.req (0 ≤ i29 ∧ i29 < (↑n22 : Int))
    (T.sm o21 fun n30 n31 =>
    T.ldI IntKind.i32 n30 (n31 + Int.toNat i29 * 2) fun i32 =>
    T.ldI IntKind.i64 n30 (n31 + Int.toNat i29 * 2 + 1) fun i33 =>
    T.new (Obj.cells (Array.mk [Value.int IntKind.i32 0, Value.int IntKind.i64 0]) 51) fun n34 =>
    T.st n34 0 (Value.int IntKind.i32 i32)
    (T.st n34 1 (Value.int IntKind.i64 i33)
    (T.drew
    (T.ldI IntKind.i32 n34 0 fun i35 =>
    T.ldI IntKind.i64 n34 1 fun i36 =>
    T.ldI IntKind.i32 n34 0 fun i37 =>
    T.ldI IntKind.i64 n34 1 fun i38 =>
    T.run
    (Instr.lookup 96 (Value.map (some n3))
    (Value.agg (Array.mk [Value.int IntKind.i32 i37, Value.int IntKind.i64 i38])) false)
    fun v39 =>
    T.asI IntKind.i64 v39 fun i40 =>
    T.chk [(Addr.mk n34 0 none, Value.int IntKind.i32 i35), (Addr.mk n34 1 none, Value.int IntKind.i64 i36)]
    (T.new
    (Obj.cells
    (Array.mk [Value.int IntKind.i32 i35, Value.int IntKind.i64 i36, Value.int IntKind.i64 i40]) 53)
    fun n41 =>
    T.chk
    [(Addr.mk n34 0 none, Value.int IntKind.i32 i35), (Addr.mk n34 1 none, Value.int IntKind.i64 i36)]
    (T.run
    (biV Builtin.append (Array.mk [34, 34]) 34
    (Array.mk [Value.slice o26 n27 n28, Value.slice (some (Addr.mk n41 0 none)) 1 1]))
    fun v42 =>
    T.asS v42 fun o43 n44 n45 =>
    T.chk
    [(Addr.mk n34 0 none, Value.int IntKind.i32 i35),
    (Addr.mk n34 1 none, Value.int IntKind.i64 i36)]
    (T.next 0
    [Value.slice o43 n44 n45, Value.int IntKind.i64 (IntKind.wrap IntKind.i64 (i29 + 1))]
    ([Value.map (some n3), Value.slice o21 n22 n23, Value.int IntKind.i64 (↑n22 : Int)] =
    [Value.map (some n3), Value.slice o21 n22 n23, Value.int IntKind.i64 (↑n22 : Int)] ∧ ([] : List Deferred) = [])))))))))
    (T.ret (Value.slice o26 n27 n28))))
theorem e29 (o0 : Option Addr) (n1 n2 : Nat) : treeOf Tryz.prog Tryz.f29 (codeOf Tryz.f29) (.s .n (.s .n (.s (.s .n (.u (.l [(12, .int .i64)] [3, 10, 11] .n))) (.s .n (.s (.s .n (.u (.l [(6, .slice), (26, .int .i64)] [3, 24, 25] (.s .n (.s .n (.s (.u (.s .n (.p [0, 1, 2, 3, 4, 5, 6, 7, 8]))) .n)))))) .n))))) [.v (.slice o0 n1 n2)] = (t29 o0 n1 n2) := by kernel_rfl
theorem c29 (o0 : Option Addr) (n1 n2 : Nat) {w : World} {R : Ending → World → Prop} (h : (t29 o0 n1 n2).sem Tryz.prog R ρ0 w) : Calls Tryz.prog 29 #[.slice o0 n1 n2] w R :=
  calls_of mixed Tryz.func29 rfl rfl (e29 o0 n1 n2) h
def t53 (i0 : Int) (i1 : Int) (i2 : Int) (i3 : Int) : T :=
  T.new (Obj.cells (Array.mk [Value.int IntKind.i32 i0, Value.int IntKind.i64 i1]) 51) fun n4 =>
  T.new (Obj.cells (Array.mk [Value.int IntKind.i32 i2, Value.int IntKind.i64 i3]) 51) fun n5 =>
    T.ldI IntKind.i32 n4 0 fun i6 =>
    T.ldI IntKind.i32 n5 0 fun i7 =>
    T.ite (decide (i6 < i7)) (T.ret (Value.int IntKind.i64 (-1)))
    (T.ldI IntKind.i32 n4 0 fun i8 =>
    T.ldI IntKind.i32 n5 0 fun i9 =>
    T.ite (i8 == i9)
    (T.ldI IntKind.i64 n4 1 fun i10 =>
    T.ldI IntKind.i64 n5 1 fun i11 =>
    T.ite (decide (i10 < i11)) (T.ret (Value.int IntKind.i64 (-1)))
    (T.ldI IntKind.i32 n4 0 fun i12 =>
    T.ldI IntKind.i64 n4 1 fun i13 =>
    T.ldI IntKind.i32 n5 0 fun i14 =>
    T.ldI IntKind.i64 n5 1 fun i15 =>
    T.ite (i12 == i14 && (i13 == i15 && true)) (T.ret (Value.int IntKind.i64 0)) (T.ret (Value.int IntKind.i64 1))))
    (T.ldI IntKind.i32 n4 0 fun i16 =>
    T.ldI IntKind.i64 n4 1 fun i17 =>
    T.ldI IntKind.i32 n5 0 fun i18 =>
    T.ldI IntKind.i64 n5 1 fun i19 =>
    T.ite (i16 == i18 && (i17 == i19 && true)) (T.ret (Value.int IntKind.i64 0)) (T.ret (Value.int IntKind.i64 1))))
theorem e53 (i0 : Int) (i1 : Int) (i2 : Int) (i3 : Int) : treeOf Tryz.prog Tryz.f53 (codeOf Tryz.f53) .n [.v (.agg #[.int .i32 i0, .int .i64 i1]), .v (.agg #[.int .i32 i2, .int .i64 i3])] = (t53 i0 i1 i2 i3) := by kernel_rfl
theorem c53 (i0 : Int) (i1 : Int) (i2 : Int) (i3 : Int) {w : World} {R : Ending → World → Prop} (h : (t53 i0 i1 i2 i3).sem Tryz.prog R ρ0 w) : Calls Tryz.prog 53 #[.agg #[.int .i32 i0, .int .i64 i1], .agg #[.int .i32 i2, .int .i64 i3]] w R :=
  calls_of mixed Tryz.func53 rfl rfl (e53 i0 i1 i2 i3) h
def t30 (o0 : Option Addr) (n1 n2 : Nat) : T :=
  T.ite (Option.isNone o0) (T.ret (Value.slice none 0 0))
  (T.new (Obj.cells (Array.mk []) 3) fun n3 =>
    T.run (biV Builtin.append (Array.mk [33, 33]) 33 (Array.mk [Value.slice (some (Addr.mk n3 0 none)) 0 0, Value.slice o0 n1 n2])) fun v4 =>
    T.asS v4 fun o5 n6 n7 => T.ret (Value.slice o5 n6 n7))
theorem e30 (o0 : Option Addr) (n1 n2 : Nat) : treeOf Tryz.prog Tryz.f30 (codeOf Tryz.f30) .n [.v (.slice o0 n1 n2)] = (t30 o0 n1 n2) := by kernel_rfl
theorem c30 (o0 : Option Addr) (n1 n2 : Nat) {w : World} {R : Ending → World → Prop} (h : (t30 o0 n1 n2).sem Tryz.prog R ρ0 w) : Calls Tryz.prog 30 #[.slice o0 n1 n2] w R :=
  calls_of mixed Tryz.func30 rfl rfl (e30 o0 n1 n2) h
def t32 (o0 : Option Addr) (n1 n2 : Nat) : T :=
  T.ite (decide ((↑n1 : Int) < 2)) (T.ret (Value.slice o0 n1 n2))
  (T.loop 0 [Value.int IntKind.i64 1] fun l3 j4 =>
    T.asI IntKind.i64 (List.headD l3 (Value.tuple (Array.mk []))) fun i5 =>
    T.ite (decide (i5 < (↑n1 : Int)))
    (T.drew
    (T.req (0 ≤ i5 ∧ i5 < (↑n1 : Int))
    (T.sm o0 fun n6 n7 =>
    T.ldI IntKind.i64 n6 (n7 + Int.toNat i5 * 1) fun i8 =>
    T.req (0 ≤ IntKind.wrap IntKind.i64 (i5 - 1) ∧ IntKind.wrap IntKind.i64 (i5 - 1) < (↑n1 : Int))
    (T.sm o0 fun n9 n10 =>
    T.ldI IntKind.i64 n9 (n10 + Int.toNat (IntKind.wrap IntKind.i64 (i5 - 1)) * 1) fun i11 =>
    T.ite (i8 == i11)
    (T.req (0 ≤ i5 ∧ i5 ≤ (↑n1 : Int))
    (T.loop 1 [Value.int IntKind.i64 i5, Value.int IntKind.i64 1] fun l12 j13 =>
    T.asI IntKind.i64 (List.headD l12 (Value.tuple (Array.mk []))) fun i14 =>
    T.asI IntKind.i64 (List.headD (List.tail l12) (Value.tuple (Array.mk []))) fun i15 =>
    T.ite (decide (i15 < (↑(n1 - Int.toNat i5) : Int)))
    (T.drew
    (T.req (0 ≤ i15 ∧ i15 < (↑(n1 - Int.toNat i5) : Int))
    (T.sm (sliceBase o0 (Int.toNat i5) n2 1) fun n16 n17 =>
    T.ldI IntKind.i64 n16 (n17 + Int.toNat i15 * 1) fun i18 =>
    T.req (0 ≤ IntKind.wrap IntKind.i64 (i15 - 1) ∧ IntKind.wrap IntKind.i64 (i15 - 1) < (↑(n1 - Int.toNat i5) : Int))
    (T.sm (sliceBase o0 (Int.toNat i5) n2 1) fun n19 n20 =>
    T.ldI IntKind.i64 n19 (n20 + Int.toNat (IntKind.wrap IntKind.i64 (i15 - 1)) * 1) fun i21 =>
    T.ite (i18 != i21)
    (T.req (0 ≤ i15 ∧ i15 < (↑(n1 - Int.toNat i5) : Int))
    (T.sm (sliceBase o0 (Int.toNat i5) n2 1) fun n22 n23 =>
    T.ldI IntKind.i64 n22 (n23 + Int.toNat i15 * 1) fun i24 =>
    T.req (0 ≤ i14 ∧ i14 < (↑n1 : Int))
    (T.sm o0 fun n25 n26 =>
    T.st n25 (n26 + Int.toNat i14 * 1) (Value.int IntKind.i64 i24)
    (T.next 1
    [Value.int IntKind.i64 (IntKind.wrap IntKind.i64 (i14 + 1)),
    Value.int IntKind.i64 (IntKind.wrap IntKind.i64 (i15 + 1))]
    ([Value.slice o0 n1 n2,
    Value.slice (sliceBase o0 (Int.toNat i5) n2 1) (n1 - Int.toNat i5) (n2 - Int.toNat i5)] =
    [Value.slice o0 n1 n2,
    Value.slice (sliceBase o0 (Int.toNat i5) n2 1) (n1 - Int.toNat i5) (n2 - Int.toNat i5)] ∧ ([] : List Deferred) = [])))))
    (T.next 1 [Value.int IntKind.i64 i14, Value.int IntKind.i64 (IntKind.wrap IntKind.i64 (i15 + 1))]
    ([Value.slice o0 n1 n2,
    Value.slice (sliceBase o0 (Int.toNat i5) n2 1) (n1 - Int.toNat i5) (n2 - Int.toNat i5)] =
    [Value.slice o0 n1 n2,
    Value.slice (sliceBase o0 (Int.toNat i5) n2 1) (n1 - Int.toNat i5) (n2 - Int.toNat i5)] ∧ ([] : List Deferred) = []))))))
    (T.req (0 ≤ i14 ∧ i14 ≤ (↑n1 : Int))
    (T.run
    (biV Builtin.clear (Array.mk [33]) 0
    (Array.mk [Value.slice (sliceBase o0 (Int.toNat i14) n2 1) (n1 - Int.toNat i14) (n2 - Int.toNat i14)]))
    fun v27 => T.req (0 ≤ i14 ∧ i14 ≤ (↑n2 : Int)) (T.ret (Value.slice (sliceBase o0 0 n2 1) (Int.toNat i14) n2))))))
    (T.next 0 [Value.int IntKind.i64 (IntKind.wrap IntKind.i64 (i5 + 1))] ([Value.slice o0 n1 n2] = [Value.slice o0 n1 n2] ∧ ([] : List Deferred) = []))))))
    (T.ret (Value.slice o0 n1 n2)))
theorem e32 (o0 : Option Addr) (n1 n2 : Nat) : treeOf Tryz.prog Tryz.f32 (codeOf Tryz.f32) (.s .n (.s .n (.s (.s .n (.u (.l [(3, .int .i64)] [0] (.s .n (.s (.u (.s (.p [0, 1, 2, 3, 4, 5, 6, 7, 8, 9]) (.s (.s .n (.s (.s .n (.u (.l [(3, .int .i64), (5, .int .i64)] [0, 4] (.s .n (.s (.u (.s (.p [0, 1, 2, 3, 4, 5, 6, 7, 8, 9]) .n)) .n))))) .n)) .n))) .n))))) .n))) [.v (.slice o0 n1 n2)] = (t32 o0 n1 n2) := by kernel_rfl
theorem c32 (o0 : Option Addr) (n1 n2 : Nat) {w : World} {R : Ending → World → Prop} (h : (t32 o0 n1 n2).sem Tryz.prog R ρ0 w) : Calls Tryz.prog 32 #[.slice o0 n1 n2] w R :=
  calls_of mixed Tryz.func32 rfl rfl (e32 o0 n1 n2) h
def t33 (o0 : Option Addr) (n1 n2 : Nat) : T :=
  T.call2 51 [Value.slice o0 n1 n2]
  (fun v3 => T.asS v3 fun o4 n5 n6 => T.call 29 [Value.slice o4 n5 n6] fun v7 => T.asS v7 fun o8 n9 n10 => T.ret (Value.slice o8 n9 n10)) fun v11 => T.pan v11
theorem e33 (o0 : Option Addr) (n1 n2 : Nat) : treeOf Tryz.prog Tryz.f33 (codeOf Tryz.f33) .n [.v (.slice o0 n1 n2)] = (t33 o0 n1 n2) := by kernel_rfl
theorem c33 (o0 : Option Addr) (n1 n2 : Nat) {w : World} {R : Ending → World → Prop} (h : (t33 o0 n1 n2).sem Tryz.prog R ρ0 w) : Calls Tryz.prog 33 #[.slice o0 n1 n2] w R :=
  calls_of mixed Tryz.func33 rfl rfl (e33 o0 n1 n2) h
def t47 (o0 : Option Nat) : T :=
  T.new (Obj.cells (Array.mk [Value.map o0]) 96) fun n1 => T.ret (Value.func (Fn.func 64) (Array.mk []) (Array.mk [Value.pointer (some (Addr.mk n1 0 none))]))
theorem e47 (o0 : Option Nat) : treeOf Tryz.prog Tryz.f47 (codeOf Tryz.f47) .n [.v (.map o0)] = (t47 o0) := by kernel_rfl
theorem c47 (o0 : Option Nat) {w : World} {R : Ending → World → Prop} (h : (t47 o0).sem Tryz.prog R ρ0 w) : Calls Tryz.prog 47 #[.map o0] w R :=
  calls_of mixed Tryz.func47 rfl rfl (e47 o0) h
def t51 (o0 : Option Addr) (n1 n2 : Nat) : T :=
  T.loop 0 [Value.int IntKind.i64 0, Value.int IntKind.i64 0] fun l3 j4 =>
  T.asI IntKind.i64 (List.headD l3 (Value.tuple (Array.mk []))) fun i5 =>
    T.asI IntKind.i64 (List.headD (List.tail l3) (Value.tuple (Array.mk []))) fun i6 =>
    T.ite (decide (i6 < (↑n1 : Int)))
    (T.req (0 ≤ i6 ∧ i6 < (↑n1 : Int))
    (T.sm o0 fun n7 n8 =>
    T.ldS n7 (n8 + Int.toNat i6 * 1) fun o9 n10 n11 =>
    T.ite (decide (IntKind.wrap IntKind.i64 (i5 + (↑n10 : Int)) < 0))
    (T.pan
    (Value.iface 9
    (Value.string
    (ByteArray.mk
    (Array.mk
    [OfNat.ofNat 108, OfNat.ofNat 101, OfNat.ofNat 110, OfNat.ofNat 32, OfNat.ofNat 111, OfNat.ofNat 117, OfNat.ofNat 116, OfNat.ofNat 32,
    OfNat.ofNat 111, OfNat.ofNat 102, OfNat.ofNat 32, OfNat.ofNat 114, OfNat.ofNat 97, OfNat.ofNat 110, OfNat.ofNat 103,
    OfNat.ofNat 101])))))
    (T.next 0 [Value.int IntKind.i64 (IntKind.wrap IntKind.i64 (i5 + (↑n10 : Int))), Value.int IntKind.i64 (IntKind.wrap IntKind.i64 (i6 + 1))]
    ([Value.slice o0 n1 n2, Value.slice o0 n1 n2, Value.int IntKind.i64 (↑n1 : Int)] =
    [Value.slice o0 n1 n2, Value.slice o0 n1 n2, Value.int IntKind.i64 (↑n1 : Int)] ∧ ([] : List Deferred) = []))))
    (T.call2 79 [Value.slice none 0 0, Value.int IntKind.i64 i5]
    (fun v12 =>
    T.asS v12 fun o13 n14 n15 =>
    T.loop 0 [Value.slice o13 n14 n15, Value.int IntKind.i64 0] fun l16 j17 =>
    T.asS (List.headD l16 (Value.tuple (Array.mk []))) fun o18 n19 n20 =>
    T.asI IntKind.i64 (List.headD (List.tail l16) (Value.tuple (Array.mk []))) fun i21 =>
    T.ite (decide (i21 < (↑n1 : Int)))
    (T.req (0 ≤ i21 ∧ i21 < (↑n1 : Int))
    (T.sm o0 fun n22 n23 =>
    T.ldS n22 (n23 + Int.toNat i21 * 1) fun o24 n25 n26 =>
    T.run (biV Builtin.append (Array.mk [34, 34]) 34 (Array.mk [Value.slice o18 n19 n20, Value.slice o24 n25 n26])) fun v27 =>
    T.asS v27 fun o28 n29 n30 =>
    T.next 0 [Value.slice o28 n29 n30, Value.int IntKind.i64 (IntKind.wrap IntKind.i64 (i21 + 1))]
    ([Value.slice o0 n1 n2, Value.int IntKind.i64 (↑n1 : Int)] = [Value.slice o0 n1 n2, Value.int IntKind.i64 (↑n1 : Int)] ∧ ([] : List Deferred) = [])))
    (T.ret (Value.slice o18 n19 n20)))
    fun v31 => T.pan v31)
theorem e51 (o0 : Option Addr) (n1 n2 : Nat) : treeOf Tryz.prog Tryz.f51 (codeOf Tryz.f51) (.s .n (.s .n (.s (.s .n (.u (.l [(3, .int .i64), (11, .int .i64)] [0, 9, 10] .n))) (.s .n (.s (.s .n (.u (.l [(6, .slice), (27, .int .i64)] [25, 26] .n))) .n))))) [.v (.slice o0 n1 n2)] = (t51 o0 n1 n2) := by kernel_rfl
theorem c51 (o0 : Option Addr) (n1 n2 : Nat) {w : World} {R : Ending → World → Prop} (h : (t51 o0 n1 n2).sem Tryz.prog R ρ0 w) : Calls Tryz.prog 51 #[.slice o0 n1 n2] w R :=
  calls_of mixed Tryz.func51 rfl rfl (e51 o0 n1 n2) h
def t79 (o0 : Option Addr) (n1 n2 : Nat) (i3 : Int) : T :=
  T.blk 0
  (fun l4 j5 =>
    T.ite (decide (IntKind.wrap IntKind.i64 (i3 - IntKind.wrap IntKind.i64 ((↑n2 : Int) - (↑n1 : Int))) > 0))
    (T.req (0 ≤ (↑n2 : Int) ∧ (↑n2 : Int) ≤ (↑n2 : Int))
    (T.run
    (biV Builtin.append (Array.mk [34, 3]) 34
    (Array.mk
    [Value.slice (sliceBase o0 0 n2 3) (Int.toNat (↑n2 : Int)) n2,
    Value.int IntKind.i64 (IntKind.wrap IntKind.i64 (i3 - IntKind.wrap IntKind.i64 ((↑n2 : Int) - (↑n1 : Int))))]))
    fun v6 =>
    T.asS v6 fun o7 n8 n9 => T.req (0 ≤ (↑n1 : Int) ∧ (↑n1 : Int) ≤ (↑n9 : Int)) (T.ret (Value.slice (sliceBase o7 0 n9 3) (Int.toNat (↑n1 : Int)) n9))))
    (T.ret (Value.slice o0 n1 n2)))
  (T.ite (decide (i3 < 0))
    (T.pan
    (Value.iface 9
    (Value.string
    (ByteArray.mk
    (Array.mk
    [OfNat.ofNat 99, OfNat.ofNat 97, OfNat.ofNat 110, OfNat.ofNat 110, OfNat.ofNat 111, OfNat.ofNat 116, OfNat.ofNat 32, OfNat.ofNat 98,
    OfNat.ofNat 101, OfNat.ofNat 32, OfNat.ofNat 110, OfNat.ofNat 101, OfNat.ofNat 103, OfNat.ofNat 97, OfNat.ofNat 116, OfNat.ofNat 105,
    OfNat.ofNat 118, OfNat.ofNat 101])))))
    (T.next 0 [] ([Value.slice o0 n1 n2, Value.int IntKind.i64 i3] = [Value.slice o0 n1 n2, Value.int IntKind.i64 i3] ∧ ([] : List Deferred) = [])))
theorem e79 (o0 : Option Addr) (n1 n2 : Nat) (i3 : Int) : treeOf Tryz.prog Tryz.f79 (codeOf Tryz.f79) (.s .n (.c [] [0, 1] .n .n)) [.v (.slice o0 n1 n2), .v (.int .i64 i3)] = (t79 o0 n1 n2 i3) := by kernel_rfl
theorem c79 (o0 : Option Addr) (n1 n2 : Nat) (i3 : Int) {w : World} {R : Ending → World → Prop} (h : (t79 o0 n1 n2 i3).sem Tryz.prog R ρ0 w) : Calls Tryz.prog 79 #[.slice o0 n1 n2, .int .i64 i3] w R :=
  calls_of mixed Tryz.func79 rfl rfl (e79 o0 n1 n2 i3) h
def t46 (n0 n1 : Nat) : T :=
  T.call 62 [Value.func (Fn.func 64) (Array.mk []) (Array.mk [Value.pointer (some (Addr.mk n0 n1 none))])] fun v2 =>
  T.asS v2 fun o3 n4 n5 => T.call 63 [Value.slice o3 n4 n5, Value.func (Fn.func 48) (Array.mk []) (Array.mk [])] fun v6 => T.ret (Value.slice o3 n4 n5)
theorem e46 (n0 n1 : Nat) : treeOf Tryz.prog Tryz.f46 (codeOf Tryz.f46) .n [.v (.func (.func 64) #[] #[.pointer (some ⟨n0, n1, none⟩)]), .v (.func (.func 48) #[] #[])] = (t46 n0 n1) := by kernel_rfl
theorem c46 (n0 n1 : Nat) {w : World} {R : Ending → World → Prop} (h : (t46 n0 n1).sem Tryz.prog R ρ0 w) : Calls Tryz.prog 46 #[.func (.func 64) #[] #[.pointer (some ⟨n0, n1, none⟩)], .func (.func 48) #[] #[]] w R :=
  calls_of mixed Tryz.func46 rfl rfl (e46 n0 n1) h
def t62 (n0 n1 : Nat) : T :=
  T.call 83 [Value.slice none 0 0, Value.func (Fn.func 64) (Array.mk []) (Array.mk [Value.pointer (some (Addr.mk n0 n1 none))])] fun v2 =>
  T.asS v2 fun o3 n4 n5 => T.ret (Value.slice o3 n4 n5)
theorem e62 (n0 n1 : Nat) : treeOf Tryz.prog Tryz.f62 (codeOf Tryz.f62) .n [.v (.func (.func 64) #[] #[.pointer (some ⟨n0, n1, none⟩)])] = (t62 n0 n1) := by kernel_rfl
theorem c62 (n0 n1 : Nat) {w : World} {R : Ending → World → Prop} (h : (t62 n0 n1).sem Tryz.prog R ρ0 w) : Calls Tryz.prog 62 #[.func (.func 64) #[] #[.pointer (some ⟨n0, n1, none⟩)]] w R :=
  calls_of mixed Tryz.func62 rfl rfl (e62 n0 n1) h
def t83 (o0 : Option Addr) (n1 n2 : Nat) (n3 n4 : Nat) : T :=
  T.new (Obj.cells (Array.mk [Value.slice o0 n1 n2]) 97) fun n5 =>
  T.rf none 0 64 [Value.pointer (some (Addr.mk n3 n4 none))]
    (fun n6 l7 =>
    T.req (List.length l7 = 1)
    (T.asA (List.headD l7 (Value.tuple (Array.mk []))) fun l8 =>
    T.req (List.length l8 = 2)
    (T.asI IntKind.i32 (List.headD l8 (Value.tuple (Array.mk []))) fun i9 =>
    T.asI IntKind.i64 (List.headD (List.tail l8) (Value.tuple (Array.mk []))) fun i10 =>
    T.new (Obj.cells (Array.mk [Value.int IntKind.i32 0, Value.int IntKind.i64 0]) 51) fun n11 =>
    T.st n11 0 (Value.int IntKind.i32 i9)
    (T.st n11 1 (Value.int IntKind.i64 i10)
    (T.beg n6
    (T.ldS n5 0 fun o12 n13 n14 =>
    T.ldI IntKind.i32 n11 0 fun i15 =>
    T.ldI IntKind.i64 n11 1 fun i16 =>
    T.new (Obj.cells (Array.mk [Value.int IntKind.i32 i15, Value.int IntKind.i64 i16]) 51) fun n17 =>
    T.run
    (biV Builtin.append (Array.mk [97, 97]) 97 (Array.mk [Value.slice o12 n13 n14, Value.slice (some (Addr.mk n17 0 none)) 1 1]))
    fun v18 =>
    T.asS v18 fun o19 n20 n21 =>
    T.st n5 0 (Value.slice o19 n20 n21) (T.run (Instr.endRound n6 none) fun v22 => T.next 0 [v22] True)))))))
    (fun n23 => T.ldS n5 0 fun o24 n25 n26 => T.col n23 (T.ret (Value.slice o24 n25 n26))) (fun n27 => T.col n27 (T.ret (Value.slice none 0 0))) []
theorem e83 (o0 : Option Addr) (n1 n2 : Nat) (n3 n4 : Nat) : treeOf Tryz.prog Tryz.f83 (codeOf Tryz.f83) (.s .n (.s (.s .n (.u (.f [.agg [.int .i32, .int .i64]] .n .n))) .n)) [.v (.slice o0 n1 n2), .v (.func (.func 64) #[] #[.pointer (some ⟨n3, n4, none⟩)])] = (t83 o0 n1 n2 n3 n4) := by kernel_rfl
theorem c83 (o0 : Option Addr) (n1 n2 : Nat) (n3 n4 : Nat) {w : World} {R : Ending → World → Prop} (h : (t83 o0 n1 n2 n3 n4).sem Tryz.prog R ρ0 w) : Calls Tryz.prog 83 #[.slice o0 n1 n2, .func (.func 64) #[] #[.pointer (some ⟨n3, n4, none⟩)]] w R :=
  calls_of mixed Tryz.func83 rfl rfl (e83 o0 n1 n2 n3 n4) h
def t64 (n0 : Nat) (n1 n2 : Nat) : T :=
  T.ldM n1 n2 fun o3 =>
  T.run (Instr.range 96 (Value.map o3)) fun v4 =>
    T.asP v4 fun o5 =>
    T.sm o5 fun n6 n7 =>
    T.req (n7 = 0)
    (T.loop 0 [] fun l8 j9 =>
    T.run (Instr.next (Value.pointer (some (Addr.mk n6 0 none))) false 0) fun v10 =>
    T.asU v10 fun l11 =>
    T.ite (decide (List.length l11 = 1))
    (T.req (l11 = [Value.bool false])
    (T.ite false
    (T.run (Instr.entry (Value.pointer (some (Addr.mk n6 0 none)))) fun v12 =>
    T.asU v12 fun l13 =>
    T.req (List.length l13 = 2)
    (T.asA (List.getD l13 0 (Value.tuple (Array.mk []))) fun l14 =>
    T.req (List.length l14 = 2)
    (T.asI IntKind.i32 (List.headD l14 (Value.tuple (Array.mk []))) fun i15 =>
    T.asI IntKind.i64 (List.headD (List.tail l14) (Value.tuple (Array.mk []))) fun i16 =>
    T.asI IntKind.i64 (List.getD l13 1 (Value.tuple (Array.mk []))) fun i17 =>
    T.new (Obj.cells (Array.mk [Value.int IntKind.i32 0, Value.int IntKind.i64 0]) 51) fun n18 =>
    T.st n18 0 (Value.int IntKind.i32 i15)
    (T.st n18 1 (Value.int IntKind.i64 i16)
    (T.ldI IntKind.i32 n18 0 fun i19 =>
    T.ldI IntKind.i64 n18 1 fun i20 =>
    T.yl n0 [Value.agg (Array.mk [Value.int IntKind.i32 i19, Value.int IntKind.i64 i20])] fun v21 =>
    T.asB v21 fun b22 =>
    T.ite (!b22) (T.ret (Value.tuple (Array.mk [])))
    (T.next 0 []
    ([Value.func (Fn.yield n0) (Array.mk []) (Array.mk []), Value.pointer (some (Addr.mk n6 0 none))] =
    [Value.func (Fn.yield n0) (Array.mk []) (Array.mk []), Value.pointer (some (Addr.mk n6 0 none))] ∧ ([] : List Deferred) = [])))))))
    (T.ret (Value.tuple (Array.mk [])))))
    (T.req (List.length l11 = 3 ∧ List.headD l11 (Value.tuple (Array.mk [])) = Value.bool true)
    (T.asA (List.getD l11 1 (Value.tuple (Array.mk []))) fun l23 =>
    T.req (List.length l23 = 2)
    (T.asI IntKind.i32 (List.headD l23 (Value.tuple (Array.mk []))) fun i24 =>
    T.asI IntKind.i64 (List.headD (List.tail l23) (Value.tuple (Array.mk []))) fun i25 =>
    T.asI IntKind.i64 (List.getD l11 2 (Value.tuple (Array.mk []))) fun i26 =>
    T.ite true
    (T.run (Instr.entry (Value.pointer (some (Addr.mk n6 0 none)))) fun v27 =>
    T.asU v27 fun l28 =>
    T.req (List.length l28 = 2)
    (T.asA (List.getD l28 0 (Value.tuple (Array.mk []))) fun l29 =>
    T.req (List.length l29 = 2)
    (T.asI IntKind.i32 (List.headD l29 (Value.tuple (Array.mk []))) fun i30 =>
    T.asI IntKind.i64 (List.headD (List.tail l29) (Value.tuple (Array.mk []))) fun i31 =>
    T.asI IntKind.i64 (List.getD l28 1 (Value.tuple (Array.mk []))) fun i32 =>
    T.new (Obj.cells (Array.mk [Value.int IntKind.i32 0, Value.int IntKind.i64 0]) 51) fun n33 =>
    T.st n33 0 (Value.int IntKind.i32 i30)
    (T.st n33 1 (Value.int IntKind.i64 i31)
    (T.ldI IntKind.i32 n33 0 fun i34 =>
    T.ldI IntKind.i64 n33 1 fun i35 =>
    T.yl n0 [Value.agg (Array.mk [Value.int IntKind.i32 i34, Value.int IntKind.i64 i35])] fun v36 =>
    T.asB v36 fun b37 =>
    T.ite (!b37) (T.ret (Value.tuple (Array.mk [])))
    (T.next 0 []
    ([Value.func (Fn.yield n0) (Array.mk []) (Array.mk []),
    Value.pointer (some (Addr.mk n6 0 none))] =
    [Value.func (Fn.yield n0) (Array.mk []) (Array.mk []),
    Value.pointer (some (Addr.mk n6 0 none))] ∧ ([] : List Deferred) = [])))))))
    (T.ret (Value.tuple (Array.mk [])))))))
theorem e64 (n0 : Nat) (n1 n2 : Nat) : treeOf Tryz.prog Tryz.f64 (codeOf Tryz.f64) (.s .n (.u (.l [] [0, 5] .n))) [.v (.func (.yield n0) #[] #[]), .p n1 n2] = (t64 n0 n1 n2) := by kernel_rfl
theorem c64 (n0 : Nat) (n1 n2 : Nat) {w : World} {R : Ending → World → Prop} (h : (t64 n0 n1 n2).sem Tryz.prog R ρ0 w) : Calls Tryz.prog 64 #[.func (.yield n0) #[] #[], .pointer (some ⟨n1, n2, none⟩)] w R :=
  calls_of mixed Tryz.func64 rfl rfl (e64 n0 n1 n2) h
end Go.Proofs.YtpjcfnnnciknmaaGreat
