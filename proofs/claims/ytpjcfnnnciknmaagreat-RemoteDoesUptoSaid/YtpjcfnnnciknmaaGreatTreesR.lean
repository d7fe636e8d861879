/- The functions' trees, printed by a program (wip/tools/Emit.lean) and checked by the kernel against the model's own code. -/
import Derived.Test.YtpjcfnnnciknmaaGreatTreesA
import Derived.Test.YtpjcfnnnciknmaaGreatProg
namespace Go.Proofs.YtpjcfnnnciknmaaGreat
open Go hiding Expr
open Go.Proofs.YtpjcfnnnciknmaaGreat.Tr
set_option linter.unusedVariables false
set_option maxRecDepth 100000
def t5 (i0 : Int) : T :=
  T.ite (decide (i0 < 1)) (T.ret (Value.tuple (Array.mk [Value.pointer none, Value.int IntKind.i64 1])))
  (T.ite (decide (i0 > 8)) (T.ret (Value.tuple (Array.mk [Value.pointer none, Value.int IntKind.i64 1])))
    (T.new (Obj.cells (Array.mk [Value.int IntKind.i64 i0, Value.slice none 0 0]) 47) fun n1 =>
    T.ret (Value.tuple (Array.mk [Value.pointer (some (Addr.mk n1 0 none)), Value.int IntKind.i64 0]))))
theorem e5 (i0 : Int) : treeOf Tryz.prog Tryz.f5 (codeOf Tryz.f5) .n [.v (.int .i64 i0)] = (t5 i0) := by kernel_rfl
theorem c5 (i0 : Int) {w : World} {R : Ending → World → Prop} (h : (t5 i0).sem Tryz.prog R ρ0 w) : Calls Tryz.prog 5 #[.int .i64 i0] w R :=
  calls_of mixed Tryz.func5 rfl rfl (e5 i0) h
def t34 (n0 n1 : Nat) (i2 : Int) (i3 : Int) : T :=
  T.new (Obj.cells (Array.mk [Value.int IntKind.i64 i2, Value.int IntKind.i64 i3]) 32) fun n4 =>
  T.blk 0
    (fun l5 j6 =>
    T.asI IntKind.i64 (List.headD l5 (Value.tuple (Array.mk []))) fun i7 =>
    T.drew
    (T.ldS n0 (n1 + 1) fun o8 n9 n10 =>
    T.ite (decide (i7 < (↑n9 : Int)))
    (T.ldS n0 (n1 + 1) fun o11 n12 n13 =>
    T.req (0 ≤ i7 ∧ i7 < (↑n12 : Int))
    (T.sm o11 fun n14 n15 =>
    T.ldI IntKind.i64 n14 (n15 + Int.toNat i7 * 27) fun i16 =>
    T.ldI IntKind.i64 n14 (n15 + Int.toNat i7 * 27 + 1) fun i17 =>
    T.ldI IntKind.i64 n4 0 fun i18 =>
    T.ldI IntKind.i64 n4 1 fun i19 =>
    T.ret (Value.tuple (Array.mk [Value.int IntKind.i64 i7, Value.bool (i16 == i18 && (i17 == i19 && true))]))))
    (T.ret (Value.tuple (Array.mk [Value.int IntKind.i64 i7, Value.bool false])))))
    (T.loop 1 [Value.int IntKind.i64 0] fun l20 j21 =>
    T.asI IntKind.i64 (List.headD l20 (Value.tuple (Array.mk []))) fun i22 =>
    T.drew
    (T.ldS n0 (n1 + 1) fun o23 n24 n25 =>
    T.ite (decide (i22 < (↑n24 : Int)))
    (T.ldS n0 (n1 + 1) fun o26 n27 n28 =>
    T.req (0 ≤ i22 ∧ i22 < (↑n27 : Int))
    (T.sm o26 fun n29 n30 =>
    T.ldI IntKind.i64 n29 (n30 + Int.toNat i22 * 27) fun i31 =>
    T.ldI IntKind.i64 n29 (n30 + Int.toNat i22 * 27 + 1) fun i32 =>
    T.ldI IntKind.i64 n4 0 fun i33 =>
    T.ldI IntKind.i64 n4 1 fun i34 =>
    T.call 52
    [Value.agg (Array.mk [Value.int IntKind.i64 i31, Value.int IntKind.i64 i32]),
    Value.agg (Array.mk [Value.int IntKind.i64 i33, Value.int IntKind.i64 i34])]
    fun v35 =>
    T.asB v35 fun b36 =>
    T.chk [(Addr.mk n0 (n1 + 1) none, Value.slice o26 n27 n28), (Addr.mk n0 (n1 + 1) none, Value.slice o23 n24 n25)]
    (T.ite b36
    (T.next 1 [Value.int IntKind.i64 (IntKind.wrap IntKind.i64 (i22 + 1))]
    ([Value.pointer (some (Addr.mk n0 n1 none)), Value.pointer (some (Addr.mk n4 0 none))] =
    [Value.pointer (some (Addr.mk n0 n1 none)), Value.pointer (some (Addr.mk n4 0 none))] ∧ ([] : List Deferred) = []))
    (T.next 0 [Value.int IntKind.i64 i22]
    ([Value.pointer (some (Addr.mk n0 n1 none)), Value.pointer (some (Addr.mk n4 0 none))] =
    [Value.pointer (some (Addr.mk n0 n1 none)), Value.pointer (some (Addr.mk n4 0 none))] ∧ ([] : List Deferred) = [])))))
    (T.chk [(Addr.mk n0 (n1 + 1) none, Value.slice o23 n24 n25)]
    (T.next 0 [Value.int IntKind.i64 i22]
    ([Value.pointer (some (Addr.mk n0 n1 none)), Value.pointer (some (Addr.mk n4 0 none))] =
    [Value.pointer (some (Addr.mk n0 n1 none)), Value.pointer (some (Addr.mk n4 0 none))] ∧ ([] : List Deferred) = [])))))
theorem e34 (n0 n1 : Nat) (i2 : Int) (i3 : Int) : treeOf Tryz.prog Tryz.f34 (codeOf Tryz.f34) (.s .n (.s .n (.c [(6, .int .i64)] [0, 3] (.u (.l [(6, .int .i64)] [0, 3] (.s (.s (.p [0, 1, 2, 3, 4, 5, 6, 7, 8, 9, 10, 11, 12, 13, 14, 15, 16, 17, 18]) .n) .n))) (.s (.p [0, 1, 2, 3, 4, 5, 6, 7, 8, 9, 10, 11, 12, 13, 14, 15, 16, 17, 18, 19, 20, 21]) .n)))) [.p n0 n1, .v (.agg #[.int .i64 i2, .int .i64 i3])] = (t34 n0 n1 i2 i3) := by kernel_rfl
theorem c34 (n0 n1 : Nat) (i2 : Int) (i3 : Int) {w : World} {R : Ending → World → Prop} (h : (t34 n0 n1 i2 i3).sem Tryz.prog R ρ0 w) : Calls Tryz.prog 34 #[.pointer (some ⟨n0, n1, none⟩), .agg #[.int .i64 i2, .int .i64 i3]] w R :=
  calls_of mixed Tryz.func34 rfl rfl (e34 n0 n1 i2 i3) h
def t35 (n0 n1 : Nat) (i2 : Int) (i3 : Int) : T :=
  T.new (Obj.cells (Array.mk [Value.int IntKind.i64 i2, Value.int IntKind.i64 i3]) 32) fun n4 =>
  T.ldI IntKind.i64 n4 0 fun i5 =>
    T.ldI IntKind.i64 n4 1 fun i6 =>
    T.call 34 [Value.pointer (some (Addr.mk n0 n1 none)), Value.agg (Array.mk [Value.int IntKind.i64 i5, Value.int IntKind.i64 i6])] fun v7 =>
    T.asU v7 fun l8 =>
    T.req (List.length l8 = 2)
    (T.asI IntKind.i64 (List.headD l8 (Value.tuple (Array.mk []))) fun i9 =>
    T.asB (List.headD (List.tail l8) (Value.tuple (Array.mk []))) fun b10 =>
    T.ite (!b10)
    (T.ldS n0 (n1 + 1) fun o11 n12 n13 =>
    T.req (0 ≤ i9 ∧ i9 ≤ (↑n13 : Int))
    (T.run
    (biV Builtin.append (Array.mk [45, 45]) 45 (Array.mk [Value.slice none 0 0, Value.slice (sliceBase o11 0 n13 27) (Int.toNat i9) n13]))
    fun v14 =>
    T.asS v14 fun o15 n16 n17 =>
    T.ldI IntKind.i64 n4 0 fun i18 =>
    T.ldI IntKind.i64 n4 1 fun i19 =>
    T.new
    (Obj.cells
    (Array.mk
    [Value.int IntKind.i64 i18, Value.int IntKind.i64 i19, Value.bool false, Value.bool false, Value.bool false,
    Value.bool false, Value.bool false, Value.bool false, Value.bool false, Value.bool false, Value.bool false,
    Value.bool false, Value.bool false, Value.bool false, Value.bool false, Value.bool false, Value.bool false,
    Value.bool false, Value.bool false, Value.slice none 0 0, Value.slice none 0 0, Value.slice none 0 0,
    Value.slice none 0 0, Value.slice none 0 0, Value.slice none 0 0, Value.slice none 0 0, Value.slice none 0 0])
    85)
    fun n20 =>
    T.run
    (biV Builtin.append (Array.mk [45, 45]) 45 (Array.mk [Value.slice o15 n16 n17, Value.slice (some (Addr.mk n20 0 none)) 1 1]))
    fun v21 =>
    T.asS v21 fun o22 n23 n24 =>
    T.ldS n0 (n1 + 1) fun o25 n26 n27 =>
    T.req (0 ≤ i9 ∧ i9 ≤ (↑n26 : Int))
    (T.run
    (biV Builtin.append (Array.mk [45, 45]) 45
    (Array.mk
    [Value.slice o22 n23 n24,
    Value.slice (sliceBase o25 (Int.toNat i9) n27 27) (n26 - Int.toNat i9) (n27 - Int.toNat i9)]))
    fun v28 =>
    T.asS v28 fun o29 n30 n31 => T.st n0 (n1 + 1) (Value.slice o29 n30 n31) (T.ret (Value.int IntKind.i64 i9)))))
    (T.ret (Value.int IntKind.i64 i9)))
theorem e35 (n0 n1 : Nat) (i2 : Int) (i3 : Int) : treeOf Tryz.prog Tryz.f35 (codeOf Tryz.f35) .n [.p n0 n1, .v (.agg #[.int .i64 i2, .int .i64 i3])] = (t35 n0 n1 i2 i3) := by kernel_rfl
theorem c35 (n0 n1 : Nat) (i2 : Int) (i3 : Int) {w : World} {R : Ending → World → Prop} (h : (t35 n0 n1 i2 i3).sem Tryz.prog R ρ0 w) : Calls Tryz.prog 35 #[.pointer (some ⟨n0, n1, none⟩), .agg #[.int .i64 i2, .int .i64 i3]] w R :=
  calls_of mixed Tryz.func35 rfl rfl (e35 n0 n1 i2 i3) h
def t52 (i0 : Int) (i1 : Int) (i2 : Int) (i3 : Int) : T :=
  T.new (Obj.cells (Array.mk [Value.int IntKind.i64 i0, Value.int IntKind.i64 i1]) 32) fun n4 =>
  T.new (Obj.cells (Array.mk [Value.int IntKind.i64 i2, Value.int IntKind.i64 i3]) 32) fun n5 =>
    T.ldI IntKind.i64 n4 0 fun i6 =>
    T.ldI IntKind.i64 n5 0 fun i7 =>
    T.ite (decide (i6 < i7)) (T.ret (Value.bool true))
    (T.ldI IntKind.i64 n4 0 fun i8 =>
    T.ldI IntKind.i64 n5 0 fun i9 =>
    T.ite (i8 == i9) (T.ldI IntKind.i64 n4 1 fun i10 => T.ldI IntKind.i64 n5 1 fun i11 => T.ret (Value.bool (decide (i10 < i11))))
    (T.ret (Value.bool false)))
theorem e52 (i0 : Int) (i1 : Int) (i2 : Int) (i3 : Int) : treeOf Tryz.prog Tryz.f52 (codeOf Tryz.f52) .n [.v (.agg #[.int .i64 i0, .int .i64 i1]), .v (.agg #[.int .i64 i2, .int .i64 i3])] = (t52 i0 i1 i2 i3) := by kernel_rfl
theorem c52 (i0 : Int) (i1 : Int) (i2 : Int) (i3 : Int) {w : World} {R : Ending → World → Prop} (h : (t52 i0 i1 i2 i3).sem Tryz.prog R ρ0 w) : Calls Tryz.prog 52 #[.agg #[.int .i64 i0, .int .i64 i1], .agg #[.int .i64 i2, .int .i64 i3]] w R :=
  calls_of mixed Tryz.func52 rfl rfl (e52 i0 i1 i2 i3) h
def t38 (n0 n1 : Nat) : T :=
  T.loop 0 [Value.int IntKind.i64 0] fun l2 j3 =>
  T.asI IntKind.i64 (List.headD l2 (Value.tuple (Array.mk []))) fun i4 =>
    T.ite (decide (i4 < 8))
    (T.req (0 ≤ i4 ∧ i4 < 8)
    (T.ldB n0 (n1 + 3 + Int.toNat i4 * 1) fun b5 =>
    T.ite b5
    (T.req (0 ≤ i4 ∧ i4 < 8)
    (T.ldB n0 (n1 + 11 + Int.toNat i4 * 1) fun b6 =>
    T.ite (!b6) (T.ret (Value.bool false))
    (T.next 0 [Value.int IntKind.i64 (IntKind.wrap IntKind.i64 (i4 + 1))]
    ([Value.pointer (some (Addr.mk n0 n1 none))] = [Value.pointer (some (Addr.mk n0 n1 none))] ∧ ([] : List Deferred) = []))))
    (T.next 0 [Value.int IntKind.i64 (IntKind.wrap IntKind.i64 (i4 + 1))]
    ([Value.pointer (some (Addr.mk n0 n1 none))] = [Value.pointer (some (Addr.mk n0 n1 none))] ∧ ([] : List Deferred) = []))))
    (T.ldB n0 (n1 + 2) fun b7 => T.ret (Value.bool b7))
theorem e38 (n0 n1 : Nat) : treeOf Tryz.prog Tryz.f38 (codeOf Tryz.f38) (.s .n (.s (.s .n (.u (.l [(3, .int .i64)] [0] .n))) .n)) [.p n0 n1] = (t38 n0 n1) := by kernel_rfl
theorem c38 (n0 n1 : Nat) {w : World} {R : Ending → World → Prop} (h : (t38 n0 n1).sem Tryz.prog R ρ0 w) : Calls Tryz.prog 38 #[.pointer (some ⟨n0, n1, none⟩)] w R :=
  calls_of mixed Tryz.func38 rfl rfl (e38 n0 n1) h
def t12 (n0 n1 : Nat) (i2 : Int) (i3 : Int) (o4 : Option Addr) (n5 n6 : Nat) : T :=
  T.new (Obj.cells (Array.mk [Value.int IntKind.i64 i2, Value.int IntKind.i64 i3]) 32) fun n7 =>
  T.loop 0 [Value.int IntKind.i64 0] fun l8 j9 =>
    T.asI IntKind.i64 (List.headD l8 (Value.tuple (Array.mk []))) fun i10 =>
    T.ite (decide (i10 < (↑n5 : Int)))
    (T.drew
    (T.req (0 ≤ i10 ∧ i10 < (↑n5 : Int))
    (T.sm o4 fun n11 n12 =>
    T.ldI IntKind.i64 n11 (n12 + Int.toNat i10 * 1) fun i13 =>
    T.ite (decide (i13 < 0)) (T.ret (Value.int IntKind.i64 1))
    (T.req (0 ≤ i10 ∧ i10 < (↑n5 : Int))
    (T.sm o4 fun n14 n15 =>
    T.ldI IntKind.i64 n14 (n15 + Int.toNat i10 * 1) fun i16 =>
    T.ldI IntKind.i64 n0 n1 fun i17 =>
    T.ite (decide (i16 ≥ i17)) (T.ret (Value.int IntKind.i64 1))
    (T.next 0 [Value.int IntKind.i64 (IntKind.wrap IntKind.i64 (i10 + 1))]
    ([Value.pointer (some (Addr.mk n0 n1 none)), Value.slice o4 n5 n6, Value.pointer (some (Addr.mk n7 0 none))] =
    [Value.pointer (some (Addr.mk n0 n1 none)), Value.slice o4 n5 n6, Value.pointer (some (Addr.mk n7 0 none))] ∧ ([] : List Deferred) = [])))))))
    (T.blk 0
    (fun l18 j19 =>
    T.ldI IntKind.i64 n7 0 fun i20 =>
    T.ldI IntKind.i64 n7 1 fun i21 =>
    T.call 35 [Value.pointer (some (Addr.mk n0 n1 none)), Value.agg (Array.mk [Value.int IntKind.i64 i20, Value.int IntKind.i64 i21])] fun v22 =>
    T.asI IntKind.i64 v22 fun i23 =>
    T.ldS n0 (n1 + 1) fun o24 n25 n26 =>
    T.req (0 ≤ i23 ∧ i23 < (↑n25 : Int))
    (T.sm o24 fun n27 n28 =>
    T.st n27 (n28 + Int.toNat i23 * 27 + 2) (Value.bool true)
    (T.loop 0 [Value.int IntKind.i64 0] fun l29 j30 =>
    T.asI IntKind.i64 (List.headD l29 (Value.tuple (Array.mk []))) fun i31 =>
    T.ite (decide (i31 < (↑n5 : Int)))
    (T.drew
    (T.ldS n0 (n1 + 1) fun o32 n33 n34 =>
    T.req (0 ≤ i31 ∧ i31 < (↑n5 : Int))
    (T.sm o4 fun n35 n36 =>
    T.ldI IntKind.i64 n35 (n36 + Int.toNat i31 * 1) fun i37 =>
    T.req (0 ≤ i23 ∧ i23 < (↑n33 : Int))
    (T.sm o32 fun n38 n39 =>
    T.req (0 ≤ i37 ∧ i37 < 8)
    (T.st n38 (n39 + Int.toNat i23 * 27 + 3 + Int.toNat i37 * 1) (Value.bool true)
    (T.chk []
    (T.next 0 [Value.int IntKind.i64 (IntKind.wrap IntKind.i64 (i31 + 1))]
    ([Value.pointer (some (Addr.mk n0 n1 none)), Value.slice o4 n5 n6, Value.int IntKind.i64 i23] =
    [Value.pointer (some (Addr.mk n0 n1 none)), Value.slice o4 n5 n6, Value.int IntKind.i64 i23] ∧ ([] : List Deferred) = []))))))))
    (T.ret (Value.int IntKind.i64 0)))))
    (T.ldI IntKind.i64 n7 0 fun i40 =>
    T.ldI IntKind.i64 n7 1 fun i41 =>
    T.call 34 [Value.pointer (some (Addr.mk n0 n1 none)), Value.agg (Array.mk [Value.int IntKind.i64 i40, Value.int IntKind.i64 i41])] fun v42 =>
    T.asU v42 fun l43 =>
    T.req (List.length l43 = 2)
    (T.asI IntKind.i64 (List.headD l43 (Value.tuple (Array.mk []))) fun i44 =>
    T.asB (List.headD (List.tail l43) (Value.tuple (Array.mk []))) fun b45 =>
    T.ite b45
    (T.ldS n0 (n1 + 1) fun o46 n47 n48 =>
    T.req (0 ≤ i44 ∧ i44 < (↑n47 : Int))
    (T.sm o46 fun n49 n50 =>
    T.ldB n49 (n50 + Int.toNat i44 * 27 + 2) fun b51 =>
    T.ite b51 (T.ret (Value.int IntKind.i64 5))
    (T.next 0 []
    ([Value.pointer (some (Addr.mk n0 n1 none)), Value.slice o4 n5 n6, Value.pointer (some (Addr.mk n7 0 none))] =
    [Value.pointer (some (Addr.mk n0 n1 none)), Value.slice o4 n5 n6, Value.pointer (some (Addr.mk n7 0 none))] ∧ ([] : List Deferred) = []))))
    (T.next 0 []
    ([Value.pointer (some (Addr.mk n0 n1 none)), Value.slice o4 n5 n6, Value.pointer (some (Addr.mk n7 0 none))] =
    [Value.pointer (some (Addr.mk n0 n1 none)), Value.slice o4 n5 n6, Value.pointer (some (Addr.mk n7 0 none))] ∧ ([] : List Deferred) = [])))))
theorem e12 (n0 n1 : Nat) (i2 : Int) (i3 : Int) (o4 : Option Addr) (n5 n6 : Nat) : treeOf Tryz.prog Tryz.f12 (codeOf Tryz.f12) (.s .n (.s (.s .n (.u (.l [(7, .int .i64)] [0, 2, 4] (.s .n (.s (.u (.s (.p [0, 1, 2, 3, 4, 5, 6, 7, 8, 9, 10, 11, 12, 13, 14, 15]) .n)) .n))))) (.c [] [0, 2, 4] .n (.s .n (.s .n (.s (.s .n (.u (.l [(11, .int .i64)] [0, 2, 10] (.s .n (.s (.u (.p [0, 1, 2, 3, 4, 5, 6, 7, 8, 9, 10, 11, 12])) .n))))) .n)))))) [.p n0 n1, .v (.agg #[.int .i64 i2, .int .i64 i3]), .v (.slice o4 n5 n6)] = (t12 n0 n1 i2 i3 o4 n5 n6) := by kernel_rfl
theorem c12 (n0 n1 : Nat) (i2 : Int) (i3 : Int) (o4 : Option Addr) (n5 n6 : Nat) {w : World} {R : Ending → World → Prop} (h : (t12 n0 n1 i2 i3 o4 n5 n6).sem Tryz.prog R ρ0 w) : Calls Tryz.prog 12 #[.pointer (some ⟨n0, n1, none⟩), .agg #[.int .i64 i2, .int .i64 i3], .slice o4 n5 n6] w R :=
  calls_of mixed Tryz.func12 rfl rfl (e12 n0 n1 i2 i3 o4 n5 n6) h
def t13 (n0 n1 : Nat) (i2 : Int) (i3 : Int) (i4 : Int) (o5 : Option Addr) (n6 n7 : Nat) : T :=
  T.new (Obj.cells (Array.mk [Value.int IntKind.i64 i2, Value.int IntKind.i64 i3]) 32) fun n8 =>
  T.blk 0
    (fun l9 j10 =>
    T.call 36 [Value.slice o5 n6 n7] fun v11 =>
    T.asS v11 fun o12 n13 n14 =>
    T.blk 0
    (fun l15 j16 =>
    T.ldI IntKind.i64 n8 0 fun i17 =>
    T.ldI IntKind.i64 n8 1 fun i18 =>
    T.call 35 [Value.pointer (some (Addr.mk n0 n1 none)), Value.agg (Array.mk [Value.int IntKind.i64 i17, Value.int IntKind.i64 i18])] fun v19 =>
    T.asI IntKind.i64 v19 fun i20 =>
    T.ldS n0 (n1 + 1) fun o21 n22 n23 =>
    T.req (0 ≤ i20 ∧ i20 < (↑n22 : Int))
    (T.sm o21 fun n24 n25 =>
    T.req (0 ≤ i4 ∧ i4 < 8)
    (T.st n24 (n25 + Int.toNat i20 * 27 + 11 + Int.toNat i4 * 1) (Value.bool true)
    (T.ldS n0 (n1 + 1) fun o26 n27 n28 =>
    T.req (0 ≤ i20 ∧ i20 < (↑n27 : Int))
    (T.sm o26 fun n29 n30 =>
    T.req (0 ≤ i4 ∧ i4 < 8)
    (T.st n29 (n30 + Int.toNat i20 * 27 + 19 + Int.toNat i4 * 1) (Value.slice o12 n13 n14)
    (T.ldS n0 (n1 + 1) fun o31 n32 n33 =>
    T.req (0 ≤ i20 ∧ i20 < (↑n32 : Int))
    (T.sm o31 fun n34 n35 =>
    T.call 38 [Value.pointer (some (Addr.mk n34 (n35 + Int.toNat i20 * 27) none))] fun v36 =>
    T.asB v36 fun b37 => T.ret (Value.tuple (Array.mk [Value.bool b37, Value.int IntKind.i64 0]))))))))))
    (T.ldI IntKind.i64 n8 0 fun i38 =>
    T.ldI IntKind.i64 n8 1 fun i39 =>
    T.call 34 [Value.pointer (some (Addr.mk n0 n1 none)), Value.agg (Array.mk [Value.int IntKind.i64 i38, Value.int IntKind.i64 i39])] fun v40 =>
    T.asU v40 fun l41 =>
    T.req (List.length l41 = 2)
    (T.asI IntKind.i64 (List.headD l41 (Value.tuple (Array.mk []))) fun i42 =>
    T.asB (List.headD (List.tail l41) (Value.tuple (Array.mk []))) fun b43 =>
    T.ite b43
    (T.ldS n0 (n1 + 1) fun o44 n45 n46 =>
    T.req (0 ≤ i42 ∧ i42 < (↑n45 : Int))
    (T.sm o44 fun n47 n48 =>
    T.req (0 ≤ i4 ∧ i4 < 8)
    (T.ldB n47 (n48 + Int.toNat i42 * 27 + 11 + Int.toNat i4 * 1) fun b49 =>
    T.ite b49
    (T.ldS n0 (n1 + 1) fun o50 n51 n52 =>
    T.req (0 ≤ i42 ∧ i42 < (↑n51 : Int))
    (T.sm o50 fun n53 n54 =>
    T.req (0 ≤ i4 ∧ i4 < 8)
    (T.ldS n53 (n54 + Int.toNat i42 * 27 + 19 + Int.toNat i4 * 1) fun o55 n56 n57 =>
    T.call 37 [Value.slice o55 n56 n57, Value.slice o12 n13 n14] fun v58 =>
    T.asB v58 fun b59 =>
    T.ite (!b59) (T.ret (Value.tuple (Array.mk [Value.bool false, Value.int IntKind.i64 180])))
    (T.next 0 []
    ([Value.pointer (some (Addr.mk n0 n1 none)), Value.int IntKind.i64 i4,
    Value.pointer (some (Addr.mk n8 0 none)), Value.slice o12 n13 n14] =
    [Value.pointer (some (Addr.mk n0 n1 none)), Value.int IntKind.i64 i4,
    Value.pointer (some (Addr.mk n8 0 none)), Value.slice o12 n13 n14] ∧ ([] : List Deferred) = [])))))
    (T.next 0 []
    ([Value.pointer (some (Addr.mk n0 n1 none)), Value.int IntKind.i64 i4, Value.pointer (some (Addr.mk n8 0 none)),
    Value.slice o12 n13 n14] =
    [Value.pointer (some (Addr.mk n0 n1 none)), Value.int IntKind.i64 i4, Value.pointer (some (Addr.mk n8 0 none)),
    Value.slice o12 n13 n14] ∧ ([] : List Deferred) = [])))))
    (T.next 0 []
    ([Value.pointer (some (Addr.mk n0 n1 none)), Value.int IntKind.i64 i4, Value.pointer (some (Addr.mk n8 0 none)),
    Value.slice o12 n13 n14] =
    [Value.pointer (some (Addr.mk n0 n1 none)), Value.int IntKind.i64 i4, Value.pointer (some (Addr.mk n8 0 none)),
    Value.slice o12 n13 n14] ∧ ([] : List Deferred) = [])))))
    (T.ite (decide (i4 < 0)) (T.ret (Value.tuple (Array.mk [Value.bool false, Value.int IntKind.i64 1])))
    (T.ldI IntKind.i64 n0 n1 fun i60 =>
    T.ite (decide (i4 ≥ i60)) (T.ret (Value.tuple (Array.mk [Value.bool false, Value.int IntKind.i64 1])))
    (T.next 0 []
    ([Value.pointer (some (Addr.mk n0 n1 none)), Value.int IntKind.i64 i4, Value.slice o5 n6 n7, Value.pointer (some (Addr.mk n8 0 none))] =
    [Value.pointer (some (Addr.mk n0 n1 none)), Value.int IntKind.i64 i4, Value.slice o5 n6 n7, Value.pointer (some (Addr.mk n8 0 none))] ∧ ([] : List Deferred) = []))))
theorem e13 (n0 n1 : Nat) (i2 : Int) (i3 : Int) (i4 : Int) (o5 : Option Addr) (n6 n7 : Nat) : treeOf Tryz.prog Tryz.f13 (codeOf Tryz.f13) (.s .n (.c [] [0, 2, 3, 5] .n (.s .n (.c [] [0, 2, 5, 10] .n .n)))) [.p n0 n1, .v (.agg #[.int .i64 i2, .int .i64 i3]), .v (.int .i64 i4), .v (.slice o5 n6 n7)] = (t13 n0 n1 i2 i3 i4 o5 n6 n7) := by kernel_rfl
theorem c13 (n0 n1 : Nat) (i2 : Int) (i3 : Int) (i4 : Int) (o5 : Option Addr) (n6 n7 : Nat) {w : World} {R : Ending → World → Prop} (h : (t13 n0 n1 i2 i3 i4 o5 n6 n7).sem Tryz.prog R ρ0 w) : Calls Tryz.prog 13 #[.pointer (some ⟨n0, n1, none⟩), .agg #[.int .i64 i2, .int .i64 i3], .int .i64 i4, .slice o5 n6 n7] w R :=
  calls_of mixed Tryz.func13 rfl rfl (e13 n0 n1 i2 i3 i4 o5 n6 n7) h
def t15 (n0 n1 : Nat) (i2 : Int) (i3 : Int) : T :=
  T.new (Obj.cells (Array.mk [Value.int IntKind.i64 i2, Value.int IntKind.i64 i3]) 32) fun n4 =>
  T.ldI IntKind.i64 n4 0 fun i5 =>
    T.ldI IntKind.i64 n4 1 fun i6 =>
    T.call 34 [Value.pointer (some (Addr.mk n0 n1 none)), Value.agg (Array.mk [Value.int IntKind.i64 i5, Value.int IntKind.i64 i6])] fun v7 =>
    T.asU v7 fun l8 =>
    T.req (List.length l8 = 2)
    (T.asI IntKind.i64 (List.headD l8 (Value.tuple (Array.mk []))) fun i9 =>
    T.asB (List.headD (List.tail l8) (Value.tuple (Array.mk []))) fun b10 =>
    T.ite (!b10) (T.ret (Value.int IntKind.i64 4))
    (T.ldS n0 (n1 + 1) fun o11 n12 n13 =>
    T.req (0 ≤ i9 ∧ i9 ≤ (↑n13 : Int))
    (T.run
    (biV Builtin.append (Array.mk [45, 45]) 45 (Array.mk [Value.slice none 0 0, Value.slice (sliceBase o11 0 n13 27) (Int.toNat i9) n13]))
    fun v14 =>
    T.asS v14 fun o15 n16 n17 =>
    T.ldS n0 (n1 + 1) fun o18 n19 n20 =>
    T.req (0 ≤ IntKind.wrap IntKind.i64 (i9 + 1) ∧ IntKind.wrap IntKind.i64 (i9 + 1) ≤ (↑n19 : Int))
    (T.run
    (biV Builtin.append (Array.mk [45, 45]) 45
    (Array.mk
    [Value.slice o15 n16 n17,
    Value.slice (sliceBase o18 (Int.toNat (IntKind.wrap IntKind.i64 (i9 + 1))) n20 27)
    (n19 - Int.toNat (IntKind.wrap IntKind.i64 (i9 + 1))) (n20 - Int.toNat (IntKind.wrap IntKind.i64 (i9 + 1)))]))
    fun v21 => T.asS v21 fun o22 n23 n24 => T.st n0 (n1 + 1) (Value.slice o22 n23 n24) (T.ret (Value.int IntKind.i64 0))))))
theorem e15 (n0 n1 : Nat) (i2 : Int) (i3 : Int) : treeOf Tryz.prog Tryz.f15 (codeOf Tryz.f15) .n [.p n0 n1, .v (.agg #[.int .i64 i2, .int .i64 i3])] = (t15 n0 n1 i2 i3) := by kernel_rfl
theorem c15 (n0 n1 : Nat) (i2 : Int) (i3 : Int) {w : World} {R : Ending → World → Prop} (h : (t15 n0 n1 i2 i3).sem Tryz.prog R ρ0 w) : Calls Tryz.prog 15 #[.pointer (some ⟨n0, n1, none⟩), .agg #[.int .i64 i2, .int .i64 i3]] w R :=
  calls_of mixed Tryz.func15 rfl rfl (e15 n0 n1 i2 i3) h
def t17 (n0 n1 : Nat) (i2 : Int) (i3 : Int) : T :=
  T.new (Obj.cells (Array.mk [Value.int IntKind.i64 i2, Value.int IntKind.i64 i3]) 32) fun n4 =>
  T.ldI IntKind.i64 n4 0 fun i5 =>
    T.ldI IntKind.i64 n4 1 fun i6 =>
    T.call 34 [Value.pointer (some (Addr.mk n0 n1 none)), Value.agg (Array.mk [Value.int IntKind.i64 i5, Value.int IntKind.i64 i6])] fun v7 =>
    T.asU v7 fun l8 =>
    T.req (List.length l8 = 2)
    (T.asI IntKind.i64 (List.headD l8 (Value.tuple (Array.mk []))) fun i9 =>
    T.asB (List.headD (List.tail l8) (Value.tuple (Array.mk []))) fun b10 =>
    T.blk 0
    (fun l11 j12 =>
    T.loop 0 [Value.slice none 0 0, Value.int IntKind.i64 0] fun l13 j14 =>
    T.asS (List.headD l13 (Value.tuple (Array.mk []))) fun o15 n16 n17 =>
    T.asI IntKind.i64 (List.headD (List.tail l13) (Value.tuple (Array.mk []))) fun i18 =>
    T.ite (decide (i18 < 8))
    (T.ldS n0 (n1 + 1) fun o19 n20 n21 =>
    T.req (0 ≤ i9 ∧ i9 < (↑n20 : Int))
    (T.sm o19 fun n22 n23 =>
    T.req (0 ≤ i18 ∧ i18 < 8)
    (T.ldB n22 (n23 + Int.toNat i9 * 27 + 3 + Int.toNat i18 * 1) fun b24 =>
    T.ite b24
    (T.ldS n0 (n1 + 1) fun o25 n26 n27 =>
    T.req (0 ≤ i9 ∧ i9 < (↑n26 : Int))
    (T.sm o25 fun n28 n29 =>
    T.req (0 ≤ i18 ∧ i18 < 8)
    (T.ldS n28 (n29 + Int.toNat i9 * 27 + 19 + Int.toNat i18 * 1) fun o30 n31 n32 =>
    T.run
    (biV Builtin.append (Array.mk [34, 34]) 34 (Array.mk [Value.slice o15 n16 n17, Value.slice o30 n31 n32]))
    fun v33 =>
    T.asS v33 fun o34 n35 n36 =>
    T.next 0 [Value.slice o34 n35 n36, Value.int IntKind.i64 (IntKind.wrap IntKind.i64 (i18 + 1))]
    ([Value.pointer (some (Addr.mk n0 n1 none)), Value.int IntKind.i64 i9] =
    [Value.pointer (some (Addr.mk n0 n1 none)), Value.int IntKind.i64 i9] ∧ ([] : List Deferred) = []))))
    (T.next 0 [Value.slice o15 n16 n17, Value.int IntKind.i64 (IntKind.wrap IntKind.i64 (i18 + 1))]
    ([Value.pointer (some (Addr.mk n0 n1 none)), Value.int IntKind.i64 i9] =
    [Value.pointer (some (Addr.mk n0 n1 none)), Value.int IntKind.i64 i9] ∧ ([] : List Deferred) = [])))))
    (T.call 36 [Value.slice o15 n16 n17] fun v37 =>
    T.asS v37 fun o38 n39 n40 => T.ret (Value.tuple (Array.mk [Value.slice o38 n39 n40, Value.int IntKind.i64 0]))))
    (T.ite (!b10) (T.ret (Value.tuple (Array.mk [Value.slice none 0 0, Value.int IntKind.i64 4])))
    (T.ldS n0 (n1 + 1) fun o41 n42 n43 =>
    T.req (0 ≤ i9 ∧ i9 < (↑n42 : Int))
    (T.sm o41 fun n44 n45 =>
    T.call 38 [Value.pointer (some (Addr.mk n44 (n45 + Int.toNat i9 * 27) none))] fun v46 =>
    T.asB v46 fun b47 =>
    T.ite (!b47) (T.ret (Value.tuple (Array.mk [Value.slice none 0 0, Value.int IntKind.i64 4])))
    (T.next 0 []
    ([Value.pointer (some (Addr.mk n0 n1 none)), Value.int IntKind.i64 i9] =
    [Value.pointer (some (Addr.mk n0 n1 none)), Value.int IntKind.i64 i9] ∧ ([] : List Deferred) = []))))))
theorem e17 (n0 n1 : Nat) (i2 : Int) (i3 : Int) : treeOf Tryz.prog Tryz.f17 (codeOf Tryz.f17) (.s .n (.s .n (.c [] [0, 6] .n (.s .n (.s (.s .n (.u (.l [(8, .slice), (9, .int .i64)] [0, 6] .n))) .n))))) [.p n0 n1, .v (.agg #[.int .i64 i2, .int .i64 i3])] = (t17 n0 n1 i2 i3) := by kernel_rfl
theorem c17 (n0 n1 : Nat) (i2 : Int) (i3 : Int) {w : World} {R : Ending → World → Prop} (h : (t17 n0 n1 i2 i3).sem Tryz.prog R ρ0 w) : Calls Tryz.prog 17 #[.pointer (some ⟨n0, n1, none⟩), .agg #[.int .i64 i2, .int .i64 i3]] w R :=
  calls_of mixed Tryz.func17 rfl rfl (e17 n0 n1 i2 i3) h
def t21 (n0 n1 : Nat) (i2 : Int) (i3 : Int) : T :=
  T.new (Obj.cells (Array.mk [Value.int IntKind.i64 i2, Value.int IntKind.i64 i3]) 32) fun n4 =>
  T.ldI IntKind.i64 n4 0 fun i5 =>
    T.ldI IntKind.i64 n4 1 fun i6 =>
    T.call 34 [Value.pointer (some (Addr.mk n0 n1 none)), Value.agg (Array.mk [Value.int IntKind.i64 i5, Value.int IntKind.i64 i6])] fun v7 =>
    T.asU v7 fun l8 =>
    T.req (List.length l8 = 2)
    (T.asI IntKind.i64 (List.headD l8 (Value.tuple (Array.mk []))) fun i9 =>
    T.asB (List.headD (List.tail l8) (Value.tuple (Array.mk []))) fun b10 =>
    T.ite b10
    (T.ldS n0 (n1 + 1) fun o11 n12 n13 =>
    T.req (0 ≤ i9 ∧ i9 < (↑n12 : Int))
    (T.sm o11 fun n14 n15 =>
    T.call 38 [Value.pointer (some (Addr.mk n14 (n15 + Int.toNat i9 * 27) none))] fun v16 => T.asB v16 fun b17 => T.ret (Value.bool b17)))
    (T.ret (Value.bool false)))
theorem e21 (n0 n1 : Nat) (i2 : Int) (i3 : Int) : treeOf Tryz.prog Tryz.f21 (codeOf Tryz.f21) .n [.p n0 n1, .v (.agg #[.int .i64 i2, .int .i64 i3])] = (t21 n0 n1 i2 i3) := by kernel_rfl
theorem c21 (n0 n1 : Nat) (i2 : Int) (i3 : Int) {w : World} {R : Ending → World → Prop} (h : (t21 n0 n1 i2 i3).sem Tryz.prog R ρ0 w) : Calls Tryz.prog 21 #[.pointer (some ⟨n0, n1, none⟩), .agg #[.int .i64 i2, .int .i64 i3]] w R :=
  calls_of mixed Tryz.func21 rfl rfl (e21 n0 n1 i2 i3) h
def t24 (n0 n1 : Nat) (i2 : Int) (i3 : Int) : T :=
  T.new (Obj.cells (Array.mk [Value.int IntKind.i64 i2, Value.int IntKind.i64 i3]) 32) fun n4 =>
  T.ldI IntKind.i64 n4 0 fun i5 =>
    T.ldI IntKind.i64 n4 1 fun i6 =>
    T.call 34 [Value.pointer (some (Addr.mk n0 n1 none)), Value.agg (Array.mk [Value.int IntKind.i64 i5, Value.int IntKind.i64 i6])] fun v7 =>
    T.asU v7 fun l8 =>
    T.req (List.length l8 = 2)
    (T.asI IntKind.i64 (List.headD l8 (Value.tuple (Array.mk []))) fun i9 =>
    T.asB (List.headD (List.tail l8) (Value.tuple (Array.mk []))) fun b10 =>
    T.loop 0 [Value.slice none 0 0, Value.int IntKind.i64 0] fun l11 j12 =>
    T.asS (List.headD l11 (Value.tuple (Array.mk []))) fun o13 n14 n15 =>
    T.asI IntKind.i64 (List.headD (List.tail l11) (Value.tuple (Array.mk []))) fun i16 =>
    T.blk 1
    (fun l17 j18 =>
    T.blk 1
    (fun l19 j20 =>
    T.asS (List.headD l19 (Value.tuple (Array.mk []))) fun o21 n22 n23 =>
    T.next 0 [Value.slice o21 n22 n23, Value.int IntKind.i64 (IntKind.wrap IntKind.i64 (i16 + 1))]
    ([Value.pointer (some (Addr.mk n0 n1 none)), Value.int IntKind.i64 i9, Value.bool b10] =
    [Value.pointer (some (Addr.mk n0 n1 none)), Value.int IntKind.i64 i9, Value.bool b10] ∧ ([] : List Deferred) = []))
    (T.ldS n0 (n1 + 1) fun o24 n25 n26 =>
    T.req (0 ≤ i9 ∧ i9 < (↑n25 : Int))
    (T.sm o24 fun n27 n28 =>
    T.req (0 ≤ i16 ∧ i16 < 8)
    (T.ldB n27 (n28 + Int.toNat i9 * 27 + 3 + Int.toNat i16 * 1) fun b29 =>
    T.ite b29
    (T.ldS n0 (n1 + 1) fun o30 n31 n32 =>
    T.req (0 ≤ i9 ∧ i9 < (↑n31 : Int))
    (T.sm o30 fun n33 n34 =>
    T.req (0 ≤ i16 ∧ i16 < 8)
    (T.ldB n33 (n34 + Int.toNat i9 * 27 + 11 + Int.toNat i16 * 1) fun b35 =>
    T.ite (!b35)
    (T.new (Obj.cells (Array.mk [Value.int IntKind.i64 i16]) 3) fun n36 =>
    T.run
    (biV Builtin.append (Array.mk [33, 33]) 33
    (Array.mk [Value.slice o13 n14 n15, Value.slice (some (Addr.mk n36 0 none)) 1 1]))
    fun v37 =>
    T.asS v37 fun o38 n39 n40 =>
    T.next 1 [Value.slice o38 n39 n40]
    ([Value.pointer (some (Addr.mk n0 n1 none)), Value.int IntKind.i64 i9, Value.bool b10,
    Value.int IntKind.i64 i16] =
    [Value.pointer (some (Addr.mk n0 n1 none)), Value.int IntKind.i64 i9, Value.bool b10,
    Value.int IntKind.i64 i16] ∧ ([] : List Deferred) = []))
    (T.next 1 [Value.slice o13 n14 n15]
    ([Value.pointer (some (Addr.mk n0 n1 none)), Value.int IntKind.i64 i9, Value.bool b10,
    Value.int IntKind.i64 i16] =
    [Value.pointer (some (Addr.mk n0 n1 none)), Value.int IntKind.i64 i9, Value.bool b10,
    Value.int IntKind.i64 i16] ∧ ([] : List Deferred) = [])))))
    (T.next 1 [Value.slice o13 n14 n15]
    ([Value.pointer (some (Addr.mk n0 n1 none)), Value.int IntKind.i64 i9, Value.bool b10, Value.int IntKind.i64 i16] =
    [Value.pointer (some (Addr.mk n0 n1 none)), Value.int IntKind.i64 i9, Value.bool b10, Value.int IntKind.i64 i16] ∧ ([] : List Deferred) = []))))))
    (T.ite b10
    (T.ite (decide (i16 < 8))
    (T.next 1 []
    ([Value.pointer (some (Addr.mk n0 n1 none)), Value.int IntKind.i64 i9, Value.bool b10, Value.slice o13 n14 n15,
    Value.int IntKind.i64 i16] =
    [Value.pointer (some (Addr.mk n0 n1 none)), Value.int IntKind.i64 i9, Value.bool b10, Value.slice o13 n14 n15,
    Value.int IntKind.i64 i16] ∧ ([] : List Deferred) = []))
    (T.ret (Value.slice o13 n14 n15)))
    (T.ret (Value.slice o13 n14 n15))))
theorem e24 (n0 n1 : Nat) (i2 : Int) (i3 : Int) : treeOf Tryz.prog Tryz.f24 (codeOf Tryz.f24) (.s .n (.s .n (.s .n (.s (.s .n (.u (.l [(7, .slice), (8, .int .i64)] [0, 5, 6] (.c [] [0, 5, 6, 7, 8] .n (.c [(7, .slice)] [0, 5, 6, 8] .n .n))))) .n)))) [.p n0 n1, .v (.agg #[.int .i64 i2, .int .i64 i3])] = (t24 n0 n1 i2 i3) := by kernel_rfl
theorem c24 (n0 n1 : Nat) (i2 : Int) (i3 : Int) {w : World} {R : Ending → World → Prop} (h : (t24 n0 n1 i2 i3).sem Tryz.prog R ρ0 w) : Calls Tryz.prog 24 #[.pointer (some ⟨n0, n1, none⟩), .agg #[.int .i64 i2, .int .i64 i3]] w R :=
  calls_of mixed Tryz.func24 rfl rfl (e24 n0 n1 i2 i3) h
def t3 (i0 : Int) (o1 : Option Addr) (n2 n3 : Nat) : T :=
  T.call 4 [Value.int IntKind.i64 i0] fun v4 =>
  T.asU v4 fun l5 =>
    T.req (List.length l5 = 2)
    (T.asP (List.headD l5 (Value.tuple (Array.mk []))) fun o6 =>
    T.asI IntKind.i64 (List.headD (List.tail l5) (Value.tuple (Array.mk []))) fun i7 =>
    T.call 5 [Value.int IntKind.i64 i0] fun v8 =>
    T.asU v8 fun l9 =>
    T.req (List.length l9 = 2)
    (T.asP (List.headD l9 (Value.tuple (Array.mk []))) fun o10 =>
    T.asI IntKind.i64 (List.headD (List.tail l9) (Value.tuple (Array.mk []))) fun i11 =>
    T.blk 0
    (fun l12 j13 =>
    T.ite (Option.isNone o10) (T.ret (Value.bool true))
    (T.loop 0 [Value.pointer o6, Value.int IntKind.i64 0] fun l14 j15 =>
    T.asP (List.headD l14 (Value.tuple (Array.mk []))) fun o16 =>
    T.asI IntKind.i64 (List.headD (List.tail l14) (Value.tuple (Array.mk []))) fun i17 =>
    T.ite (decide (i17 < (↑n2 : Int)))
    (T.req (0 ≤ i17 ∧ i17 < (↑n2 : Int))
    (T.sm o1 fun n18 n19 =>
    T.ldI IntKind.i64 n18 (n19 + Int.toNat i17 * 6) fun i20 =>
    T.ldI IntKind.i64 n18 (n19 + Int.toNat i17 * 6 + 1) fun i21 =>
    T.ldI IntKind.i64 n18 (n19 + Int.toNat i17 * 6 + 2) fun i22 =>
    T.ldI IntKind.i64 n18 (n19 + Int.toNat i17 * 6 + 3) fun i23 =>
    T.ldS n18 (n19 + Int.toNat i17 * 6 + 4) fun o24 n25 n26 =>
    T.ldS n18 (n19 + Int.toNat i17 * 6 + 5) fun o27 n28 n29 =>
    T.new
    (Obj.cells
    (Array.mk
    [Value.int IntKind.i64 0, Value.int IntKind.i64 0, Value.int IntKind.i64 0, Value.int IntKind.i64 0,
    Value.slice none 0 0, Value.slice none 0 0])
    36)
    fun n30 =>
    T.st n30 0 (Value.int IntKind.i64 i20)
    (T.st n30 1 (Value.int IntKind.i64 i21)
    (T.st n30 2 (Value.int IntKind.i64 i22)
    (T.st n30 3 (Value.int IntKind.i64 i23)
    (T.st n30 4 (Value.slice o24 n25 n26)
    (T.st n30 5 (Value.slice o27 n28 n29)
    (T.ldI IntKind.i64 n30 0 fun i31 =>
    T.ldI IntKind.i64 n30 1 fun i32 =>
    T.ldI IntKind.i64 n30 2 fun i33 =>
    T.ldI IntKind.i64 n30 3 fun i34 =>
    T.ldS n30 4 fun o35 n36 n37 =>
    T.ldS n30 5 fun o38 n39 n40 =>
    T.call 7
    [Value.pointer o16, Value.pointer o10,
    Value.agg
    (Array.mk
    [Value.int IntKind.i64 i31, Value.int IntKind.i64 i32,
    Value.int IntKind.i64 i33, Value.int IntKind.i64 i34,
    Value.slice o35 n36 n37, Value.slice o38 n39 n40])]
    fun v41 =>
    T.asU v41 fun l42 =>
    T.req (List.length l42 = 2)
    (T.asP (List.headD l42 (Value.tuple (Array.mk []))) fun o43 =>
    T.asB (List.headD (List.tail l42) (Value.tuple (Array.mk []))) fun b44 =>
    T.ite (!b44) (T.ret (Value.bool false))
    (T.ldI IntKind.i64 n30 1 fun i45 =>
    T.ldI IntKind.i64 n30 2 fun i46 =>
    T.call 8
    [Value.pointer o43, Value.pointer o10,
    Value.agg
    (Array.mk
    [Value.int IntKind.i64 i45, Value.int IntKind.i64 i46])]
    fun v47 =>
    T.asB v47 fun b48 =>
    T.ite (!b48) (T.ret (Value.bool false))
    (T.next 0
    [Value.pointer o43,
    Value.int IntKind.i64
    (IntKind.wrap IntKind.i64 (i17 + 1))]
    ([Value.pointer o10, Value.slice o1 n2 n3,
    Value.int IntKind.i64 (↑n2 : Int)] =
    [Value.pointer o10, Value.slice o1 n2 n3,
    Value.int IntKind.i64 (↑n2 : Int)] ∧ ([] : List Deferred) = []))))))))))))
    (T.ret (Value.bool true))))
    (T.call 6 [] fun v49 =>
    T.asB v49 fun b50 =>
    T.ite (!b50) (T.ret (Value.bool false))
    (T.ite (i7 != i11) (T.ret (Value.bool false))
    (T.ite (!Option.isNone o6 == Option.isNone o10) (T.ret (Value.bool false))
    (T.next 0 []
    ([Value.slice o1 n2 n3, Value.pointer o6, Value.pointer o10] = [Value.slice o1 n2 n3, Value.pointer o6, Value.pointer o10] ∧ ([] : List Deferred) = [])))))))
theorem e3 (i0 : Int) (o1 : Option Addr) (n2 n3 : Nat) : treeOf Tryz.prog Tryz.f3 (codeOf Tryz.f3) (.s .n (.s .n (.s .n (.c [] [1, 5, 7] .n (.s .n (.s (.s .n (.u (.l [(5, .ptr), (40, .int .i64)] [7, 38, 39] .n))) .n)))))) [.v (.int .i64 i0), .v (.slice o1 n2 n3)] = (t3 i0 o1 n2 n3) := by kernel_rfl
theorem c3 (i0 : Int) (o1 : Option Addr) (n2 n3 : Nat) {w : World} {R : Ending → World → Prop} (h : (t3 i0 o1 n2 n3).sem Tryz.prog R ρ0 w) : Calls Tryz.prog 3 #[.int .i64 i0, .slice o1 n2 n3] w R :=
  calls_of mixed Tryz.func3 rfl rfl (e3 i0 o1 n2 n3) h
def t7 (n0 n1 : Nat) (n2 n3 : Nat) (i4 : Int) (i5 : Int) (i6 : Int) (i7 : Int) (o8 : Option Addr) (n9 n10 : Nat) (o11 : Option Addr) (n12 n13 : Nat) : T :=
  T.new
  (Obj.cells
    (Array.mk
    [Value.int IntKind.i64 i4, Value.int IntKind.i64 i5, Value.int IntKind.i64 i6, Value.int IntKind.i64 i7, Value.slice o8 n9 n10, Value.slice o11 n12 n13])
    36)
  fun n14 =>
  T.ldI IntKind.i64 n14 0 fun i15 =>
    T.ite (i15 == 0)
    (T.drew
    (T.ldI IntKind.i64 n14 1 fun i16 =>
    T.ldI IntKind.i64 n14 2 fun i17 =>
    T.ldS n14 4 fun o18 n19 n20 =>
    T.ldI IntKind.i64 n14 1 fun i21 =>
    T.ldI IntKind.i64 n14 2 fun i22 =>
    T.ldS n14 4 fun o23 n24 n25 =>
    T.call 10
    [Value.pointer (some (Addr.mk n0 n1 none)), Value.agg (Array.mk [Value.int IntKind.i64 i16, Value.int IntKind.i64 i17]),
    Value.slice o18 n19 n20]
    fun v26 =>
    T.asI IntKind.i64 v26 fun i27 =>
    T.chk
    [(Addr.mk n14 4 none, Value.slice o23 n24 n25), (Addr.mk n14 1 none, Value.int IntKind.i64 i21),
    (Addr.mk n14 2 none, Value.int IntKind.i64 i22)]
    (T.call 12
    [Value.pointer (some (Addr.mk n2 n3 none)), Value.agg (Array.mk [Value.int IntKind.i64 i21, Value.int IntKind.i64 i22]),
    Value.slice o23 n24 n25]
    fun v28 =>
    T.asI IntKind.i64 v28 fun i29 =>
    T.chk [] (T.ret (Value.tuple (Array.mk [Value.pointer (some (Addr.mk n0 n1 none)), Value.bool (i27 == i29)]))))))
    (T.ite (i15 == 1)
    (T.ldI IntKind.i64 n14 1 fun i30 =>
    T.ldI IntKind.i64 n14 2 fun i31 =>
    T.ldI IntKind.i64 n14 3 fun i32 =>
    T.ldS n14 5 fun o33 n34 n35 =>
    T.call 9
    [Value.pointer (some (Addr.mk n0 n1 none)), Value.agg (Array.mk [Value.int IntKind.i64 i30, Value.int IntKind.i64 i31]),
    Value.int IntKind.i64 i32, Value.slice o33 n34 n35]
    fun v36 =>
    T.asU v36 fun l37 =>
    T.req (List.length l37 = 2)
    (T.asB (List.headD l37 (Value.tuple (Array.mk []))) fun b38 =>
    T.asI IntKind.i64 (List.headD (List.tail l37) (Value.tuple (Array.mk []))) fun i39 =>
    T.ldI IntKind.i64 n14 1 fun i40 =>
    T.ldI IntKind.i64 n14 2 fun i41 =>
    T.ldI IntKind.i64 n14 3 fun i42 =>
    T.ldS n14 5 fun o43 n44 n45 =>
    T.call 13
    [Value.pointer (some (Addr.mk n2 n3 none)), Value.agg (Array.mk [Value.int IntKind.i64 i40, Value.int IntKind.i64 i41]),
    Value.int IntKind.i64 i42, Value.slice o43 n44 n45]
    fun v46 =>
    T.asU v46 fun l47 =>
    T.req (List.length l47 = 2)
    (T.asB (List.headD l47 (Value.tuple (Array.mk []))) fun b48 =>
    T.asI IntKind.i64 (List.headD (List.tail l47) (Value.tuple (Array.mk []))) fun i49 =>
    T.ite (b38 == b48)
    (T.ret (Value.tuple (Array.mk [Value.pointer (some (Addr.mk n0 n1 none)), Value.bool (i39 == i49)])))
    (T.ret (Value.tuple (Array.mk [Value.pointer (some (Addr.mk n0 n1 none)), Value.bool false]))))))
    (T.ite (i15 == 2)
    (T.drew
    (T.ldI IntKind.i64 n14 1 fun i50 =>
    T.ldI IntKind.i64 n14 2 fun i51 =>
    T.ldI IntKind.i64 n14 1 fun i52 =>
    T.ldI IntKind.i64 n14 2 fun i53 =>
    T.call 14 [Value.pointer (some (Addr.mk n0 n1 none)), Value.agg (Array.mk [Value.int IntKind.i64 i50, Value.int IntKind.i64 i51])]
    fun v54 =>
    T.asI IntKind.i64 v54 fun i55 =>
    T.chk [(Addr.mk n14 1 none, Value.int IntKind.i64 i52), (Addr.mk n14 2 none, Value.int IntKind.i64 i53)]
    (T.call 15 [Value.pointer (some (Addr.mk n2 n3 none)), Value.agg (Array.mk [Value.int IntKind.i64 i52, Value.int IntKind.i64 i53])]
    fun v56 =>
    T.asI IntKind.i64 v56 fun i57 =>
    T.chk [] (T.ret (Value.tuple (Array.mk [Value.pointer (some (Addr.mk n0 n1 none)), Value.bool (i55 == i57)]))))))
    (T.call 16 [Value.pointer (some (Addr.mk n0 n1 none))] fun v58 =>
    T.asP v58 fun o59 =>
    T.ite (Option.isNone o59) (T.ret (Value.tuple (Array.mk [Value.pointer (some (Addr.mk n0 n1 none)), Value.bool false])))
    (T.ldI IntKind.i64 n14 1 fun i60 =>
    T.ldI IntKind.i64 n14 2 fun i61 =>
    T.new (Obj.cells (Array.mk [Value.int IntKind.i32 0, Value.int IntKind.i64 0, Value.int IntKind.i64 77]) 53) fun n62 =>
    T.call 9
    [Value.pointer (some (Addr.mk n0 n1 none)), Value.agg (Array.mk [Value.int IntKind.i64 i60, Value.int IntKind.i64 i61]),
    Value.int IntKind.i64 0, Value.slice (some (Addr.mk n62 0 none)) 1 1]
    fun v63 =>
    T.asU v63 fun l64 =>
    T.req (List.length l64 = 2)
    (T.asB (List.headD l64 (Value.tuple (Array.mk []))) fun b65 =>
    T.asI IntKind.i64 (List.headD (List.tail l64) (Value.tuple (Array.mk []))) fun i66 =>
    T.ldI IntKind.i64 n14 1 fun i67 =>
    T.ldI IntKind.i64 n14 2 fun i68 =>
    T.call 10
    [Value.pointer (some (Addr.mk n0 n1 none)), Value.agg (Array.mk [Value.int IntKind.i64 i67, Value.int IntKind.i64 i68]),
    Value.slice none 0 0]
    fun v69 =>
    T.asI IntKind.i64 v69 fun i70 =>
    T.ldI IntKind.i64 n14 1 fun i71 =>
    T.ldI IntKind.i64 n14 2 fun i72 =>
    T.call 14
    [Value.pointer (some (Addr.mk n0 n1 none)),
    Value.agg (Array.mk [Value.int IntKind.i64 i71, Value.int IntKind.i64 i72])]
    fun v73 =>
    T.asI IntKind.i64 v73 fun i74 => T.ret (Value.tuple (Array.mk [Value.pointer o59, Value.bool true])))))))
theorem e7 (n0 n1 : Nat) (n2 n3 : Nat) (i4 : Int) (i5 : Int) (i6 : Int) (i7 : Int) (o8 : Option Addr) (n9 n10 : Nat) (o11 : Option Addr) (n12 n13 : Nat) : treeOf Tryz.prog Tryz.f7 (codeOf Tryz.f7) (.s .n (.s (.s .n (.u (.s .n (.s (.s (.p [0, 1, 2, 3, 4, 5, 7, 8, 9, 10, 11, 6, 12, 13, 14, 15]) .n) (.s .n (.s .n (.s .n (.s (.s (.p [0, 1, 2, 3, 5, 6, 7, 4, 8, 9, 10, 11]) .n) .n)))))))) .n)) [.p n0 n1, .p n2 n3, .v (.agg #[.int .i64 i4, .int .i64 i5, .int .i64 i6, .int .i64 i7, .slice o8 n9 n10, .slice o11 n12 n13])] = (t7 n0 n1 n2 n3 i4 i5 i6 i7 o8 n9 n10 o11 n12 n13) := by kernel_rfl
theorem c7 (n0 n1 : Nat) (n2 n3 : Nat) (i4 : Int) (i5 : Int) (i6 : Int) (i7 : Int) (o8 : Option Addr) (n9 n10 : Nat) (o11 : Option Addr) (n12 n13 : Nat) {w : World} {R : Ending → World → Prop} (h : (t7 n0 n1 n2 n3 i4 i5 i6 i7 o8 n9 n10 o11 n12 n13).sem Tryz.prog R ρ0 w) : Calls Tryz.prog 7 #[.pointer (some ⟨n0, n1, none⟩), .pointer (some ⟨n2, n3, none⟩), .agg #[.int .i64 i4, .int .i64 i5, .int .i64 i6, .int .i64 i7, .slice o8 n9 n10, .slice o11 n12 n13]] w R :=
  calls_of mixed Tryz.func7 rfl rfl (e7 n0 n1 n2 n3 i4 i5 i6 i7 o8 n9 n10 o11 n12 n13) h
def t8 (n0 n1 : Nat) (n2 n3 : Nat) (i4 : Int) (i5 : Int) : T :=
  T.new (Obj.cells (Array.mk [Value.int IntKind.i64 i4, Value.int IntKind.i64 i5]) 32) fun n6 =>
  T.ldI IntKind.i64 n6 0 fun i7 =>
    T.ldI IntKind.i64 n6 1 fun i8 =>
    T.call 11 [Value.pointer (some (Addr.mk n0 n1 none)), Value.agg (Array.mk [Value.int IntKind.i64 i7, Value.int IntKind.i64 i8])] fun v9 =>
    T.asU v9 fun l10 =>
    T.req (List.length l10 = 2)
    (T.asS (List.headD l10 (Value.tuple (Array.mk []))) fun o11 n12 n13 =>
    T.asI IntKind.i64 (List.headD (List.tail l10) (Value.tuple (Array.mk []))) fun i14 =>
    T.ldI IntKind.i64 n6 0 fun i15 =>
    T.ldI IntKind.i64 n6 1 fun i16 =>
    T.call 17 [Value.pointer (some (Addr.mk n2 n3 none)), Value.agg (Array.mk [Value.int IntKind.i64 i15, Value.int IntKind.i64 i16])]
    fun v17 =>
    T.asU v17 fun l18 =>
    T.req (List.length l18 = 2)
    (T.asS (List.headD l18 (Value.tuple (Array.mk []))) fun o19 n20 n21 =>
    T.asI IntKind.i64 (List.headD (List.tail l18) (Value.tuple (Array.mk []))) fun i22 =>
    T.call 18 [Value.pointer (some (Addr.mk n0 n1 none))] fun v23 =>
    T.drew
    (T.call 19 [Value.slice o11 n12 n13, Value.slice o19 n20 n21] fun v24 =>
    T.asB v24 fun b25 =>
    T.chk []
    (T.ite b25
    (T.ite (i14 == i22)
    (T.ldI IntKind.i64 n6 0 fun i26 =>
    T.ldI IntKind.i64 n6 1 fun i27 =>
    T.ldI IntKind.i64 n6 0 fun i28 =>
    T.ldI IntKind.i64 n6 1 fun i29 =>
    T.call 20
    [Value.pointer (some (Addr.mk n0 n1 none)),
    Value.agg (Array.mk [Value.int IntKind.i64 i26, Value.int IntKind.i64 i27])]
    fun v30 =>
    T.asB v30 fun b31 =>
    T.chk [(Addr.mk n6 0 none, Value.int IntKind.i64 i28), (Addr.mk n6 1 none, Value.int IntKind.i64 i29)]
    (T.call 21
    [Value.pointer (some (Addr.mk n2 n3 none)),
    Value.agg (Array.mk [Value.int IntKind.i64 i28, Value.int IntKind.i64 i29])]
    fun v32 =>
    T.asB v32 fun b33 =>
    T.chk []
    (T.ite (b31 == b33)
    (T.ldI IntKind.i64 n6 0 fun i34 =>
    T.ldI IntKind.i64 n6 1 fun i35 =>
    T.ldI IntKind.i64 n6 0 fun i36 =>
    T.ldI IntKind.i64 n6 1 fun i37 =>
    T.call 23
    [Value.pointer (some (Addr.mk n0 n1 none)),
    Value.agg (Array.mk [Value.int IntKind.i64 i34, Value.int IntKind.i64 i35])]
    fun v38 =>
    T.asS v38 fun o39 n40 n41 =>
    T.chk
    [(Addr.mk n6 0 none, Value.int IntKind.i64 i36),
    (Addr.mk n6 1 none, Value.int IntKind.i64 i37)]
    (T.call 24
    [Value.pointer (some (Addr.mk n2 n3 none)),
    Value.agg (Array.mk [Value.int IntKind.i64 i36, Value.int IntKind.i64 i37])]
    fun v42 =>
    T.asS v42 fun o43 n44 n45 =>
    T.chk []
    (T.call 22 [Value.slice o39 n40 n41, Value.slice o43 n44 n45] fun v46 =>
    T.asB v46 fun b47 =>
    T.chk []
    (T.ite b47
    (T.ldS n2 (n3 + 1) fun o48 n49 n50 =>
    T.call 25 [v23, Value.slice o48 n49 n50] fun v51 =>
    T.asB v51 fun b52 =>
    T.chk []
    (T.ite b52
    (T.ldS n2 (n3 + 1) fun o53 n54 n55 =>
    T.call 25 [v23, Value.slice o53 n54 n55] fun v56 =>
    T.asB v56 fun b57 =>
    T.chk []
    (T.ite b57
    (T.ldS n2 (n3 + 1) fun o58 n59 n60 =>
    T.call 26
    [Value.pointer
    (some (Addr.mk n0 n1 none))]
    fun v61 =>
    T.asI IntKind.i64 v61 fun i62 =>
    T.chk
    [(Addr.mk n2 (n3 + 1) none,
    Value.slice o58 n59 n60)]
    (T.ret
    (Value.bool (i62 == (↑n59 : Int)))))
    (T.chk [] (T.ret (Value.bool false)))))
    (T.chk [] (T.chk [] (T.ret (Value.bool false))))))
    (T.chk [] (T.chk [] (T.chk [] (T.ret (Value.bool false)))))))))
    (T.chk []
    (T.chk [] (T.chk [] (T.chk [] (T.chk [] (T.chk [] (T.ret (Value.bool false)))))))))))
    (T.chk [] (T.chk [] (T.chk [] (T.chk [] (T.chk [] (T.chk [] (T.chk [] (T.chk [] (T.ret (Value.bool false)))))))))))
    (T.chk [] (T.chk [] (T.chk [] (T.chk [] (T.chk [] (T.chk [] (T.chk [] (T.chk [] (T.ret (Value.bool false))))))))))))))
theorem e8 (n0 n1 : Nat) (n2 n3 : Nat) (i4 : Int) (i5 : Int) : treeOf Tryz.prog Tryz.f8 (codeOf Tryz.f8) (.s .n (.s .n (.s .n (.s .n (.s (.p [0, 1, 2, 3, 4, 5, 6, 7, 8, 9, 10, 12, 13, 11, 14, 15, 16, 17, 18, 19, 21, 22, 20, 23, 24, 25, 26, 27, 28, 29, 30, 31, 32, 33, 34, 35, 36, 37, 38, 39, 40, 41, 42, 43, 45, 46, 47, 48, 49, 44, 50, 51, 52]) .n))))) [.p n0 n1, .p n2 n3, .v (.agg #[.int .i64 i4, .int .i64 i5])] = (t8 n0 n1 n2 n3 i4 i5) := by kernel_rfl
theorem c8 (n0 n1 : Nat) (n2 n3 : Nat) (i4 : Int) (i5 : Int) {w : World} {R : Ending → World → Prop} (h : (t8 n0 n1 n2 n3 i4 i5).sem Tryz.prog R ρ0 w) : Calls Tryz.prog 8 #[.pointer (some ⟨n0, n1, none⟩), .pointer (some ⟨n2, n3, none⟩), .agg #[.int .i64 i4, .int .i64 i5]] w R :=
  calls_of mixed Tryz.func8 rfl rfl (e8 n0 n1 n2 n3 i4 i5) h
end Go.Proofs.YtpjcfnnnciknmaaGreat
