/- The functions' trees, printed by a program (wip/tools/Emit.lean) and checked by the kernel against the model's own code. -/
import Derived.Test.YtcmdbaafnbdpbaaTreesA
import Derived.Test.YtcmdbaafnbdpbaaProg
namespace Go.Proofs.Ytcmdbaafnbdpbaa
open Go hiding Expr
open Go.Proofs.Ytcmdbaafnbdpbaa.Tr
set_option linter.unusedVariables false
set_option maxRecDepth 100000
def t14 (i0 : Int) (o1 : Option Addr) (n2 n3 : Nat) (i4 : Int) (i5 : Int) (i6 : Int) (o7 : Option Addr) (n8 n9 : Nat) (i10 : Int) (i11 : Int) : T :=
  T.new (Obj.cells (Array.mk [Value.int IntKind.i64 i0, Value.slice o1 n2 n3, Value.int IntKind.i64 i4, Value.int IntKind.i64 i5]) 30) fun n12 =>
  T.new (Obj.cells (Array.mk [Value.int IntKind.i64 i6, Value.slice o7 n8 n9, Value.int IntKind.i64 i10, Value.int IntKind.i64 i11]) 30) fun n13 =>
    T.blk 0
    (fun l14 j15 =>
    T.loop 0 [Value.int IntKind.i64 0] fun l16 j17 =>
    T.asI IntKind.i64 (List.headD l16 (Value.tuple (Array.mk []))) fun i18 =>
    T.ldS n12 1 fun o19 n20 n21 =>
    T.ite (decide (i18 < (↑n20 : Int)))
    (T.drew
    (T.ldS n12 1 fun o22 n23 n24 =>
    T.req (0 ≤ i18 ∧ i18 < (↑n23 : Int))
    (T.sm o22 fun n25 n26 =>
    T.ldI IntKind.i64 n25 (n26 + Int.toNat i18 * 1) fun i27 =>
    T.ldS n13 1 fun o28 n29 n30 =>
    T.req (0 ≤ i18 ∧ i18 < (↑n29 : Int))
    (T.sm o28 fun n31 n32 =>
    T.ldI IntKind.i64 n31 (n32 + Int.toNat i18 * 1) fun i33 =>
    T.ite (i27 != i33) (T.ret (Value.bool false))
    (T.next 0 [Value.int IntKind.i64 (IntKind.wrap IntKind.i64 (i18 + 1))]
    ([Value.pointer (some (Addr.mk n12 0 none)), Value.pointer (some (Addr.mk n13 0 none))] =
    [Value.pointer (some (Addr.mk n12 0 none)), Value.pointer (some (Addr.mk n13 0 none))] ∧ ([] : List Deferred) = []))))))
    (T.ret (Value.bool true)))
    (T.ldI IntKind.i64 n12 0 fun i34 =>
    T.ldI IntKind.i64 n13 0 fun i35 =>
    T.ite (i34 != i35) (T.ret (Value.bool false))
    (T.ldI IntKind.i64 n12 2 fun i36 =>
    T.ldI IntKind.i64 n13 2 fun i37 =>
    T.ite (i36 != i37) (T.ret (Value.bool false))
    (T.ldI IntKind.i64 n12 3 fun i38 =>
    T.ldI IntKind.i64 n13 3 fun i39 =>
    T.ite (i38 != i39) (T.ret (Value.bool false))
    (T.ldS n12 1 fun o40 n41 n42 =>
    T.ldS n13 1 fun o43 n44 n45 =>
    T.ite ((↑n41 : Int) != (↑n44 : Int)) (T.ret (Value.bool false))
    (T.next 0 []
    ([Value.pointer (some (Addr.mk n12 0 none)), Value.pointer (some (Addr.mk n13 0 none))] =
    [Value.pointer (some (Addr.mk n12 0 none)), Value.pointer (some (Addr.mk n13 0 none))] ∧ ([] : List Deferred) = []))))))
theorem e14 (i0 : Int) (o1 : Option Addr) (n2 n3 : Nat) (i4 : Int) (i5 : Int) (i6 : Int) (o7 : Option Addr) (n8 n9 : Nat) (i10 : Int) (i11 : Int) : treeOf Try.prog Try.f14 (codeOf Try.f14) (.s .n (.c [] [2, 3] .n (.s (.s .n (.u (.l [(5, .int .i64)] [2, 3] (.s .n (.s (.u (.s (.p [0, 1, 2, 3, 4, 5, 6, 7, 8, 9, 10]) .n)) .n))))) .n))) [.v (.agg #[.int .i64 i0, .slice o1 n2 n3, .int .i64 i4, .int .i64 i5]), .v (.agg #[.int .i64 i6, .slice o7 n8 n9, .int .i64 i10, .int .i64 i11])] = (t14 i0 o1 n2 n3 i4 i5 i6 o7 n8 n9 i10 i11) := by kernel_rfl
theorem c14 (i0 : Int) (o1 : Option Addr) (n2 n3 : Nat) (i4 : Int) (i5 : Int) (i6 : Int) (o7 : Option Addr) (n8 n9 : Nat) (i10 : Int) (i11 : Int) {w : World} {R : Ending → World → Prop} (h : (t14 i0 o1 n2 n3 i4 i5 i6 o7 n8 n9 i10 i11).sem Try.prog R ρ0 w) : Calls Try.prog 14 #[.agg #[.int .i64 i0, .slice o1 n2 n3, .int .i64 i4, .int .i64 i5], .agg #[.int .i64 i6, .slice o7 n8 n9, .int .i64 i10, .int .i64 i11]] w R :=
  calls_of mixed Try.func14 rfl rfl (e14 i0 o1 n2 n3 i4 i5 i6 o7 n8 n9 i10 i11) h
def t17 (o0 : Option Addr) (n1 n2 : Nat) : T :=
  T.new (Obj.cells (Array.mk [Value.slice none 0 0]) 50) fun n3 =>
  T.loop 0 [Value.int IntKind.i64 0] fun l4 j5 =>
    T.asI IntKind.i64 (List.headD l4 (Value.tuple (Array.mk []))) fun i6 =>
    T.ite (decide (i6 < (↑n1 : Int)))
    (T.blk 1
    (fun l7 j8 =>
    T.req (0 ≤ i6 ∧ i6 < (↑n1 : Int))
    (T.sm o0 fun n9 n10 =>
    T.ldI IntKind.i64 n9 (n10 + Int.toNat i6 * 6) fun i11 =>
    T.call 33 [Value.pointer (some (Addr.mk n3 0 none)), Value.int IntKind.i64 i11] fun v12 =>
    T.asU v12 fun l13 =>
    T.req (List.length l13 = 2)
    (T.asI IntKind.i64 (List.headD l13 (Value.tuple (Array.mk []))) fun i14 =>
    T.asB (List.headD (List.tail l13) (Value.tuple (Array.mk []))) fun b15 =>
    T.ite b15 (T.ret (Value.tuple (Array.mk [Value.pointer none, Value.int IntKind.i64 5])))
    (T.ldS n3 0 fun o16 n17 n18 =>
    T.ite (decide ((↑n17 : Int) ≥ 64)) (T.ret (Value.tuple (Array.mk [Value.pointer none, Value.int IntKind.i64 6])))
    (T.req (0 ≤ i6 ∧ i6 < (↑n1 : Int))
    (T.sm o0 fun n19 n20 =>
    T.ldI IntKind.i64 n19 (n20 + Int.toNat i6 * 6) fun i21 =>
    T.ldI IntKind.i64 n19 (n20 + Int.toNat i6 * 6 + 1) fun i22 =>
    T.ldI IntKind.i64 n19 (n20 + Int.toNat i6 * 6 + 2) fun i23 =>
    T.ldS n19 (n20 + Int.toNat i6 * 6 + 3) fun o24 n25 n26 =>
    T.ldI IntKind.i64 n19 (n20 + Int.toNat i6 * 6 + 4) fun i27 =>
    T.ldI IntKind.i64 n19 (n20 + Int.toNat i6 * 6 + 5) fun i28 =>
    T.call 34
    [Value.pointer (some (Addr.mk n3 0 none)),
    Value.agg
    (Array.mk
    [Value.int IntKind.i64 i21, Value.int IntKind.i64 i22, Value.int IntKind.i64 i23,
    Value.slice o24 n25 n26, Value.int IntKind.i64 i27, Value.int IntKind.i64 i28])]
    fun v29 =>
    T.next 0 [Value.int IntKind.i64 (IntKind.wrap IntKind.i64 (i6 + 1))]
    ([Value.slice o0 n1 n2, Value.pointer (some (Addr.mk n3 0 none))] =
    [Value.slice o0 n1 n2, Value.pointer (some (Addr.mk n3 0 none))] ∧ ([] : List Deferred) = [])))))))
    (T.req (0 ≤ i6 ∧ i6 < (↑n1 : Int))
    (T.sm o0 fun n30 n31 =>
    T.ldI IntKind.i64 n30 (n31 + Int.toNat i6 * 6) fun i32 =>
    T.call 32 [Value.int IntKind.i64 i32] fun v33 =>
    T.asB v33 fun b34 =>
    T.ite (!b34) (T.ret (Value.tuple (Array.mk [Value.pointer none, Value.int IntKind.i64 1])))
    (T.req (0 ≤ i6 ∧ i6 < (↑n1 : Int))
    (T.sm o0 fun n35 n36 =>
    T.ldI IntKind.i64 n35 (n36 + Int.toNat i6 * 6 + 1) fun i37 =>
    T.call 32 [Value.int IntKind.i64 i37] fun v38 =>
    T.asB v38 fun b39 =>
    T.ite (!b39) (T.ret (Value.tuple (Array.mk [Value.pointer none, Value.int IntKind.i64 1])))
    (T.next 1 []
    ([Value.slice o0 n1 n2, Value.pointer (some (Addr.mk n3 0 none)), Value.int IntKind.i64 i6] =
    [Value.slice o0 n1 n2, Value.pointer (some (Addr.mk n3 0 none)), Value.int IntKind.i64 i6] ∧ ([] : List Deferred) = [])))))))
    (T.ret (Value.tuple (Array.mk [Value.pointer (some (Addr.mk n3 0 none)), Value.int IntKind.i64 0])))
theorem e17 (o0 : Option Addr) (n1 n2 : Nat) : treeOf Try.prog Try.f17 (codeOf Try.f17) (.s .n (.s .n (.s (.s .n (.u (.l [(5, .int .i64)] [0, 4] (.s .n (.s (.u (.c [] [0, 4, 5] .n .n)) .n))))) .n))) [.v (.slice o0 n1 n2)] = (t17 o0 n1 n2) := by kernel_rfl
theorem c17 (o0 : Option Addr) (n1 n2 : Nat) {w : World} {R : Ending → World → Prop} (h : (t17 o0 n1 n2).sem Try.prog R ρ0 w) : Calls Try.prog 17 #[.slice o0 n1 n2] w R :=
  calls_of mixed Try.func17 rfl rfl (e17 o0 n1 n2) h
def t21 (n0 n1 : Nat) (i2 : Int) (i3 : Int) : T :=
  T.new (Obj.cells (Array.mk [Value.int IntKind.i64 0, Value.slice none 0 0, Value.int IntKind.i64 0, Value.int IntKind.i64 0]) 30) fun n4 =>
  T.blk 0
    (fun l5 j6 =>
    T.call 33 [Value.pointer (some (Addr.mk n0 n1 none)), Value.int IntKind.i64 i2] fun v7 =>
    T.asU v7 fun l8 =>
    T.req (List.length l8 = 2)
    (T.asI IntKind.i64 (List.headD l8 (Value.tuple (Array.mk []))) fun i9 =>
    T.asB (List.headD (List.tail l8) (Value.tuple (Array.mk []))) fun b10 =>
    T.ite b10
    (T.ldS n0 n1 fun o11 n12 n13 =>
    T.req (0 ≤ i9 ∧ i9 < (↑n12 : Int))
    (T.sm o11 fun n14 n15 =>
    T.ldI IntKind.i64 n14 (n15 + Int.toNat i9 * 6) fun i16 =>
    T.ldI IntKind.i64 n14 (n15 + Int.toNat i9 * 6 + 1) fun i17 =>
    T.ldI IntKind.i64 n14 (n15 + Int.toNat i9 * 6 + 2) fun i18 =>
    T.ldS n14 (n15 + Int.toNat i9 * 6 + 3) fun o19 n20 n21 =>
    T.ldI IntKind.i64 n14 (n15 + Int.toNat i9 * 6 + 4) fun i22 =>
    T.ldI IntKind.i64 n14 (n15 + Int.toNat i9 * 6 + 5) fun i23 =>
    T.new
    (Obj.cells
    (Array.mk
    [Value.int IntKind.i64 0, Value.int IntKind.i64 0, Value.int IntKind.i64 0, Value.slice none 0 0,
    Value.int IntKind.i64 0, Value.int IntKind.i64 0])
    56)
    fun n24 =>
    T.st n24 0 (Value.int IntKind.i64 i16)
    (T.st n24 1 (Value.int IntKind.i64 i17)
    (T.st n24 2 (Value.int IntKind.i64 i18)
    (T.st n24 3 (Value.slice o19 n20 n21)
    (T.st n24 4 (Value.int IntKind.i64 i22)
    (T.st n24 5 (Value.int IntKind.i64 i23)
    (T.ldI IntKind.i64 n24 1 fun i25 =>
    T.ite (i3 == i25)
    (T.ldI IntKind.i64 n24 2 fun i26 =>
    T.ldS n24 3 fun o27 n28 n29 =>
    T.ldI IntKind.i64 n24 4 fun i30 =>
    T.ldI IntKind.i64 n24 5 fun i31 =>
    T.st n4 0 (Value.int IntKind.i64 i26)
    (T.st n4 1 (Value.slice o27 n28 n29)
    (T.st n4 2 (Value.int IntKind.i64 i30)
    (T.st n4 3 (Value.int IntKind.i64 i31)
    (T.ldI IntKind.i64 n4 0 fun i32 =>
    T.ldS n4 1 fun o33 n34 n35 =>
    T.ldI IntKind.i64 n4 2 fun i36 =>
    T.ldI IntKind.i64 n4 3 fun i37 =>
    T.ret
    (Value.tuple
    (Array.mk
    [Value.agg
    (Array.mk
    [Value.int IntKind.i64 i32, Value.slice o33 n34 n35,
    Value.int IntKind.i64 i36, Value.int IntKind.i64 i37]),
    Value.int IntKind.i64 2])))))))
    (T.ldI IntKind.i64 n24 1 fun i38 =>
    T.ite (decide (i3 < i38))
    (T.st n4 0 (Value.int IntKind.i64 0)
    (T.st n4 1 (Value.slice none 0 0)
    (T.st n4 2 (Value.int IntKind.i64 0)
    (T.st n4 3 (Value.int IntKind.i64 0)
    (T.ldI IntKind.i64 n4 0 fun i39 =>
    T.ldS n4 1 fun o40 n41 n42 =>
    T.ldI IntKind.i64 n4 2 fun i43 =>
    T.ldI IntKind.i64 n4 3 fun i44 =>
    T.ret
    (Value.tuple
    (Array.mk
    [Value.agg
    (Array.mk
    [Value.int IntKind.i64 i39, Value.slice o40 n41 n42,
    Value.int IntKind.i64 i43, Value.int IntKind.i64 i44]),
    Value.int IntKind.i64 3])))))))
    (T.ldI IntKind.i64 n24 1 fun i45 =>
    T.ite (i3 == IntKind.wrap IntKind.i64 (i45 + 1))
    (T.st n4 0 (Value.int IntKind.i64 0)
    (T.st n4 1 (Value.slice none 0 0)
    (T.st n4 2 (Value.int IntKind.i64 0)
    (T.st n4 3 (Value.int IntKind.i64 0)
    (T.ldI IntKind.i64 n4 0 fun i46 =>
    T.ldS n4 1 fun o47 n48 n49 =>
    T.ldI IntKind.i64 n4 2 fun i50 =>
    T.ldI IntKind.i64 n4 3 fun i51 =>
    T.ret
    (Value.tuple
    (Array.mk
    [Value.agg
    (Array.mk
    [Value.int IntKind.i64 i46, Value.slice o47 n48 n49,
    Value.int IntKind.i64 i50, Value.int IntKind.i64 i51]),
    Value.int IntKind.i64 1])))))))
    (T.st n4 0 (Value.int IntKind.i64 0)
    (T.st n4 1 (Value.slice none 0 0)
    (T.st n4 2 (Value.int IntKind.i64 0)
    (T.st n4 3 (Value.int IntKind.i64 0)
    (T.ldI IntKind.i64 n4 0 fun i52 =>
    T.ldS n4 1 fun o53 n54 n55 =>
    T.ldI IntKind.i64 n4 2 fun i56 =>
    T.ldI IntKind.i64 n4 3 fun i57 =>
    T.ret
    (Value.tuple
    (Array.mk
    [Value.agg
    (Array.mk
    [Value.int IntKind.i64 i52, Value.slice o53 n54 n55,
    Value.int IntKind.i64 i56, Value.int IntKind.i64 i57]),
    Value.int IntKind.i64 4])))))))))))))))))
    (T.ite (i3 != 1)
    (T.st n4 0 (Value.int IntKind.i64 0)
    (T.st n4 1 (Value.slice none 0 0)
    (T.st n4 2 (Value.int IntKind.i64 0)
    (T.st n4 3 (Value.int IntKind.i64 0)
    (T.ldI IntKind.i64 n4 0 fun i58 =>
    T.ldS n4 1 fun o59 n60 n61 =>
    T.ldI IntKind.i64 n4 2 fun i62 =>
    T.ldI IntKind.i64 n4 3 fun i63 =>
    T.ret
    (Value.tuple
    (Array.mk
    [Value.agg
    (Array.mk
    [Value.int IntKind.i64 i58, Value.slice o59 n60 n61, Value.int IntKind.i64 i62, Value.int IntKind.i64 i63]),
    Value.int IntKind.i64 4])))))))
    (T.ldS n0 n1 fun o64 n65 n66 =>
    T.ite (decide ((↑n65 : Int) ≥ 64))
    (T.st n4 0 (Value.int IntKind.i64 0)
    (T.st n4 1 (Value.slice none 0 0)
    (T.st n4 2 (Value.int IntKind.i64 0)
    (T.st n4 3 (Value.int IntKind.i64 0)
    (T.ldI IntKind.i64 n4 0 fun i67 =>
    T.ldS n4 1 fun o68 n69 n70 =>
    T.ldI IntKind.i64 n4 2 fun i71 =>
    T.ldI IntKind.i64 n4 3 fun i72 =>
    T.ret
    (Value.tuple
    (Array.mk
    [Value.agg
    (Array.mk
    [Value.int IntKind.i64 i67, Value.slice o68 n69 n70, Value.int IntKind.i64 i71, Value.int IntKind.i64 i72]),
    Value.int IntKind.i64 5])))))))
    (T.st n4 0 (Value.int IntKind.i64 0)
    (T.st n4 1 (Value.slice none 0 0)
    (T.st n4 2 (Value.int IntKind.i64 0)
    (T.st n4 3 (Value.int IntKind.i64 0)
    (T.ldI IntKind.i64 n4 0 fun i73 =>
    T.ldS n4 1 fun o74 n75 n76 =>
    T.ldI IntKind.i64 n4 2 fun i77 =>
    T.ldI IntKind.i64 n4 3 fun i78 =>
    T.ret
    (Value.tuple
    (Array.mk
    [Value.agg
    (Array.mk
    [Value.int IntKind.i64 i73, Value.slice o74 n75 n76, Value.int IntKind.i64 i77, Value.int IntKind.i64 i78]),
    Value.int IntKind.i64 1])))))))))))
    (T.call 32 [Value.int IntKind.i64 i2] fun v79 =>
    T.asB v79 fun b80 =>
    T.ite (!b80)
    (T.st n4 0 (Value.int IntKind.i64 0)
    (T.st n4 1 (Value.slice none 0 0)
    (T.st n4 2 (Value.int IntKind.i64 0)
    (T.st n4 3 (Value.int IntKind.i64 0)
    (T.ldI IntKind.i64 n4 0 fun i81 =>
    T.ldS n4 1 fun o82 n83 n84 =>
    T.ldI IntKind.i64 n4 2 fun i85 =>
    T.ldI IntKind.i64 n4 3 fun i86 =>
    T.ret
    (Value.tuple
    (Array.mk
    [Value.agg
    (Array.mk [Value.int IntKind.i64 i81, Value.slice o82 n83 n84, Value.int IntKind.i64 i85, Value.int IntKind.i64 i86]),
    Value.int IntKind.i64 6])))))))
    (T.call 32 [Value.int IntKind.i64 i3] fun v87 =>
    T.asB v87 fun b88 =>
    T.ite (!b88)
    (T.st n4 0 (Value.int IntKind.i64 0)
    (T.st n4 1 (Value.slice none 0 0)
    (T.st n4 2 (Value.int IntKind.i64 0)
    (T.st n4 3 (Value.int IntKind.i64 0)
    (T.ldI IntKind.i64 n4 0 fun i89 =>
    T.ldS n4 1 fun o90 n91 n92 =>
    T.ldI IntKind.i64 n4 2 fun i93 =>
    T.ldI IntKind.i64 n4 3 fun i94 =>
    T.ret
    (Value.tuple
    (Array.mk
    [Value.agg
    (Array.mk [Value.int IntKind.i64 i89, Value.slice o90 n91 n92, Value.int IntKind.i64 i93, Value.int IntKind.i64 i94]),
    Value.int IntKind.i64 6])))))))
    (T.next 0 []
    ([Value.pointer (some (Addr.mk n0 n1 none)), Value.int IntKind.i64 i2, Value.int IntKind.i64 i3, Value.pointer (some (Addr.mk n4 0 none))] =
    [Value.pointer (some (Addr.mk n0 n1 none)), Value.int IntKind.i64 i2, Value.int IntKind.i64 i3,
    Value.pointer (some (Addr.mk n4 0 none))] ∧ ([] : List Deferred) = []))))
theorem e21 (n0 n1 : Nat) (i2 : Int) (i3 : Int) : treeOf Try.prog Try.f21 (codeOf Try.f21) (.s .n (.c [] [0, 1, 2, 6] .n .n)) [.p n0 n1, .v (.int .i64 i2), .v (.int .i64 i3)] = (t21 n0 n1 i2 i3) := by kernel_rfl
theorem c21 (n0 n1 : Nat) (i2 : Int) (i3 : Int) {w : World} {R : Ending → World → Prop} (h : (t21 n0 n1 i2 i3).sem Try.prog R ρ0 w) : Calls Try.prog 21 #[.pointer (some ⟨n0, n1, none⟩), .int .i64 i2, .int .i64 i3] w R :=
  calls_of mixed Try.func21 rfl rfl (e21 n0 n1 i2 i3) h
def t22 (n0 n1 : Nat) (i2 : Int) (i3 : Int) (i4 : Int) (o5 : Option Addr) (n6 n7 : Nat) (i8 : Int) (i9 : Int) : T :=
  T.new (Obj.cells (Array.mk [Value.int IntKind.i64 i4, Value.slice o5 n6 n7, Value.int IntKind.i64 i8, Value.int IntKind.i64 i9]) 30) fun n10 =>
  T.call 21 [Value.pointer (some (Addr.mk n0 n1 none)), Value.int IntKind.i64 i2, Value.int IntKind.i64 i3] fun v11 =>
    T.asU v11 fun l12 =>
    T.req (List.length l12 = 2)
    (T.asA (List.headD l12 (Value.tuple (Array.mk []))) fun l13 =>
    T.req (List.length l13 = 4)
    (T.asI IntKind.i64 (List.headD l13 (Value.tuple (Array.mk []))) fun i14 =>
    T.asS (List.headD (List.tail l13) (Value.tuple (Array.mk []))) fun o15 n16 n17 =>
    T.asI IntKind.i64 (List.headD (List.tail (List.tail l13)) (Value.tuple (Array.mk []))) fun i18 =>
    T.asI IntKind.i64 (List.headD (List.tail (List.tail (List.tail l13))) (Value.tuple (Array.mk []))) fun i19 =>
    T.asI IntKind.i64 (List.headD (List.tail l12) (Value.tuple (Array.mk []))) fun i20 =>
    T.new (Obj.cells (Array.mk [Value.int IntKind.i64 0, Value.slice none 0 0, Value.int IntKind.i64 0, Value.int IntKind.i64 0]) 30)
    fun n21 =>
    T.st n21 0 (Value.int IntKind.i64 i14)
    (T.st n21 1 (Value.slice o15 n16 n17)
    (T.st n21 2 (Value.int IntKind.i64 i18)
    (T.st n21 3 (Value.int IntKind.i64 i19)
    (T.ite (i20 == 1)
    (T.ldI IntKind.i64 n10 0 fun i22 =>
    T.ldS n10 1 fun o23 n24 n25 =>
    T.ldI IntKind.i64 n10 2 fun i26 =>
    T.ldI IntKind.i64 n10 3 fun i27 =>
    T.call 34
    [Value.pointer (some (Addr.mk n0 n1 none)),
    Value.agg
    (Array.mk
    [Value.int IntKind.i64 i2, Value.int IntKind.i64 i3, Value.int IntKind.i64 i22, Value.slice o23 n24 n25,
    Value.int IntKind.i64 i26, Value.int IntKind.i64 i27])]
    fun v28 => T.ret (Value.int IntKind.i64 0))
    (T.ite (i20 == 2) (T.ret (Value.int IntKind.i64 5))
    (T.ite (i20 == 5) (T.ret (Value.int IntKind.i64 6)) (T.ret (Value.int IntKind.i64 1))))))))))
theorem e22 (n0 n1 : Nat) (i2 : Int) (i3 : Int) (i4 : Int) (o5 : Option Addr) (n6 n7 : Nat) (i8 : Int) (i9 : Int) : treeOf Try.prog Try.f22 (codeOf Try.f22) .n [.p n0 n1, .v (.int .i64 i2), .v (.int .i64 i3), .v (.agg #[.int .i64 i4, .slice o5 n6 n7, .int .i64 i8, .int .i64 i9])] = (t22 n0 n1 i2 i3 i4 o5 n6 n7 i8 i9) := by kernel_rfl
theorem c22 (n0 n1 : Nat) (i2 : Int) (i3 : Int) (i4 : Int) (o5 : Option Addr) (n6 n7 : Nat) (i8 : Int) (i9 : Int) {w : World} {R : Ending → World → Prop} (h : (t22 n0 n1 i2 i3 i4 o5 n6 n7 i8 i9).sem Try.prog R ρ0 w) : Calls Try.prog 22 #[.pointer (some ⟨n0, n1, none⟩), .int .i64 i2, .int .i64 i3, .agg #[.int .i64 i4, .slice o5 n6 n7, .int .i64 i8, .int .i64 i9]] w R :=
  calls_of mixed Try.func22 rfl rfl (e22 n0 n1 i2 i3 i4 o5 n6 n7 i8 i9) h
def t24 (n0 n1 : Nat) (i2 : Int) : T :=
  T.call 33 [Value.pointer (some (Addr.mk n0 n1 none)), Value.int IntKind.i64 i2] fun v3 =>
  T.asU v3 fun l4 =>
    T.req (List.length l4 = 2)
    (T.asI IntKind.i64 (List.headD l4 (Value.tuple (Array.mk []))) fun i5 =>
    T.asB (List.headD (List.tail l4) (Value.tuple (Array.mk []))) fun b6 =>
    T.ite (!b6) (T.ret (Value.int IntKind.i64 0))
    (T.ldS n0 n1 fun o7 n8 n9 =>
    T.req (0 ≤ i5 ∧ i5 < (↑n8 : Int))
    (T.sm o7 fun n10 n11 => T.ldI IntKind.i64 n10 (n11 + Int.toNat i5 * 6 + 1) fun i12 => T.ret (Value.int IntKind.i64 i12))))
theorem e24 (n0 n1 : Nat) (i2 : Int) : treeOf Try.prog Try.f24 (codeOf Try.f24) .n [.p n0 n1, .v (.int .i64 i2)] = (t24 n0 n1 i2) := by kernel_rfl
theorem c24 (n0 n1 : Nat) (i2 : Int) {w : World} {R : Ending → World → Prop} (h : (t24 n0 n1 i2).sem Try.prog R ρ0 w) : Calls Try.prog 24 #[.pointer (some ⟨n0, n1, none⟩), .int .i64 i2] w R :=
  calls_of mixed Try.func24 rfl rfl (e24 n0 n1 i2) h
def t32 (i0 : Int) : T :=
  T.ite (decide (i0 ≥ 1)) (T.ret (Value.bool (decide (i0 ≤ 1099511627776)))) (T.ret (Value.bool false))
theorem e32 (i0 : Int) : treeOf Try.prog Try.f32 (codeOf Try.f32) .n [.v (.int .i64 i0)] = (t32 i0) := by kernel_rfl
theorem c32 (i0 : Int) {w : World} {R : Ending → World → Prop} (h : (t32 i0).sem Try.prog R ρ0 w) : Calls Try.prog 32 #[.int .i64 i0] w R :=
  calls_of mixed Try.func32 rfl rfl (e32 i0) h
def t33 (n0 n1 : Nat) (i2 : Int) : T :=
  T.blk 0
  (fun l3 j4 =>
    T.asI IntKind.i64 (List.headD l3 (Value.tuple (Array.mk []))) fun i5 =>
    T.drew
    (T.ldS n0 n1 fun o6 n7 n8 =>
    T.ite (decide (i5 < (↑n7 : Int)))
    (T.ldS n0 n1 fun o9 n10 n11 =>
    T.req (0 ≤ i5 ∧ i5 < (↑n10 : Int))
    (T.sm o9 fun n12 n13 =>
    T.ldI IntKind.i64 n12 (n13 + Int.toNat i5 * 6) fun i14 => T.ret (Value.tuple (Array.mk [Value.int IntKind.i64 i5, Value.bool (i14 == i2)]))))
    (T.ret (Value.tuple (Array.mk [Value.int IntKind.i64 i5, Value.bool false])))))
  (T.loop 1 [Value.int IntKind.i64 0] fun l15 j16 =>
    T.asI IntKind.i64 (List.headD l15 (Value.tuple (Array.mk []))) fun i17 =>
    T.ldS n0 n1 fun o18 n19 n20 =>
    T.ite (decide (i17 < (↑n19 : Int)))
    (T.ldS n0 n1 fun o21 n22 n23 =>
    T.req (0 ≤ i17 ∧ i17 < (↑n22 : Int))
    (T.sm o21 fun n24 n25 =>
    T.ldI IntKind.i64 n24 (n25 + Int.toNat i17 * 6) fun i26 =>
    T.ite (decide (i26 < i2))
    (T.next 1 [Value.int IntKind.i64 (IntKind.wrap IntKind.i64 (i17 + 1))]
    ([Value.pointer (some (Addr.mk n0 n1 none)), Value.int IntKind.i64 i2] =
    [Value.pointer (some (Addr.mk n0 n1 none)), Value.int IntKind.i64 i2] ∧ ([] : List Deferred) = []))
    (T.next 0 [Value.int IntKind.i64 i17]
    ([Value.pointer (some (Addr.mk n0 n1 none)), Value.int IntKind.i64 i2] =
    [Value.pointer (some (Addr.mk n0 n1 none)), Value.int IntKind.i64 i2] ∧ ([] : List Deferred) = []))))
    (T.next 0 [Value.int IntKind.i64 i17]
    ([Value.pointer (some (Addr.mk n0 n1 none)), Value.int IntKind.i64 i2] = [Value.pointer (some (Addr.mk n0 n1 none)), Value.int IntKind.i64 i2] ∧ ([] : List Deferred) = [])))
theorem e33 (n0 n1 : Nat) (i2 : Int) : treeOf Try.prog Try.f33 (codeOf Try.f33) (.s .n (.s .n (.c [(6, .int .i64)] [0, 1] (.u (.l [(6, .int .i64)] [0, 1] .n)) (.s (.p [0, 1, 2, 3, 4, 5, 6, 7, 8, 9, 10, 11, 12, 13, 14, 15, 16, 17, 18, 19, 20, 21]) .n)))) [.p n0 n1, .v (.int .i64 i2)] = (t33 n0 n1 i2) := by kernel_rfl
theorem c33 (n0 n1 : Nat) (i2 : Int) {w : World} {R : Ending → World → Prop} (h : (t33 n0 n1 i2).sem Try.prog R ρ0 w) : Calls Try.prog 33 #[.pointer (some ⟨n0, n1, none⟩), .int .i64 i2] w R :=
  calls_of mixed Try.func33 rfl rfl (e33 n0 n1 i2) h
def t34 (n0 n1 : Nat) (i2 : Int) (i3 : Int) (i4 : Int) (o5 : Option Addr) (n6 n7 : Nat) (i8 : Int) (i9 : Int) : T :=
  T.new
  (Obj.cells
    (Array.mk
    [Value.int IntKind.i64 i2, Value.int IntKind.i64 i3, Value.int IntKind.i64 i4, Value.slice o5 n6 n7, Value.int IntKind.i64 i8, Value.int IntKind.i64 i9])
    56)
  fun n10 =>
  T.ldI IntKind.i64 n10 0 fun i11 =>
    T.call 33 [Value.pointer (some (Addr.mk n0 n1 none)), Value.int IntKind.i64 i11] fun v12 =>
    T.asU v12 fun l13 =>
    T.req (List.length l13 = 2)
    (T.asI IntKind.i64 (List.headD l13 (Value.tuple (Array.mk []))) fun i14 =>
    T.asB (List.headD (List.tail l13) (Value.tuple (Array.mk []))) fun b15 =>
    T.ldS n0 n1 fun o16 n17 n18 =>
    T.req (0 ≤ i14 ∧ i14 ≤ (↑n18 : Int))
    (T.run (biV Builtin.append (Array.mk [42, 42]) 42 (Array.mk [Value.slice none 0 0, Value.slice (sliceBase o16 0 n18 6) (Int.toNat i14) n18]))
    fun v19 =>
    T.asS v19 fun o20 n21 n22 =>
    T.ldS n10 3 fun o23 n24 n25 =>
    T.run (biV Builtin.append (Array.mk [28, 28]) 28 (Array.mk [Value.slice none 0 0, Value.slice o23 n24 n25])) fun v26 =>
    T.asS v26 fun o27 n28 n29 =>
    T.st n10 3 (Value.slice o27 n28 n29)
    (T.ldI IntKind.i64 n10 0 fun i30 =>
    T.ldI IntKind.i64 n10 1 fun i31 =>
    T.ldI IntKind.i64 n10 2 fun i32 =>
    T.ldS n10 3 fun o33 n34 n35 =>
    T.ldI IntKind.i64 n10 4 fun i36 =>
    T.ldI IntKind.i64 n10 5 fun i37 =>
    T.new
    (Obj.cells
    (Array.mk
    [Value.int IntKind.i64 i30, Value.int IntKind.i64 i31, Value.int IntKind.i64 i32, Value.slice o33 n34 n35,
    Value.int IntKind.i64 i36, Value.int IntKind.i64 i37])
    56)
    fun n38 =>
    T.run
    (biV Builtin.append (Array.mk [42, 42]) 42
    (Array.mk [Value.slice o20 n21 n22, Value.slice (some (Addr.mk n38 0 none)) 1 1]))
    fun v39 =>
    T.asS v39 fun o40 n41 n42 =>
    T.blk 0
    (fun l43 j44 =>
    T.asI IntKind.i64 (List.headD l43 (Value.tuple (Array.mk []))) fun i45 =>
    T.ldS n0 n1 fun o46 n47 n48 =>
    T.req (0 ≤ i45 ∧ i45 ≤ (↑n47 : Int))
    (T.run
    (biV Builtin.append (Array.mk [42, 42]) 42
    (Array.mk
    [Value.slice o40 n41 n42,
    Value.slice (sliceBase o46 (Int.toNat i45) n48 6) (n47 - Int.toNat i45)
    (n48 - Int.toNat i45)]))
    fun v49 =>
    T.asS v49 fun o50 n51 n52 =>
    T.st n0 n1 (Value.slice o50 n51 n52) (T.ret (Value.tuple (Array.mk [])))))
    (T.ite b15
    (T.next 0 [Value.int IntKind.i64 (IntKind.wrap IntKind.i64 (i14 + 1))]
    ([Value.pointer (some (Addr.mk n0 n1 none)), Value.slice o40 n41 n42] =
    [Value.pointer (some (Addr.mk n0 n1 none)), Value.slice o40 n41 n42] ∧ ([] : List Deferred) = []))
    (T.next 0 [Value.int IntKind.i64 i14]
    ([Value.pointer (some (Addr.mk n0 n1 none)), Value.slice o40 n41 n42] =
    [Value.pointer (some (Addr.mk n0 n1 none)), Value.slice o40 n41 n42] ∧ ([] : List Deferred) = []))))))
theorem e34 (n0 n1 : Nat) (i2 : Int) (i3 : Int) (i4 : Int) (o5 : Option Addr) (n6 n7 : Nat) (i8 : Int) (i9 : Int) : treeOf Try.prog Try.f34 (codeOf Try.f34) (.s .n (.s .n (.s .n (.s .n (.s .n (.s .n (.c [(4, .int .i64)] [0, 6] .n .n))))))) [.p n0 n1, .v (.agg #[.int .i64 i2, .int .i64 i3, .int .i64 i4, .slice o5 n6 n7, .int .i64 i8, .int .i64 i9])] = (t34 n0 n1 i2 i3 i4 o5 n6 n7 i8 i9) := by kernel_rfl
theorem c34 (n0 n1 : Nat) (i2 : Int) (i3 : Int) (i4 : Int) (o5 : Option Addr) (n6 n7 : Nat) (i8 : Int) (i9 : Int) {w : World} {R : Ending → World → Prop} (h : (t34 n0 n1 i2 i3 i4 o5 n6 n7 i8 i9).sem Try.prog R ρ0 w) : Calls Try.prog 34 #[.pointer (some ⟨n0, n1, none⟩), .agg #[.int .i64 i2, .int .i64 i3, .int .i64 i4, .slice o5 n6 n7, .int .i64 i8, .int .i64 i9]] w R :=
  calls_of mixed Try.func34 rfl rfl (e34 n0 n1 i2 i3 i4 o5 n6 n7 i8 i9) h
def t42 (i0 : Int) (i1 : Int) (i2 : Int) (o3 : Option Addr) (n4 n5 : Nat) (i6 : Int) (i7 : Int) (i8 : Int) (i9 : Int) (i10 : Int) (o11 : Option Addr) (n12 n13 : Nat) (i14 : Int) (i15 : Int) : T :=
  T.new
  (Obj.cells
    (Array.mk
    [Value.int IntKind.i64 i0, Value.int IntKind.i64 i1, Value.int IntKind.i64 i2, Value.slice o3 n4 n5, Value.int IntKind.i64 i6, Value.int IntKind.i64 i7])
    56)
  fun n16 =>
  T.new
    (Obj.cells
    (Array.mk
    [Value.int IntKind.i64 i8, Value.int IntKind.i64 i9, Value.int IntKind.i64 i10, Value.slice o11 n12 n13, Value.int IntKind.i64 i14,
    Value.int IntKind.i64 i15])
    56)
    fun n17 =>
    T.ldI IntKind.i64 n16 0 fun i18 =>
    T.ldI IntKind.i64 n17 0 fun i19 =>
    T.ite (i18 == i19)
    (T.ldI IntKind.i64 n16 1 fun i20 =>
    T.ldI IntKind.i64 n17 1 fun i21 =>
    T.ite (i20 == i21)
    (T.ldI IntKind.i64 n16 2 fun i22 =>
    T.ldS n16 3 fun o23 n24 n25 =>
    T.ldI IntKind.i64 n16 4 fun i26 =>
    T.ldI IntKind.i64 n16 5 fun i27 =>
    T.ldI IntKind.i64 n17 2 fun i28 =>
    T.ldS n17 3 fun o29 n30 n31 =>
    T.ldI IntKind.i64 n17 4 fun i32 =>
    T.ldI IntKind.i64 n17 5 fun i33 =>
    T.call 14
    [Value.agg
    (Array.mk [Value.int IntKind.i64 i22, Value.slice o23 n24 n25, Value.int IntKind.i64 i26, Value.int IntKind.i64 i27]),
    Value.agg
    (Array.mk [Value.int IntKind.i64 i28, Value.slice o29 n30 n31, Value.int IntKind.i64 i32, Value.int IntKind.i64 i33])]
    fun v34 => T.asB v34 fun b35 => T.ret (Value.bool b35))
    (T.ret (Value.bool false)))
    (T.ret (Value.bool false))
theorem e42 (i0 : Int) (i1 : Int) (i2 : Int) (o3 : Option Addr) (n4 n5 : Nat) (i6 : Int) (i7 : Int) (i8 : Int) (i9 : Int) (i10 : Int) (o11 : Option Addr) (n12 n13 : Nat) (i14 : Int) (i15 : Int) : treeOf Try.prog Try.f42 (codeOf Try.f42) .n [.v (.agg #[.int .i64 i0, .int .i64 i1, .int .i64 i2, .slice o3 n4 n5, .int .i64 i6, .int .i64 i7]), .v (.agg #[.int .i64 i8, .int .i64 i9, .int .i64 i10, .slice o11 n12 n13, .int .i64 i14, .int .i64 i15])] = (t42 i0 i1 i2 o3 n4 n5 i6 i7 i8 i9 i10 o11 n12 n13 i14 i15) := by kernel_rfl
theorem c42 (i0 : Int) (i1 : Int) (i2 : Int) (o3 : Option Addr) (n4 n5 : Nat) (i6 : Int) (i7 : Int) (i8 : Int) (i9 : Int) (i10 : Int) (o11 : Option Addr) (n12 n13 : Nat) (i14 : Int) (i15 : Int) {w : World} {R : Ending → World → Prop} (h : (t42 i0 i1 i2 o3 n4 n5 i6 i7 i8 i9 i10 o11 n12 n13 i14 i15).sem Try.prog R ρ0 w) : Calls Try.prog 42 #[.agg #[.int .i64 i0, .int .i64 i1, .int .i64 i2, .slice o3 n4 n5, .int .i64 i6, .int .i64 i7], .agg #[.int .i64 i8, .int .i64 i9, .int .i64 i10, .slice o11 n12 n13, .int .i64 i14, .int .i64 i15]] w R :=
  calls_of mixed Try.func42 rfl rfl (e42 i0 i1 i2 o3 n4 n5 i6 i7 i8 i9 i10 o11 n12 n13 i14 i15) h
def t18 (n0 n1 : Nat) (o2 : Option Addr) (n3 n4 : Nat) (i5 : Int) : T :=
  T.call 19 [Value.pointer (some (Addr.mk n0 n1 none))] fun v6 =>
  T.asC 36 v6 fun l7 =>
    T.req (List.length l7 = 1)
    (T.asP (List.headD l7 (Value.tuple (Array.mk []))) fun o8 =>
    T.call 35 [Value.func (Fn.func 36) (Array.mk []) (Array.mk [Value.pointer o8]), Value.slice o2 n3 n4, Value.int IntKind.i64 i5] fun v9 =>
    T.asB v9 fun b10 =>
    T.ite b10
    (T.call 35 [Value.func (Fn.func 36) (Array.mk []) (Array.mk [Value.pointer o8]), Value.slice o2 n3 n4, Value.int IntKind.i64 0] fun v11 =>
    T.asB v11 fun b12 =>
    T.ite b12
    (T.call 15 [Value.pointer (some (Addr.mk n0 n1 none))] fun v13 => T.asI IntKind.i64 v13 fun i14 => T.ret (Value.bool (i14 == (↑n3 : Int))))
    (T.ret (Value.bool false)))
    (T.ret (Value.bool false)))
theorem e18 (n0 n1 : Nat) (o2 : Option Addr) (n3 n4 : Nat) (i5 : Int) : treeOf Try.prog Try.f18 (codeOf Try.f18) .n [.p n0 n1, .v (.slice o2 n3 n4), .v (.int .i64 i5)] = (t18 n0 n1 o2 n3 n4 i5) := by kernel_rfl
theorem c18 (n0 n1 : Nat) (o2 : Option Addr) (n3 n4 : Nat) (i5 : Int) {w : World} {R : Ending → World → Prop} (h : (t18 n0 n1 o2 n3 n4 i5).sem Try.prog R ρ0 w) : Calls Try.prog 18 #[.pointer (some ⟨n0, n1, none⟩), .slice o2 n3 n4, .int .i64 i5] w R :=
  calls_of mixed Try.func18 rfl rfl (e18 n0 n1 o2 n3 n4 i5) h
def t19 (n0 n1 : Nat) : T :=
  T.call 30 [Value.pointer (some (Addr.mk n0 n1 none))] fun v2 =>
  T.asS v2 fun o3 n4 n5 =>
    T.new (Obj.cells (Array.mk [Value.slice none 0 0]) 42) fun n6 =>
    T.st n6 0 (Value.slice o3 n4 n5) (T.ret (Value.func (Fn.func 36) (Array.mk []) (Array.mk [Value.pointer (some (Addr.mk n6 0 none))])))
theorem e19 (n0 n1 : Nat) : treeOf Try.prog Try.f19 (codeOf Try.f19) .n [.p n0 n1] = (t19 n0 n1) := by kernel_rfl
theorem c19 (n0 n1 : Nat) {w : World} {R : Ending → World → Prop} (h : (t19 n0 n1).sem Try.prog R ρ0 w) : Calls Try.prog 19 #[.pointer (some ⟨n0, n1, none⟩)] w R :=
  calls_of mixed Try.func19 rfl rfl (e19 n0 n1) h
def t35 (n0 n1 : Nat) (o2 : Option Addr) (n3 n4 : Nat) (i5 : Int) : T :=
  T.new (Obj.cells (Array.mk [Value.slice o2 n3 n4]) 42) fun n6 =>
  T.new (Obj.cells (Array.mk [Value.int IntKind.i64 i5]) 3) fun n7 =>
    T.new (Obj.cells (Array.mk [Value.bool false]) 4) fun n8 =>
    T.new (Obj.cells (Array.mk [Value.int IntKind.i64 0]) 3) fun n9 =>
    T.st n9 0 (Value.int IntKind.i64 0)
    (T.rf none 0 36 [Value.pointer (some (Addr.mk n0 n1 none))]
    (fun n10 l11 =>
    T.req (List.length l11 = 1)
    (T.asA (List.headD l11 (Value.tuple (Array.mk []))) fun l12 =>
    T.req (List.length l12 = 6)
    (T.asI IntKind.i64 (List.headD l12 (Value.tuple (Array.mk []))) fun i13 =>
    T.asI IntKind.i64 (List.headD (List.tail l12) (Value.tuple (Array.mk []))) fun i14 =>
    T.asI IntKind.i64 (List.headD (List.tail (List.tail l12)) (Value.tuple (Array.mk []))) fun i15 =>
    T.asS (List.headD (List.tail (List.tail (List.tail l12))) (Value.tuple (Array.mk []))) fun o16 n17 n18 =>
    T.asI IntKind.i64 (List.headD (List.tail (List.tail (List.tail (List.tail l12)))) (Value.tuple (Array.mk []))) fun i19 =>
    T.asI IntKind.i64 (List.headD (List.tail (List.tail (List.tail (List.tail (List.tail l12))))) (Value.tuple (Array.mk [])))
    fun i20 =>
    T.new
    (Obj.cells
    (Array.mk
    [Value.int IntKind.i64 0, Value.int IntKind.i64 0, Value.int IntKind.i64 0, Value.slice none 0 0, Value.int IntKind.i64 0,
    Value.int IntKind.i64 0])
    56)
    fun n21 =>
    T.st n21 0 (Value.int IntKind.i64 i13)
    (T.st n21 1 (Value.int IntKind.i64 i14)
    (T.st n21 2 (Value.int IntKind.i64 i15)
    (T.st n21 3 (Value.slice o16 n17 n18)
    (T.st n21 4 (Value.int IntKind.i64 i19)
    (T.st n21 5 (Value.int IntKind.i64 i20)
    (T.beg n10
    (T.blk 1
    (fun l22 j23 =>
    T.ldI IntKind.i64 n9 0 fun i24 =>
    T.st n9 0 (Value.int IntKind.i64 (IntKind.wrap IntKind.i64 (i24 + 1)))
    (T.ldI IntKind.i64 n9 0 fun i25 =>
    T.ldI IntKind.i64 n7 0 fun i26 =>
    T.ite (i25 == i26)
    (T.st n8 0 (Value.bool true)
    (T.run (Instr.endRound n10 (some Code.ret)) fun v27 => T.next 0 [v27] True))
    (T.run (Instr.endRound n10 none) fun v28 => T.next 0 [v28] True)))
    (T.drew
    (T.ldI IntKind.i64 n9 0 fun i29 =>
    T.ldS n6 0 fun o30 n31 n32 =>
    T.ite (decide (i29 ≥ (↑n31 : Int)))
    (T.chk [(Addr.mk n6 0 none, Value.slice o30 n31 n32), (Addr.mk n9 0 none, Value.int IntKind.i64 i29)]
    (T.st n8 0 (Value.bool false)
    (T.run (Instr.endRound n10 (some Code.ret)) fun v33 => T.next 0 [v33] True)))
    (T.ldI IntKind.i64 n21 0 fun i34 =>
    T.ldI IntKind.i64 n21 1 fun i35 =>
    T.ldI IntKind.i64 n21 2 fun i36 =>
    T.ldS n21 3 fun o37 n38 n39 =>
    T.ldI IntKind.i64 n21 4 fun i40 =>
    T.ldI IntKind.i64 n21 5 fun i41 =>
    T.ldS n6 0 fun o42 n43 n44 =>
    T.ldI IntKind.i64 n9 0 fun i45 =>
    T.req (0 ≤ i45 ∧ i45 < (↑n43 : Int))
    (T.sm o42 fun n46 n47 =>
    T.ldI IntKind.i64 n46 (n47 + Int.toNat i45 * 6) fun i48 =>
    T.ldI IntKind.i64 n46 (n47 + Int.toNat i45 * 6 + 1) fun i49 =>
    T.ldI IntKind.i64 n46 (n47 + Int.toNat i45 * 6 + 2) fun i50 =>
    T.ldS n46 (n47 + Int.toNat i45 * 6 + 3) fun o51 n52 n53 =>
    T.ldI IntKind.i64 n46 (n47 + Int.toNat i45 * 6 + 4) fun i54 =>
    T.ldI IntKind.i64 n46 (n47 + Int.toNat i45 * 6 + 5) fun i55 =>
    T.call 42
    [Value.agg
    (Array.mk
    [Value.int IntKind.i64 i34, Value.int IntKind.i64 i35,
    Value.int IntKind.i64 i36, Value.slice o37 n38 n39,
    Value.int IntKind.i64 i40, Value.int IntKind.i64 i41]),
    Value.agg
    (Array.mk
    [Value.int IntKind.i64 i48, Value.int IntKind.i64 i49,
    Value.int IntKind.i64 i50, Value.slice o51 n52 n53,
    Value.int IntKind.i64 i54, Value.int IntKind.i64 i55])]
    fun v56 =>
    T.asB v56 fun b57 =>
    T.chk
    [(Addr.mk n9 0 none, Value.int IntKind.i64 i45),
    (Addr.mk n6 0 none, Value.slice o42 n43 n44),
    (Addr.mk n6 0 none, Value.slice o30 n31 n32),
    (Addr.mk n9 0 none, Value.int IntKind.i64 i29)]
    (T.ite (!b57)
    (T.st n8 0 (Value.bool false)
    (T.run (Instr.endRound n10 (some Code.ret)) fun v58 =>
    T.next 0 [v58] True))
    (T.next 1 []
    ([Value.pointer (some (Addr.mk n7 0 none)),
    Value.pointer (some (Addr.mk n8 0 none)),
    Value.pointer (some (Addr.mk n9 0 none))] =
    [Value.pointer (some (Addr.mk n7 0 none)),
    Value.pointer (some (Addr.mk n8 0 none)),
    Value.pointer (some (Addr.mk n9 0 none))] ∧ ([] : List Deferred) = [])))))))))))))))))
    (fun n59 =>
    T.ldI IntKind.i64 n9 0 fun i60 =>
    T.ldS n6 0 fun o61 n62 n63 => T.st n8 0 (Value.bool (i60 == (↑n62 : Int))) (T.col n59 (T.ldB n8 0 fun b64 => T.ret (Value.bool b64))))
    (fun n65 => T.col n65 (T.ldB n8 0 fun b66 => T.ret (Value.bool b66))) [])
theorem e35 (n0 n1 : Nat) (o2 : Option Addr) (n3 n4 : Nat) (i5 : Int) : treeOf Try.prog Try.f35 (codeOf Try.f35) (.s .n (.s .n (.s (.s .n (.u (.f [.agg [.int .i64, .int .i64, .int .i64, .slice, .int .i64, .int .i64]] .n (.u (.c [] [5, 6, 7] (.s (.p [0, 1, 2, 3, 4, 5, 6, 7, 8, 9, 10, 11, 12]) .n) .n))))) .n))) [.v (.func (.func 36) #[] #[.pointer (some ⟨n0, n1, none⟩)]), .v (.slice o2 n3 n4), .v (.int .i64 i5)] = (t35 n0 n1 o2 n3 n4 i5) := by kernel_rfl
theorem c35 (n0 n1 : Nat) (o2 : Option Addr) (n3 n4 : Nat) (i5 : Int) {w : World} {R : Ending → World → Prop} (h : (t35 n0 n1 o2 n3 n4 i5).sem Try.prog R ρ0 w) : Calls Try.prog 35 #[.func (.func 36) #[] #[.pointer (some ⟨n0, n1, none⟩)], .slice o2 n3 n4, .int .i64 i5] w R :=
  calls_of mixed Try.func35 rfl rfl (e35 n0 n1 o2 n3 n4 i5) h
def t36 (n0 : Nat) (n1 n2 : Nat) : T :=
  T.ldS n1 n2 fun o3 n4 n5 =>
  T.loop 0 [Value.int IntKind.i64 0] fun l6 j7 =>
    T.asI IntKind.i64 (List.headD l6 (Value.tuple (Array.mk []))) fun i8 =>
    T.ite (decide (i8 < (↑n4 : Int)))
    (T.req (0 ≤ i8 ∧ i8 < (↑n4 : Int))
    (T.sm o3 fun n9 n10 =>
    T.ldI IntKind.i64 n9 (n10 + Int.toNat i8 * 6) fun i11 =>
    T.ldI IntKind.i64 n9 (n10 + Int.toNat i8 * 6 + 1) fun i12 =>
    T.ldI IntKind.i64 n9 (n10 + Int.toNat i8 * 6 + 2) fun i13 =>
    T.ldS n9 (n10 + Int.toNat i8 * 6 + 3) fun o14 n15 n16 =>
    T.ldI IntKind.i64 n9 (n10 + Int.toNat i8 * 6 + 4) fun i17 =>
    T.ldI IntKind.i64 n9 (n10 + Int.toNat i8 * 6 + 5) fun i18 =>
    T.new
    (Obj.cells
    (Array.mk
    [Value.int IntKind.i64 0, Value.int IntKind.i64 0, Value.int IntKind.i64 0, Value.slice none 0 0, Value.int IntKind.i64 0,
    Value.int IntKind.i64 0])
    56)
    fun n19 =>
    T.st n19 0 (Value.int IntKind.i64 i11)
    (T.st n19 1 (Value.int IntKind.i64 i12)
    (T.st n19 2 (Value.int IntKind.i64 i13)
    (T.st n19 3 (Value.slice o14 n15 n16)
    (T.st n19 4 (Value.int IntKind.i64 i17)
    (T.st n19 5 (Value.int IntKind.i64 i18)
    (T.ldI IntKind.i64 n19 2 fun i20 =>
    T.ldS n19 3 fun o21 n22 n23 =>
    T.ldI IntKind.i64 n19 4 fun i24 =>
    T.ldI IntKind.i64 n19 5 fun i25 =>
    T.call 29
    [Value.agg
    (Array.mk
    [Value.int IntKind.i64 i20, Value.slice o21 n22 n23, Value.int IntKind.i64 i24,
    Value.int IntKind.i64 i25])]
    fun v26 =>
    T.asA v26 fun l27 =>
    T.req (List.length l27 = 4)
    (T.asI IntKind.i64 (List.headD l27 (Value.tuple (Array.mk []))) fun i28 =>
    T.asS (List.headD (List.tail l27) (Value.tuple (Array.mk []))) fun o29 n30 n31 =>
    T.asI IntKind.i64 (List.headD (List.tail (List.tail l27)) (Value.tuple (Array.mk []))) fun i32 =>
    T.asI IntKind.i64 (List.headD (List.tail (List.tail (List.tail l27))) (Value.tuple (Array.mk [])))
    fun i33 =>
    T.st n19 2 (Value.int IntKind.i64 i28)
    (T.st n19 3 (Value.slice o29 n30 n31)
    (T.st n19 4 (Value.int IntKind.i64 i32)
    (T.st n19 5 (Value.int IntKind.i64 i33)
    (T.ldI IntKind.i64 n19 0 fun i34 =>
    T.ldI IntKind.i64 n19 1 fun i35 =>
    T.ldI IntKind.i64 n19 2 fun i36 =>
    T.ldS n19 3 fun o37 n38 n39 =>
    T.ldI IntKind.i64 n19 4 fun i40 =>
    T.ldI IntKind.i64 n19 5 fun i41 =>
    T.yl n0
    [Value.agg
    (Array.mk
    [Value.int IntKind.i64 i34, Value.int IntKind.i64 i35,
    Value.int IntKind.i64 i36, Value.slice o37 n38 n39,
    Value.int IntKind.i64 i40, Value.int IntKind.i64 i41])]
    fun v42 =>
    T.asB v42 fun b43 =>
    T.ite (!b43) (T.ret (Value.tuple (Array.mk [])))
    (T.next 0 [Value.int IntKind.i64 (IntKind.wrap IntKind.i64 (i8 + 1))]
    ([Value.func (Fn.yield n0) (Array.mk []) (Array.mk []),
    Value.slice o3 n4 n5, Value.int IntKind.i64 (↑n4 : Int)] =
    [Value.func (Fn.yield n0) (Array.mk []) (Array.mk []),
    Value.slice o3 n4 n5, Value.int IntKind.i64 (↑n4 : Int)] ∧ ([] : List Deferred) = [])))))))))))))))
    (T.ret (Value.tuple (Array.mk [])))
theorem e36 (n0 : Nat) (n1 n2 : Nat) : treeOf Try.prog Try.f36 (codeOf Try.f36) (.s .n (.u (.l [(7, .int .i64)] [0, 5, 6] .n))) [.v (.func (.yield n0) #[] #[]), .p n1 n2] = (t36 n0 n1 n2) := by kernel_rfl
theorem c36 (n0 : Nat) (n1 n2 : Nat) {w : World} {R : Ending → World → Prop} (h : (t36 n0 n1 n2).sem Try.prog R ρ0 w) : Calls Try.prog 36 #[.func (.yield n0) #[] #[], .pointer (some ⟨n1, n2, none⟩)] w R :=
  calls_of mixed Try.func36 rfl rfl (e36 n0 n1 n2) h
end Go.Proofs.Ytcmdbaafnbdpbaa
