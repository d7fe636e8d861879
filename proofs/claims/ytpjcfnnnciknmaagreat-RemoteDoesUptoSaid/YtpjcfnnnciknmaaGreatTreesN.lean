/- The functions' trees, printed by a program (wip/tools/Emit.lean) and checked by the kernel against the model's own code. -/
import Derived.Test.YtpjcfnnnciknmaaGreatTreesA
import Derived.Test.YtpjcfnnnciknmaaGreatProg
namespace Go.Proofs.YtpjcfnnnciknmaaGreat
open Go hiding Expr
open Go.Proofs.YtpjcfnnnciknmaaGreat.Tr
set_option linter.unusedVariables false
set_option maxRecDepth 100000
def t25 (n0 n1 : Nat) (o2 : Option Addr) (n3 n4 : Nat) : T :=
  T.new (Obj.cells (Array.mk [Value.slice o2 n3 n4]) 45) fun n5 =>
  T.new (Obj.cells (Array.mk [Value.bool false]) 4) fun n6 =>
    T.new (Obj.cells (Array.mk [Value.int IntKind.i64 0]) 3) fun n7 =>
    T.st n7 0 (Value.int IntKind.i64 0)
    (T.rf none 0 61 [Value.pointer (some (Addr.mk n0 n1 none))]
    (fun n8 l9 =>
    T.req (List.length l9 = 1)
    (T.asA (List.headD l9 (Value.tuple (Array.mk []))) fun l10 =>
    T.req (List.length l10 = 2)
    (T.asI IntKind.i64 (List.headD l10 (Value.tuple (Array.mk []))) fun i11 =>
    T.asI IntKind.i64 (List.headD (List.tail l10) (Value.tuple (Array.mk []))) fun i12 =>
    T.new (Obj.cells (Array.mk [Value.int IntKind.i64 0, Value.int IntKind.i64 0]) 32) fun n13 =>
    T.st n13 0 (Value.int IntKind.i64 i11)
    (T.st n13 1 (Value.int IntKind.i64 i12)
    (T.beg n8
    (T.drew
    (T.ldI IntKind.i64 n7 0 fun i14 =>
    T.ldS n5 0 fun o15 n16 n17 =>
    T.ite (decide (i14 ≥ (↑n16 : Int)))
    (T.st n6 0 (Value.bool false) (T.run (Instr.endRound n8 (some Code.ret)) fun v18 => T.next 0 [v18] True))
    (T.ldI IntKind.i64 n13 0 fun i19 =>
    T.ldI IntKind.i64 n13 1 fun i20 =>
    T.ldS n5 0 fun o21 n22 n23 =>
    T.ldI IntKind.i64 n7 0 fun i24 =>
    T.req (0 ≤ i24 ∧ i24 < (↑n22 : Int))
    (T.sm o21 fun n25 n26 =>
    T.ldI IntKind.i64 n25 (n26 + Int.toNat i24 * 27) fun i27 =>
    T.ldI IntKind.i64 n25 (n26 + Int.toNat i24 * 27 + 1) fun i28 =>
    T.ite (!(i19 == i27 && (i20 == i28 && true)))
    (T.st n6 0 (Value.bool false)
    (T.run (Instr.endRound n8 (some Code.ret)) fun v29 => T.next 0 [v29] True))
    (T.ldI IntKind.i64 n7 0 fun i30 =>
    T.st n7 0 (Value.int IntKind.i64 (IntKind.wrap IntKind.i64 (i30 + 1)))
    (T.run (Instr.endRound n8 none) fun v31 => T.next 0 [v31] True)))))))))))
    (fun n32 =>
    T.ldI IntKind.i64 n7 0 fun i33 =>
    T.ldS n5 0 fun o34 n35 n36 => T.st n6 0 (Value.bool (i33 == (↑n35 : Int))) (T.col n32 (T.ldB n6 0 fun b37 => T.ret (Value.bool b37))))
    (fun n38 => T.col n38 (T.ldB n6 0 fun b39 => T.ret (Value.bool b39))) [])
theorem e25 (n0 n1 : Nat) (o2 : Option Addr) (n3 n4 : Nat) : treeOf Tryz.prog Tryz.f25 (codeOf Tryz.f25) (.s .n (.s .n (.s (.s .n (.u (.f [.agg [.int .i64, .int .i64]] .n (.u (.s (.s (.p [0, 1, 2, 3, 4, 5, 6, 7, 8, 9, 10, 11, 12]) .n) .n))))) .n))) [.v (.func (.func 61) #[] #[.pointer (some ⟨n0, n1, none⟩)]), .v (.slice o2 n3 n4)] = (t25 n0 n1 o2 n3 n4) := by kernel_rfl
theorem c25 (n0 n1 : Nat) (o2 : Option Addr) (n3 n4 : Nat) {w : World} {R : Ending → World → Prop} (h : (t25 n0 n1 o2 n3 n4).sem Tryz.prog R ρ0 w) : Calls Tryz.prog 25 #[.func (.func 61) #[] #[.pointer (some ⟨n0, n1, none⟩)], .slice o2 n3 n4] w R :=
  calls_of mixed Tryz.func25 rfl rfl (e25 n0 n1 o2 n3 n4) h
def t61 (n0 : Nat) (n1 n2 : Nat) : T :=
  T.ldS n1 n2 fun o3 n4 n5 =>
  T.loop 0 [Value.int IntKind.i64 0] fun l6 j7 =>
    T.asI IntKind.i64 (List.headD l6 (Value.tuple (Array.mk []))) fun i8 =>
    T.ite (decide (i8 < (↑n4 : Int)))
    (T.req (0 ≤ i8 ∧ i8 < (↑n4 : Int))
    (T.sm o3 fun n9 n10 =>
    T.ldI IntKind.i64 n9 (n10 + Int.toNat i8 * 2) fun i11 =>
    T.ldI IntKind.i64 n9 (n10 + Int.toNat i8 * 2 + 1) fun i12 =>
    T.new (Obj.cells (Array.mk [Value.int IntKind.i64 0, Value.int IntKind.i64 0]) 32) fun n13 =>
    T.st n13 0 (Value.int IntKind.i64 i11)
    (T.st n13 1 (Value.int IntKind.i64 i12)
    (T.ldI IntKind.i64 n13 0 fun i14 =>
    T.ldI IntKind.i64 n13 1 fun i15 =>
    T.yl n0 [Value.agg (Array.mk [Value.int IntKind.i64 i14, Value.int IntKind.i64 i15])] fun v16 =>
    T.asB v16 fun b17 =>
    T.ite (!b17) (T.ret (Value.tuple (Array.mk [])))
    (T.next 0 [Value.int IntKind.i64 (IntKind.wrap IntKind.i64 (i8 + 1))]
    ([Value.func (Fn.yield n0) (Array.mk []) (Array.mk []), Value.slice o3 n4 n5, Value.int IntKind.i64 (↑n4 : Int)] =
    [Value.func (Fn.yield n0) (Array.mk []) (Array.mk []), Value.slice o3 n4 n5, Value.int IntKind.i64 (↑n4 : Int)] ∧ ([] : List Deferred) = []))))))
    (T.ret (Value.tuple (Array.mk [])))
theorem e61 (n0 : Nat) (n1 n2 : Nat) : treeOf Tryz.prog Tryz.f61 (codeOf Tryz.f61) (.s .n (.u (.l [(7, .int .i64)] [0, 5, 6] .n))) [.v (.func (.yield n0) #[] #[]), .p n1 n2] = (t61 n0 n1 n2) := by kernel_rfl
theorem c61 (n0 : Nat) (n1 n2 : Nat) {w : World} {R : Ending → World → Prop} (h : (t61 n0 n1 n2).sem Tryz.prog R ρ0 w) : Calls Tryz.prog 61 #[.func (.yield n0) #[] #[], .pointer (some ⟨n1, n2, none⟩)] w R :=
  calls_of mixed Tryz.func61 rfl rfl (e61 n0 n1 n2) h
def t45 (o0 : Option Addr) (n1 n2 : Nat) : T :=
  T.new (Obj.cells (Array.mk [Value.slice o0 n1 n2]) 89) fun n3 =>
  T.ret (Value.func (Fn.func 61) (Array.mk []) (Array.mk [Value.pointer (some (Addr.mk n3 0 none))]))
theorem e45 (o0 : Option Addr) (n1 n2 : Nat) : treeOf Tryz.prog Tryz.f45 (codeOf Tryz.f45) .n [.v (.slice o0 n1 n2)] = (t45 o0 n1 n2) := by kernel_rfl
theorem c45 (o0 : Option Addr) (n1 n2 : Nat) {w : World} {R : Ending → World → Prop} (h : (t45 o0 n1 n2).sem Tryz.prog R ρ0 w) : Calls Tryz.prog 45 #[.slice o0 n1 n2] w R :=
  calls_of mixed Tryz.func45 rfl rfl (e45 o0 n1 n2) h
def t18 (n0 n1 : Nat) : T :=
  T.call 27 [Value.pointer (some (Addr.mk n0 n1 none))] fun v2 =>
  T.asB v2 fun b3 =>
    T.ite (!b3)
    (T.call 40 [Value.pointer (some (Addr.mk n0 n1 none))] fun v4 =>
    T.asS v4 fun o5 n6 n7 =>
    T.call 45 [Value.slice o5 n6 n7] fun v8 =>
    T.asC 61 v8 fun l9 =>
    T.req (List.length l9 = 1)
    (T.asP (List.headD l9 (Value.tuple (Array.mk []))) fun o10 => T.ret (Value.func (Fn.func 61) (Array.mk []) (Array.mk [Value.pointer o10]))))
    (T.call 45 [Value.slice none 0 0] fun v11 =>
    T.asC 61 v11 fun l12 =>
    T.req (List.length l12 = 1)
    (T.asP (List.headD l12 (Value.tuple (Array.mk []))) fun o13 => T.ret (Value.func (Fn.func 61) (Array.mk []) (Array.mk [Value.pointer o13]))))
theorem e18 (n0 n1 : Nat) : treeOf Tryz.prog Tryz.f18 (codeOf Tryz.f18) .n [.p n0 n1] = (t18 n0 n1) := by kernel_rfl
theorem c18 (n0 n1 : Nat) {w : World} {R : Ending → World → Prop} (h : (t18 n0 n1).sem Tryz.prog R ρ0 w) : Calls Tryz.prog 18 #[.pointer (some ⟨n0, n1, none⟩)] w R :=
  calls_of mixed Tryz.func18 rfl rfl (e18 n0 n1) h
def t16 (n0 n1 : Nat) : T :=
  T.call 27 [Value.pointer (some (Addr.mk n0 n1 none))] fun v2 =>
  T.asB v2 fun b3 =>
    T.ite b3 (T.ret (Value.pointer none))
    (T.drew
    (T.ldI IntKind.i64 n0 n1 fun i4 =>
    T.ldM n0 (n1 + 1) fun o5 =>
    T.ldM n0 (n1 + 2) fun o6 =>
    T.call 43 [Value.map o5] fun v7 =>
    T.asM v7 fun o8 =>
    T.chk [(Addr.mk n0 (n1 + 2) none, Value.map o6), (Addr.mk n0 n1 none, Value.int IntKind.i64 i4)]
    (T.call 44 [Value.map o6] fun v9 =>
    T.asM v9 fun o10 =>
    T.chk [(Addr.mk n0 n1 none, Value.int IntKind.i64 i4)]
    (T.new (Obj.cells (Array.mk [Value.int IntKind.i64 i4, Value.map o8, Value.map o10]) 44) fun n11 =>
    T.chk [(Addr.mk n0 n1 none, Value.int IntKind.i64 i4)] (T.ret (Value.pointer (some (Addr.mk n11 0 none))))))))
theorem e16 (n0 n1 : Nat) : treeOf Tryz.prog Tryz.f16 (codeOf Tryz.f16) (.s .n (.s .n (.s (.p [0, 1, 2, 3, 4, 5, 6, 7, 9, 10, 11, 12, 8, 13, 14, 15, 16]) .n))) [.p n0 n1] = (t16 n0 n1) := by kernel_rfl
theorem c16 (n0 n1 : Nat) {w : World} {R : Ending → World → Prop} (h : (t16 n0 n1).sem Tryz.prog R ρ0 w) : Calls Tryz.prog 16 #[.pointer (some ⟨n0, n1, none⟩)] w R :=
  calls_of mixed Tryz.func16 rfl rfl (e16 n0 n1) h
def t22 (o0 : Option Addr) (n1 n2 : Nat) (o3 : Option Addr) (n4 n5 : Nat) : T :=
  T.ite ((↑n1 : Int) != (↑n4 : Int)) (T.ret (Value.bool false))
  (T.loop 0 [Value.int IntKind.i64 0] fun l6 j7 =>
    T.asI IntKind.i64 (List.headD l6 (Value.tuple (Array.mk []))) fun i8 =>
    T.ite (decide (i8 < (↑n1 : Int)))
    (T.drew
    (T.req (0 ≤ i8 ∧ i8 < (↑n1 : Int))
    (T.sm o0 fun n9 n10 =>
    T.ldI IntKind.i64 n9 (n10 + Int.toNat i8 * 1) fun i11 =>
    T.req (0 ≤ i8 ∧ i8 < (↑n4 : Int))
    (T.sm o3 fun n12 n13 =>
    T.ldI IntKind.i64 n12 (n13 + Int.toNat i8 * 1) fun i14 =>
    T.ite (i11 != i14) (T.ret (Value.bool false))
    (T.next 0 [Value.int IntKind.i64 (IntKind.wrap IntKind.i64 (i8 + 1))]
    ([Value.slice o0 n1 n2, Value.slice o3 n4 n5, Value.int IntKind.i64 (↑n1 : Int)] =
    [Value.slice o0 n1 n2, Value.slice o3 n4 n5, Value.int IntKind.i64 (↑n1 : Int)] ∧ ([] : List Deferred) = []))))))
    (T.ret (Value.bool true)))
theorem e22 (o0 : Option Addr) (n1 n2 : Nat) (o3 : Option Addr) (n4 n5 : Nat) : treeOf Tryz.prog Tryz.f22 (codeOf Tryz.f22) (.s .n (.s .n (.s (.s .n (.u (.l [(13, .int .i64)] [0, 1, 12] (.s .n (.s .n (.s (.u (.s .n (.s (.p [0, 1, 2, 3, 4, 5, 6, 7, 8]) .n))) .n)))))) .n))) [.v (.slice o0 n1 n2), .v (.slice o3 n4 n5)] = (t22 o0 n1 n2 o3 n4 n5) := by kernel_rfl
theorem c22 (o0 : Option Addr) (n1 n2 : Nat) (o3 : Option Addr) (n4 n5 : Nat) {w : World} {R : Ending → World → Prop} (h : (t22 o0 n1 n2 o3 n4 n5).sem Tryz.prog R ρ0 w) : Calls Tryz.prog 22 #[.slice o0 n1 n2, .slice o3 n4 n5] w R :=
  calls_of mixed Tryz.func22 rfl rfl (e22 o0 n1 n2 o3 n4 n5) h
end Go.Proofs.YtpjcfnnnciknmaaGreat
