/- The functions' trees, printed by a program (wip/tools/Emit.lean) and checked by the kernel against the model's own code. -/
import Derived.Test.YtihipcofjpnfbaaGreatDoorTreesA
import Derived.Test.YtihipcofjpnfbaaGreatDoorProg
namespace Go.Proofs.YtihipcofjpnfbaaGreatDoor
open Go hiding Expr
open Go.Proofs.YtihipcofjpnfbaaGreatDoor.Tr
set_option linter.unusedVariables false
set_option maxRecDepth 100000
def t8 (i0 : Int) (i1 : Int) (i2 : Int) (i3 : Int) (i4 : Int) (i5 : Int) (i6 : Int) (i7 : Int) (i8 : Int) (i9 : Int) (o10 : Option Addr) (n11 n12 : Nat) (o13 : Option Addr) (n14 n15 : Nat) : T :=
  T.new
  (Obj.cells (Array.mk [Value.int IntKind.i64 i0, Value.int IntKind.i64 i1, Value.int IntKind.i64 i2, Value.int IntKind.i64 i3, Value.int IntKind.u64 i4]) 24)
  fun n16 =>
  T.new
    (Obj.cells (Array.mk [Value.int IntKind.i64 i5, Value.int IntKind.i64 i6, Value.int IntKind.i64 i7, Value.int IntKind.i64 i8, Value.int IntKind.u64 i9]) 24)
    fun n17 =>
    T.blk 0
    (fun l18 j19 =>
    T.loop 0 [Value.int IntKind.i64 0] fun l20 j21 =>
    T.asI IntKind.i64 (List.headD l20 (Value.tuple (Array.mk []))) fun i22 =>
    T.ite (decide (i22 < (↑n11 : Int)))
    (T.drew
    (T.req (0 ≤ i22 ∧ i22 < (↑n11 : Int))
    (T.sm o10 fun n23 n24 =>
    T.ldI IntKind.i64 n23 (n24 + Int.toNat i22 * 16) fun i25 =>
    T.ldI IntKind.i64 n23 (n24 + Int.toNat i22 * 16 + 1) fun i26 =>
    T.ldI IntKind.i64 n23 (n24 + Int.toNat i22 * 16 + 2) fun i27 =>
    T.ldI IntKind.i64 n23 (n24 + Int.toNat i22 * 16 + 3) fun i28 =>
    T.ldI IntKind.i64 n23 (n24 + Int.toNat i22 * 16 + 4) fun i29 =>
    T.ldS n23 (n24 + Int.toNat i22 * 16 + 5) fun o30 n31 n32 =>
    T.ldS n23 (n24 + Int.toNat i22 * 16 + 6) fun o33 n34 n35 =>
    T.ldS n23 (n24 + Int.toNat i22 * 16 + 7) fun o36 n37 n38 =>
    T.ldS n23 (n24 + Int.toNat i22 * 16 + 8) fun o39 n40 n41 =>
    T.ldS n23 (n24 + Int.toNat i22 * 16 + 9) fun o42 n43 n44 =>
    T.ldI IntKind.i64 n23 (n24 + Int.toNat i22 * 16 + 10) fun i45 =>
    T.ldI IntKind.i64 n23 (n24 + Int.toNat i22 * 16 + 11) fun i46 =>
    T.ldI IntKind.i64 n23 (n24 + Int.toNat i22 * 16 + 12) fun i47 =>
    T.ldI IntKind.u8 n23 (n24 + Int.toNat i22 * 16 + 13) fun i48 =>
    T.ldI IntKind.i64 n23 (n24 + Int.toNat i22 * 16 + 14) fun i49 =>
    T.ldI IntKind.i64 n23 (n24 + Int.toNat i22 * 16 + 15) fun i50 =>
    T.req (0 ≤ i22 ∧ i22 < (↑n14 : Int))
    (T.sm o13 fun n51 n52 =>
    T.ldI IntKind.i64 n51 (n52 + Int.toNat i22 * 16) fun i53 =>
    T.ldI IntKind.i64 n51 (n52 + Int.toNat i22 * 16 + 1) fun i54 =>
    T.ldI IntKind.i64 n51 (n52 + Int.toNat i22 * 16 + 2) fun i55 =>
    T.ldI IntKind.i64 n51 (n52 + Int.toNat i22 * 16 + 3) fun i56 =>
    T.ldI IntKind.i64 n51 (n52 + Int.toNat i22 * 16 + 4) fun i57 =>
    T.ldS n51 (n52 + Int.toNat i22 * 16 + 5) fun o58 n59 n60 =>
    T.ldS n51 (n52 + Int.toNat i22 * 16 + 6) fun o61 n62 n63 =>
    T.ldS n51 (n52 + Int.toNat i22 * 16 + 7) fun o64 n65 n66 =>
    T.ldS n51 (n52 + Int.toNat i22 * 16 + 8) fun o67 n68 n69 =>
    T.ldS n51 (n52 + Int.toNat i22 * 16 + 9) fun o70 n71 n72 =>
    T.ldI IntKind.i64 n51 (n52 + Int.toNat i22 * 16 + 10) fun i73 =>
    T.ldI IntKind.i64 n51 (n52 + Int.toNat i22 * 16 + 11) fun i74 =>
    T.ldI IntKind.i64 n51 (n52 + Int.toNat i22 * 16 + 12) fun i75 =>
    T.ldI IntKind.u8 n51 (n52 + Int.toNat i22 * 16 + 13) fun i76 =>
    T.ldI IntKind.i64 n51 (n52 + Int.toNat i22 * 16 + 14) fun i77 =>
    T.ldI IntKind.i64 n51 (n52 + Int.toNat i22 * 16 + 15) fun i78 =>
    T.call 21
    [Value.agg
    (Array.mk
    [Value.int IntKind.i64 i25, Value.int IntKind.i64 i26,
    Value.int IntKind.i64 i27, Value.int IntKind.i64 i28,
    Value.int IntKind.i64 i29, Value.slice o30 n31 n32,
    Value.slice o33 n34 n35, Value.slice o36 n37 n38,
    Value.slice o39 n40 n41, Value.slice o42 n43 n44,
    Value.int IntKind.i64 i45, Value.int IntKind.i64 i46,
    Value.int IntKind.i64 i47, Value.int IntKind.u8 i48,
    Value.int IntKind.i64 i49, Value.int IntKind.i64 i50]),
    Value.agg
    (Array.mk
    [Value.int IntKind.i64 i53, Value.int IntKind.i64 i54,
    Value.int IntKind.i64 i55, Value.int IntKind.i64 i56,
    Value.int IntKind.i64 i57, Value.slice o58 n59 n60,
    Value.slice o61 n62 n63, Value.slice o64 n65 n66,
    Value.slice o67 n68 n69, Value.slice o70 n71 n72,
    Value.int IntKind.i64 i73, Value.int IntKind.i64 i74,
    Value.int IntKind.i64 i75, Value.int IntKind.u8 i76,
    Value.int IntKind.i64 i77, Value.int IntKind.i64 i78])]
    fun v79 =>
    T.asB v79 fun b80 =>
    T.chk []
    (T.ite (!b80) (T.ret (Value.bool false))
    (T.next 0
    [Value.int IntKind.i64 (IntKind.wrap IntKind.i64 (i22 + 1))]
    ([Value.slice o10 n11 n12, Value.slice o13 n14 n15] =
    [Value.slice o10 n11 n12, Value.slice o13 n14 n15] ∧ ([] : List Deferred) = [])))))))
    (T.ret (Value.bool true)))
    (T.ldI IntKind.i64 n16 0 fun i81 =>
    T.ldI IntKind.i64 n16 1 fun i82 =>
    T.ldI IntKind.i64 n16 2 fun i83 =>
    T.ldI IntKind.i64 n16 3 fun i84 =>
    T.ldI IntKind.u64 n16 4 fun i85 =>
    T.ldI IntKind.i64 n17 0 fun i86 =>
    T.ldI IntKind.i64 n17 1 fun i87 =>
    T.ldI IntKind.i64 n17 2 fun i88 =>
    T.ldI IntKind.i64 n17 3 fun i89 =>
    T.ldI IntKind.u64 n17 4 fun i90 =>
    T.ite (!(i81 == i86 && (i82 == i87 && (i83 == i88 && (i84 == i89 && (i85 == i90 && true)))))) (T.ret (Value.bool false))
    (T.ite ((↑n11 : Int) != (↑n14 : Int)) (T.ret (Value.bool false))
    (T.next 0 []
    ([Value.slice o10 n11 n12, Value.slice o13 n14 n15] = [Value.slice o10 n11 n12, Value.slice o13 n14 n15] ∧ ([] : List Deferred) = []))))
theorem e8 (i0 : Int) (i1 : Int) (i2 : Int) (i3 : Int) (i4 : Int) (i5 : Int) (i6 : Int) (i7 : Int) (i8 : Int) (i9 : Int) (o10 : Option Addr) (n11 n12 : Nat) (o13 : Option Addr) (n14 n15 : Nat) : treeOf Tryz.prog Tryz.f8 (codeOf Tryz.f8) (.s .n (.c [] [2, 3] .n (.s (.s .n (.u (.l [(9, .int .i64)] [2, 3] (.s .n (.s (.u (.s (.p [0, 1, 2, 3, 4, 5, 6, 7, 8, 9]) .n)) .n))))) .n))) [.v (.agg #[.int .i64 i0, .int .i64 i1, .int .i64 i2, .int .i64 i3, .int .u64 i4]), .v (.agg #[.int .i64 i5, .int .i64 i6, .int .i64 i7, .int .i64 i8, .int .u64 i9]), .v (.slice o10 n11 n12), .v (.slice o13 n14 n15)] = (t8 i0 i1 i2 i3 i4 i5 i6 i7 i8 i9 o10 n11 n12 o13 n14 n15) := by kernel_rfl
theorem c8 (i0 : Int) (i1 : Int) (i2 : Int) (i3 : Int) (i4 : Int) (i5 : Int) (i6 : Int) (i7 : Int) (i8 : Int) (i9 : Int) (o10 : Option Addr) (n11 n12 : Nat) (o13 : Option Addr) (n14 n15 : Nat) {w : World} {R : Ending → World → Prop} (h : (t8 i0 i1 i2 i3 i4 i5 i6 i7 i8 i9 o10 n11 n12 o13 n14 n15).sem Tryz.prog R ρ0 w) : Calls Tryz.prog 8 #[.agg #[.int .i64 i0, .int .i64 i1, .int .i64 i2, .int .i64 i3, .int .u64 i4], .agg #[.int .i64 i5, .int .i64 i6, .int .i64 i7, .int .i64 i8, .int .u64 i9], .slice o10 n11 n12, .slice o13 n14 n15] w R :=
  calls_of mixed Tryz.func8 rfl rfl (e8 i0 i1 i2 i3 i4 i5 i6 i7 i8 i9 o10 n11 n12 o13 n14 n15) h
end Go.Proofs.YtihipcofjpnfbaaGreatDoor
