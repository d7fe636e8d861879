/- The functions' trees, printed by a program (wip/tools/Emit.lean) and checked by the kernel against the model's own code. -/
import Derived.Test.YtgoecmggbcaoiaaTreesC
import Derived.Test.YtgoecmggbcaoiaaProg
namespace Go.Proofs.Ytgoecmggbcaoiaa
open Go hiding Expr
open Go.Proofs.Ytgoecmggbcaoiaa.Tr
set_option linter.unusedVariables false
set_option maxRecDepth 100000
def t57 (o0 : Option Addr) (n1 n2 : Nat) : T :=
  T.ite (decide ((↑n1 : Int) < 2)) (T.ret (Value.slice o0 n1 n2))
  (T.loop 0 [Value.int IntKind.i64 1] fun l3 j4 =>
    T.asI IntKind.i64 (List.headD l3 (Value.tuple (Array.mk []))) fun i5 =>
    T.ite (decide (i5 < (↑n1 : Int)))
    (T.drew
    (T.req (0 ≤ i5 ∧ i5 < (↑n1 : Int))
    (T.sm o0 fun n6 n7 =>
    T.ldI IntKind.i64 n6 (n7 + Int.toNat i5 * 1) fun i8 =>
    T.req (0 ≤ IntKind.wrap IntKind.i64 (i5 - 1) ∧ IntKind.wrap IntKind.i64 (i5 - 1) < (↑n1 : Int))
    (T.sm o0 fun n9 n10 =>
    T.ldI IntKind.i64 n9 (n10 + Int.toNat (IntKind.wrap IntKind.i64 (i5 - 1)) * 1) fun i11 =>
    T.ite (i8 == i11)
    (T.req (0 ≤ i5 ∧ i5 ≤ (↑n1 : Int))
    (T.loop 1 [Value.int IntKind.i64 i5, Value.int IntKind.i64 1] fun l12 j13 =>
    T.asI IntKind.i64 (List.headD l12 (Value.tuple (Array.mk []))) fun i14 =>
    T.asI IntKind.i64 (List.headD (List.tail l12) (Value.tuple (Array.mk []))) fun i15 =>
    T.ite (decide (i15 < (↑(n1 - Int.toNat i5) : Int)))
    (T.drew
    (T.req (0 ≤ i15 ∧ i15 < (↑(n1 - Int.toNat i5) : Int))
    (T.sm (sliceBase o0 (Int.toNat i5) n2 1) fun n16 n17 =>
    T.ldI IntKind.i64 n16 (n17 + Int.toNat i15 * 1) fun i18 =>
    T.req (0 ≤ IntKind.wrap IntKind.i64 (i15 - 1) ∧ IntKind.wrap IntKind.i64 (i15 - 1) < (↑(n1 - Int.toNat i5) : Int))
    (T.sm (sliceBase o0 (Int.toNat i5) n2 1) fun n19 n20 =>
    T.ldI IntKind.i64 n19 (n20 + Int.toNat (IntKind.wrap IntKind.i64 (i15 - 1)) * 1) fun i21 =>
    T.ite (i18 != i21)
    (T.req (0 ≤ i15 ∧ i15 < (↑(n1 - Int.toNat i5) : Int))
    (T.sm (sliceBase o0 (Int.toNat i5) n2 1) fun n22 n23 =>
    T.ldI IntKind.i64 n22 (n23 + Int.toNat i15 * 1) fun i24 =>
    T.req (0 ≤ i14 ∧ i14 < (↑n1 : Int))
    (T.sm o0 fun n25 n26 =>
    T.st n25 (n26 + Int.toNat i14 * 1) (Value.int IntKind.i64 i24)
    (T.next 1
    [Value.int IntKind.i64 (IntKind.wrap IntKind.i64 (i14 + 1)),
    Value.int IntKind.i64 (IntKind.wrap IntKind.i64 (i15 + 1))]
    ([Value.slice o0 n1 n2,
    Value.slice (sliceBase o0 (Int.toNat i5) n2 1) (n1 - Int.toNat i5) (n2 - Int.toNat i5)] =
    [Value.slice o0 n1 n2,
    Value.slice (sliceBase o0 (Int.toNat i5) n2 1) (n1 - Int.toNat i5) (n2 - Int.toNat i5)] ∧ ([] : List Deferred) = [])))))
    (T.next 1 [Value.int IntKind.i64 i14, Value.int IntKind.i64 (IntKind.wrap IntKind.i64 (i15 + 1))]
    ([Value.slice o0 n1 n2,
    Value.slice (sliceBase o0 (Int.toNat i5) n2 1) (n1 - Int.toNat i5) (n2 - Int.toNat i5)] =
    [Value.slice o0 n1 n2,
    Value.slice (sliceBase o0 (Int.toNat i5) n2 1) (n1 - Int.toNat i5) (n2 - Int.toNat i5)] ∧ ([] : List Deferred) = []))))))
    (T.req (0 ≤ i14 ∧ i14 ≤ (↑n1 : Int))
    (T.run
    (biV Builtin.clear (Array.mk [42]) 0
    (Array.mk [Value.slice (sliceBase o0 (Int.toNat i14) n2 1) (n1 - Int.toNat i14) (n2 - Int.toNat i14)]))
    fun v27 => T.req (0 ≤ i14 ∧ i14 ≤ (↑n2 : Int)) (T.ret (Value.slice (sliceBase o0 0 n2 1) (Int.toNat i14) n2))))))
    (T.next 0 [Value.int IntKind.i64 (IntKind.wrap IntKind.i64 (i5 + 1))] ([Value.slice o0 n1 n2] = [Value.slice o0 n1 n2] ∧ ([] : List Deferred) = []))))))
    (T.ret (Value.slice o0 n1 n2)))
theorem e57 (o0 : Option Addr) (n1 n2 : Nat) : treeOf Try.prog Try.f57 (codeOf Try.f57) (.s .n (.s .n (.s (.s .n (.u (.l [(3, .int .i64)] [0] (.s .n (.s (.u (.s (.p [0, 1, 2, 3, 4, 5, 6, 7, 8, 9]) (.s (.s .n (.s (.s .n (.u (.l [(3, .int .i64), (5, .int .i64)] [0, 4] (.s .n (.s (.u (.s (.p [0, 1, 2, 3, 4, 5, 6, 7, 8, 9]) .n)) .n))))) .n)) .n))) .n))))) .n))) [.v (.slice o0 n1 n2)] = (t57 o0 n1 n2) := by kernel_rfl
theorem c57 (o0 : Option Addr) (n1 n2 : Nat) {w : World} {R : Ending → World → Prop} (h : (t57 o0 n1 n2).sem Try.prog R ρ0 w) : Calls Try.prog 57 #[.slice o0 n1 n2] w R :=
  calls_of mixed Try.func57 rfl rfl (e57 o0 n1 n2) h
end Go.Proofs.Ytgoecmggbcaoiaa
