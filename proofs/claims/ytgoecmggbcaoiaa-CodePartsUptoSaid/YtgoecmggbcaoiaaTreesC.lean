/- The functions' trees, printed by a program (wip/tools/Emit.lean) and checked by the kernel against the model's own code. -/
import Derived.Test.YtgoecmggbcaoiaaTreesB
import Derived.Test.YtgoecmggbcaoiaaProg
namespace Go.Proofs.Ytgoecmggbcaoiaa
open Go hiding Expr
open Go.Proofs.Ytgoecmggbcaoiaa.Tr
set_option linter.unusedVariables false
set_option maxRecDepth 100000
def t5 (o0 : Option Addr) (n1 n2 : Nat) : T :=
  T.call 16 [Value.slice o0 n1 n2] fun v3 =>
  T.asU v3 fun l4 =>
    T.req (List.length l4 = 2)
    (T.asS (List.headD l4 (Value.tuple (Array.mk []))) fun o5 n6 n7 =>
    T.asI IntKind.i64 (List.headD (List.tail l4) (Value.tuple (Array.mk []))) fun i8 =>
    T.call 18 [Value.slice o0 n1 n2] fun v9 =>
    T.asS v9 fun o10 n11 n12 =>
    T.blk 0
    (fun l13 j14 =>
    T.asB (List.headD l13 (Value.tuple (Array.mk []))) fun b15 =>
    T.ite b15 (T.call 14 [] fun v16 => T.asB v16 fun b17 => T.ite b17 (T.ret (Value.bool ((↑n11 : Int) == 0))) (T.ret (Value.bool false)))
    (T.blk 0
    (fun l18 j19 =>
    T.loop 0 [Value.int IntKind.i64 0] fun l20 j21 =>
    T.asI IntKind.i64 (List.headD l20 (Value.tuple (Array.mk []))) fun i22 =>
    T.ite (decide (i22 < (↑n6 : Int)))
    (T.req (0 ≤ i22 ∧ i22 < (↑n6 : Int))
    (T.sm o5 fun n23 n24 =>
    T.ldI IntKind.i64 n23 (n24 + Int.toNat i22 * 5) fun i25 =>
    T.ldI IntKind.i64 n23 (n24 + Int.toNat i22 * 5 + 1) fun i26 =>
    T.ldI IntKind.i64 n23 (n24 + Int.toNat i22 * 5 + 2) fun i27 =>
    T.ldI IntKind.i64 n23 (n24 + Int.toNat i22 * 5 + 3) fun i28 =>
    T.ldI IntKind.i64 n23 (n24 + Int.toNat i22 * 5 + 4) fun i29 =>
    T.new
    (Obj.cells
    (Array.mk
    [Value.int IntKind.i64 0, Value.int IntKind.i64 0, Value.int IntKind.i64 0, Value.int IntKind.i64 0,
    Value.int IntKind.i64 0])
    40)
    fun n30 =>
    T.st n30 0 (Value.int IntKind.i64 i25)
    (T.st n30 1 (Value.int IntKind.i64 i26)
    (T.st n30 2 (Value.int IntKind.i64 i27)
    (T.st n30 3 (Value.int IntKind.i64 i28)
    (T.st n30 4 (Value.int IntKind.i64 i29)
    (T.ldI IntKind.i64 n30 0 fun i31 =>
    T.call 19 [Value.slice o10 n11 n12, Value.int IntKind.i64 i31] fun v32 =>
    T.asB v32 fun b33 =>
    T.ite (!b33)
    (T.next 0 [Value.int IntKind.i64 (IntKind.wrap IntKind.i64 (i22 + 1))]
    ([Value.slice o0 n1 n2, Value.slice o5 n6 n7, Value.slice o10 n11 n12, Value.slice o5 n6 n7,
    Value.int IntKind.i64 (↑n6 : Int)] =
    [Value.slice o0 n1 n2, Value.slice o5 n6 n7, Value.slice o10 n11 n12,
    Value.slice o5 n6 n7, Value.int IntKind.i64 (↑n6 : Int)] ∧ ([] : List Deferred) = []))
    (T.ldI IntKind.i64 n30 1 fun i34 =>
    T.call 12 [Value.int IntKind.i64 i34] fun v35 =>
    T.asU v35 fun l36 =>
    T.req (List.length l36 = 2)
    (T.asI IntKind.i64 (List.headD l36 (Value.tuple (Array.mk []))) fun i37 =>
    T.asB (List.headD (List.tail l36) (Value.tuple (Array.mk []))) fun b38 =>
    T.blk 1
    (fun l39 j40 =>
    T.asB (List.headD l39 (Value.tuple (Array.mk []))) fun b41 =>
    T.blk 1
    (fun l42 j43 =>
    T.ldI IntKind.i64 n30 1 fun i44 =>
    T.ite (i44 == 22)
    (T.ldI IntKind.i64 n30 4 fun i45 =>
    T.call 19 [Value.slice o10 n11 n12, Value.int IntKind.i64 i45]
    fun v46 =>
    T.asB v46 fun b47 =>
    T.ite (!b47) (T.ret (Value.bool false))
    (T.next 0
    [Value.int IntKind.i64
    (IntKind.wrap IntKind.i64 (i22 + 1))]
    ([Value.slice o0 n1 n2, Value.slice o5 n6 n7,
    Value.slice o10 n11 n12, Value.slice o5 n6 n7,
    Value.int IntKind.i64 (↑n6 : Int)] =
    [Value.slice o0 n1 n2, Value.slice o5 n6 n7,
    Value.slice o10 n11 n12, Value.slice o5 n6 n7,
    Value.int IntKind.i64 (↑n6 : Int)] ∧ ([] : List Deferred) = [])))
    (T.ldI IntKind.i64 n30 1 fun i48 =>
    T.ite (i48 == 23)
    (T.ldI IntKind.i64 n30 4 fun i49 =>
    T.call 19 [Value.slice o10 n11 n12, Value.int IntKind.i64 i49]
    fun v50 =>
    T.asB v50 fun b51 =>
    T.ite (!b51) (T.ret (Value.bool false))
    (T.next 0
    [Value.int IntKind.i64
    (IntKind.wrap IntKind.i64 (i22 + 1))]
    ([Value.slice o0 n1 n2, Value.slice o5 n6 n7,
    Value.slice o10 n11 n12, Value.slice o5 n6 n7,
    Value.int IntKind.i64 (↑n6 : Int)] =
    [Value.slice o0 n1 n2, Value.slice o5 n6 n7,
    Value.slice o10 n11 n12, Value.slice o5 n6 n7,
    Value.int IntKind.i64 (↑n6 : Int)] ∧ ([] : List Deferred) = [])))
    (T.next 0
    [Value.int IntKind.i64 (IntKind.wrap IntKind.i64 (i22 + 1))]
    ([Value.slice o0 n1 n2, Value.slice o5 n6 n7,
    Value.slice o10 n11 n12, Value.slice o5 n6 n7,
    Value.int IntKind.i64 (↑n6 : Int)] =
    [Value.slice o0 n1 n2, Value.slice o5 n6 n7,
    Value.slice o10 n11 n12, Value.slice o5 n6 n7,
    Value.int IntKind.i64 (↑n6 : Int)] ∧ ([] : List Deferred) = []))))
    (T.ite b41
    (T.ldI IntKind.i64 n30 0 fun i52 =>
    T.ite (decide (IntKind.wrap IntKind.i64 (i52 + i37) < (↑n1 : Int)))
    (T.ldI IntKind.i64 n30 0 fun i53 =>
    T.call 19
    [Value.slice o10 n11 n12,
    Value.int IntKind.i64 (IntKind.wrap IntKind.i64 (i53 + i37))]
    fun v54 =>
    T.asB v54 fun b55 =>
    T.ite (!b55) (T.ret (Value.bool false))
    (T.next 1 []
    ([Value.slice o0 n1 n2, Value.slice o5 n6 n7,
    Value.slice o10 n11 n12,
    Value.pointer (some (Addr.mk n30 0 none)),
    Value.slice o5 n6 n7,
    Value.int IntKind.i64 (↑n6 : Int),
    Value.int IntKind.i64 i22] =
    [Value.slice o0 n1 n2, Value.slice o5 n6 n7,
    Value.slice o10 n11 n12,
    Value.pointer (some (Addr.mk n30 0 none)),
    Value.slice o5 n6 n7,
    Value.int IntKind.i64 (↑n6 : Int),
    Value.int IntKind.i64 i22] ∧ ([] : List Deferred) = [])))
    (T.next 1 []
    ([Value.slice o0 n1 n2, Value.slice o5 n6 n7,
    Value.slice o10 n11 n12,
    Value.pointer (some (Addr.mk n30 0 none)),
    Value.slice o5 n6 n7, Value.int IntKind.i64 (↑n6 : Int),
    Value.int IntKind.i64 i22] =
    [Value.slice o0 n1 n2, Value.slice o5 n6 n7,
    Value.slice o10 n11 n12,
    Value.pointer (some (Addr.mk n30 0 none)),
    Value.slice o5 n6 n7, Value.int IntKind.i64 (↑n6 : Int),
    Value.int IntKind.i64 i22] ∧ ([] : List Deferred) = [])))
    (T.next 1 []
    ([Value.slice o0 n1 n2, Value.slice o5 n6 n7, Value.slice o10 n11 n12,
    Value.pointer (some (Addr.mk n30 0 none)), Value.slice o5 n6 n7,
    Value.int IntKind.i64 (↑n6 : Int), Value.int IntKind.i64 i22] =
    [Value.slice o0 n1 n2, Value.slice o5 n6 n7,
    Value.slice o10 n11 n12,
    Value.pointer (some (Addr.mk n30 0 none)), Value.slice o5 n6 n7,
    Value.int IntKind.i64 (↑n6 : Int), Value.int IntKind.i64 i22] ∧ ([] : List Deferred) = []))))
    (T.ldI IntKind.i64 n30 1 fun i56 =>
    T.ite (i56 != 0)
    (T.ldI IntKind.i64 n30 1 fun i57 =>
    T.ite (i57 != 22)
    (T.ldI IntKind.i64 n30 1 fun i58 =>
    T.next 1 [Value.bool (i58 != 25)]
    ([Value.slice o0 n1 n2, Value.slice o5 n6 n7,
    Value.slice o10 n11 n12,
    Value.pointer (some (Addr.mk n30 0 none)),
    Value.int IntKind.i64 i37, Value.slice o5 n6 n7,
    Value.int IntKind.i64 (↑n6 : Int),
    Value.int IntKind.i64 i22] =
    [Value.slice o0 n1 n2, Value.slice o5 n6 n7,
    Value.slice o10 n11 n12,
    Value.pointer (some (Addr.mk n30 0 none)),
    Value.int IntKind.i64 i37, Value.slice o5 n6 n7,
    Value.int IntKind.i64 (↑n6 : Int),
    Value.int IntKind.i64 i22] ∧ ([] : List Deferred) = []))
    (T.next 1 [Value.bool false]
    ([Value.slice o0 n1 n2, Value.slice o5 n6 n7, Value.slice o10 n11 n12,
    Value.pointer (some (Addr.mk n30 0 none)),
    Value.int IntKind.i64 i37, Value.slice o5 n6 n7,
    Value.int IntKind.i64 (↑n6 : Int), Value.int IntKind.i64 i22] =
    [Value.slice o0 n1 n2, Value.slice o5 n6 n7,
    Value.slice o10 n11 n12,
    Value.pointer (some (Addr.mk n30 0 none)),
    Value.int IntKind.i64 i37, Value.slice o5 n6 n7,
    Value.int IntKind.i64 (↑n6 : Int), Value.int IntKind.i64 i22] ∧ ([] : List Deferred) = [])))
    (T.next 1 [Value.bool false]
    ([Value.slice o0 n1 n2, Value.slice o5 n6 n7, Value.slice o10 n11 n12,
    Value.pointer (some (Addr.mk n30 0 none)),
    Value.int IntKind.i64 i37, Value.slice o5 n6 n7,
    Value.int IntKind.i64 (↑n6 : Int), Value.int IntKind.i64 i22] =
    [Value.slice o0 n1 n2, Value.slice o5 n6 n7, Value.slice o10 n11 n12,
    Value.pointer (some (Addr.mk n30 0 none)),
    Value.int IntKind.i64 i37, Value.slice o5 n6 n7,
    Value.int IntKind.i64 (↑n6 : Int), Value.int IntKind.i64 i22] ∧ ([] : List Deferred) = []))))))))))))
    (T.loop 0 [Value.int IntKind.i64 0] fun l59 j60 =>
    T.asI IntKind.i64 (List.headD l59 (Value.tuple (Array.mk []))) fun i61 =>
    T.ite (decide (i61 < (↑n11 : Int)))
    (T.req (0 ≤ i61 ∧ i61 < (↑n11 : Int))
    (T.sm o10 fun n62 n63 =>
    T.ldI IntKind.i64 n62 (n63 + Int.toNat i61 * 1) fun i64 =>
    T.new (Obj.cells (Array.mk [Value.int IntKind.i64 0]) 3) fun n65 =>
    T.st n65 0 (Value.int IntKind.i64 i64)
    (T.drew
    (T.ite (decide (i61 > 0))
    (T.ldI IntKind.i64 n65 0 fun i66 =>
    T.req (0 ≤ IntKind.wrap IntKind.i64 (i61 - 1) ∧ IntKind.wrap IntKind.i64 (i61 - 1) < (↑n11 : Int))
    (T.sm o10 fun n67 n68 =>
    T.ldI IntKind.i64 n67 (n68 + Int.toNat (IntKind.wrap IntKind.i64 (i61 - 1)) * 1) fun i69 =>
    T.ite (decide (i66 ≤ i69))
    (T.chk
    [(Addr.mk n67 (n68 + Int.toNat (IntKind.wrap IntKind.i64 (i61 - 1)) * 1) none,
    Value.int IntKind.i64 i69),
    (Addr.mk n65 0 none, Value.int IntKind.i64 i66)]
    (T.ret (Value.bool false)))
    (T.call 20
    [Value.slice o5 n6 n7,
    Value.func (Fn.func 21) (Array.mk []) (Array.mk [Value.pointer (some (Addr.mk n65 0 none))])]
    fun v70 =>
    T.asB v70 fun b71 =>
    T.chk
    [(Addr.mk n67 (n68 + Int.toNat (IntKind.wrap IntKind.i64 (i61 - 1)) * 1) none,
    Value.int IntKind.i64 i69),
    (Addr.mk n65 0 none, Value.int IntKind.i64 i66)]
    (T.ite (!b71) (T.ret (Value.bool false))
    (T.next 0 [Value.int IntKind.i64 (IntKind.wrap IntKind.i64 (i61 + 1))]
    ([Value.slice o5 n6 n7, Value.slice o10 n11 n12, Value.slice o10 n11 n12,
    Value.int IntKind.i64 (↑n11 : Int)] =
    [Value.slice o5 n6 n7, Value.slice o10 n11 n12, Value.slice o10 n11 n12,
    Value.int IntKind.i64 (↑n11 : Int)] ∧ ([] : List Deferred) = []))))))
    (T.call 20
    [Value.slice o5 n6 n7,
    Value.func (Fn.func 21) (Array.mk []) (Array.mk [Value.pointer (some (Addr.mk n65 0 none))])]
    fun v72 =>
    T.asB v72 fun b73 =>
    T.chk []
    (T.ite (!b73) (T.ret (Value.bool false))
    (T.next 0 [Value.int IntKind.i64 (IntKind.wrap IntKind.i64 (i61 + 1))]
    ([Value.slice o5 n6 n7, Value.slice o10 n11 n12, Value.slice o10 n11 n12,
    Value.int IntKind.i64 (↑n11 : Int)] =
    [Value.slice o5 n6 n7, Value.slice o10 n11 n12, Value.slice o10 n11 n12,
    Value.int IntKind.i64 (↑n11 : Int)] ∧ ([] : List Deferred) = []))))))))
    (T.ret (Value.bool true))))
    (T.ite ((↑n11 : Int) == 0) (T.ret (Value.bool false))
    (T.req ((0 : Int) ≤ 0 ∧ (0 : Int) < (↑n11 : Int))
    (T.sm o10 fun n74 n75 =>
    T.ldI IntKind.i64 n74 n75 fun i76 =>
    T.ite (i76 != 0) (T.ret (Value.bool false))
    (T.next 0 []
    ([Value.slice o0 n1 n2, Value.slice o5 n6 n7, Value.slice o10 n11 n12] =
    [Value.slice o0 n1 n2, Value.slice o5 n6 n7, Value.slice o10 n11 n12] ∧ ([] : List Deferred) = [])))))))
    (T.ite (i8 != 0)
    (T.next 0 [Value.bool true]
    ([Value.slice o0 n1 n2, Value.slice o5 n6 n7, Value.slice o10 n11 n12] =
    [Value.slice o0 n1 n2, Value.slice o5 n6 n7, Value.slice o10 n11 n12] ∧ ([] : List Deferred) = []))
    (T.ite ((↑n6 : Int) == 0)
    (T.next 0 [Value.bool true]
    ([Value.slice o0 n1 n2, Value.slice o5 n6 n7, Value.slice o10 n11 n12] =
    [Value.slice o0 n1 n2, Value.slice o5 n6 n7, Value.slice o10 n11 n12] ∧ ([] : List Deferred) = []))
    (T.call 14 [] fun v77 =>
    T.asB v77 fun b78 =>
    T.next 0 [Value.bool !b78]
    ([Value.slice o0 n1 n2, Value.slice o5 n6 n7, Value.slice o10 n11 n12] =
    [Value.slice o0 n1 n2, Value.slice o5 n6 n7, Value.slice o10 n11 n12] ∧ ([] : List Deferred) = [])))))
theorem e5 (o0 : Option Addr) (n1 n2 : Nat) : treeOf Try.prog Try.f5 (codeOf Try.f5) (.s .n (.s .n (.s .n (.s (.c [(30, .bool)] [0, 3, 5] .n .n) (.c [] [0, 3, 5] .n (.s (.s .n (.u (.l [(48, .int .i64)] [0, 3, 5, 46, 47] (.s .n (.s .n (.s (.u (.s .n (.s .n (.s .n (.c [(10, .bool)] [0, 3, 5, 7, 8, 46, 47, 48] .n (.c [] [0, 3, 5, 7, 46, 47, 48] .n .n)))))) .n)))))) (.s (.s .n (.u (.l [(113, .int .i64)] [3, 5, 111, 112] (.s .n (.s .n (.s (.u (.s .n (.s (.p [0, 1, 2, 3, 4, 5, 6, 7, 8, 9, 10, 11, 12, 13, 14, 15, 16]) .n))) .n)))))) .n))))))) [.v (.slice o0 n1 n2)] = (t5 o0 n1 n2) := by kernel_rfl
theorem c5 (o0 : Option Addr) (n1 n2 : Nat) {w : World} {R : Ending → World → Prop} (h : (t5 o0 n1 n2).sem Try.prog R ρ0 w) : Calls Try.prog 5 #[.slice o0 n1 n2] w R :=
  calls_of mixed Try.func5 rfl rfl (e5 o0 n1 n2) h
def t34 (o0 : Option Addr) (n1 n2 : Nat) : T :=
  T.call 25 [Value.slice o0 n1 n2] fun v3 =>
  T.asU v3 fun l4 =>
    T.req (List.length l4 = 2)
    (T.asS (List.headD l4 (Value.tuple (Array.mk []))) fun o5 n6 n7 =>
    T.asI IntKind.i64 (List.headD (List.tail l4) (Value.tuple (Array.mk []))) fun i8 =>
    T.ite (i8 != 0) (T.ret (Value.slice none 0 0))
    (T.run
    (Instr.makeSlice 74 (Value.int IntKind.i64 (IntKind.wrap IntKind.i64 ((↑n1 : Int) + 1)))
    (Value.int IntKind.i64 (IntKind.wrap IntKind.i64 ((↑n1 : Int) + 1))))
    fun v9 =>
    T.asS v9 fun o10 n11 n12 =>
    T.req ((0 : Int) ≤ 0 ∧ (0 : Int) < (↑n11 : Int))
    (T.sm o10 fun n13 n14 =>
    T.st n13 n14 (Value.bool true)
    (T.loop 0 [Value.int IntKind.i64 0] fun l15 j16 =>
    T.asI IntKind.i64 (List.headD l15 (Value.tuple (Array.mk []))) fun i17 =>
    T.ite (decide (i17 < (↑n6 : Int)))
    (T.loop 1 [Value.int IntKind.i64 0] fun l18 j19 =>
    T.asI IntKind.i64 (List.headD l18 (Value.tuple (Array.mk []))) fun i20 =>
    T.ite (decide (i20 < (↑n6 : Int)))
    (T.req (0 ≤ i20 ∧ i20 < (↑n6 : Int))
    (T.sm o5 fun n21 n22 =>
    T.ldI IntKind.i64 n21 (n22 + Int.toNat i20 * 5) fun i23 =>
    T.ldI IntKind.i64 n21 (n22 + Int.toNat i20 * 5 + 1) fun i24 =>
    T.ldI IntKind.i64 n21 (n22 + Int.toNat i20 * 5 + 2) fun i25 =>
    T.ldI IntKind.i64 n21 (n22 + Int.toNat i20 * 5 + 3) fun i26 =>
    T.ldI IntKind.i64 n21 (n22 + Int.toNat i20 * 5 + 4) fun i27 =>
    T.new
    (Obj.cells
    (Array.mk
    [Value.int IntKind.i64 0, Value.int IntKind.i64 0, Value.int IntKind.i64 0, Value.int IntKind.i64 0,
    Value.int IntKind.i64 0])
    40)
    fun n28 =>
    T.st n28 0 (Value.int IntKind.i64 i23)
    (T.st n28 1 (Value.int IntKind.i64 i24)
    (T.st n28 2 (Value.int IntKind.i64 i25)
    (T.st n28 3 (Value.int IntKind.i64 i26)
    (T.st n28 4 (Value.int IntKind.i64 i27)
    (T.ldI IntKind.i64 n28 0 fun i29 =>
    T.req (0 ≤ i29 ∧ i29 < (↑n11 : Int))
    (T.sm o10 fun n30 n31 =>
    T.ldB n30 (n31 + Int.toNat i29 * 1) fun b32 =>
    T.ite (!b32)
    (T.next 1 [Value.int IntKind.i64 (IntKind.wrap IntKind.i64 (i20 + 1))]
    ([Value.slice o5 n6 n7, Value.slice o10 n11 n12, Value.int IntKind.i64 i17] =
    [Value.slice o5 n6 n7, Value.slice o10 n11 n12, Value.int IntKind.i64 i17] ∧ ([] : List Deferred) = []))
    (T.blk 2
    (fun l33 j34 =>
    T.blk 2
    (fun l35 j36 =>
    T.asB (List.headD l35 (Value.tuple (Array.mk []))) fun b37 =>
    T.ite b37
    (T.drew
    (T.ldI IntKind.i64 n28 0 fun i38 =>
    T.ldI IntKind.i64 n28 1 fun i39 =>
    T.call 13 [Value.int IntKind.i64 i39] fun v40 =>
    T.asI IntKind.i64 v40 fun i41 =>
    T.chk [(Addr.mk n28 0 none, Value.int IntKind.i64 i38)]
    (T.req
    (0 ≤ IntKind.wrap IntKind.i64 (i38 + i41) ∧
    IntKind.wrap IntKind.i64 (i38 + i41) < (↑n11 : Int))
    (T.sm o10 fun n42 n43 =>
    T.st n42
    (n43 + Int.toNat (IntKind.wrap IntKind.i64 (i38 + i41)) * 1)
    (Value.bool true)
    (T.chk []
    (T.next 1
    [Value.int IntKind.i64
    (IntKind.wrap IntKind.i64 (i20 + 1))]
    ([Value.slice o5 n6 n7, Value.slice o10 n11 n12,
    Value.int IntKind.i64 i17] =
    [Value.slice o5 n6 n7, Value.slice o10 n11 n12,
    Value.int IntKind.i64 i17] ∧ ([] : List Deferred) = [])))))))
    (T.next 1 [Value.int IntKind.i64 (IntKind.wrap IntKind.i64 (i20 + 1))]
    ([Value.slice o5 n6 n7, Value.slice o10 n11 n12,
    Value.int IntKind.i64 i17] =
    [Value.slice o5 n6 n7, Value.slice o10 n11 n12,
    Value.int IntKind.i64 i17] ∧ ([] : List Deferred) = [])))
    (T.ldI IntKind.i64 n28 1 fun i44 =>
    T.ite (i44 != 0)
    (T.ldI IntKind.i64 n28 1 fun i45 =>
    T.ite (i45 != 22)
    (T.ldI IntKind.i64 n28 1 fun i46 =>
    T.next 2 [Value.bool (i46 != 25)]
    ([Value.slice o5 n6 n7, Value.slice o10 n11 n12,
    Value.int IntKind.i64 i17, Value.int IntKind.i64 i20,
    Value.pointer (some (Addr.mk n28 0 none))] =
    [Value.slice o5 n6 n7, Value.slice o10 n11 n12,
    Value.int IntKind.i64 i17, Value.int IntKind.i64 i20,
    Value.pointer (some (Addr.mk n28 0 none))] ∧ ([] : List Deferred) = []))
    (T.next 2 [Value.bool false]
    ([Value.slice o5 n6 n7, Value.slice o10 n11 n12,
    Value.int IntKind.i64 i17, Value.int IntKind.i64 i20,
    Value.pointer (some (Addr.mk n28 0 none))] =
    [Value.slice o5 n6 n7, Value.slice o10 n11 n12,
    Value.int IntKind.i64 i17, Value.int IntKind.i64 i20,
    Value.pointer (some (Addr.mk n28 0 none))] ∧ ([] : List Deferred) = [])))
    (T.next 2 [Value.bool false]
    ([Value.slice o5 n6 n7, Value.slice o10 n11 n12, Value.int IntKind.i64 i17,
    Value.int IntKind.i64 i20, Value.pointer (some (Addr.mk n28 0 none))] =
    [Value.slice o5 n6 n7, Value.slice o10 n11 n12, Value.int IntKind.i64 i17,
    Value.int IntKind.i64 i20, Value.pointer (some (Addr.mk n28 0 none))] ∧ ([] : List Deferred) = []))))
    (T.ldI IntKind.i64 n28 1 fun i47 =>
    T.call 52 [Value.int IntKind.i64 i47] fun v48 =>
    T.asB v48 fun b49 =>
    T.ite b49
    (T.ldI IntKind.i64 n28 4 fun i50 =>
    T.req (0 ≤ i50 ∧ i50 < (↑n11 : Int))
    (T.sm o10 fun n51 n52 =>
    T.st n51 (n52 + Int.toNat i50 * 1) (Value.bool true)
    (T.next 2 []
    ([Value.slice o5 n6 n7, Value.slice o10 n11 n12,
    Value.int IntKind.i64 i17, Value.int IntKind.i64 i20,
    Value.pointer (some (Addr.mk n28 0 none))] =
    [Value.slice o5 n6 n7, Value.slice o10 n11 n12,
    Value.int IntKind.i64 i17, Value.int IntKind.i64 i20,
    Value.pointer (some (Addr.mk n28 0 none))] ∧ ([] : List Deferred) = []))))
    (T.next 2 []
    ([Value.slice o5 n6 n7, Value.slice o10 n11 n12, Value.int IntKind.i64 i17,
    Value.int IntKind.i64 i20, Value.pointer (some (Addr.mk n28 0 none))] =
    [Value.slice o5 n6 n7, Value.slice o10 n11 n12, Value.int IntKind.i64 i17,
    Value.int IntKind.i64 i20, Value.pointer (some (Addr.mk n28 0 none))] ∧ ([] : List Deferred) = []))))))))))))
    (T.next 0 [Value.int IntKind.i64 (IntKind.wrap IntKind.i64 (i17 + 1))]
    ([Value.slice o5 n6 n7, Value.slice o10 n11 n12] = [Value.slice o5 n6 n7, Value.slice o10 n11 n12] ∧ ([] : List Deferred) = [])))
    (T.loop 0 [Value.slice none 0 0, Value.int IntKind.i64 0] fun l53 j54 =>
    T.asS (List.headD l53 (Value.tuple (Array.mk []))) fun o55 n56 n57 =>
    T.asI IntKind.i64 (List.headD (List.tail l53) (Value.tuple (Array.mk []))) fun i58 =>
    T.ite (decide (i58 < (↑n6 : Int)))
    (T.req (0 ≤ i58 ∧ i58 < (↑n6 : Int))
    (T.sm o5 fun n59 n60 =>
    T.ldI IntKind.i64 n59 (n60 + Int.toNat i58 * 5) fun i61 =>
    T.req (0 ≤ i61 ∧ i61 < (↑n11 : Int))
    (T.sm o10 fun n62 n63 =>
    T.ldB n62 (n63 + Int.toNat i61 * 1) fun b64 =>
    T.ite b64
    (T.req (0 ≤ i58 ∧ i58 < (↑n6 : Int))
    (T.sm o5 fun n65 n66 =>
    T.ldI IntKind.i64 n65 (n66 + Int.toNat i58 * 5) fun i67 =>
    T.new (Obj.cells (Array.mk [Value.int IntKind.i64 i67]) 3) fun n68 =>
    T.run
    (biV Builtin.append (Array.mk [42, 42]) 42
    (Array.mk [Value.slice o55 n56 n57, Value.slice (some (Addr.mk n68 0 none)) 1 1]))
    fun v69 =>
    T.asS v69 fun o70 n71 n72 =>
    T.next 0 [Value.slice o70 n71 n72, Value.int IntKind.i64 (IntKind.wrap IntKind.i64 (i58 + 1))]
    ([Value.slice o5 n6 n7, Value.slice o10 n11 n12] =
    [Value.slice o5 n6 n7, Value.slice o10 n11 n12] ∧ ([] : List Deferred) = [])))
    (T.next 0 [Value.slice o55 n56 n57, Value.int IntKind.i64 (IntKind.wrap IntKind.i64 (i58 + 1))]
    ([Value.slice o5 n6 n7, Value.slice o10 n11 n12] = [Value.slice o5 n6 n7, Value.slice o10 n11 n12] ∧ ([] : List Deferred) = [])))))
    (T.ret (Value.slice o55 n56 n57)))))))
theorem e34 (o0 : Option Addr) (n1 n2 : Nat) : treeOf Try.prog Try.f34 (codeOf Try.f34) (.s .n (.s .n (.s .n (.s .n (.s .n (.s (.s .n (.u (.l [(6, .int .i64)] [3, 5] (.s .n (.s (.u (.s .n (.u (.l [(7, .int .i64)] [3, 5, 6] (.s .n (.s (.u (.s .n (.s .n (.c [] [3, 5, 6, 7, 8] .n (.c [(65, .bool)] [3, 5, 6, 7, 8] .n (.s (.p [0, 1, 2, 3, 4, 5, 6, 7, 8]) .n)))))) .n)))))) .n))))) (.s .n (.s (.s .n (.u (.l [(9, .slice), (10, .int .i64)] [3, 5] .n))) .n)))))))) [.v (.slice o0 n1 n2)] = (t34 o0 n1 n2) := by kernel_rfl
theorem c34 (o0 : Option Addr) (n1 n2 : Nat) {w : World} {R : Ending → World → Prop} (h : (t34 o0 n1 n2).sem Try.prog R ρ0 w) : Calls Try.prog 34 #[.slice o0 n1 n2] w R :=
  calls_of mixed Try.func34 rfl rfl (e34 o0 n1 n2) h
def t9 (o0 : Option Addr) (n1 n2 : Nat) (o3 : Option Addr) (n4 n5 : Nat) (i6 : Int) : T :=
  T.new (Obj.cells (Array.mk [Value.bool false]) 4) fun n7 =>
  T.call 14 [] fun v8 =>
    T.asB v8 fun b9 =>
    T.ite (!b9) (T.st n7 0 (Value.bool false) (T.ldB n7 0 fun b10 => T.ret (Value.bool b10)))
    (T.call 29 [Value.slice o0 n1 n2] fun v11 =>
    T.asU v11 fun l12 =>
    T.req (List.length l12 = 2)
    (T.asS (List.headD l12 (Value.tuple (Array.mk []))) fun o13 n14 n15 =>
    T.asI IntKind.i64 (List.headD (List.tail l12) (Value.tuple (Array.mk []))) fun i16 =>
    T.new (Obj.cells (Array.mk [Value.slice none 0 0]) 22) fun n17 =>
    T.st n17 0 (Value.slice o13 n14 n15)
    (T.req (IntKind.wrap IntKind.i64 ((↑n1 : Int) + 1) ≠ 0)
    (T.req
    (0 ≤ Int.tmod (IntKind.wrap IntKind.i64 i6) (IntKind.wrap IntKind.i64 ((↑n1 : Int) + 1)) ∧
    Int.tmod (IntKind.wrap IntKind.i64 i6) (IntKind.wrap IntKind.i64 ((↑n1 : Int) + 1)) ≤ (↑n2 : Int))
    (T.new (Obj.cells (Array.mk [Value.int IntKind.i64 0]) 3) fun n18 =>
    T.st n18 0 (Value.int IntKind.i64 0)
    (T.call 17
    [Value.slice (sliceBase o0 0 n2 1)
    (Int.toNat (Int.tmod (IntKind.wrap IntKind.i64 i6) (IntKind.wrap IntKind.i64 ((↑n1 : Int) + 1)))) n2]
    fun v19 =>
    T.asC 47 v19 fun l20 =>
    T.req (List.length l20 = 1)
    (T.asP (List.headD l20 (Value.tuple (Array.mk []))) fun o21 =>
    T.rf none 0 47 [Value.pointer o21]
    (fun n22 l23 =>
    T.req (List.length l23 = 2)
    (T.asA (List.headD (List.tail l23) (Value.tuple (Array.mk []))) fun l24 =>
    T.req (List.length l24 = 5)
    (T.asI IntKind.i64 (List.headD l24 (Value.tuple (Array.mk []))) fun i25 =>
    T.asI IntKind.i64 (List.headD (List.tail l24) (Value.tuple (Array.mk []))) fun i26 =>
    T.asI IntKind.i64 (List.headD (List.tail (List.tail l24)) (Value.tuple (Array.mk []))) fun i27 =>
    T.asI IntKind.i64 (List.headD (List.tail (List.tail (List.tail l24))) (Value.tuple (Array.mk [])))
    fun i28 =>
    T.asI IntKind.i64
    (List.headD (List.tail (List.tail (List.tail (List.tail l24)))) (Value.tuple (Array.mk [])))
    fun i29 =>
    T.new
    (Obj.cells
    (Array.mk
    [Value.int IntKind.i64 0, Value.int IntKind.i64 0, Value.int IntKind.i64 0,
    Value.int IntKind.i64 0, Value.int IntKind.i64 0])
    40)
    fun n30 =>
    T.st n30 0 (Value.int IntKind.i64 i25)
    (T.st n30 1 (Value.int IntKind.i64 i26)
    (T.st n30 2 (Value.int IntKind.i64 i27)
    (T.st n30 3 (Value.int IntKind.i64 i28)
    (T.st n30 4 (Value.int IntKind.i64 i29)
    (T.beg n22
    (T.drew
    (T.ldI IntKind.i64 n18 0 fun i31 =>
    T.ldS n17 0 fun o32 n33 n34 =>
    T.ite (decide (i31 ≥ (↑n33 : Int)))
    (T.st n7 0 (Value.bool false)
    (T.run (Instr.endRound n22 (some Code.ret)) fun v35 => T.next 0 [v35] True))
    (T.ldI IntKind.i64 n30 0 fun i36 =>
    T.ldI IntKind.i64 n30 1 fun i37 =>
    T.ldI IntKind.i64 n30 2 fun i38 =>
    T.ldI IntKind.i64 n30 3 fun i39 =>
    T.ldI IntKind.i64 n30 4 fun i40 =>
    T.ldS n17 0 fun o41 n42 n43 =>
    T.ldI IntKind.i64 n18 0 fun i44 =>
    T.req (0 ≤ i44 ∧ i44 < (↑n42 : Int))
    (T.sm o41 fun n45 n46 =>
    T.ldI IntKind.i64 n45 (n46 + Int.toNat i44 * 5) fun i47 =>
    T.ldI IntKind.i64 n45 (n46 + Int.toNat i44 * 5 + 1)
    fun i48 =>
    T.ldI IntKind.i64 n45 (n46 + Int.toNat i44 * 5 + 2)
    fun i49 =>
    T.ldI IntKind.i64 n45 (n46 + Int.toNat i44 * 5 + 3)
    fun i50 =>
    T.ldI IntKind.i64 n45 (n46 + Int.toNat i44 * 5 + 4)
    fun i51 =>
    T.ite
    (!(i36 == i47 &&
    (i37 == i48 &&
    (i38 == i49 &&
    (i39 == i50 && (i40 == i51 && true))))))
    (T.st n7 0 (Value.bool false)
    (T.run (Instr.endRound n22 (some Code.ret))
    fun v52 => T.next 0 [v52] True))
    (T.ldI IntKind.i64 n18 0 fun i53 =>
    T.st n18 0
    (Value.int IntKind.i64
    (IntKind.wrap IntKind.i64 (i53 + 1)))
    (T.run (Instr.endRound n22 none) fun v54 =>
    T.next 0 [v54] True))))))))))))))
    (fun n55 =>
    T.call2 16 [Value.slice o0 n1 n2]
    (fun v56 =>
    T.asU v56 fun l57 =>
    T.req (List.length l57 = 2)
    (T.asS (List.headD l57 (Value.tuple (Array.mk []))) fun o58 n59 n60 =>
    T.asI IntKind.i64 (List.headD (List.tail l57) (Value.tuple (Array.mk []))) fun i61 =>
    T.call2 16 [Value.slice o3 n4 n5]
    (fun v62 =>
    T.asU v62 fun l63 =>
    T.req (List.length l63 = 2)
    (T.asS (List.headD l63 (Value.tuple (Array.mk []))) fun o64 n65 n66 =>
    T.asI IntKind.i64 (List.headD (List.tail l63) (Value.tuple (Array.mk []))) fun i67 =>
    T.blk 0
    (fun l68 j69 =>
    T.call2 24 [Value.slice o0 n1 n2]
    (fun v70 =>
    T.asS v70 fun o71 n72 n73 =>
    T.run
    (biV Builtin.append (Array.mk [23, 23]) 23
    (Array.mk [Value.slice o71 n72 n73, Value.slice o3 n4 n5]))
    fun v74 =>
    T.asS v74 fun o75 n76 n77 =>
    T.call2 16 [Value.slice o75 n76 n77]
    (fun v78 =>
    T.asU v78 fun l79 =>
    T.req (List.length l79 = 2)
    (T.asS (List.headD l79 (Value.tuple (Array.mk []))) fun o80 n81 n82 =>
    T.asI IntKind.i64
    (List.headD (List.tail l79) (Value.tuple (Array.mk []))) fun i83 =>
    T.ite (i83 == 0)
    (T.st n7 0
    (Value.bool
    ((↑n81 : Int) ==
    IntKind.wrap IntKind.i64 ((↑n59 : Int) + (↑n65 : Int))))
    (T.col n55 (T.ldB n7 0 fun b84 => T.ret (Value.bool b84))))
    (T.st n7 0 (Value.bool false)
    (T.col n55 (T.ldB n7 0 fun b85 => T.ret (Value.bool b85))))))
    fun v86 => T.col n55 (T.pan v86))
    fun v87 => T.col n55 (T.pan v87))
    (T.ite (i61 != 0)
    (T.st n7 0 (Value.bool true) (T.col n55 (T.ldB n7 0 fun b88 => T.ret (Value.bool b88))))
    (T.ite (i67 != 0)
    (T.st n7 0 (Value.bool true) (T.col n55 (T.ldB n7 0 fun b89 => T.ret (Value.bool b89))))
    (T.ite (decide (IntKind.wrap IntKind.i64 ((↑n1 : Int) + (↑n4 : Int)) > 512))
    (T.st n7 0 (Value.bool true)
    (T.col n55 (T.ldB n7 0 fun b90 => T.ret (Value.bool b90))))
    (T.call2 32 [Value.slice o0 n1 n2]
    (fun v91 =>
    T.asS v91 fun o92 n93 n94 =>
    T.call2 32 [Value.slice o3 n4 n5]
    (fun v95 =>
    T.asS v95 fun o96 n97 n98 =>
    T.ite
    (decide (IntKind.wrap IntKind.i64 ((↑n93 : Int) + (↑n97 : Int)) > 0))
    (T.st n7 0 (Value.bool true)
    (T.col n55 (T.ldB n7 0 fun b99 => T.ret (Value.bool b99))))
    (T.next 0 []
    ([Value.slice o0 n1 n2, Value.slice o3 n4 n5,
    Value.pointer (some (Addr.mk n7 0 none)),
    Value.slice o58 n59 n60, Value.slice o64 n65 n66] =
    [Value.slice o0 n1 n2, Value.slice o3 n4 n5,
    Value.pointer (some (Addr.mk n7 0 none)),
    Value.slice o58 n59 n60, Value.slice o64 n65 n66] ∧
    [Deferred.mk (Target.collected n55) (Array.mk [])] =
    [Deferred.mk (Target.collected n55) (Array.mk [])])))
    fun v100 => T.col n55 (T.pan v100))
    fun v101 => T.col n55 (T.pan v101)))))))
    fun v102 => T.col n55 (T.pan v102)))
    fun v103 => T.col n55 (T.pan v103))
    (fun n104 => T.col n104 (T.ldB n7 0 fun b105 => T.ret (Value.bool b105))) [])))))))
theorem e9 (o0 : Option Addr) (n1 n2 : Nat) (o3 : Option Addr) (n4 n5 : Nat) (i6 : Int) : treeOf Try.prog Try.f9 (codeOf Try.f9) (.s .n (.s .n (.s .n (.s .n (.s .n (.s (.s .n (.u (.f [.any, .agg [.int .i64, .int .i64, .int .i64, .int .i64, .int .i64]] .n (.u (.s (.s (.p [0, 1, 2, 3, 4, 5, 6, 7, 8, 9, 10, 11]) .n) .n))))) (.s .n (.s .n (.c [] [0, 1, 6, 13, 15] .n .n))))))))) [.v (.slice o0 n1 n2), .v (.slice o3 n4 n5), .v (.int .u16 i6)] = (t9 o0 n1 n2 o3 n4 n5 i6) := by kernel_rfl
theorem c9 (o0 : Option Addr) (n1 n2 : Nat) (o3 : Option Addr) (n4 n5 : Nat) (i6 : Int) {w : World} {R : Ending → World → Prop} (h : (t9 o0 n1 n2 o3 n4 n5 i6).sem Try.prog R ρ0 w) : Calls Try.prog 9 #[.slice o0 n1 n2, .slice o3 n4 n5, .int .u16 i6] w R :=
  calls_of mixed Try.func9 rfl rfl (e9 o0 n1 n2 o3 n4 n5 i6) h
def t8 (o0 : Option Addr) (n1 n2 : Nat) (i3 : Int) (i4 : Int) : T :=
  T.call 16 [Value.slice o0 n1 n2] fun v5 =>
  T.asU v5 fun l6 =>
    T.req (List.length l6 = 2)
    (T.asS (List.headD l6 (Value.tuple (Array.mk []))) fun o7 n8 n9 =>
    T.asI IntKind.i64 (List.headD (List.tail l6) (Value.tuple (Array.mk []))) fun i10 =>
    T.call 25 [Value.slice o0 n1 n2] fun v11 =>
    T.asU v11 fun l12 =>
    T.req (List.length l12 = 2)
    (T.asS (List.headD l12 (Value.tuple (Array.mk []))) fun o13 n14 n15 =>
    T.asI IntKind.i64 (List.headD (List.tail l12) (Value.tuple (Array.mk []))) fun i16 =>
    T.call 27 [Value.slice o0 n1 n2, Value.int IntKind.i64 i3] fun v17 =>
    T.asU v17 fun l18 =>
    T.req (List.length l18 = 3)
    (T.asA (List.headD l18 (Value.tuple (Array.mk []))) fun l19 =>
    T.req (List.length l19 = 5)
    (T.asI IntKind.i64 (List.headD l19 (Value.tuple (Array.mk []))) fun i20 =>
    T.asI IntKind.i64 (List.headD (List.tail l19) (Value.tuple (Array.mk []))) fun i21 =>
    T.asI IntKind.i64 (List.headD (List.tail (List.tail l19)) (Value.tuple (Array.mk []))) fun i22 =>
    T.asI IntKind.i64 (List.headD (List.tail (List.tail (List.tail l19))) (Value.tuple (Array.mk []))) fun i23 =>
    T.asI IntKind.i64 (List.headD (List.tail (List.tail (List.tail (List.tail l19)))) (Value.tuple (Array.mk []))) fun i24 =>
    T.asI IntKind.i64 (List.headD (List.tail l18) (Value.tuple (Array.mk []))) fun i25 =>
    T.asI IntKind.i64 (List.headD (List.tail (List.tail l18)) (Value.tuple (Array.mk []))) fun i26 =>
    T.new
    (Obj.cells
    (Array.mk
    [Value.int IntKind.i64 0, Value.int IntKind.i64 0, Value.int IntKind.i64 0, Value.int IntKind.i64 0,
    Value.int IntKind.i64 0])
    40)
    fun n27 =>
    T.st n27 0 (Value.int IntKind.i64 i20)
    (T.st n27 1 (Value.int IntKind.i64 i21)
    (T.st n27 2 (Value.int IntKind.i64 i22)
    (T.st n27 3 (Value.int IntKind.i64 i23)
    (T.st n27 4 (Value.int IntKind.i64 i24)
    (T.call 28 [Value.slice o0 n1 n2, Value.int IntKind.i64 i3] fun v28 =>
    T.asU v28 fun l29 =>
    T.req (List.length l29 = 3)
    (T.asA (List.headD l29 (Value.tuple (Array.mk []))) fun l30 =>
    T.req (List.length l30 = 5)
    (T.asI IntKind.i64 (List.headD l30 (Value.tuple (Array.mk []))) fun i31 =>
    T.asI IntKind.i64 (List.headD (List.tail l30) (Value.tuple (Array.mk []))) fun i32 =>
    T.asI IntKind.i64 (List.headD (List.tail (List.tail l30)) (Value.tuple (Array.mk [])))
    fun i33 =>
    T.asI IntKind.i64
    (List.headD (List.tail (List.tail (List.tail l30))) (Value.tuple (Array.mk [])))
    fun i34 =>
    T.asI IntKind.i64
    (List.headD (List.tail (List.tail (List.tail (List.tail l30))))
    (Value.tuple (Array.mk [])))
    fun i35 =>
    T.asI IntKind.i64 (List.headD (List.tail l29) (Value.tuple (Array.mk [])))
    fun i36 =>
    T.asI IntKind.i64
    (List.headD (List.tail (List.tail l29)) (Value.tuple (Array.mk []))) fun i37 =>
    T.new
    (Obj.cells
    (Array.mk
    [Value.int IntKind.i64 0, Value.int IntKind.i64 0,
    Value.int IntKind.i64 0, Value.int IntKind.i64 0,
    Value.int IntKind.i64 0])
    40)
    fun n38 =>
    T.st n38 0 (Value.int IntKind.i64 i31)
    (T.st n38 1 (Value.int IntKind.i64 i32)
    (T.st n38 2 (Value.int IntKind.i64 i33)
    (T.st n38 3 (Value.int IntKind.i64 i34)
    (T.st n38 4 (Value.int IntKind.i64 i35)
    (T.blk 0
    (fun l39 j40 =>
    T.call 29 [Value.slice o0 n1 n2] fun v41 =>
    T.asU v41 fun l42 =>
    T.req (List.length l42 = 2)
    (T.asS (List.headD l42 (Value.tuple (Array.mk [])))
    fun o43 n44 n45 =>
    T.asI IntKind.i64
    (List.headD (List.tail l42)
    (Value.tuple (Array.mk [])))
    fun i46 =>
    T.blk 0
    (fun l47 j48 =>
    T.call 32 [Value.slice o0 n1 n2] fun v49 =>
    T.asS v49 fun o50 n51 n52 =>
    T.call 33 [Value.slice o0 n1 n2] fun v53 =>
    T.asS v53 fun o54 n55 n56 =>
    T.call 31
    [Value.slice o50 n51 n52,
    Value.slice o54 n55 n56]
    fun v57 =>
    T.asB v57 fun b58 =>
    T.ite b58
    (T.call 18 [Value.slice o0 n1 n2]
    fun v59 =>
    T.asS v59 fun o60 n61 n62 =>
    T.call 34 [Value.slice o0 n1 n2]
    fun v63 =>
    T.asS v63 fun o64 n65 n66 =>
    T.call 31
    [Value.slice o60 n61 n62,
    Value.slice o64 n65 n66]
    fun v67 =>
    T.asB v67 fun b68 =>
    T.ret (Value.bool b68))
    (T.ret (Value.bool false)))
    (T.call 17 [Value.slice o0 n1 n2] fun v69 =>
    T.asC 47 v69 fun l70 =>
    T.req (List.length l70 = 1)
    (T.asP
    (List.headD l70 (Value.tuple (Array.mk [])))
    fun o71 =>
    T.call 30
    [Value.func (Fn.func 47) (Array.mk [])
    (Array.mk [Value.pointer o71]),
    Value.slice o43 n44 n45,
    Value.int IntKind.i64 i4]
    fun v72 =>
    T.asB v72 fun b73 =>
    T.ite (!b73) (T.ret (Value.bool false))
    (T.call 17 [Value.slice o0 n1 n2]
    fun v74 =>
    T.asC 47 v74 fun l75 =>
    T.req (List.length l75 = 1)
    (T.asP
    (List.headD l75
    (Value.tuple (Array.mk [])))
    fun o76 =>
    T.call 30
    [Value.func (Fn.func 47)
    (Array.mk [])
    (Array.mk
    [Value.pointer o76]),
    Value.slice o43 n44 n45,
    Value.int IntKind.i64 0]
    fun v77 =>
    T.asB v77 fun b78 =>
    T.ite (!b78)
    (T.ret
    (Value.bool false))
    (T.next 0 []
    ([Value.slice o0 n1
    n2] =
    [Value.slice o0 n1
    n2] ∧ ([] : List Deferred) = []))))))))
    (T.call 14 [] fun v79 =>
    T.asB v79 fun b80 =>
    T.ite (!b80) (T.ret (Value.bool false))
    (T.ite (i10 != i16) (T.ret (Value.bool false))
    (T.call 26 [Value.slice o7 n8 n9, Value.slice o13 n14 n15]
    fun v81 =>
    T.asB v81 fun b82 =>
    T.ite (!b82) (T.ret (Value.bool false))
    (T.ldI IntKind.i64 n27 0 fun i83 =>
    T.ldI IntKind.i64 n27 1 fun i84 =>
    T.ldI IntKind.i64 n27 2 fun i85 =>
    T.ldI IntKind.i64 n27 3 fun i86 =>
    T.ldI IntKind.i64 n27 4 fun i87 =>
    T.ldI IntKind.i64 n38 0 fun i88 =>
    T.ldI IntKind.i64 n38 1 fun i89 =>
    T.ldI IntKind.i64 n38 2 fun i90 =>
    T.ldI IntKind.i64 n38 3 fun i91 =>
    T.ldI IntKind.i64 n38 4 fun i92 =>
    T.ite
    (!(i83 == i88 &&
    (i84 == i89 &&
    (i85 == i90 &&
    (i86 == i91 &&
    (i87 == i92 &&
    true))))))
    (T.ret (Value.bool false))
    (T.ite (i25 != i36)
    (T.ret (Value.bool false))
    (T.ite (i26 != i37)
    (T.ret (Value.bool false))
    (T.next 0 []
    ([Value.slice o0 n1 n2,
    Value.int
    IntKind.i64
    i4] =
    [Value.slice o0 n1
    n2,
    Value.int
    IntKind.i64
    i4] ∧ ([] : List Deferred) = []))))))))))))))))))))))))
theorem e8 (o0 : Option Addr) (n1 n2 : Nat) (i3 : Int) (i4 : Int) : treeOf Try.prog Try.f8 (codeOf Try.f8) (.s .n (.s .n (.s .n (.s .n (.s .n (.c [] [0, 2] .n (.s .n (.c [] [0] .n .n)))))))) [.v (.slice o0 n1 n2), .v (.int .i64 i3), .v (.int .i64 i4)] = (t8 o0 n1 n2 i3 i4) := by kernel_rfl
theorem c8 (o0 : Option Addr) (n1 n2 : Nat) (i3 : Int) (i4 : Int) {w : World} {R : Ending → World → Prop} (h : (t8 o0 n1 n2 i3 i4).sem Try.prog R ρ0 w) : Calls Try.prog 8 #[.slice o0 n1 n2, .int .i64 i3, .int .i64 i4] w R :=
  calls_of mixed Try.func8 rfl rfl (e8 o0 n1 n2 i3 i4) h
def t32 (o0 : Option Addr) (n1 n2 : Nat) : T :=
  T.new (Obj.cells (Array.mk [Value.slice none 0 0]) 42) fun n3 =>
  T.call 17 [Value.slice o0 n1 n2] fun v4 =>
    T.asC 47 v4 fun l5 =>
    T.req (List.length l5 = 1)
    (T.asP (List.headD l5 (Value.tuple (Array.mk []))) fun o6 =>
    T.rf none 0 47 [Value.pointer o6]
    (fun n7 l8 =>
    T.req (List.length l8 = 2)
    (T.asA (List.headD (List.tail l8) (Value.tuple (Array.mk []))) fun l9 =>
    T.req (List.length l9 = 5)
    (T.asI IntKind.i64 (List.headD l9 (Value.tuple (Array.mk []))) fun i10 =>
    T.asI IntKind.i64 (List.headD (List.tail l9) (Value.tuple (Array.mk []))) fun i11 =>
    T.asI IntKind.i64 (List.headD (List.tail (List.tail l9)) (Value.tuple (Array.mk []))) fun i12 =>
    T.asI IntKind.i64 (List.headD (List.tail (List.tail (List.tail l9))) (Value.tuple (Array.mk []))) fun i13 =>
    T.asI IntKind.i64 (List.headD (List.tail (List.tail (List.tail (List.tail l9)))) (Value.tuple (Array.mk []))) fun i14 =>
    T.new
    (Obj.cells
    (Array.mk
    [Value.int IntKind.i64 0, Value.int IntKind.i64 0, Value.int IntKind.i64 0, Value.int IntKind.i64 0,
    Value.int IntKind.i64 0])
    40)
    fun n15 =>
    T.st n15 0 (Value.int IntKind.i64 i10)
    (T.st n15 1 (Value.int IntKind.i64 i11)
    (T.st n15 2 (Value.int IntKind.i64 i12)
    (T.st n15 3 (Value.int IntKind.i64 i13)
    (T.st n15 4 (Value.int IntKind.i64 i14)
    (T.beg n7
    (T.ldI IntKind.i64 n15 0 fun i16 =>
    T.ldI IntKind.i64 n15 1 fun i17 =>
    T.ldI IntKind.i64 n15 2 fun i18 =>
    T.ldI IntKind.i64 n15 3 fun i19 =>
    T.ldI IntKind.i64 n15 4 fun i20 =>
    T.call 44
    [Value.agg
    (Array.mk
    [Value.int IntKind.i64 i16, Value.int IntKind.i64 i17, Value.int IntKind.i64 i18,
    Value.int IntKind.i64 i19, Value.int IntKind.i64 i20])]
    fun v21 =>
    T.asB v21 fun b22 =>
    T.ite b22
    (T.ldS n3 0 fun o23 n24 n25 =>
    T.ldI IntKind.i64 n15 4 fun i26 =>
    T.new (Obj.cells (Array.mk [Value.int IntKind.i64 i26]) 3) fun n27 =>
    T.run
    (biV Builtin.append (Array.mk [42, 42]) 42
    (Array.mk [Value.slice o23 n24 n25, Value.slice (some (Addr.mk n27 0 none)) 1 1]))
    fun v28 =>
    T.asS v28 fun o29 n30 n31 =>
    T.st n3 0 (Value.slice o29 n30 n31)
    (T.run (Instr.endRound n7 none) fun v32 => T.next 0 [v32] True))
    (T.run (Instr.endRound n7 none) fun v33 => T.next 0 [v33] True))))))))))
    (fun n34 =>
    T.ldS n3 0 fun o35 n36 n37 =>
    T.call2 56 [Value.slice o35 n36 n37]
    (fun v38 =>
    T.ldS n3 0 fun o39 n40 n41 =>
    T.call2 57 [Value.slice o39 n40 n41] (fun v42 => T.asS v42 fun o43 n44 n45 => T.col n34 (T.ret (Value.slice o43 n44 n45))) fun v46 =>
    T.col n34 (T.pan v46))
    fun v47 => T.col n34 (T.pan v47))
    (fun n48 => T.col n48 (T.ret (Value.slice none 0 0))) [])
theorem e32 (o0 : Option Addr) (n1 n2 : Nat) : treeOf Try.prog Try.f32 (codeOf Try.f32) (.s .n (.s .n (.s (.s .n (.u (.f [.any, .agg [.int .i64, .int .i64, .int .i64, .int .i64, .int .i64]] .n .n))) .n))) [.v (.slice o0 n1 n2)] = (t32 o0 n1 n2) := by kernel_rfl
theorem c32 (o0 : Option Addr) (n1 n2 : Nat) {w : World} {R : Ending → World → Prop} (h : (t32 o0 n1 n2).sem Try.prog R ρ0 w) : Calls Try.prog 32 #[.slice o0 n1 n2] w R :=
  calls_of mixed Try.func32 rfl rfl (e32 o0 n1 n2) h
def t33 (o0 : Option Addr) (n1 n2 : Nat) : T :=
  T.call 29 [Value.slice o0 n1 n2] fun v3 =>
  T.asU v3 fun l4 =>
    T.req (List.length l4 = 2)
    (T.asS (List.headD l4 (Value.tuple (Array.mk []))) fun o5 n6 n7 =>
    T.asI IntKind.i64 (List.headD (List.tail l4) (Value.tuple (Array.mk []))) fun i8 =>
    T.loop 0 [Value.slice none 0 0, Value.int IntKind.i64 0] fun l9 j10 =>
    T.asS (List.headD l9 (Value.tuple (Array.mk []))) fun o11 n12 n13 =>
    T.asI IntKind.i64 (List.headD (List.tail l9) (Value.tuple (Array.mk []))) fun i14 =>
    T.ite (decide (i14 < (↑n6 : Int)))
    (T.req (0 ≤ i14 ∧ i14 < (↑n6 : Int))
    (T.sm o5 fun n15 n16 =>
    T.ldI IntKind.i64 n15 (n16 + Int.toNat i14 * 5 + 1) fun i17 =>
    T.call 52 [Value.int IntKind.i64 i17] fun v18 =>
    T.asB v18 fun b19 =>
    T.ite b19
    (T.req (0 ≤ i14 ∧ i14 < (↑n6 : Int))
    (T.sm o5 fun n20 n21 =>
    T.ldI IntKind.i64 n20 (n21 + Int.toNat i14 * 5 + 4) fun i22 =>
    T.new (Obj.cells (Array.mk [Value.int IntKind.i64 i22]) 3) fun n23 =>
    T.run
    (biV Builtin.append (Array.mk [42, 42]) 42
    (Array.mk [Value.slice o11 n12 n13, Value.slice (some (Addr.mk n23 0 none)) 1 1]))
    fun v24 =>
    T.asS v24 fun o25 n26 n27 =>
    T.next 0 [Value.slice o25 n26 n27, Value.int IntKind.i64 (IntKind.wrap IntKind.i64 (i14 + 1))]
    ([Value.slice o5 n6 n7] = [Value.slice o5 n6 n7] ∧ ([] : List Deferred) = [])))
    (T.next 0 [Value.slice o11 n12 n13, Value.int IntKind.i64 (IntKind.wrap IntKind.i64 (i14 + 1))]
    ([Value.slice o5 n6 n7] = [Value.slice o5 n6 n7] ∧ ([] : List Deferred) = []))))
    (T.call 58 [Value.slice o11 n12 n13] fun v28 => T.asS v28 fun o29 n30 n31 => T.ret (Value.slice o29 n30 n31)))
theorem e33 (o0 : Option Addr) (n1 n2 : Nat) : treeOf Try.prog Try.f33 (codeOf Try.f33) (.s .n (.s .n (.s .n (.s (.s .n (.u (.l [(5, .slice), (6, .int .i64)] [3] .n))) .n)))) [.v (.slice o0 n1 n2)] = (t33 o0 n1 n2) := by kernel_rfl
theorem c33 (o0 : Option Addr) (n1 n2 : Nat) {w : World} {R : Ending → World → Prop} (h : (t33 o0 n1 n2).sem Try.prog R ρ0 w) : Calls Try.prog 33 #[.slice o0 n1 n2] w R :=
  calls_of mixed Try.func33 rfl rfl (e33 o0 n1 n2) h
def t58 (o0 : Option Addr) (n1 n2 : Nat) : T :=
  T.loop 0 [Value.slice none 0 0, Value.int IntKind.i64 0] fun l3 j4 =>
  T.asS (List.headD l3 (Value.tuple (Array.mk []))) fun o5 n6 n7 =>
    T.asI IntKind.i64 (List.headD (List.tail l3) (Value.tuple (Array.mk []))) fun i8 =>
    T.ite (decide (i8 < (↑n1 : Int)))
    (T.blk 1
    (fun l9 j10 =>
    T.asI IntKind.i64 (List.headD l9 (Value.tuple (Array.mk []))) fun i11 =>
    T.blk 1
    (fun l12 j13 =>
    T.drew
    (T.req (0 ≤ i11 ∧ i11 ≤ (↑n7 : Int))
    (T.req (0 ≤ i8 ∧ i8 < (↑n1 : Int))
    (T.sm o0 fun n14 n15 =>
    T.ldI IntKind.i64 n14 (n15 + Int.toNat i8 * 1) fun i16 =>
    T.req (0 ≤ i11 ∧ i11 ≤ (↑n6 : Int))
    (T.both
    (T.run
    (biV Builtin.append (Array.mk [42, 42]) 42
    (Array.mk [Value.slice none 0 0, Value.slice (sliceBase o5 0 n7 1) (Int.toNat i11) n7]))
    fun v17 =>
    T.asS v17 fun o18 n19 n20 =>
    T.chk [(Addr.mk n14 (n15 + Int.toNat i8 * 1) none, Value.int IntKind.i64 i16)]
    (T.new (Obj.cells (Array.mk [Value.int IntKind.i64 i16]) 3) fun n21 =>
    T.chk []
    (T.run
    (biV Builtin.append (Array.mk [42, 42]) 42
    (Array.mk [Value.slice o18 n19 n20, Value.slice (some (Addr.mk n21 0 none)) 1 1]))
    fun v22 =>
    T.asS v22 fun o23 n24 n25 =>
    T.chk []
    (T.run
    (biV Builtin.append (Array.mk [42, 42]) 42
    (Array.mk
    [Value.slice o23 n24 n25,
    Value.slice (sliceBase o5 (Int.toNat i11) n7 1) (n6 - Int.toNat i11) (n7 - Int.toNat i11)]))
    fun v26 =>
    T.asS v26 fun o27 n28 n29 =>
    T.chk []
    (T.next 0 [Value.slice o27 n28 n29, Value.int IntKind.i64 (IntKind.wrap IntKind.i64 (i8 + 1))]
    ([Value.slice o0 n1 n2] = [Value.slice o0 n1 n2] ∧ ([] : List Deferred) = []))))))
    (T.new (Obj.cells (Array.mk [Value.int IntKind.i64 i16]) 3) fun n30 =>
    T.chk []
    (T.run
    (biV Builtin.append (Array.mk [42, 42]) 42
    (Array.mk [Value.slice none 0 0, Value.slice (sliceBase o5 0 n7 1) (Int.toNat i11) n7]))
    fun v31 =>
    T.asS v31 fun o32 n33 n34 =>
    T.chk []
    (T.run
    (biV Builtin.append (Array.mk [42, 42]) 42
    (Array.mk [Value.slice o32 n33 n34, Value.slice (some (Addr.mk n30 0 none)) 1 1]))
    fun v35 =>
    T.asS v35 fun o36 n37 n38 =>
    T.chk []
    (T.run
    (biV Builtin.append (Array.mk [42, 42]) 42
    (Array.mk
    [Value.slice o36 n37 n38,
    Value.slice (sliceBase o5 (Int.toNat i11) n7 1) (n6 - Int.toNat i11) (n7 - Int.toNat i11)]))
    fun v39 =>
    T.asS v39 fun o40 n41 n42 =>
    T.chk []
    (T.next 0 [Value.slice o40 n41 n42, Value.int IntKind.i64 (IntKind.wrap IntKind.i64 (i8 + 1))]
    ([Value.slice o0 n1 n2] = [Value.slice o0 n1 n2] ∧ ([] : List Deferred) = [])))))))))))
    (T.drew
    (T.ite (decide (i11 < (↑n6 : Int)))
    (T.req (0 ≤ i11 ∧ i11 < (↑n6 : Int))
    (T.sm o5 fun n43 n44 =>
    T.ldI IntKind.i64 n43 (n44 + Int.toNat i11 * 1) fun i45 =>
    T.req (0 ≤ i8 ∧ i8 < (↑n1 : Int))
    (T.sm o0 fun n46 n47 =>
    T.ldI IntKind.i64 n46 (n47 + Int.toNat i8 * 1) fun i48 =>
    T.ite (i45 == i48)
    (T.next 0 [Value.slice o5 n6 n7, Value.int IntKind.i64 (IntKind.wrap IntKind.i64 (i8 + 1))]
    ([Value.slice o0 n1 n2] = [Value.slice o0 n1 n2] ∧ ([] : List Deferred) = []))
    (T.next 1 []
    ([Value.slice o0 n1 n2, Value.slice o5 n6 n7, Value.int IntKind.i64 i8, Value.int IntKind.i64 i11] =
    [Value.slice o0 n1 n2, Value.slice o5 n6 n7, Value.int IntKind.i64 i8, Value.int IntKind.i64 i11] ∧ ([] : List Deferred) = [])))))
    (T.next 1 []
    ([Value.slice o0 n1 n2, Value.slice o5 n6 n7, Value.int IntKind.i64 i8, Value.int IntKind.i64 i11] =
    [Value.slice o0 n1 n2, Value.slice o5 n6 n7, Value.int IntKind.i64 i8, Value.int IntKind.i64 i11] ∧ ([] : List Deferred) = [])))))
    (T.loop 2 [Value.int IntKind.i64 0] fun l49 j50 =>
    T.asI IntKind.i64 (List.headD l49 (Value.tuple (Array.mk []))) fun i51 =>
    T.drew
    (T.ite (decide (i51 < (↑n6 : Int)))
    (T.req (0 ≤ i51 ∧ i51 < (↑n6 : Int))
    (T.sm o5 fun n52 n53 =>
    T.ldI IntKind.i64 n52 (n53 + Int.toNat i51 * 1) fun i54 =>
    T.req (0 ≤ i8 ∧ i8 < (↑n1 : Int))
    (T.sm o0 fun n55 n56 =>
    T.ldI IntKind.i64 n55 (n56 + Int.toNat i8 * 1) fun i57 =>
    T.ite (decide (i54 < i57))
    (T.next 2 [Value.int IntKind.i64 (IntKind.wrap IntKind.i64 (i51 + 1))]
    ([Value.slice o0 n1 n2, Value.slice o5 n6 n7, Value.int IntKind.i64 i8] =
    [Value.slice o0 n1 n2, Value.slice o5 n6 n7, Value.int IntKind.i64 i8] ∧ ([] : List Deferred) = []))
    (T.next 1 [Value.int IntKind.i64 i51]
    ([Value.slice o0 n1 n2, Value.slice o5 n6 n7, Value.int IntKind.i64 i8] =
    [Value.slice o0 n1 n2, Value.slice o5 n6 n7, Value.int IntKind.i64 i8] ∧ ([] : List Deferred) = [])))))
    (T.next 1 [Value.int IntKind.i64 i51]
    ([Value.slice o0 n1 n2, Value.slice o5 n6 n7, Value.int IntKind.i64 i8] =
    [Value.slice o0 n1 n2, Value.slice o5 n6 n7, Value.int IntKind.i64 i8] ∧ ([] : List Deferred) = [])))))
    (T.ret (Value.slice o5 n6 n7))
theorem e58 (o0 : Option Addr) (n1 n2 : Nat) : treeOf Try.prog Try.f58 (codeOf Try.f58) (.s .n (.s .n (.s (.s .n (.u (.l [(3, .slice), (4, .int .i64)] [0] (.s .n (.s (.u (.s .n (.c [(5, .int .i64)] [0, 3, 4] (.u (.l [(5, .int .i64)] [0, 3, 4] (.s (.s (.p [0, 1, 2, 3, 4, 5, 6, 7, 8, 9, 10, 11, 12, 13, 14]) .n) .n))) (.c [] [0, 3, 4, 5] (.s (.p [0, 1, 2, 3, 4, 5, 6, 7, 8, 9, 10, 11, 12, 13, 14]) .n) (.s .n (.p [0, 1, 2, 3, 5, 6, 7, 8, 11, 12, 13, 4, 9, 10, 14, 15])))))) .n))))) .n))) [.v (.slice o0 n1 n2)] = (t58 o0 n1 n2) := by kernel_rfl
theorem c58 (o0 : Option Addr) (n1 n2 : Nat) {w : World} {R : Ending → World → Prop} (h : (t58 o0 n1 n2).sem Try.prog R ρ0 w) : Calls Try.prog 58 #[.slice o0 n1 n2] w R :=
  calls_of mixed Try.func58 rfl rfl (e58 o0 n1 n2) h
def t4 (o0 : Option Addr) (n1 n2 : Nat) (o3 : Option Addr) (n4 n5 : Nat) : T :=
  T.new (Obj.cells (Array.mk [Value.slice o3 n4 n5]) 22) fun n6 =>
  T.new (Obj.cells (Array.mk [Value.bool false]) 4) fun n7 =>
    T.call 14 [] fun v8 =>
    T.asB v8 fun b9 =>
    T.ite (!b9) (T.st n7 0 (Value.bool false) (T.ldB n7 0 fun b10 => T.ret (Value.bool b10)))
    (T.blk 0
    (fun l11 j12 =>
    T.ldS n6 0 fun o13 n14 n15 =>
    T.call 10 [Value.slice o13 n14 n15] fun v16 =>
    T.asU v16 fun l17 =>
    T.req (List.length l17 = 2)
    (T.asS (List.headD l17 (Value.tuple (Array.mk []))) fun o18 n19 n20 =>
    T.asI IntKind.i64 (List.headD (List.tail l17) (Value.tuple (Array.mk []))) fun i21 =>
    T.ite (i21 != 0) (T.st n7 0 (Value.bool true) (T.ldB n7 0 fun b22 => T.ret (Value.bool b22)))
    (T.new (Obj.cells (Array.mk [Value.int IntKind.i64 0]) 3) fun n23 =>
    T.new (Obj.cells (Array.mk [Value.int IntKind.i64 0]) 3) fun n24 =>
    T.st n23 0 (Value.int IntKind.i64 0)
    (T.st n24 0 (Value.int IntKind.i64 0)
    (T.call 17 [Value.slice o18 n19 n20] fun v25 =>
    T.asC 47 v25 fun l26 =>
    T.req (List.length l26 = 1)
    (T.asP (List.headD l26 (Value.tuple (Array.mk []))) fun o27 =>
    T.rf none 0 47 [Value.pointer o27]
    (fun n28 l29 =>
    T.req (List.length l29 = 2)
    (T.asI IntKind.i64 (List.headD l29 (Value.tuple (Array.mk []))) fun i30 =>
    T.asA (List.headD (List.tail l29) (Value.tuple (Array.mk []))) fun l31 =>
    T.req (List.length l31 = 5)
    (T.asI IntKind.i64 (List.headD l31 (Value.tuple (Array.mk []))) fun i32 =>
    T.asI IntKind.i64 (List.headD (List.tail l31) (Value.tuple (Array.mk []))) fun i33 =>
    T.asI IntKind.i64 (List.headD (List.tail (List.tail l31)) (Value.tuple (Array.mk []))) fun i34 =>
    T.asI IntKind.i64 (List.headD (List.tail (List.tail (List.tail l31))) (Value.tuple (Array.mk [])))
    fun i35 =>
    T.asI IntKind.i64
    (List.headD (List.tail (List.tail (List.tail (List.tail l31)))) (Value.tuple (Array.mk [])))
    fun i36 =>
    T.new
    (Obj.cells
    (Array.mk
    [Value.int IntKind.i64 0, Value.int IntKind.i64 0, Value.int IntKind.i64 0,
    Value.int IntKind.i64 0, Value.int IntKind.i64 0])
    40)
    fun n37 =>
    T.st n37 0 (Value.int IntKind.i64 i32)
    (T.st n37 1 (Value.int IntKind.i64 i33)
    (T.st n37 2 (Value.int IntKind.i64 i34)
    (T.st n37 3 (Value.int IntKind.i64 i35)
    (T.st n37 4 (Value.int IntKind.i64 i36)
    (T.beg n28
    (T.blk 1
    (fun l38 j39 =>
    T.ldS n6 0 fun o40 n41 n42 =>
    T.ldI IntKind.i64 n24 0 fun i43 =>
    T.req (0 ≤ i43 ∧ i43 < (↑n41 : Int))
    (T.sm o40 fun n44 n45 =>
    T.ldI IntKind.i64 n44 (n45 + Int.toNat i43 * 5) fun i46 =>
    T.ldI IntKind.i64 n44 (n45 + Int.toNat i43 * 5 + 1) fun i47 =>
    T.ldI IntKind.i64 n44 (n45 + Int.toNat i43 * 5 + 2) fun i48 =>
    T.ldI IntKind.i64 n44 (n45 + Int.toNat i43 * 5 + 3) fun i49 =>
    T.ldI IntKind.i64 n44 (n45 + Int.toNat i43 * 5 + 4)
    fun i50 =>
    T.new
    (Obj.cells
    (Array.mk
    [Value.int IntKind.i64 0, Value.int IntKind.i64 0,
    Value.int IntKind.i64 0, Value.int IntKind.i64 0,
    Value.int IntKind.i64 0])
    40)
    fun n51 =>
    T.st n51 0 (Value.int IntKind.i64 i46)
    (T.st n51 1 (Value.int IntKind.i64 i47)
    (T.st n51 2 (Value.int IntKind.i64 i48)
    (T.st n51 3 (Value.int IntKind.i64 i49)
    (T.st n51 4 (Value.int IntKind.i64 i50)
    (T.ldI IntKind.i64 n23 0 fun i52 =>
    T.st n51 0 (Value.int IntKind.i64 i52)
    (T.ldI IntKind.i64 n37 0 fun i53 =>
    T.ldI IntKind.i64 n37 1 fun i54 =>
    T.ldI IntKind.i64 n37 2 fun i55 =>
    T.ldI IntKind.i64 n37 3 fun i56 =>
    T.ldI IntKind.i64 n37 4 fun i57 =>
    T.ldI IntKind.i64 n51 0
    fun i58 =>
    T.ldI IntKind.i64 n51 1
    fun i59 =>
    T.ldI IntKind.i64 n51 2
    fun i60 =>
    T.ldI IntKind.i64 n51 3
    fun i61 =>
    T.ldI IntKind.i64 n51 4
    fun i62 =>
    T.ite
    (!(i53 == i58 &&
    (i54 == i59 &&
    (i55 == i60 &&
    (i56 ==
    i61 &&
    (i57 ==
    i62 &&
    true))))))
    (T.st n7 0
    (Value.bool false)
    (T.run
    (Instr.endRound
    n28
    (some
    Code.ret))
    fun v63 =>
    T.next 0 [v63]
    True))
    (T.ldI IntKind.i64
    n37 1 fun i64 =>
    T.call 12
    [Value.int
    IntKind.i64
    i64]
    fun v65 =>
    T.asU v65
    fun l66 =>
    T.req
    (List.length
    l66 =
    2)
    (T.asI
    IntKind.i64
    (List.headD
    l66
    (Value.tuple
    (Array.mk
    [])))
    fun i67 =>
    T.asB
    (List.headD
    (List.tail
    l66)
    (Value.tuple
    (Array.mk
    [])))
    fun
    b68 =>
    T.ldI
    IntKind.i64
    n23 0
    fun
    i69 =>
    T.st
    n23
    0
    (Value.int
    IntKind.i64
    (IntKind.wrap
    IntKind.i64
    (i69 +
    i67)))
    (T.ldI
    IntKind.i64
    n24
    0
    fun
    i70 =>
    T.st
    n24
    0
    (Value.int
    IntKind.i64
    (IntKind.wrap
    IntKind.i64
    (i70 +
    1)))
    (T.run
    (Instr.endRound
    n28
    none)
    fun
    v71 =>
    T.next
    0
    [v71]
    True))))))))))))
    (T.ldI IntKind.i64 n24 0 fun i72 =>
    T.ldS n6 0 fun o73 n74 n75 =>
    T.ite (decide (i72 ≥ (↑n74 : Int)))
    (T.st n7 0 (Value.bool false)
    (T.run (Instr.endRound n28 (some Code.ret)) fun v76 =>
    T.next 0 [v76] True))
    (T.ldI IntKind.i64 n23 0 fun i77 =>
    T.ite (i30 != i77)
    (T.st n7 0 (Value.bool false)
    (T.run (Instr.endRound n28 (some Code.ret)) fun v78 =>
    T.next 0 [v78] True))
    (T.next 1 []
    ([Value.pointer (some (Addr.mk n6 0 none)),
    Value.pointer (some (Addr.mk n7 0 none)),
    Value.pointer (some (Addr.mk n23 0 none)),
    Value.pointer (some (Addr.mk n24 0 none)),
    Value.pointer (some (Addr.mk n37 0 none))] =
    [Value.pointer (some (Addr.mk n6 0 none)),
    Value.pointer (some (Addr.mk n7 0 none)),
    Value.pointer (some (Addr.mk n23 0 none)),
    Value.pointer (some (Addr.mk n24 0 none)),
    Value.pointer (some (Addr.mk n37 0 none))] ∧ ([] : List Deferred) = [])))))))))))))
    (fun n79 =>
    T.ldI IntKind.i64 n24 0 fun i80 =>
    T.ldS n6 0 fun o81 n82 n83 =>
    T.ite (i80 == (↑n82 : Int))
    (T.ldI IntKind.i64 n23 0 fun i84 =>
    T.st n7 0 (Value.bool (i84 == (↑n19 : Int))) (T.col n79 (T.ldB n7 0 fun b85 => T.ret (Value.bool b85))))
    (T.st n7 0 (Value.bool false) (T.col n79 (T.ldB n7 0 fun b86 => T.ret (Value.bool b86)))))
    (fun n87 => T.col n87 (T.ldB n7 0 fun b88 => T.ret (Value.bool b88))) []))))))
    (T.call 16 [Value.slice o0 n1 n2] fun v89 =>
    T.asU v89 fun l90 =>
    T.req (List.length l90 = 2)
    (T.asS (List.headD l90 (Value.tuple (Array.mk []))) fun o91 n92 n93 =>
    T.asI IntKind.i64 (List.headD (List.tail l90) (Value.tuple (Array.mk []))) fun i94 =>
    T.ite (i94 == 0)
    (T.call 10 [Value.slice o91 n92 n93] fun v95 =>
    T.asU v95 fun l96 =>
    T.req (List.length l96 = 2)
    (T.asS (List.headD l96 (Value.tuple (Array.mk []))) fun o97 n98 n99 =>
    T.asI IntKind.i64 (List.headD (List.tail l96) (Value.tuple (Array.mk []))) fun i100 =>
    T.ite (i100 != 0) (T.st n7 0 (Value.bool false) (T.ldB n7 0 fun b101 => T.ret (Value.bool b101)))
    (T.call 15 [Value.slice o97 n98 n99, Value.slice o0 n1 n2] fun v102 =>
    T.asB v102 fun b103 =>
    T.ite (!b103) (T.st n7 0 (Value.bool false) (T.ldB n7 0 fun b104 => T.ret (Value.bool b104)))
    (T.next 0 []
    ([Value.pointer (some (Addr.mk n6 0 none)), Value.pointer (some (Addr.mk n7 0 none))] =
    [Value.pointer (some (Addr.mk n6 0 none)), Value.pointer (some (Addr.mk n7 0 none))] ∧ ([] : List Deferred) = [])))))
    (T.next 0 []
    ([Value.pointer (some (Addr.mk n6 0 none)), Value.pointer (some (Addr.mk n7 0 none))] =
    [Value.pointer (some (Addr.mk n6 0 none)), Value.pointer (some (Addr.mk n7 0 none))] ∧ ([] : List Deferred) = [])))))
theorem e4 (o0 : Option Addr) (n1 n2 : Nat) (o3 : Option Addr) (n4 n5 : Nat) : treeOf Try.prog Try.f4 (codeOf Try.f4) (.s .n (.s .n (.c [] [3, 4] .n (.s .n (.s .n (.s .n (.s (.s .n (.u (.f [.int .i64, .agg [.int .i64, .int .i64, .int .i64, .int .i64, .int .i64]] .n (.u (.c [] [3, 4, 11, 12, 14] .n .n))))) .n))))))) [.v (.slice o0 n1 n2), .v (.slice o3 n4 n5)] = (t4 o0 n1 n2 o3 n4 n5) := by kernel_rfl
theorem c4 (o0 : Option Addr) (n1 n2 : Nat) (o3 : Option Addr) (n4 n5 : Nat) {w : World} {R : Ending → World → Prop} (h : (t4 o0 n1 n2 o3 n4 n5).sem Try.prog R ρ0 w) : Calls Try.prog 4 #[.slice o0 n1 n2, .slice o3 n4 n5] w R :=
  calls_of mixed Try.func4 rfl rfl (e4 o0 n1 n2 o3 n4 n5) h
def t30 (n0 n1 : Nat) (o2 : Option Addr) (n3 n4 : Nat) (i5 : Int) : T :=
  T.new (Obj.cells (Array.mk [Value.slice o2 n3 n4]) 22) fun n6 =>
  T.new (Obj.cells (Array.mk [Value.int IntKind.i64 i5]) 3) fun n7 =>
    T.new (Obj.cells (Array.mk [Value.bool false]) 4) fun n8 =>
    T.new (Obj.cells (Array.mk [Value.int IntKind.i64 0]) 3) fun n9 =>
    T.st n9 0 (Value.int IntKind.i64 0)
    (T.rf none 0 47 [Value.pointer (some (Addr.mk n0 n1 none))]
    (fun n10 l11 =>
    T.req (List.length l11 = 2)
    (T.asI IntKind.i64 (List.headD l11 (Value.tuple (Array.mk []))) fun i12 =>
    T.asA (List.headD (List.tail l11) (Value.tuple (Array.mk []))) fun l13 =>
    T.req (List.length l13 = 5)
    (T.asI IntKind.i64 (List.headD l13 (Value.tuple (Array.mk []))) fun i14 =>
    T.asI IntKind.i64 (List.headD (List.tail l13) (Value.tuple (Array.mk []))) fun i15 =>
    T.asI IntKind.i64 (List.headD (List.tail (List.tail l13)) (Value.tuple (Array.mk []))) fun i16 =>
    T.asI IntKind.i64 (List.headD (List.tail (List.tail (List.tail l13))) (Value.tuple (Array.mk []))) fun i17 =>
    T.asI IntKind.i64 (List.headD (List.tail (List.tail (List.tail (List.tail l13)))) (Value.tuple (Array.mk []))) fun i18 =>
    T.new
    (Obj.cells
    (Array.mk
    [Value.int IntKind.i64 0, Value.int IntKind.i64 0, Value.int IntKind.i64 0, Value.int IntKind.i64 0,
    Value.int IntKind.i64 0])
    40)
    fun n19 =>
    T.st n19 0 (Value.int IntKind.i64 i14)
    (T.st n19 1 (Value.int IntKind.i64 i15)
    (T.st n19 2 (Value.int IntKind.i64 i16)
    (T.st n19 3 (Value.int IntKind.i64 i17)
    (T.st n19 4 (Value.int IntKind.i64 i18)
    (T.beg n10
    (T.blk 1
    (fun l20 j21 =>
    T.ldI IntKind.i64 n9 0 fun i22 =>
    T.st n9 0 (Value.int IntKind.i64 (IntKind.wrap IntKind.i64 (i22 + 1)))
    (T.ldI IntKind.i64 n9 0 fun i23 =>
    T.ldI IntKind.i64 n7 0 fun i24 =>
    T.ite (i23 == i24)
    (T.st n8 0 (Value.bool true)
    (T.run (Instr.endRound n10 (some Code.ret)) fun v25 => T.next 0 [v25] True))
    (T.run (Instr.endRound n10 none) fun v26 => T.next 0 [v26] True)))
    (T.drew
    (T.ldI IntKind.i64 n9 0 fun i27 =>
    T.ldS n6 0 fun o28 n29 n30 =>
    T.ite (decide (i27 ≥ (↑n29 : Int)))
    (T.st n8 0 (Value.bool false)
    (T.run (Instr.endRound n10 (some Code.ret)) fun v31 => T.next 0 [v31] True))
    (T.ldI IntKind.i64 n19 0 fun i32 =>
    T.ldI IntKind.i64 n19 1 fun i33 =>
    T.ldI IntKind.i64 n19 2 fun i34 =>
    T.ldI IntKind.i64 n19 3 fun i35 =>
    T.ldI IntKind.i64 n19 4 fun i36 =>
    T.ldS n6 0 fun o37 n38 n39 =>
    T.ldI IntKind.i64 n9 0 fun i40 =>
    T.req (0 ≤ i40 ∧ i40 < (↑n38 : Int))
    (T.sm o37 fun n41 n42 =>
    T.ldI IntKind.i64 n41 (n42 + Int.toNat i40 * 5) fun i43 =>
    T.ldI IntKind.i64 n41 (n42 + Int.toNat i40 * 5 + 1) fun i44 =>
    T.ldI IntKind.i64 n41 (n42 + Int.toNat i40 * 5 + 2) fun i45 =>
    T.ldI IntKind.i64 n41 (n42 + Int.toNat i40 * 5 + 3) fun i46 =>
    T.ldI IntKind.i64 n41 (n42 + Int.toNat i40 * 5 + 4) fun i47 =>
    T.ite
    (!(i32 == i43 &&
    (i33 == i44 && (i34 == i45 && (i35 == i46 && (i36 == i47 && true))))))
    (T.st n8 0 (Value.bool false)
    (T.run (Instr.endRound n10 (some Code.ret)) fun v48 =>
    T.next 0 [v48] True))
    (T.ldI IntKind.i64 n19 0 fun i49 =>
    T.ite (i12 != i49)
    (T.st n8 0 (Value.bool false)
    (T.run (Instr.endRound n10 (some Code.ret)) fun v50 =>
    T.next 0 [v50] True))
    (T.next 1 []
    ([Value.pointer (some (Addr.mk n7 0 none)),
    Value.pointer (some (Addr.mk n8 0 none)),
    Value.pointer (some (Addr.mk n9 0 none))] =
    [Value.pointer (some (Addr.mk n7 0 none)),
    Value.pointer (some (Addr.mk n8 0 none)),
    Value.pointer (some (Addr.mk n9 0 none))] ∧ ([] : List Deferred) = []))))))))))))))))
    (fun n51 =>
    T.ldI IntKind.i64 n9 0 fun i52 =>
    T.ldS n6 0 fun o53 n54 n55 => T.st n8 0 (Value.bool (i52 == (↑n54 : Int))) (T.col n51 (T.ldB n8 0 fun b56 => T.ret (Value.bool b56))))
    (fun n57 => T.col n57 (T.ldB n8 0 fun b58 => T.ret (Value.bool b58))) [])
theorem e30 (n0 n1 : Nat) (o2 : Option Addr) (n3 n4 : Nat) (i5 : Int) : treeOf Try.prog Try.f30 (codeOf Try.f30) (.s .n (.s .n (.s (.s .n (.u (.f [.int .i64, .agg [.int .i64, .int .i64, .int .i64, .int .i64, .int .i64]] .n (.u (.c [] [5, 6, 7] (.s (.p [0, 1, 2, 3, 4, 5, 6, 7, 8, 9, 10, 11, 12, 13, 14, 15, 16, 17]) .n) .n))))) .n))) [.v (.func (.func 47) #[] #[.pointer (some ⟨n0, n1, none⟩)]), .v (.slice o2 n3 n4), .v (.int .i64 i5)] = (t30 n0 n1 o2 n3 n4 i5) := by kernel_rfl
theorem c30 (n0 n1 : Nat) (o2 : Option Addr) (n3 n4 : Nat) (i5 : Int) {w : World} {R : Ending → World → Prop} (h : (t30 n0 n1 o2 n3 n4 i5).sem Try.prog R ρ0 w) : Calls Try.prog 30 #[.func (.func 47) #[] #[.pointer (some ⟨n0, n1, none⟩)], .slice o2 n3 n4, .int .i64 i5] w R :=
  calls_of mixed Try.func30 rfl rfl (e30 n0 n1 o2 n3 n4 i5) h
end Go.Proofs.Ytgoecmggbcaoiaa
