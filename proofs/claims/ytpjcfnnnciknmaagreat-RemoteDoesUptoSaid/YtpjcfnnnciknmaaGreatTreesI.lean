/- The functions' trees, printed by a program (wip/tools/Emit.lean) and checked by the kernel against the model's own code. -/
import Derived.Test.YtpjcfnnnciknmaaGreatTreesS
import Derived.Test.YtpjcfnnnciknmaaGreatProg
namespace Go.Proofs.YtpjcfnnnciknmaaGreat
open Go hiding Expr
open Go.Proofs.YtpjcfnnnciknmaaGreat.Tr
set_option linter.unusedVariables false
set_option maxRecDepth 100000
def t57 (o0 : Option Addr) (n1 n2 : Nat) : T :=
  T.call 50 [Value.int IntKind.u64 (IntKind.wrap IntKind.u64 (↑n1 : Int))] fun v3 =>
  T.asI IntKind.i64 v3 fun i4 =>
    T.call 82
    [Value.slice o0 n1 n2, Value.int IntKind.i64 0, Value.int IntKind.i64 (↑n1 : Int), Value.int IntKind.i64 i4,
    Value.func (Fn.func 58) (Array.mk []) (Array.mk [])]
    fun v5 => T.ret (Value.tuple (Array.mk []))
theorem e57 (o0 : Option Addr) (n1 n2 : Nat) : treeOf Tryz.prog Tryz.f57 (codeOf Tryz.f57) .n [.v (.slice o0 n1 n2), .v (.func (.func 58) #[] #[])] = (t57 o0 n1 n2) := by kernel_rfl
theorem c57 (o0 : Option Addr) (n1 n2 : Nat) {w : World} {R : Ending → World → Prop} (h : (t57 o0 n1 n2).sem Tryz.prog R ρ0 w) : Calls Tryz.prog 57 #[.slice o0 n1 n2, .func (.func 58) #[] #[]] w R :=
  calls_of mixed Tryz.func57 rfl rfl (e57 o0 n1 n2) h
def t82 (o0 : Option Addr) (n1 n2 : Nat) (i3 : Int) (i4 : Int) (i5 : Int) : T :=
  T.loop 0 [Value.int IntKind.i64 i3, Value.int IntKind.i64 i4, Value.int IntKind.i64 i5, Value.bool true, Value.bool true] fun l6 j7 =>
  T.asI IntKind.i64 (List.headD l6 (Value.tuple (Array.mk []))) fun i8 =>
    T.asI IntKind.i64 (List.headD (List.tail l6) (Value.tuple (Array.mk []))) fun i9 =>
    T.asI IntKind.i64 (List.headD (List.tail (List.tail l6)) (Value.tuple (Array.mk []))) fun i10 =>
    T.asB (List.headD (List.tail (List.tail (List.tail l6))) (Value.tuple (Array.mk []))) fun b11 =>
    T.asB (List.headD (List.tail (List.tail (List.tail (List.tail l6)))) (Value.tuple (Array.mk []))) fun b12 =>
    T.ite (decide (IntKind.wrap IntKind.i64 (i9 - i8) ≤ 12))
    (T.call 93 [Value.slice o0 n1 n2, Value.int IntKind.i64 i8, Value.int IntKind.i64 i9, Value.func (Fn.func 58) (Array.mk []) (Array.mk [])]
    fun v13 => T.ret (Value.tuple (Array.mk [])))
    (T.ite (i10 == 0)
    (T.call 94 [Value.slice o0 n1 n2, Value.int IntKind.i64 i8, Value.int IntKind.i64 i9, Value.func (Fn.func 58) (Array.mk []) (Array.mk [])]
    fun v14 => T.ret (Value.tuple (Array.mk [])))
    (T.blk 1
    (fun l15 j16 =>
    T.asI IntKind.i64 (List.headD l15 (Value.tuple (Array.mk []))) fun i17 =>
    T.call 96 [Value.slice o0 n1 n2, Value.int IntKind.i64 i8, Value.int IntKind.i64 i9, Value.func (Fn.func 58) (Array.mk []) (Array.mk [])]
    fun v18 =>
    T.asU v18 fun l19 =>
    T.req (List.length l19 = 2)
    (T.asI IntKind.i64 (List.headD l19 (Value.tuple (Array.mk []))) fun i20 =>
    T.asI IntKind.i64 (List.headD (List.tail l19) (Value.tuple (Array.mk []))) fun i21 =>
    T.blk 1
    (fun l22 j23 =>
    T.asI IntKind.i64 (List.headD l22 (Value.tuple (Array.mk []))) fun i24 =>
    T.asI IntKind.i64 (List.headD (List.tail l22) (Value.tuple (Array.mk []))) fun i25 =>
    T.blk 1
    (fun l26 j27 =>
    T.blk 1
    (fun l28 j29 =>
    T.asI IntKind.i64 (List.headD l28 (Value.tuple (Array.mk []))) fun i30 =>
    T.call 100
    [Value.slice o0 n1 n2, Value.int IntKind.i64 i30, Value.int IntKind.i64 i9, Value.int IntKind.i64 i24,
    Value.func (Fn.func 58) (Array.mk []) (Array.mk [])]
    fun v31 =>
    T.asU v31 fun l32 =>
    T.req (List.length l32 = 2)
    (T.asI IntKind.i64 (List.headD l32 (Value.tuple (Array.mk []))) fun i33 =>
    T.asB (List.headD (List.tail l32) (Value.tuple (Array.mk []))) fun b34 =>
    T.req ((8 : Int) ≠ 0)
    (T.ite (decide (IntKind.wrap IntKind.i64 (i33 - i30) < IntKind.wrap IntKind.i64 (i9 - i33)))
    (T.call 82
    [Value.slice o0 n1 n2, Value.int IntKind.i64 i30, Value.int IntKind.i64 i33,
    Value.int IntKind.i64 i17, Value.func (Fn.func 58) (Array.mk []) (Array.mk [])]
    fun v35 =>
    T.next 0
    [Value.int IntKind.i64 (IntKind.wrap IntKind.i64 (i33 + 1)), Value.int IntKind.i64 i9,
    Value.int IntKind.i64 i17,
    Value.bool
    (decide
    (IntKind.wrap IntKind.i64 (i33 - i30) ≥
    IntKind.wrap IntKind.i64 (Int.tdiv (IntKind.wrap IntKind.i64 (i9 - i8)) 8))),
    Value.bool b34]
    ([Value.slice o0 n1 n2, Value.func (Fn.func 58) (Array.mk []) (Array.mk [])] =
    [Value.slice o0 n1 n2, Value.func (Fn.func 58) (Array.mk []) (Array.mk [])] ∧ ([] : List Deferred) = []))
    (T.call 82
    [Value.slice o0 n1 n2, Value.int IntKind.i64 (IntKind.wrap IntKind.i64 (i33 + 1)),
    Value.int IntKind.i64 i9, Value.int IntKind.i64 i17,
    Value.func (Fn.func 58) (Array.mk []) (Array.mk [])]
    fun v36 =>
    T.next 0
    [Value.int IntKind.i64 i30, Value.int IntKind.i64 i33, Value.int IntKind.i64 i17,
    Value.bool
    (decide
    (IntKind.wrap IntKind.i64 (i9 - i33) ≥
    IntKind.wrap IntKind.i64 (Int.tdiv (IntKind.wrap IntKind.i64 (i9 - i8)) 8))),
    Value.bool b34]
    ([Value.slice o0 n1 n2, Value.func (Fn.func 58) (Array.mk []) (Array.mk [])] =
    [Value.slice o0 n1 n2, Value.func (Fn.func 58) (Array.mk []) (Array.mk [])] ∧ ([] : List Deferred) = [])))))
    (T.drew
    (T.ite (decide (i8 > 0))
    (T.req (0 ≤ IntKind.wrap IntKind.i64 (i8 - 1) ∧ IntKind.wrap IntKind.i64 (i8 - 1) < (↑n1 : Int))
    (T.sm o0 fun n37 n38 =>
    T.ldI IntKind.i64 n37 (n38 + Int.toNat (IntKind.wrap IntKind.i64 (i8 - 1)) * 2) fun i39 =>
    T.ldI IntKind.i64 n37 (n38 + Int.toNat (IntKind.wrap IntKind.i64 (i8 - 1)) * 2 + 1) fun i40 =>
    T.req (0 ≤ i24 ∧ i24 < (↑n1 : Int))
    (T.sm o0 fun n41 n42 =>
    T.ldI IntKind.i64 n41 (n42 + Int.toNat i24 * 2) fun i43 =>
    T.ldI IntKind.i64 n41 (n42 + Int.toNat i24 * 2 + 1) fun i44 =>
    T.call 58
    [Value.agg (Array.mk [Value.int IntKind.i64 i39, Value.int IntKind.i64 i40]),
    Value.agg (Array.mk [Value.int IntKind.i64 i43, Value.int IntKind.i64 i44])]
    fun v45 =>
    T.asI IntKind.i64 v45 fun i46 =>
    T.chk []
    (T.ite (!decide (i46 < 0))
    (T.call 99
    [Value.slice o0 n1 n2, Value.int IntKind.i64 i8, Value.int IntKind.i64 i9,
    Value.int IntKind.i64 i24, Value.func (Fn.func 58) (Array.mk []) (Array.mk [])]
    fun v47 =>
    T.asI IntKind.i64 v47 fun i48 =>
    T.next 0
    [Value.int IntKind.i64 i48, Value.int IntKind.i64 i9, Value.int IntKind.i64 i17,
    Value.bool b11, Value.bool b12]
    ([Value.slice o0 n1 n2, Value.func (Fn.func 58) (Array.mk []) (Array.mk [])] =
    [Value.slice o0 n1 n2,
    Value.func (Fn.func 58) (Array.mk []) (Array.mk [])] ∧ ([] : List Deferred) = []))
    (T.next 1 [Value.int IntKind.i64 i8]
    ([Value.slice o0 n1 n2, Value.int IntKind.i64 i9, Value.int IntKind.i64 i17,
    Value.func (Fn.func 58) (Array.mk []) (Array.mk []),
    Value.int IntKind.i64 (IntKind.wrap IntKind.i64 (i9 - i8)),
    Value.int IntKind.i64 i24] =
    [Value.slice o0 n1 n2, Value.int IntKind.i64 i9, Value.int IntKind.i64 i17,
    Value.func (Fn.func 58) (Array.mk []) (Array.mk []),
    Value.int IntKind.i64 (IntKind.wrap IntKind.i64 (i9 - i8)),
    Value.int IntKind.i64 i24] ∧ ([] : List Deferred) = []))))))
    (T.chk []
    (T.next 1 [Value.int IntKind.i64 i8]
    ([Value.slice o0 n1 n2, Value.int IntKind.i64 i9, Value.int IntKind.i64 i17,
    Value.func (Fn.func 58) (Array.mk []) (Array.mk []),
    Value.int IntKind.i64 (IntKind.wrap IntKind.i64 (i9 - i8)), Value.int IntKind.i64 i24] =
    [Value.slice o0 n1 n2, Value.int IntKind.i64 i9, Value.int IntKind.i64 i17,
    Value.func (Fn.func 58) (Array.mk []) (Array.mk []),
    Value.int IntKind.i64 (IntKind.wrap IntKind.i64 (i9 - i8)), Value.int IntKind.i64 i24] ∧ ([] : List Deferred) = []))))))
    (T.ite b11
    (T.ite b12
    (T.ite (i25 == 1)
    (T.call 98
    [Value.slice o0 n1 n2, Value.int IntKind.i64 i8, Value.int IntKind.i64 i9,
    Value.func (Fn.func 58) (Array.mk []) (Array.mk [])]
    fun v49 =>
    T.asB v49 fun b50 =>
    T.ite b50 (T.ret (Value.tuple (Array.mk [])))
    (T.next 1 []
    ([Value.slice o0 n1 n2, Value.int IntKind.i64 i8, Value.int IntKind.i64 i9, Value.int IntKind.i64 i17,
    Value.func (Fn.func 58) (Array.mk []) (Array.mk []), Value.bool b11, Value.bool b12,
    Value.int IntKind.i64 (IntKind.wrap IntKind.i64 (i9 - i8)), Value.int IntKind.i64 i24] =
    [Value.slice o0 n1 n2, Value.int IntKind.i64 i8, Value.int IntKind.i64 i9,
    Value.int IntKind.i64 i17, Value.func (Fn.func 58) (Array.mk []) (Array.mk []), Value.bool b11,
    Value.bool b12, Value.int IntKind.i64 (IntKind.wrap IntKind.i64 (i9 - i8)),
    Value.int IntKind.i64 i24] ∧ ([] : List Deferred) = [])))
    (T.next 1 []
    ([Value.slice o0 n1 n2, Value.int IntKind.i64 i8, Value.int IntKind.i64 i9, Value.int IntKind.i64 i17,
    Value.func (Fn.func 58) (Array.mk []) (Array.mk []), Value.bool b11, Value.bool b12,
    Value.int IntKind.i64 (IntKind.wrap IntKind.i64 (i9 - i8)), Value.int IntKind.i64 i24] =
    [Value.slice o0 n1 n2, Value.int IntKind.i64 i8, Value.int IntKind.i64 i9, Value.int IntKind.i64 i17,
    Value.func (Fn.func 58) (Array.mk []) (Array.mk []), Value.bool b11, Value.bool b12,
    Value.int IntKind.i64 (IntKind.wrap IntKind.i64 (i9 - i8)), Value.int IntKind.i64 i24] ∧ ([] : List Deferred) = [])))
    (T.next 1 []
    ([Value.slice o0 n1 n2, Value.int IntKind.i64 i8, Value.int IntKind.i64 i9, Value.int IntKind.i64 i17,
    Value.func (Fn.func 58) (Array.mk []) (Array.mk []), Value.bool b11, Value.bool b12,
    Value.int IntKind.i64 (IntKind.wrap IntKind.i64 (i9 - i8)), Value.int IntKind.i64 i24] =
    [Value.slice o0 n1 n2, Value.int IntKind.i64 i8, Value.int IntKind.i64 i9, Value.int IntKind.i64 i17,
    Value.func (Fn.func 58) (Array.mk []) (Array.mk []), Value.bool b11, Value.bool b12,
    Value.int IntKind.i64 (IntKind.wrap IntKind.i64 (i9 - i8)), Value.int IntKind.i64 i24] ∧ ([] : List Deferred) = [])))
    (T.next 1 []
    ([Value.slice o0 n1 n2, Value.int IntKind.i64 i8, Value.int IntKind.i64 i9, Value.int IntKind.i64 i17,
    Value.func (Fn.func 58) (Array.mk []) (Array.mk []), Value.bool b11, Value.bool b12,
    Value.int IntKind.i64 (IntKind.wrap IntKind.i64 (i9 - i8)), Value.int IntKind.i64 i24] =
    [Value.slice o0 n1 n2, Value.int IntKind.i64 i8, Value.int IntKind.i64 i9, Value.int IntKind.i64 i17,
    Value.func (Fn.func 58) (Array.mk []) (Array.mk []), Value.bool b11, Value.bool b12,
    Value.int IntKind.i64 (IntKind.wrap IntKind.i64 (i9 - i8)), Value.int IntKind.i64 i24] ∧ ([] : List Deferred) = []))))
    (T.ite (i21 == 2)
    (T.call 97
    [Value.slice o0 n1 n2, Value.int IntKind.i64 i8, Value.int IntKind.i64 i9,
    Value.func (Fn.func 58) (Array.mk []) (Array.mk [])]
    fun v51 =>
    T.next 1
    [Value.int IntKind.i64
    (IntKind.wrap IntKind.i64 (IntKind.wrap IntKind.i64 (i9 - 1) - IntKind.wrap IntKind.i64 (i20 - i8))),
    Value.int IntKind.i64 1]
    ([Value.slice o0 n1 n2, Value.int IntKind.i64 i8, Value.int IntKind.i64 i9, Value.int IntKind.i64 i17,
    Value.func (Fn.func 58) (Array.mk []) (Array.mk []), Value.bool b11, Value.bool b12,
    Value.int IntKind.i64 (IntKind.wrap IntKind.i64 (i9 - i8))] =
    [Value.slice o0 n1 n2, Value.int IntKind.i64 i8, Value.int IntKind.i64 i9, Value.int IntKind.i64 i17,
    Value.func (Fn.func 58) (Array.mk []) (Array.mk []), Value.bool b11, Value.bool b12,
    Value.int IntKind.i64 (IntKind.wrap IntKind.i64 (i9 - i8))] ∧ ([] : List Deferred) = []))
    (T.next 1 [Value.int IntKind.i64 i20, Value.int IntKind.i64 i21]
    ([Value.slice o0 n1 n2, Value.int IntKind.i64 i8, Value.int IntKind.i64 i9, Value.int IntKind.i64 i17,
    Value.func (Fn.func 58) (Array.mk []) (Array.mk []), Value.bool b11, Value.bool b12,
    Value.int IntKind.i64 (IntKind.wrap IntKind.i64 (i9 - i8))] =
    [Value.slice o0 n1 n2, Value.int IntKind.i64 i8, Value.int IntKind.i64 i9, Value.int IntKind.i64 i17,
    Value.func (Fn.func 58) (Array.mk []) (Array.mk []), Value.bool b11, Value.bool b12,
    Value.int IntKind.i64 (IntKind.wrap IntKind.i64 (i9 - i8))] ∧ ([] : List Deferred) = [])))))
    (T.ite (!b11)
    (T.call 95 [Value.slice o0 n1 n2, Value.int IntKind.i64 i8, Value.int IntKind.i64 i9, Value.func (Fn.func 58) (Array.mk []) (Array.mk [])]
    fun v52 =>
    T.next 1 [Value.int IntKind.i64 (IntKind.wrap IntKind.i64 (i10 - 1))]
    ([Value.slice o0 n1 n2, Value.int IntKind.i64 i8, Value.int IntKind.i64 i9, Value.func (Fn.func 58) (Array.mk []) (Array.mk []),
    Value.bool b11, Value.bool b12, Value.int IntKind.i64 (IntKind.wrap IntKind.i64 (i9 - i8))] =
    [Value.slice o0 n1 n2, Value.int IntKind.i64 i8, Value.int IntKind.i64 i9, Value.func (Fn.func 58) (Array.mk []) (Array.mk []),
    Value.bool b11, Value.bool b12, Value.int IntKind.i64 (IntKind.wrap IntKind.i64 (i9 - i8))] ∧ ([] : List Deferred) = []))
    (T.next 1 [Value.int IntKind.i64 i10]
    ([Value.slice o0 n1 n2, Value.int IntKind.i64 i8, Value.int IntKind.i64 i9, Value.func (Fn.func 58) (Array.mk []) (Array.mk []),
    Value.bool b11, Value.bool b12, Value.int IntKind.i64 (IntKind.wrap IntKind.i64 (i9 - i8))] =
    [Value.slice o0 n1 n2, Value.int IntKind.i64 i8, Value.int IntKind.i64 i9, Value.func (Fn.func 58) (Array.mk []) (Array.mk []),
    Value.bool b11, Value.bool b12, Value.int IntKind.i64 (IntKind.wrap IntKind.i64 (i9 - i8))] ∧ ([] : List Deferred) = [])))))
theorem e82 (o0 : Option Addr) (n1 n2 : Nat) (i3 : Int) (i4 : Int) (i5 : Int) : treeOf Tryz.prog Tryz.f82 (codeOf Tryz.f82) (.s .n (.s .n (.u (.l [(1, .int .i64), (2, .int .i64), (3, .int .i64), (10, .bool), (11, .bool)] [0, 4] (.u (.s .n (.s .n (.s .n (.c [(3, .int .i64)] [0, 1, 2, 4, 10, 11, 12] .n (.s .n (.c [(13, .int .i64), (14, .int .i64)] [0, 1, 2, 3, 4, 10, 11, 12] .n (.c [] [0, 1, 2, 3, 4, 10, 11, 12, 13] .n (.c [(1, .int .i64)] [0, 2, 3, 4, 12, 13] (.s (.p [0, 1, 2, 3, 4, 5, 6, 7, 8, 9, 10, 11, 12, 13, 14, 15, 16]) .n) .n))))))))))))) [.v (.slice o0 n1 n2), .v (.int .i64 i3), .v (.int .i64 i4), .v (.int .i64 i5), .v (.func (.func 58) #[] #[])] = (t82 o0 n1 n2 i3 i4 i5) := by kernel_rfl
theorem c82 (o0 : Option Addr) (n1 n2 : Nat) (i3 : Int) (i4 : Int) (i5 : Int) {w : World} {R : Ending → World → Prop} (h : (t82 o0 n1 n2 i3 i4 i5).sem Tryz.prog R ρ0 w) : Calls Tryz.prog 82 #[.slice o0 n1 n2, .int .i64 i3, .int .i64 i4, .int .i64 i5, .func (.func 58) #[] #[]] w R :=
  calls_of mixed Tryz.func82 rfl rfl (e82 o0 n1 n2 i3 i4 i5) h
def t93 (o0 : Option Addr) (n1 n2 : Nat) (i3 : Int) (i4 : Int) : T :=
  T.loop 0 [Value.int IntKind.i64 (IntKind.wrap IntKind.i64 (i3 + 1))] fun l5 j6 =>
  T.asI IntKind.i64 (List.headD l5 (Value.tuple (Array.mk []))) fun i7 =>
    T.ite (decide (i7 < i4))
    (T.loop 1 [Value.int IntKind.i64 i7] fun l8 j9 =>
    T.asI IntKind.i64 (List.headD l8 (Value.tuple (Array.mk []))) fun i10 =>
    T.drew
    (T.ite (decide (i10 > i3))
    (T.req (0 ≤ i10 ∧ i10 < (↑n1 : Int))
    (T.sm o0 fun n11 n12 =>
    T.ldI IntKind.i64 n11 (n12 + Int.toNat i10 * 2) fun i13 =>
    T.ldI IntKind.i64 n11 (n12 + Int.toNat i10 * 2 + 1) fun i14 =>
    T.req (0 ≤ IntKind.wrap IntKind.i64 (i10 - 1) ∧ IntKind.wrap IntKind.i64 (i10 - 1) < (↑n1 : Int))
    (T.sm o0 fun n15 n16 =>
    T.ldI IntKind.i64 n15 (n16 + Int.toNat (IntKind.wrap IntKind.i64 (i10 - 1)) * 2) fun i17 =>
    T.ldI IntKind.i64 n15 (n16 + Int.toNat (IntKind.wrap IntKind.i64 (i10 - 1)) * 2 + 1) fun i18 =>
    T.call 58
    [Value.agg (Array.mk [Value.int IntKind.i64 i13, Value.int IntKind.i64 i14]),
    Value.agg (Array.mk [Value.int IntKind.i64 i17, Value.int IntKind.i64 i18])]
    fun v19 =>
    T.asI IntKind.i64 v19 fun i20 =>
    T.chk []
    (T.ite (decide (i20 < 0))
    (T.drew
    (T.req (0 ≤ IntKind.wrap IntKind.i64 (i10 - 1) ∧ IntKind.wrap IntKind.i64 (i10 - 1) < (↑n1 : Int))
    (T.sm o0 fun n21 n22 =>
    T.ldI IntKind.i64 n21 (n22 + Int.toNat (IntKind.wrap IntKind.i64 (i10 - 1)) * 2) fun i23 =>
    T.ldI IntKind.i64 n21 (n22 + Int.toNat (IntKind.wrap IntKind.i64 (i10 - 1)) * 2 + 1) fun i24 =>
    T.req (0 ≤ i10 ∧ i10 < (↑n1 : Int))
    (T.sm o0 fun n25 n26 =>
    T.ldI IntKind.i64 n25 (n26 + Int.toNat i10 * 2) fun i27 =>
    T.ldI IntKind.i64 n25 (n26 + Int.toNat i10 * 2 + 1) fun i28 =>
    T.req (0 ≤ i10 ∧ i10 < (↑n1 : Int))
    (T.sm o0 fun n29 n30 =>
    T.st n29 (n30 + Int.toNat i10 * 2) (Value.int IntKind.i64 i23)
    (T.st n29 (n30 + Int.toNat i10 * 2 + 1) (Value.int IntKind.i64 i24)
    (T.chk []
    (T.req
    (0 ≤ IntKind.wrap IntKind.i64 (i10 - 1) ∧ IntKind.wrap IntKind.i64 (i10 - 1) < (↑n1 : Int))
    (T.sm o0 fun n31 n32 =>
    T.st n31 (n32 + Int.toNat (IntKind.wrap IntKind.i64 (i10 - 1)) * 2)
    (Value.int IntKind.i64 i27)
    (T.st n31 (n32 + Int.toNat (IntKind.wrap IntKind.i64 (i10 - 1)) * 2 + 1)
    (Value.int IntKind.i64 i28)
    (T.chk []
    (T.next 1 [Value.int IntKind.i64 (IntKind.wrap IntKind.i64 (i10 - 1))]
    ([Value.slice o0 n1 n2, Value.int IntKind.i64 i3, Value.int IntKind.i64 i4,
    Value.func (Fn.func 58) (Array.mk []) (Array.mk []),
    Value.int IntKind.i64 i7] =
    [Value.slice o0 n1 n2, Value.int IntKind.i64 i3, Value.int IntKind.i64 i4,
    Value.func (Fn.func 58) (Array.mk []) (Array.mk []),
    Value.int IntKind.i64 i7] ∧ ([] : List Deferred) = [])))))))))))))
    (T.next 0 [Value.int IntKind.i64 (IntKind.wrap IntKind.i64 (i7 + 1))]
    ([Value.slice o0 n1 n2, Value.int IntKind.i64 i3, Value.int IntKind.i64 i4,
    Value.func (Fn.func 58) (Array.mk []) (Array.mk [])] =
    [Value.slice o0 n1 n2, Value.int IntKind.i64 i3, Value.int IntKind.i64 i4,
    Value.func (Fn.func 58) (Array.mk []) (Array.mk [])] ∧ ([] : List Deferred) = []))))))
    (T.chk []
    (T.next 0 [Value.int IntKind.i64 (IntKind.wrap IntKind.i64 (i7 + 1))]
    ([Value.slice o0 n1 n2, Value.int IntKind.i64 i3, Value.int IntKind.i64 i4, Value.func (Fn.func 58) (Array.mk []) (Array.mk [])] =
    [Value.slice o0 n1 n2, Value.int IntKind.i64 i3, Value.int IntKind.i64 i4, Value.func (Fn.func 58) (Array.mk []) (Array.mk [])] ∧ ([] : List Deferred) = [])))))
    (T.ret (Value.tuple (Array.mk [])))
theorem e93 (o0 : Option Addr) (n1 n2 : Nat) (i3 : Int) (i4 : Int) : treeOf Tryz.prog Tryz.f93 (codeOf Tryz.f93) (.s .n (.u (.l [(8, .int .i64)] [0, 1, 2, 3] (.s .n (.s (.u (.s .n (.u (.l [(9, .int .i64)] [0, 1, 2, 3, 8] (.s (.s (.p [0, 1, 2, 3, 4, 5, 6, 7, 8, 9, 10, 11, 12, 13, 14, 15, 16]) .n) (.s (.u (.p [0, 1, 2, 3, 4, 5, 6, 7, 8, 9, 10, 11, 12, 13, 14, 15, 16, 17])) .n)))))) .n))))) [.v (.slice o0 n1 n2), .v (.int .i64 i3), .v (.int .i64 i4), .v (.func (.func 58) #[] #[])] = (t93 o0 n1 n2 i3 i4) := by kernel_rfl
theorem c93 (o0 : Option Addr) (n1 n2 : Nat) (i3 : Int) (i4 : Int) {w : World} {R : Ending → World → Prop} (h : (t93 o0 n1 n2 i3 i4).sem Tryz.prog R ρ0 w) : Calls Tryz.prog 93 #[.slice o0 n1 n2, .int .i64 i3, .int .i64 i4, .func (.func 58) #[] #[]] w R :=
  calls_of mixed Tryz.func93 rfl rfl (e93 o0 n1 n2 i3 i4) h
def t94 (o0 : Option Addr) (n1 n2 : Nat) (i3 : Int) (i4 : Int) : T :=
  T.req ((2 : Int) ≠ 0)
  (T.loop 0 [Value.int IntKind.i64 (IntKind.wrap IntKind.i64 (Int.tdiv (IntKind.wrap IntKind.i64 (IntKind.wrap IntKind.i64 (i4 - i3) - 1)) 2))] fun l5 j6 =>
    T.asI IntKind.i64 (List.headD l5 (Value.tuple (Array.mk []))) fun i7 =>
    T.ite (decide (i7 ≥ 0))
    (T.call 110
    [Value.slice o0 n1 n2, Value.int IntKind.i64 i7, Value.int IntKind.i64 (IntKind.wrap IntKind.i64 (i4 - i3)), Value.int IntKind.i64 i3,
    Value.func (Fn.func 58) (Array.mk []) (Array.mk [])]
    fun v8 =>
    T.next 0 [Value.int IntKind.i64 (IntKind.wrap IntKind.i64 (i7 - 1))]
    ([Value.slice o0 n1 n2, Value.func (Fn.func 58) (Array.mk []) (Array.mk []), Value.int IntKind.i64 i3, Value.int IntKind.i64 0,
    Value.int IntKind.i64 (IntKind.wrap IntKind.i64 (i4 - i3))] =
    [Value.slice o0 n1 n2, Value.func (Fn.func 58) (Array.mk []) (Array.mk []), Value.int IntKind.i64 i3, Value.int IntKind.i64 0,
    Value.int IntKind.i64 (IntKind.wrap IntKind.i64 (i4 - i3))] ∧ ([] : List Deferred) = []))
    (T.loop 0 [Value.int IntKind.i64 (IntKind.wrap IntKind.i64 (IntKind.wrap IntKind.i64 (i4 - i3) - 1))] fun l9 j10 =>
    T.asI IntKind.i64 (List.headD l9 (Value.tuple (Array.mk []))) fun i11 =>
    T.ite (decide (i11 ≥ 0))
    (T.drew
    (T.req (0 ≤ IntKind.wrap IntKind.i64 (i3 + i11) ∧ IntKind.wrap IntKind.i64 (i3 + i11) < (↑n1 : Int))
    (T.sm o0 fun n12 n13 =>
    T.ldI IntKind.i64 n12 (n13 + Int.toNat (IntKind.wrap IntKind.i64 (i3 + i11)) * 2) fun i14 =>
    T.ldI IntKind.i64 n12 (n13 + Int.toNat (IntKind.wrap IntKind.i64 (i3 + i11)) * 2 + 1) fun i15 =>
    T.req (0 ≤ i3 ∧ i3 < (↑n1 : Int))
    (T.sm o0 fun n16 n17 =>
    T.ldI IntKind.i64 n16 (n17 + Int.toNat i3 * 2) fun i18 =>
    T.ldI IntKind.i64 n16 (n17 + Int.toNat i3 * 2 + 1) fun i19 =>
    T.req (0 ≤ i3 ∧ i3 < (↑n1 : Int))
    (T.sm o0 fun n20 n21 =>
    T.st n20 (n21 + Int.toNat i3 * 2) (Value.int IntKind.i64 i14)
    (T.st n20 (n21 + Int.toNat i3 * 2 + 1) (Value.int IntKind.i64 i15)
    (T.chk []
    (T.req (0 ≤ IntKind.wrap IntKind.i64 (i3 + i11) ∧ IntKind.wrap IntKind.i64 (i3 + i11) < (↑n1 : Int))
    (T.sm o0 fun n22 n23 =>
    T.st n22 (n23 + Int.toNat (IntKind.wrap IntKind.i64 (i3 + i11)) * 2) (Value.int IntKind.i64 i18)
    (T.st n22 (n23 + Int.toNat (IntKind.wrap IntKind.i64 (i3 + i11)) * 2 + 1) (Value.int IntKind.i64 i19)
    (T.chk []
    (T.call 110
    [Value.slice o0 n1 n2, Value.int IntKind.i64 0, Value.int IntKind.i64 i11, Value.int IntKind.i64 i3,
    Value.func (Fn.func 58) (Array.mk []) (Array.mk [])]
    fun v24 =>
    T.next 0 [Value.int IntKind.i64 (IntKind.wrap IntKind.i64 (i11 - 1))]
    ([Value.slice o0 n1 n2, Value.func (Fn.func 58) (Array.mk []) (Array.mk []), Value.int IntKind.i64 i3,
    Value.int IntKind.i64 0] =
    [Value.slice o0 n1 n2, Value.func (Fn.func 58) (Array.mk []) (Array.mk []),
    Value.int IntKind.i64 i3, Value.int IntKind.i64 0] ∧ ([] : List Deferred) = [])))))))))))))
    (T.ret (Value.tuple (Array.mk [])))))
theorem e94 (o0 : Option Addr) (n1 n2 : Nat) (i3 : Int) (i4 : Int) : treeOf Tryz.prog Tryz.f94 (codeOf Tryz.f94) (.s .n (.s .n (.s .n (.s (.s .n (.u (.l [(11, .int .i64)] [0, 3, 8, 9, 10] .n))) (.s .n (.u (.l [(12, .int .i64)] [0, 3, 8, 9] (.s .n (.s (.u (.s (.p [0, 1, 2, 3, 4, 5, 6, 7, 8, 9, 10, 11, 12, 13, 14, 15, 16, 17, 18, 19]) .n)) .n))))))))) [.v (.slice o0 n1 n2), .v (.int .i64 i3), .v (.int .i64 i4), .v (.func (.func 58) #[] #[])] = (t94 o0 n1 n2 i3 i4) := by kernel_rfl
theorem c94 (o0 : Option Addr) (n1 n2 : Nat) (i3 : Int) (i4 : Int) {w : World} {R : Ending → World → Prop} (h : (t94 o0 n1 n2 i3 i4).sem Tryz.prog R ρ0 w) : Calls Tryz.prog 94 #[.slice o0 n1 n2, .int .i64 i3, .int .i64 i4, .func (.func 58) #[] #[]] w R :=
  calls_of mixed Tryz.func94 rfl rfl (e94 o0 n1 n2 i3 i4) h
def t95 (o0 : Option Addr) (n1 n2 : Nat) (i3 : Int) (i4 : Int) : T :=
  T.ite (decide (IntKind.wrap IntKind.i64 (i4 - i3) ≥ 8))
  (T.new (Obj.cells (Array.mk [Value.int IntKind.u64 0]) 140) fun n5 =>
    T.st n5 0 (Value.int IntKind.u64 (IntKind.wrap IntKind.u64 (IntKind.wrap IntKind.i64 (i4 - i3))))
    (T.call 88 [Value.int IntKind.i64 (IntKind.wrap IntKind.i64 (i4 - i3))] fun v6 =>
    T.asI IntKind.u64 v6 fun i7 =>
    T.req ((4 : Int) ≠ 0)
    (T.loop 0
    [Value.int IntKind.i64
    (IntKind.wrap IntKind.i64
    (IntKind.wrap IntKind.i64 (i3 + IntKind.wrap IntKind.i64 (IntKind.wrap IntKind.i64 (Int.tdiv (IntKind.wrap IntKind.i64 (i4 - i3)) 4) * 2)) -
    1))]
    fun l8 j9 =>
    T.asI IntKind.i64 (List.headD l8 (Value.tuple (Array.mk []))) fun i10 =>
    T.req ((4 : Int) ≠ 0)
    (T.ite
    (decide
    (i10 ≤
    IntKind.wrap IntKind.i64
    (IntKind.wrap IntKind.i64
    (i3 + IntKind.wrap IntKind.i64 (IntKind.wrap IntKind.i64 (Int.tdiv (IntKind.wrap IntKind.i64 (i4 - i3)) 4) * 2)) +
    1)))
    (T.call 89 [Value.pointer (some (Addr.mk n5 0 none))] fun v11 =>
    T.asI IntKind.u64 v11 fun i12 =>
    T.blk 1
    (fun l13 j14 =>
    T.asI IntKind.i64 (List.headD l13 (Value.tuple (Array.mk []))) fun i15 =>
    T.drew
    (T.req (0 ≤ IntKind.wrap IntKind.i64 (i3 + i15) ∧ IntKind.wrap IntKind.i64 (i3 + i15) < (↑n1 : Int))
    (T.sm o0 fun n16 n17 =>
    T.ldI IntKind.i64 n16 (n17 + Int.toNat (IntKind.wrap IntKind.i64 (i3 + i15)) * 2) fun i18 =>
    T.ldI IntKind.i64 n16 (n17 + Int.toNat (IntKind.wrap IntKind.i64 (i3 + i15)) * 2 + 1) fun i19 =>
    T.req (0 ≤ i10 ∧ i10 < (↑n1 : Int))
    (T.sm o0 fun n20 n21 =>
    T.ldI IntKind.i64 n20 (n21 + Int.toNat i10 * 2) fun i22 =>
    T.ldI IntKind.i64 n20 (n21 + Int.toNat i10 * 2 + 1) fun i23 =>
    T.req (0 ≤ i10 ∧ i10 < (↑n1 : Int))
    (T.sm o0 fun n24 n25 =>
    T.st n24 (n25 + Int.toNat i10 * 2) (Value.int IntKind.i64 i18)
    (T.st n24 (n25 + Int.toNat i10 * 2 + 1) (Value.int IntKind.i64 i19)
    (T.chk []
    (T.req (0 ≤ IntKind.wrap IntKind.i64 (i3 + i15) ∧ IntKind.wrap IntKind.i64 (i3 + i15) < (↑n1 : Int))
    (T.sm o0 fun n26 n27 =>
    T.st n26 (n27 + Int.toNat (IntKind.wrap IntKind.i64 (i3 + i15)) * 2) (Value.int IntKind.i64 i22)
    (T.st n26 (n27 + Int.toNat (IntKind.wrap IntKind.i64 (i3 + i15)) * 2 + 1)
    (Value.int IntKind.i64 i23)
    (T.chk []
    (T.next 0 [Value.int IntKind.i64 (IntKind.wrap IntKind.i64 (i10 + 1))]
    ([Value.slice o0 n1 n2, Value.int IntKind.i64 i3,
    Value.int IntKind.i64 (IntKind.wrap IntKind.i64 (i4 - i3)),
    Value.pointer (some (Addr.mk n5 0 none)), Value.int IntKind.u64 i7] =
    [Value.slice o0 n1 n2, Value.int IntKind.i64 i3,
    Value.int IntKind.i64 (IntKind.wrap IntKind.i64 (i4 - i3)),
    Value.pointer (some (Addr.mk n5 0 none)), Value.int IntKind.u64 i7] ∧ ([] : List Deferred) = [])))))))))))))
    (T.ite
    (decide
    (IntKind.wrap IntKind.i64 (bitsI BinOp.and IntKind.u64 i12 (IntKind.wrap IntKind.u64 (i7 - 1))) ≥
    IntKind.wrap IntKind.i64 (i4 - i3)))
    (T.next 1
    [Value.int IntKind.i64
    (IntKind.wrap IntKind.i64
    (IntKind.wrap IntKind.i64 (bitsI BinOp.and IntKind.u64 i12 (IntKind.wrap IntKind.u64 (i7 - 1))) -
    IntKind.wrap IntKind.i64 (i4 - i3)))]
    ([Value.slice o0 n1 n2, Value.int IntKind.i64 i3, Value.int IntKind.i64 (IntKind.wrap IntKind.i64 (i4 - i3)),
    Value.pointer (some (Addr.mk n5 0 none)), Value.int IntKind.u64 i7, Value.int IntKind.i64 i10] =
    [Value.slice o0 n1 n2, Value.int IntKind.i64 i3, Value.int IntKind.i64 (IntKind.wrap IntKind.i64 (i4 - i3)),
    Value.pointer (some (Addr.mk n5 0 none)), Value.int IntKind.u64 i7, Value.int IntKind.i64 i10] ∧ ([] : List Deferred) = []))
    (T.next 1 [Value.int IntKind.i64 (IntKind.wrap IntKind.i64 (bitsI BinOp.and IntKind.u64 i12 (IntKind.wrap IntKind.u64 (i7 - 1))))]
    ([Value.slice o0 n1 n2, Value.int IntKind.i64 i3, Value.int IntKind.i64 (IntKind.wrap IntKind.i64 (i4 - i3)),
    Value.pointer (some (Addr.mk n5 0 none)), Value.int IntKind.u64 i7, Value.int IntKind.i64 i10] =
    [Value.slice o0 n1 n2, Value.int IntKind.i64 i3, Value.int IntKind.i64 (IntKind.wrap IntKind.i64 (i4 - i3)),
    Value.pointer (some (Addr.mk n5 0 none)), Value.int IntKind.u64 i7, Value.int IntKind.i64 i10] ∧ ([] : List Deferred) = []))))
    (T.ret (Value.tuple (Array.mk [])))))))
  (T.ret (Value.tuple (Array.mk [])))
theorem e95 (o0 : Option Addr) (n1 n2 : Nat) (i3 : Int) (i4 : Int) : treeOf Tryz.prog Tryz.f95 (codeOf Tryz.f95) (.s .n (.s .n (.s (.s .n (.s .n (.s .n (.u (.l [(11, .int .i64)] [0, 1, 8, 9, 10] (.s .n (.s (.u (.s .n (.c [(12, .int .i64)] [0, 1, 8, 9, 10, 11] .n (.p [0, 1, 2, 3, 4, 5, 6, 7, 8, 9, 10, 11, 12, 13, 14, 15, 16, 17, 18, 19])))) .n))))))) .n))) [.v (.slice o0 n1 n2), .v (.int .i64 i3), .v (.int .i64 i4), .v (.func (.func 58) #[] #[])] = (t95 o0 n1 n2 i3 i4) := by kernel_rfl
theorem c95 (o0 : Option Addr) (n1 n2 : Nat) (i3 : Int) (i4 : Int) {w : World} {R : Ending → World → Prop} (h : (t95 o0 n1 n2 i3 i4).sem Tryz.prog R ρ0 w) : Calls Tryz.prog 95 #[.slice o0 n1 n2, .int .i64 i3, .int .i64 i4, .func (.func 58) #[] #[]] w R :=
  calls_of mixed Tryz.func95 rfl rfl (e95 o0 n1 n2 i3 i4) h
def t96 (o0 : Option Addr) (n1 n2 : Nat) (i3 : Int) (i4 : Int) : T :=
  T.new (Obj.cells (Array.mk [Value.int IntKind.i64 0]) 3) fun n5 =>
  T.req ((4 : Int) ≠ 0)
    (T.req ((4 : Int) ≠ 0)
    (T.req ((4 : Int) ≠ 0)
    (T.blk 0
    (fun l6 j7 =>
    T.asI IntKind.i64 (List.headD l6 (Value.tuple (Array.mk []))) fun i8 =>
    T.ldI IntKind.i64 n5 0 fun i9 =>
    T.ite (i9 == 0) (T.ret (Value.tuple (Array.mk [Value.int IntKind.i64 i8, Value.int IntKind.i64 1])))
    (T.ite (i9 == 12) (T.ret (Value.tuple (Array.mk [Value.int IntKind.i64 i8, Value.int IntKind.i64 2])))
    (T.ret (Value.tuple (Array.mk [Value.int IntKind.i64 i8, Value.int IntKind.i64 0])))))
    (T.ite (decide (IntKind.wrap IntKind.i64 (i4 - i3) ≥ 8))
    (T.ite (decide (IntKind.wrap IntKind.i64 (i4 - i3) ≥ 50))
    (T.call 111
    [Value.slice o0 n1 n2,
    Value.int IntKind.i64
    (IntKind.wrap IntKind.i64 (i3 + IntKind.wrap IntKind.i64 (IntKind.wrap IntKind.i64 (Int.tdiv (IntKind.wrap IntKind.i64 (i4 - i3)) 4) * 1))),
    Value.pointer (some (Addr.mk n5 0 none)), Value.func (Fn.func 58) (Array.mk []) (Array.mk [])]
    fun v10 =>
    T.asI IntKind.i64 v10 fun i11 =>
    T.call 111
    [Value.slice o0 n1 n2,
    Value.int IntKind.i64
    (IntKind.wrap IntKind.i64
    (i3 + IntKind.wrap IntKind.i64 (IntKind.wrap IntKind.i64 (Int.tdiv (IntKind.wrap IntKind.i64 (i4 - i3)) 4) * 2))),
    Value.pointer (some (Addr.mk n5 0 none)), Value.func (Fn.func 58) (Array.mk []) (Array.mk [])]
    fun v12 =>
    T.asI IntKind.i64 v12 fun i13 =>
    T.call 111
    [Value.slice o0 n1 n2,
    Value.int IntKind.i64
    (IntKind.wrap IntKind.i64
    (i3 + IntKind.wrap IntKind.i64 (IntKind.wrap IntKind.i64 (Int.tdiv (IntKind.wrap IntKind.i64 (i4 - i3)) 4) * 3))),
    Value.pointer (some (Addr.mk n5 0 none)), Value.func (Fn.func 58) (Array.mk []) (Array.mk [])]
    fun v14 =>
    T.asI IntKind.i64 v14 fun i15 =>
    T.call 112
    [Value.slice o0 n1 n2, Value.int IntKind.i64 i11, Value.int IntKind.i64 i13, Value.int IntKind.i64 i15,
    Value.pointer (some (Addr.mk n5 0 none)), Value.func (Fn.func 58) (Array.mk []) (Array.mk [])]
    fun v16 =>
    T.asI IntKind.i64 v16 fun i17 =>
    T.next 0 [Value.int IntKind.i64 i17]
    ([Value.pointer (some (Addr.mk n5 0 none))] = [Value.pointer (some (Addr.mk n5 0 none))] ∧ ([] : List Deferred) = []))
    (T.call 112
    [Value.slice o0 n1 n2,
    Value.int IntKind.i64
    (IntKind.wrap IntKind.i64 (i3 + IntKind.wrap IntKind.i64 (IntKind.wrap IntKind.i64 (Int.tdiv (IntKind.wrap IntKind.i64 (i4 - i3)) 4) * 1))),
    Value.int IntKind.i64
    (IntKind.wrap IntKind.i64 (i3 + IntKind.wrap IntKind.i64 (IntKind.wrap IntKind.i64 (Int.tdiv (IntKind.wrap IntKind.i64 (i4 - i3)) 4) * 2))),
    Value.int IntKind.i64
    (IntKind.wrap IntKind.i64 (i3 + IntKind.wrap IntKind.i64 (IntKind.wrap IntKind.i64 (Int.tdiv (IntKind.wrap IntKind.i64 (i4 - i3)) 4) * 3))),
    Value.pointer (some (Addr.mk n5 0 none)), Value.func (Fn.func 58) (Array.mk []) (Array.mk [])]
    fun v18 =>
    T.asI IntKind.i64 v18 fun i19 =>
    T.next 0 [Value.int IntKind.i64 i19] ([Value.pointer (some (Addr.mk n5 0 none))] = [Value.pointer (some (Addr.mk n5 0 none))] ∧ ([] : List Deferred) = [])))
    (T.next 0
    [Value.int IntKind.i64
    (IntKind.wrap IntKind.i64 (i3 + IntKind.wrap IntKind.i64 (IntKind.wrap IntKind.i64 (Int.tdiv (IntKind.wrap IntKind.i64 (i4 - i3)) 4) * 2)))]
    ([Value.pointer (some (Addr.mk n5 0 none))] = [Value.pointer (some (Addr.mk n5 0 none))] ∧ ([] : List Deferred) = []))))))
theorem e96 (o0 : Option Addr) (n1 n2 : Nat) (i3 : Int) (i4 : Int) : treeOf Tryz.prog Tryz.f96 (codeOf Tryz.f96) (.s .n (.s .n (.s .n (.s .n (.s .n (.s .n (.c [(13, .int .i64)] [11] .n .n))))))) [.v (.slice o0 n1 n2), .v (.int .i64 i3), .v (.int .i64 i4), .v (.func (.func 58) #[] #[])] = (t96 o0 n1 n2 i3 i4) := by kernel_rfl
theorem c96 (o0 : Option Addr) (n1 n2 : Nat) (i3 : Int) (i4 : Int) {w : World} {R : Ending → World → Prop} (h : (t96 o0 n1 n2 i3 i4).sem Tryz.prog R ρ0 w) : Calls Tryz.prog 96 #[.slice o0 n1 n2, .int .i64 i3, .int .i64 i4, .func (.func 58) #[] #[]] w R :=
  calls_of mixed Tryz.func96 rfl rfl (e96 o0 n1 n2 i3 i4) h
def t97 (o0 : Option Addr) (n1 n2 : Nat) (i3 : Int) (i4 : Int) : T :=
  T.loop 0 [Value.int IntKind.i64 i3, Value.int IntKind.i64 (IntKind.wrap IntKind.i64 (i4 - 1))] fun l5 j6 =>
  T.asI IntKind.i64 (List.headD l5 (Value.tuple (Array.mk []))) fun i7 =>
    T.asI IntKind.i64 (List.headD (List.tail l5) (Value.tuple (Array.mk []))) fun i8 =>
    T.ite (decide (i7 < i8))
    (T.drew
    (T.req (0 ≤ i8 ∧ i8 < (↑n1 : Int))
    (T.sm o0 fun n9 n10 =>
    T.ldI IntKind.i64 n9 (n10 + Int.toNat i8 * 2) fun i11 =>
    T.ldI IntKind.i64 n9 (n10 + Int.toNat i8 * 2 + 1) fun i12 =>
    T.req (0 ≤ i7 ∧ i7 < (↑n1 : Int))
    (T.sm o0 fun n13 n14 =>
    T.ldI IntKind.i64 n13 (n14 + Int.toNat i7 * 2) fun i15 =>
    T.ldI IntKind.i64 n13 (n14 + Int.toNat i7 * 2 + 1) fun i16 =>
    T.req (0 ≤ i7 ∧ i7 < (↑n1 : Int))
    (T.sm o0 fun n17 n18 =>
    T.st n17 (n18 + Int.toNat i7 * 2) (Value.int IntKind.i64 i11)
    (T.st n17 (n18 + Int.toNat i7 * 2 + 1) (Value.int IntKind.i64 i12)
    (T.chk []
    (T.req (0 ≤ i8 ∧ i8 < (↑n1 : Int))
    (T.sm o0 fun n19 n20 =>
    T.st n19 (n20 + Int.toNat i8 * 2) (Value.int IntKind.i64 i15)
    (T.st n19 (n20 + Int.toNat i8 * 2 + 1) (Value.int IntKind.i64 i16)
    (T.chk []
    (T.next 0
    [Value.int IntKind.i64 (IntKind.wrap IntKind.i64 (i7 + 1)),
    Value.int IntKind.i64 (IntKind.wrap IntKind.i64 (i8 - 1))]
    ([Value.slice o0 n1 n2] = [Value.slice o0 n1 n2] ∧ ([] : List Deferred) = [])))))))))))))
    (T.ret (Value.tuple (Array.mk [])))
theorem e97 (o0 : Option Addr) (n1 n2 : Nat) (i3 : Int) (i4 : Int) : treeOf Tryz.prog Tryz.f97 (codeOf Tryz.f97) (.s .n (.s .n (.u (.l [(8, .int .i64), (9, .int .i64)] [0] (.s .n (.u (.s (.p [0, 1, 2, 3, 4, 5, 6, 7, 8, 9, 10, 11, 12, 13, 14, 15]) .n))))))) [.v (.slice o0 n1 n2), .v (.int .i64 i3), .v (.int .i64 i4), .v (.func (.func 58) #[] #[])] = (t97 o0 n1 n2 i3 i4) := by kernel_rfl
theorem c97 (o0 : Option Addr) (n1 n2 : Nat) (i3 : Int) (i4 : Int) {w : World} {R : Ending → World → Prop} (h : (t97 o0 n1 n2 i3 i4).sem Tryz.prog R ρ0 w) : Calls Tryz.prog 97 #[.slice o0 n1 n2, .int .i64 i3, .int .i64 i4, .func (.func 58) #[] #[]] w R :=
  calls_of mixed Tryz.func97 rfl rfl (e97 o0 n1 n2 i3 i4) h
def t98 (o0 : Option Addr) (n1 n2 : Nat) (i3 : Int) (i4 : Int) : T :=
  T.loop 0 [Value.int IntKind.i64 (IntKind.wrap IntKind.i64 (i3 + 1)), Value.int IntKind.i64 0] fun l5 j6 =>
  T.asI IntKind.i64 (List.headD l5 (Value.tuple (Array.mk []))) fun i7 =>
    T.asI IntKind.i64 (List.headD (List.tail l5) (Value.tuple (Array.mk []))) fun i8 =>
    T.ite (decide (i8 < 5))
    (T.blk 1
    (fun l9 j10 =>
    T.asI IntKind.i64 (List.headD l9 (Value.tuple (Array.mk []))) fun i11 =>
    T.ite (i11 == i4) (T.ret (Value.bool true))
    (T.ite (decide (IntKind.wrap IntKind.i64 (i4 - i3) < 50)) (T.ret (Value.bool false))
    (T.drew
    (T.req (0 ≤ IntKind.wrap IntKind.i64 (i11 - 1) ∧ IntKind.wrap IntKind.i64 (i11 - 1) < (↑n1 : Int))
    (T.sm o0 fun n12 n13 =>
    T.ldI IntKind.i64 n12 (n13 + Int.toNat (IntKind.wrap IntKind.i64 (i11 - 1)) * 2) fun i14 =>
    T.ldI IntKind.i64 n12 (n13 + Int.toNat (IntKind.wrap IntKind.i64 (i11 - 1)) * 2 + 1) fun i15 =>
    T.req (0 ≤ i11 ∧ i11 < (↑n1 : Int))
    (T.sm o0 fun n16 n17 =>
    T.ldI IntKind.i64 n16 (n17 + Int.toNat i11 * 2) fun i18 =>
    T.ldI IntKind.i64 n16 (n17 + Int.toNat i11 * 2 + 1) fun i19 =>
    T.req (0 ≤ i11 ∧ i11 < (↑n1 : Int))
    (T.sm o0 fun n20 n21 =>
    T.st n20 (n21 + Int.toNat i11 * 2) (Value.int IntKind.i64 i14)
    (T.st n20 (n21 + Int.toNat i11 * 2 + 1) (Value.int IntKind.i64 i15)
    (T.chk []
    (T.req (0 ≤ IntKind.wrap IntKind.i64 (i11 - 1) ∧ IntKind.wrap IntKind.i64 (i11 - 1) < (↑n1 : Int))
    (T.sm o0 fun n22 n23 =>
    T.st n22 (n23 + Int.toNat (IntKind.wrap IntKind.i64 (i11 - 1)) * 2) (Value.int IntKind.i64 i18)
    (T.st n22 (n23 + Int.toNat (IntKind.wrap IntKind.i64 (i11 - 1)) * 2 + 1) (Value.int IntKind.i64 i19)
    (T.chk []
    (T.blk 1
    (fun l24 j25 =>
    T.ite (decide (IntKind.wrap IntKind.i64 (i4 - i11) ≥ 2))
    (T.loop 1 [Value.int IntKind.i64 (IntKind.wrap IntKind.i64 (i11 + 1))] fun l26 j27 =>
    T.asI IntKind.i64 (List.headD l26 (Value.tuple (Array.mk []))) fun i28 =>
    T.ite (decide (i28 < i4))
    (T.drew
    (T.req (0 ≤ i28 ∧ i28 < (↑n1 : Int))
    (T.sm o0 fun n29 n30 =>
    T.ldI IntKind.i64 n29 (n30 + Int.toNat i28 * 2) fun i31 =>
    T.ldI IntKind.i64 n29 (n30 + Int.toNat i28 * 2 + 1) fun i32 =>
    T.req
    (0 ≤ IntKind.wrap IntKind.i64 (i28 - 1) ∧
    IntKind.wrap IntKind.i64 (i28 - 1) < (↑n1 : Int))
    (T.sm o0 fun n33 n34 =>
    T.ldI IntKind.i64 n33
    (n34 + Int.toNat (IntKind.wrap IntKind.i64 (i28 - 1)) * 2) fun i35 =>
    T.ldI IntKind.i64 n33
    (n34 + Int.toNat (IntKind.wrap IntKind.i64 (i28 - 1)) * 2 + 1) fun i36 =>
    T.call 58
    [Value.agg
    (Array.mk [Value.int IntKind.i64 i31, Value.int IntKind.i64 i32]),
    Value.agg
    (Array.mk [Value.int IntKind.i64 i35, Value.int IntKind.i64 i36])]
    fun v37 =>
    T.asI IntKind.i64 v37 fun i38 =>
    T.chk []
    (T.ite (!decide (i38 < 0))
    (T.next 0
    [Value.int IntKind.i64 i11,
    Value.int IntKind.i64 (IntKind.wrap IntKind.i64 (i8 + 1))]
    ([Value.slice o0 n1 n2, Value.int IntKind.i64 i3,
    Value.int IntKind.i64 i4,
    Value.func (Fn.func 58) (Array.mk []) (Array.mk [])] =
    [Value.slice o0 n1 n2, Value.int IntKind.i64 i3,
    Value.int IntKind.i64 i4,
    Value.func (Fn.func 58) (Array.mk []) (Array.mk [])] ∧ ([] : List Deferred) = []))
    (T.drew
    (T.req
    (0 ≤ IntKind.wrap IntKind.i64 (i28 - 1) ∧
    IntKind.wrap IntKind.i64 (i28 - 1) < (↑n1 : Int))
    (T.sm o0 fun n39 n40 =>
    T.ldI IntKind.i64 n39
    (n40 + Int.toNat (IntKind.wrap IntKind.i64 (i28 - 1)) * 2)
    fun i41 =>
    T.ldI IntKind.i64 n39
    (n40 +
    Int.toNat (IntKind.wrap IntKind.i64 (i28 - 1)) * 2 +
    1)
    fun i42 =>
    T.req (0 ≤ i28 ∧ i28 < (↑n1 : Int))
    (T.sm o0 fun n43 n44 =>
    T.ldI IntKind.i64 n43 (n44 + Int.toNat i28 * 2)
    fun i45 =>
    T.ldI IntKind.i64 n43
    (n44 + Int.toNat i28 * 2 + 1) fun i46 =>
    T.req (0 ≤ i28 ∧ i28 < (↑n1 : Int))
    (T.sm o0 fun n47 n48 =>
    T.st n47 (n48 + Int.toNat i28 * 2)
    (Value.int IntKind.i64 i41)
    (T.st n47 (n48 + Int.toNat i28 * 2 + 1)
    (Value.int IntKind.i64 i42)
    (T.chk []
    (T.req
    (0 ≤
    IntKind.wrap IntKind.i64
    (i28 - 1) ∧
    IntKind.wrap IntKind.i64
    (i28 - 1) <
    (↑n1 : Int))
    (T.sm o0 fun n49 n50 =>
    T.st n49
    (n50 +
    Int.toNat
    (IntKind.wrap IntKind.i64
    (i28 - 1)) *
    2)
    (Value.int IntKind.i64 i45)
    (T.st n49
    (n50 +
    Int.toNat
    (IntKind.wrap
    IntKind.i64
    (i28 - 1)) *
    2 +
    1)
    (Value.int IntKind.i64 i46)
    (T.chk []
    (T.next 1
    [Value.int IntKind.i64
    (IntKind.wrap
    IntKind.i64
    (i28 + 1))]
    ([Value.slice o0 n1 n2,
    Value.int
    IntKind.i64 i3,
    Value.int
    IntKind.i64 i4,
    Value.func
    (Fn.func 58)
    (Array.mk [])
    (Array.mk []),
    Value.int
    IntKind.i64 i11,
    Value.int
    IntKind.i64 i8] =
    [Value.slice o0 n1 n2,
    Value.int
    IntKind.i64 i3,
    Value.int
    IntKind.i64 i4,
    Value.func
    (Fn.func 58)
    (Array.mk [])
    (Array.mk []),
    Value.int
    IntKind.i64 i11,
    Value.int
    IntKind.i64 i8] ∧ ([] : List Deferred) = []))))))))))))))))))
    (T.next 0
    [Value.int IntKind.i64 i11, Value.int IntKind.i64 (IntKind.wrap IntKind.i64 (i8 + 1))]
    ([Value.slice o0 n1 n2, Value.int IntKind.i64 i3, Value.int IntKind.i64 i4,
    Value.func (Fn.func 58) (Array.mk []) (Array.mk [])] =
    [Value.slice o0 n1 n2, Value.int IntKind.i64 i3, Value.int IntKind.i64 i4,
    Value.func (Fn.func 58) (Array.mk []) (Array.mk [])] ∧ ([] : List Deferred) = [])))
    (T.next 0 [Value.int IntKind.i64 i11, Value.int IntKind.i64 (IntKind.wrap IntKind.i64 (i8 + 1))]
    ([Value.slice o0 n1 n2, Value.int IntKind.i64 i3, Value.int IntKind.i64 i4,
    Value.func (Fn.func 58) (Array.mk []) (Array.mk [])] =
    [Value.slice o0 n1 n2, Value.int IntKind.i64 i3, Value.int IntKind.i64 i4,
    Value.func (Fn.func 58) (Array.mk []) (Array.mk [])] ∧ ([] : List Deferred) = [])))
    (T.ite (decide (IntKind.wrap IntKind.i64 (i11 - i3) ≥ 2))
    (T.loop 2 [Value.int IntKind.i64 (IntKind.wrap IntKind.i64 (i11 - 1))] fun l51 j52 =>
    T.asI IntKind.i64 (List.headD l51 (Value.tuple (Array.mk []))) fun i53 =>
    T.ite (decide (i53 ≥ 1))
    (T.drew
    (T.req (0 ≤ i53 ∧ i53 < (↑n1 : Int))
    (T.sm o0 fun n54 n55 =>
    T.ldI IntKind.i64 n54 (n55 + Int.toNat i53 * 2) fun i56 =>
    T.ldI IntKind.i64 n54 (n55 + Int.toNat i53 * 2 + 1) fun i57 =>
    T.req
    (0 ≤ IntKind.wrap IntKind.i64 (i53 - 1) ∧
    IntKind.wrap IntKind.i64 (i53 - 1) < (↑n1 : Int))
    (T.sm o0 fun n58 n59 =>
    T.ldI IntKind.i64 n58 (n59 + Int.toNat (IntKind.wrap IntKind.i64 (i53 - 1)) * 2)
    fun i60 =>
    T.ldI IntKind.i64 n58
    (n59 + Int.toNat (IntKind.wrap IntKind.i64 (i53 - 1)) * 2 + 1) fun i61 =>
    T.call 58
    [Value.agg
    (Array.mk [Value.int IntKind.i64 i56, Value.int IntKind.i64 i57]),
    Value.agg
    (Array.mk [Value.int IntKind.i64 i60, Value.int IntKind.i64 i61])]
    fun v62 =>
    T.asI IntKind.i64 v62 fun i63 =>
    T.chk []
    (T.ite (!decide (i63 < 0))
    (T.next 1 []
    ([Value.slice o0 n1 n2, Value.int IntKind.i64 i3,
    Value.int IntKind.i64 i4,
    Value.func (Fn.func 58) (Array.mk []) (Array.mk []),
    Value.int IntKind.i64 i11, Value.int IntKind.i64 i8] =
    [Value.slice o0 n1 n2, Value.int IntKind.i64 i3,
    Value.int IntKind.i64 i4,
    Value.func (Fn.func 58) (Array.mk []) (Array.mk []),
    Value.int IntKind.i64 i11, Value.int IntKind.i64 i8] ∧ ([] : List Deferred) = []))
    (T.drew
    (T.req
    (0 ≤ IntKind.wrap IntKind.i64 (i53 - 1) ∧
    IntKind.wrap IntKind.i64 (i53 - 1) < (↑n1 : Int))
    (T.sm o0 fun n64 n65 =>
    T.ldI IntKind.i64 n64
    (n65 + Int.toNat (IntKind.wrap IntKind.i64 (i53 - 1)) * 2)
    fun i66 =>
    T.ldI IntKind.i64 n64
    (n65 +
    Int.toNat (IntKind.wrap IntKind.i64 (i53 - 1)) * 2 +
    1)
    fun i67 =>
    T.req (0 ≤ i53 ∧ i53 < (↑n1 : Int))
    (T.sm o0 fun n68 n69 =>
    T.ldI IntKind.i64 n68 (n69 + Int.toNat i53 * 2)
    fun i70 =>
    T.ldI IntKind.i64 n68 (n69 + Int.toNat i53 * 2 + 1)
    fun i71 =>
    T.req (0 ≤ i53 ∧ i53 < (↑n1 : Int))
    (T.sm o0 fun n72 n73 =>
    T.st n72 (n73 + Int.toNat i53 * 2)
    (Value.int IntKind.i64 i66)
    (T.st n72 (n73 + Int.toNat i53 * 2 + 1)
    (Value.int IntKind.i64 i67)
    (T.chk []
    (T.req
    (0 ≤
    IntKind.wrap IntKind.i64
    (i53 - 1) ∧
    IntKind.wrap IntKind.i64 (i53 - 1) <
    (↑n1 : Int))
    (T.sm o0 fun n74 n75 =>
    T.st n74
    (n75 +
    Int.toNat
    (IntKind.wrap IntKind.i64
    (i53 - 1)) *
    2)
    (Value.int IntKind.i64 i70)
    (T.st n74
    (n75 +
    Int.toNat
    (IntKind.wrap
    IntKind.i64
    (i53 - 1)) *
    2 +
    1)
    (Value.int IntKind.i64 i71)
    (T.chk []
    (T.next 2
    [Value.int IntKind.i64
    (IntKind.wrap
    IntKind.i64
    (i53 - 1))]
    ([Value.slice o0 n1 n2,
    Value.int IntKind.i64
    i3,
    Value.int IntKind.i64
    i4,
    Value.func
    (Fn.func 58)
    (Array.mk [])
    (Array.mk []),
    Value.int IntKind.i64
    i11,
    Value.int IntKind.i64
    i8] =
    [Value.slice o0 n1 n2,
    Value.int IntKind.i64
    i3,
    Value.int IntKind.i64
    i4,
    Value.func
    (Fn.func 58)
    (Array.mk [])
    (Array.mk []),
    Value.int IntKind.i64
    i11,
    Value.int IntKind.i64
    i8] ∧ ([] : List Deferred) = []))))))))))))))))))
    (T.next 1 []
    ([Value.slice o0 n1 n2, Value.int IntKind.i64 i3, Value.int IntKind.i64 i4,
    Value.func (Fn.func 58) (Array.mk []) (Array.mk []), Value.int IntKind.i64 i11,
    Value.int IntKind.i64 i8] =
    [Value.slice o0 n1 n2, Value.int IntKind.i64 i3, Value.int IntKind.i64 i4,
    Value.func (Fn.func 58) (Array.mk []) (Array.mk []), Value.int IntKind.i64 i11,
    Value.int IntKind.i64 i8] ∧ ([] : List Deferred) = [])))
    (T.next 1 []
    ([Value.slice o0 n1 n2, Value.int IntKind.i64 i3, Value.int IntKind.i64 i4,
    Value.func (Fn.func 58) (Array.mk []) (Array.mk []), Value.int IntKind.i64 i11,
    Value.int IntKind.i64 i8] =
    [Value.slice o0 n1 n2, Value.int IntKind.i64 i3, Value.int IntKind.i64 i4,
    Value.func (Fn.func 58) (Array.mk []) (Array.mk []), Value.int IntKind.i64 i11,
    Value.int IntKind.i64 i8] ∧ ([] : List Deferred) = [])))))))))))))))))
    (T.loop 2 [Value.int IntKind.i64 i7] fun l76 j77 =>
    T.asI IntKind.i64 (List.headD l76 (Value.tuple (Array.mk []))) fun i78 =>
    T.drew
    (T.ite (decide (i78 < i4))
    (T.req (0 ≤ i78 ∧ i78 < (↑n1 : Int))
    (T.sm o0 fun n79 n80 =>
    T.ldI IntKind.i64 n79 (n80 + Int.toNat i78 * 2) fun i81 =>
    T.ldI IntKind.i64 n79 (n80 + Int.toNat i78 * 2 + 1) fun i82 =>
    T.req (0 ≤ IntKind.wrap IntKind.i64 (i78 - 1) ∧ IntKind.wrap IntKind.i64 (i78 - 1) < (↑n1 : Int))
    (T.sm o0 fun n83 n84 =>
    T.ldI IntKind.i64 n83 (n84 + Int.toNat (IntKind.wrap IntKind.i64 (i78 - 1)) * 2) fun i85 =>
    T.ldI IntKind.i64 n83 (n84 + Int.toNat (IntKind.wrap IntKind.i64 (i78 - 1)) * 2 + 1) fun i86 =>
    T.call 58
    [Value.agg (Array.mk [Value.int IntKind.i64 i81, Value.int IntKind.i64 i82]),
    Value.agg (Array.mk [Value.int IntKind.i64 i85, Value.int IntKind.i64 i86])]
    fun v87 =>
    T.asI IntKind.i64 v87 fun i88 =>
    T.chk []
    (T.ite (!decide (i88 < 0))
    (T.next 2 [Value.int IntKind.i64 (IntKind.wrap IntKind.i64 (i78 + 1))]
    ([Value.slice o0 n1 n2, Value.int IntKind.i64 i3, Value.int IntKind.i64 i4,
    Value.func (Fn.func 58) (Array.mk []) (Array.mk []), Value.int IntKind.i64 i8] =
    [Value.slice o0 n1 n2, Value.int IntKind.i64 i3, Value.int IntKind.i64 i4,
    Value.func (Fn.func 58) (Array.mk []) (Array.mk []), Value.int IntKind.i64 i8] ∧ ([] : List Deferred) = []))
    (T.next 1 [Value.int IntKind.i64 i78]
    ([Value.slice o0 n1 n2, Value.int IntKind.i64 i3, Value.int IntKind.i64 i4,
    Value.func (Fn.func 58) (Array.mk []) (Array.mk []), Value.int IntKind.i64 i8] =
    [Value.slice o0 n1 n2, Value.int IntKind.i64 i3, Value.int IntKind.i64 i4,
    Value.func (Fn.func 58) (Array.mk []) (Array.mk []), Value.int IntKind.i64 i8] ∧ ([] : List Deferred) = []))))))
    (T.chk []
    (T.next 1 [Value.int IntKind.i64 i78]
    ([Value.slice o0 n1 n2, Value.int IntKind.i64 i3, Value.int IntKind.i64 i4, Value.func (Fn.func 58) (Array.mk []) (Array.mk []),
    Value.int IntKind.i64 i8] =
    [Value.slice o0 n1 n2, Value.int IntKind.i64 i3, Value.int IntKind.i64 i4, Value.func (Fn.func 58) (Array.mk []) (Array.mk []),
    Value.int IntKind.i64 i8] ∧ ([] : List Deferred) = []))))))
    (T.ret (Value.bool false))
theorem e98 (o0 : Option Addr) (n1 n2 : Nat) (i3 : Int) (i4 : Int) : treeOf Tryz.prog Tryz.f98 (codeOf Tryz.f98) (.s .n (.s .n (.s (.s .n (.u (.l [(9, .int .i64), (10, .int .i64)] [0, 1, 2, 3] (.s .n (.s (.u (.c [(9, .int .i64)] [0, 1, 2, 3, 10] (.u (.l [(9, .int .i64)] [0, 1, 2, 3, 10] (.s (.s (.p [0, 1, 2, 3, 4, 5, 6, 7, 8, 9, 10, 11, 12, 13, 14, 15, 16, 17]) .n) .n))) (.s .n (.s .n (.s (.p [0, 1, 2, 3, 4, 5, 6, 7, 8, 9, 10, 11, 12, 13, 14, 15, 16, 17]) (.c [] [0, 1, 2, 3, 9, 10] (.s .n (.s (.s .n (.u (.l [(11, .int .i64)] [0, 1, 2, 3, 9, 10] (.s .n (.s (.u (.s (.s (.p [0, 1, 2, 3, 4, 5, 6, 7, 8, 9, 10, 11, 12]) .n) (.p [0, 1, 2, 3, 4, 5, 6, 7, 8, 9, 10, 11, 12, 13, 14, 15, 16, 17]))) .n))))) .n)) (.s .n (.s (.s .n (.u (.l [(12, .int .i64)] [0, 1, 2, 3, 9, 10] (.s .n (.s (.u (.s (.s (.p [0, 1, 2, 3, 4, 5, 6, 7, 8, 9, 10, 11, 12]) .n) (.p [0, 1, 2, 3, 4, 5, 6, 7, 8, 9, 10, 11, 12, 13, 14, 15, 16, 17]))) .n))))) .n)))))))) .n))))) .n))) [.v (.slice o0 n1 n2), .v (.int .i64 i3), .v (.int .i64 i4), .v (.func (.func 58) #[] #[])] = (t98 o0 n1 n2 i3 i4) := by kernel_rfl
theorem c98 (o0 : Option Addr) (n1 n2 : Nat) (i3 : Int) (i4 : Int) {w : World} {R : Ending → World → Prop} (h : (t98 o0 n1 n2 i3 i4).sem Tryz.prog R ρ0 w) : Calls Tryz.prog 98 #[.slice o0 n1 n2, .int .i64 i3, .int .i64 i4, .func (.func 58) #[] #[]] w R :=
  calls_of mixed Tryz.func98 rfl rfl (e98 o0 n1 n2 i3 i4) h
def t99 (o0 : Option Addr) (n1 n2 : Nat) (i3 : Int) (i4 : Int) (i5 : Int) : T :=
  T.drew
  (T.req (0 ≤ i5 ∧ i5 < (↑n1 : Int))
    (T.sm o0 fun n6 n7 =>
    T.ldI IntKind.i64 n6 (n7 + Int.toNat i5 * 2) fun i8 =>
    T.ldI IntKind.i64 n6 (n7 + Int.toNat i5 * 2 + 1) fun i9 =>
    T.req (0 ≤ i3 ∧ i3 < (↑n1 : Int))
    (T.sm o0 fun n10 n11 =>
    T.ldI IntKind.i64 n10 (n11 + Int.toNat i3 * 2) fun i12 =>
    T.ldI IntKind.i64 n10 (n11 + Int.toNat i3 * 2 + 1) fun i13 =>
    T.req (0 ≤ i3 ∧ i3 < (↑n1 : Int))
    (T.sm o0 fun n14 n15 =>
    T.st n14 (n15 + Int.toNat i3 * 2) (Value.int IntKind.i64 i8)
    (T.st n14 (n15 + Int.toNat i3 * 2 + 1) (Value.int IntKind.i64 i9)
    (T.chk []
    (T.req (0 ≤ i5 ∧ i5 < (↑n1 : Int))
    (T.sm o0 fun n16 n17 =>
    T.st n16 (n17 + Int.toNat i5 * 2) (Value.int IntKind.i64 i12)
    (T.st n16 (n17 + Int.toNat i5 * 2 + 1) (Value.int IntKind.i64 i13)
    (T.chk []
    (T.loop 0
    [Value.int IntKind.i64 (IntKind.wrap IntKind.i64 (i3 + 1)), Value.int IntKind.i64 (IntKind.wrap IntKind.i64 (i4 - 1))]
    fun l18 j19 =>
    T.asI IntKind.i64 (List.headD l18 (Value.tuple (Array.mk []))) fun i20 =>
    T.asI IntKind.i64 (List.headD (List.tail l18) (Value.tuple (Array.mk []))) fun i21 =>
    T.blk 1
    (fun l22 j23 =>
    T.asI IntKind.i64 (List.headD l22 (Value.tuple (Array.mk []))) fun i24 =>
    T.blk 1
    (fun l25 j26 =>
    T.asI IntKind.i64 (List.headD l25 (Value.tuple (Array.mk []))) fun i27 =>
    T.ite (decide (i24 > i27)) (T.ret (Value.int IntKind.i64 i24))
    (T.drew
    (T.req (0 ≤ i27 ∧ i27 < (↑n1 : Int))
    (T.sm o0 fun n28 n29 =>
    T.ldI IntKind.i64 n28 (n29 + Int.toNat i27 * 2) fun i30 =>
    T.ldI IntKind.i64 n28 (n29 + Int.toNat i27 * 2 + 1) fun i31 =>
    T.req (0 ≤ i24 ∧ i24 < (↑n1 : Int))
    (T.sm o0 fun n32 n33 =>
    T.ldI IntKind.i64 n32 (n33 + Int.toNat i24 * 2) fun i34 =>
    T.ldI IntKind.i64 n32 (n33 + Int.toNat i24 * 2 + 1) fun i35 =>
    T.req (0 ≤ i24 ∧ i24 < (↑n1 : Int))
    (T.sm o0 fun n36 n37 =>
    T.st n36 (n37 + Int.toNat i24 * 2) (Value.int IntKind.i64 i30)
    (T.st n36 (n37 + Int.toNat i24 * 2 + 1) (Value.int IntKind.i64 i31)
    (T.chk []
    (T.req (0 ≤ i27 ∧ i27 < (↑n1 : Int))
    (T.sm o0 fun n38 n39 =>
    T.st n38 (n39 + Int.toNat i27 * 2) (Value.int IntKind.i64 i34)
    (T.st n38 (n39 + Int.toNat i27 * 2 + 1) (Value.int IntKind.i64 i35)
    (T.chk []
    (T.next 0
    [Value.int IntKind.i64 (IntKind.wrap IntKind.i64 (i24 + 1)),
    Value.int IntKind.i64 (IntKind.wrap IntKind.i64 (i27 - 1))]
    ([Value.slice o0 n1 n2, Value.int IntKind.i64 i3,
    Value.func (Fn.func 58) (Array.mk []) (Array.mk [])] =
    [Value.slice o0 n1 n2, Value.int IntKind.i64 i3,
    Value.func (Fn.func 58) (Array.mk []) (Array.mk [])] ∧ ([] : List Deferred) = []))))))))))))))
    (T.loop 2 [Value.int IntKind.i64 i21] fun l40 j41 =>
    T.asI IntKind.i64 (List.headD l40 (Value.tuple (Array.mk []))) fun i42 =>
    T.drew
    (T.ite (decide (i24 ≤ i42))
    (T.req (0 ≤ i3 ∧ i3 < (↑n1 : Int))
    (T.sm o0 fun n43 n44 =>
    T.ldI IntKind.i64 n43 (n44 + Int.toNat i3 * 2) fun i45 =>
    T.ldI IntKind.i64 n43 (n44 + Int.toNat i3 * 2 + 1) fun i46 =>
    T.req (0 ≤ i42 ∧ i42 < (↑n1 : Int))
    (T.sm o0 fun n47 n48 =>
    T.ldI IntKind.i64 n47 (n48 + Int.toNat i42 * 2) fun i49 =>
    T.ldI IntKind.i64 n47 (n48 + Int.toNat i42 * 2 + 1) fun i50 =>
    T.call 58
    [Value.agg (Array.mk [Value.int IntKind.i64 i45, Value.int IntKind.i64 i46]),
    Value.agg (Array.mk [Value.int IntKind.i64 i49, Value.int IntKind.i64 i50])]
    fun v51 =>
    T.asI IntKind.i64 v51 fun i52 =>
    T.chk []
    (T.ite (decide (i52 < 0))
    (T.next 2 [Value.int IntKind.i64 (IntKind.wrap IntKind.i64 (i42 - 1))]
    ([Value.slice o0 n1 n2, Value.int IntKind.i64 i3,
    Value.func (Fn.func 58) (Array.mk []) (Array.mk []),
    Value.int IntKind.i64 i24] =
    [Value.slice o0 n1 n2, Value.int IntKind.i64 i3,
    Value.func (Fn.func 58) (Array.mk []) (Array.mk []),
    Value.int IntKind.i64 i24] ∧ ([] : List Deferred) = []))
    (T.next 1 [Value.int IntKind.i64 i42]
    ([Value.slice o0 n1 n2, Value.int IntKind.i64 i3,
    Value.func (Fn.func 58) (Array.mk []) (Array.mk []),
    Value.int IntKind.i64 i24] =
    [Value.slice o0 n1 n2, Value.int IntKind.i64 i3,
    Value.func (Fn.func 58) (Array.mk []) (Array.mk []),
    Value.int IntKind.i64 i24] ∧ ([] : List Deferred) = []))))))
    (T.chk []
    (T.next 1 [Value.int IntKind.i64 i42]
    ([Value.slice o0 n1 n2, Value.int IntKind.i64 i3,
    Value.func (Fn.func 58) (Array.mk []) (Array.mk []), Value.int IntKind.i64 i24] =
    [Value.slice o0 n1 n2, Value.int IntKind.i64 i3,
    Value.func (Fn.func 58) (Array.mk []) (Array.mk []), Value.int IntKind.i64 i24] ∧ ([] : List Deferred) = []))))))
    (T.loop 2 [Value.int IntKind.i64 i20] fun l53 j54 =>
    T.asI IntKind.i64 (List.headD l53 (Value.tuple (Array.mk []))) fun i55 =>
    T.drew
    (T.ite (decide (i55 ≤ i21))
    (T.req (0 ≤ i3 ∧ i3 < (↑n1 : Int))
    (T.sm o0 fun n56 n57 =>
    T.ldI IntKind.i64 n56 (n57 + Int.toNat i3 * 2) fun i58 =>
    T.ldI IntKind.i64 n56 (n57 + Int.toNat i3 * 2 + 1) fun i59 =>
    T.req (0 ≤ i55 ∧ i55 < (↑n1 : Int))
    (T.sm o0 fun n60 n61 =>
    T.ldI IntKind.i64 n60 (n61 + Int.toNat i55 * 2) fun i62 =>
    T.ldI IntKind.i64 n60 (n61 + Int.toNat i55 * 2 + 1) fun i63 =>
    T.call 58
    [Value.agg (Array.mk [Value.int IntKind.i64 i58, Value.int IntKind.i64 i59]),
    Value.agg (Array.mk [Value.int IntKind.i64 i62, Value.int IntKind.i64 i63])]
    fun v64 =>
    T.asI IntKind.i64 v64 fun i65 =>
    T.chk []
    (T.ite (!decide (i65 < 0))
    (T.next 2 [Value.int IntKind.i64 (IntKind.wrap IntKind.i64 (i55 + 1))]
    ([Value.slice o0 n1 n2, Value.int IntKind.i64 i3,
    Value.func (Fn.func 58) (Array.mk []) (Array.mk []),
    Value.int IntKind.i64 i21] =
    [Value.slice o0 n1 n2, Value.int IntKind.i64 i3,
    Value.func (Fn.func 58) (Array.mk []) (Array.mk []),
    Value.int IntKind.i64 i21] ∧ ([] : List Deferred) = []))
    (T.next 1 [Value.int IntKind.i64 i55]
    ([Value.slice o0 n1 n2, Value.int IntKind.i64 i3,
    Value.func (Fn.func 58) (Array.mk []) (Array.mk []),
    Value.int IntKind.i64 i21] =
    [Value.slice o0 n1 n2, Value.int IntKind.i64 i3,
    Value.func (Fn.func 58) (Array.mk []) (Array.mk []),
    Value.int IntKind.i64 i21] ∧ ([] : List Deferred) = []))))))
    (T.chk []
    (T.next 1 [Value.int IntKind.i64 i55]
    ([Value.slice o0 n1 n2, Value.int IntKind.i64 i3, Value.func (Fn.func 58) (Array.mk []) (Array.mk []),
    Value.int IntKind.i64 i21] =
    [Value.slice o0 n1 n2, Value.int IntKind.i64 i3,
    Value.func (Fn.func 58) (Array.mk []) (Array.mk []), Value.int IntKind.i64 i21] ∧ ([] : List Deferred) = []))))))))))))))))
theorem e99 (o0 : Option Addr) (n1 n2 : Nat) (i3 : Int) (i4 : Int) (i5 : Int) : treeOf Tryz.prog Tryz.f99 (codeOf Tryz.f99) (.s .n (.s (.p [0, 1, 2, 3, 4, 5, 6, 7, 8, 9, 10, 11, 12, 13, 14, 15]) (.s .n (.s (.u (.l [(11, .int .i64), (12, .int .i64)] [0, 1, 4] (.u (.c [(11, .int .i64)] [0, 1, 4, 12] (.u (.l [(11, .int .i64)] [0, 1, 4, 12] (.s (.s (.p [0, 1, 2, 3, 4, 5, 6, 7, 8, 9, 10, 11, 12, 13, 14, 15, 16]) .n) .n))) (.c [(12, .int .i64)] [0, 1, 4, 11] (.u (.l [(12, .int .i64)] [0, 1, 4, 11] (.s (.s (.p [0, 1, 2, 3, 4, 5, 6, 7, 8, 9, 10, 11, 12, 13, 14, 15]) .n) .n))) (.s .n (.s (.p [0, 1, 2, 3, 4, 5, 6, 7, 8, 9, 10, 11, 12, 13, 14, 15]) .n))))))) .n)))) [.v (.slice o0 n1 n2), .v (.int .i64 i3), .v (.int .i64 i4), .v (.int .i64 i5), .v (.func (.func 58) #[] #[])] = (t99 o0 n1 n2 i3 i4 i5) := by kernel_rfl
theorem c99 (o0 : Option Addr) (n1 n2 : Nat) (i3 : Int) (i4 : Int) (i5 : Int) {w : World} {R : Ending → World → Prop} (h : (t99 o0 n1 n2 i3 i4 i5).sem Tryz.prog R ρ0 w) : Calls Tryz.prog 99 #[.slice o0 n1 n2, .int .i64 i3, .int .i64 i4, .int .i64 i5, .func (.func 58) #[] #[]] w R :=
  calls_of mixed Tryz.func99 rfl rfl (e99 o0 n1 n2 i3 i4 i5) h
def t100 (o0 : Option Addr) (n1 n2 : Nat) (i3 : Int) (i4 : Int) (i5 : Int) : T :=
  T.drew
  (T.req (0 ≤ i5 ∧ i5 < (↑n1 : Int))
    (T.sm o0 fun n6 n7 =>
    T.ldI IntKind.i64 n6 (n7 + Int.toNat i5 * 2) fun i8 =>
    T.ldI IntKind.i64 n6 (n7 + Int.toNat i5 * 2 + 1) fun i9 =>
    T.req (0 ≤ i3 ∧ i3 < (↑n1 : Int))
    (T.sm o0 fun n10 n11 =>
    T.ldI IntKind.i64 n10 (n11 + Int.toNat i3 * 2) fun i12 =>
    T.ldI IntKind.i64 n10 (n11 + Int.toNat i3 * 2 + 1) fun i13 =>
    T.req (0 ≤ i3 ∧ i3 < (↑n1 : Int))
    (T.sm o0 fun n14 n15 =>
    T.st n14 (n15 + Int.toNat i3 * 2) (Value.int IntKind.i64 i8)
    (T.st n14 (n15 + Int.toNat i3 * 2 + 1) (Value.int IntKind.i64 i9)
    (T.chk []
    (T.req (0 ≤ i5 ∧ i5 < (↑n1 : Int))
    (T.sm o0 fun n16 n17 =>
    T.st n16 (n17 + Int.toNat i5 * 2) (Value.int IntKind.i64 i12)
    (T.st n16 (n17 + Int.toNat i5 * 2 + 1) (Value.int IntKind.i64 i13)
    (T.chk []
    (T.blk 0
    (fun l18 j19 =>
    T.asI IntKind.i64 (List.headD l18 (Value.tuple (Array.mk []))) fun i20 =>
    T.blk 0
    (fun l21 j22 =>
    T.asI IntKind.i64 (List.headD l21 (Value.tuple (Array.mk []))) fun i23 =>
    T.ite (decide (i20 > i23))
    (T.drew
    (T.req (0 ≤ i3 ∧ i3 < (↑n1 : Int))
    (T.sm o0 fun n24 n25 =>
    T.ldI IntKind.i64 n24 (n25 + Int.toNat i3 * 2) fun i26 =>
    T.ldI IntKind.i64 n24 (n25 + Int.toNat i3 * 2 + 1) fun i27 =>
    T.req (0 ≤ i23 ∧ i23 < (↑n1 : Int))
    (T.sm o0 fun n28 n29 =>
    T.ldI IntKind.i64 n28 (n29 + Int.toNat i23 * 2) fun i30 =>
    T.ldI IntKind.i64 n28 (n29 + Int.toNat i23 * 2 + 1) fun i31 =>
    T.req (0 ≤ i23 ∧ i23 < (↑n1 : Int))
    (T.sm o0 fun n32 n33 =>
    T.st n32 (n33 + Int.toNat i23 * 2) (Value.int IntKind.i64 i26)
    (T.st n32 (n33 + Int.toNat i23 * 2 + 1) (Value.int IntKind.i64 i27)
    (T.chk []
    (T.req (0 ≤ i3 ∧ i3 < (↑n1 : Int))
    (T.sm o0 fun n34 n35 =>
    T.st n34 (n35 + Int.toNat i3 * 2) (Value.int IntKind.i64 i30)
    (T.st n34 (n35 + Int.toNat i3 * 2 + 1) (Value.int IntKind.i64 i31)
    (T.chk []
    (T.ret
    (Value.tuple
    (Array.mk
    [Value.int IntKind.i64 i23, Value.bool true]))))))))))))))
    (T.drew
    (T.req (0 ≤ i23 ∧ i23 < (↑n1 : Int))
    (T.sm o0 fun n36 n37 =>
    T.ldI IntKind.i64 n36 (n37 + Int.toNat i23 * 2) fun i38 =>
    T.ldI IntKind.i64 n36 (n37 + Int.toNat i23 * 2 + 1) fun i39 =>
    T.req (0 ≤ i20 ∧ i20 < (↑n1 : Int))
    (T.sm o0 fun n40 n41 =>
    T.ldI IntKind.i64 n40 (n41 + Int.toNat i20 * 2) fun i42 =>
    T.ldI IntKind.i64 n40 (n41 + Int.toNat i20 * 2 + 1) fun i43 =>
    T.req (0 ≤ i20 ∧ i20 < (↑n1 : Int))
    (T.sm o0 fun n44 n45 =>
    T.st n44 (n45 + Int.toNat i20 * 2) (Value.int IntKind.i64 i38)
    (T.st n44 (n45 + Int.toNat i20 * 2 + 1) (Value.int IntKind.i64 i39)
    (T.chk []
    (T.req (0 ≤ i23 ∧ i23 < (↑n1 : Int))
    (T.sm o0 fun n46 n47 =>
    T.st n46 (n47 + Int.toNat i23 * 2) (Value.int IntKind.i64 i42)
    (T.st n46 (n47 + Int.toNat i23 * 2 + 1) (Value.int IntKind.i64 i43)
    (T.chk []
    (T.loop 0
    [Value.int IntKind.i64 (IntKind.wrap IntKind.i64 (i20 + 1)),
    Value.int IntKind.i64 (IntKind.wrap IntKind.i64 (i23 - 1))]
    fun l48 j49 =>
    T.asI IntKind.i64 (List.headD l48 (Value.tuple (Array.mk [])))
    fun i50 =>
    T.asI IntKind.i64
    (List.headD (List.tail l48) (Value.tuple (Array.mk [])))
    fun i51 =>
    T.blk 1
    (fun l52 j53 =>
    T.asI IntKind.i64
    (List.headD l52 (Value.tuple (Array.mk []))) fun i54 =>
    T.blk 1
    (fun l55 j56 =>
    T.asI IntKind.i64
    (List.headD l55 (Value.tuple (Array.mk [])))
    fun i57 =>
    T.ite (decide (i54 > i57))
    (T.drew
    (T.req (0 ≤ i3 ∧ i3 < (↑n1 : Int))
    (T.sm o0 fun n58 n59 =>
    T.ldI IntKind.i64 n58
    (n59 + Int.toNat i3 * 2) fun i60 =>
    T.ldI IntKind.i64 n58
    (n59 + Int.toNat i3 * 2 + 1) fun i61 =>
    T.req (0 ≤ i57 ∧ i57 < (↑n1 : Int))
    (T.sm o0 fun n62 n63 =>
    T.ldI IntKind.i64 n62
    (n63 + Int.toNat i57 * 2)
    fun i64 =>
    T.ldI IntKind.i64 n62
    (n63 + Int.toNat i57 * 2 + 1)
    fun i65 =>
    T.req
    (0 ≤ i57 ∧ i57 < (↑n1 : Int))
    (T.sm o0 fun n66 n67 =>
    T.st n66
    (n67 + Int.toNat i57 * 2)
    (Value.int IntKind.i64
    i60)
    (T.st n66
    (n67 +
    Int.toNat i57 * 2 +
    1)
    (Value.int IntKind.i64
    i61)
    (T.chk []
    (T.req
    (0 ≤ i3 ∧
    i3 < (↑n1 : Int))
    (T.sm o0
    fun n68 n69 =>
    T.st n68
    (n69 +
    Int.toNat i3 *
    2)
    (Value.int
    IntKind.i64
    i64)
    (T.st n68
    (n69 +
    Int.toNat
    i3 *
    2 +
    1)
    (Value.int
    IntKind.i64
    i65)
    (T.chk []
    (T.ret
    (Value.tuple
    (Array.mk
    [Value.int
    IntKind.i64
    i57,
    Value.bool
    false]))))))))))))))
    (T.drew
    (T.req (0 ≤ i57 ∧ i57 < (↑n1 : Int))
    (T.sm o0 fun n70 n71 =>
    T.ldI IntKind.i64 n70
    (n71 + Int.toNat i57 * 2) fun i72 =>
    T.ldI IntKind.i64 n70
    (n71 + Int.toNat i57 * 2 + 1) fun i73 =>
    T.req (0 ≤ i54 ∧ i54 < (↑n1 : Int))
    (T.sm o0 fun n74 n75 =>
    T.ldI IntKind.i64 n74
    (n75 + Int.toNat i54 * 2)
    fun i76 =>
    T.ldI IntKind.i64 n74
    (n75 + Int.toNat i54 * 2 + 1)
    fun i77 =>
    T.req
    (0 ≤ i54 ∧ i54 < (↑n1 : Int))
    (T.sm o0 fun n78 n79 =>
    T.st n78
    (n79 + Int.toNat i54 * 2)
    (Value.int IntKind.i64
    i72)
    (T.st n78
    (n79 +
    Int.toNat i54 * 2 +
    1)
    (Value.int IntKind.i64
    i73)
    (T.chk []
    (T.req
    (0 ≤ i57 ∧
    i57 < (↑n1 : Int))
    (T.sm o0
    fun n80 n81 =>
    T.st n80
    (n81 +
    Int.toNat
    i57 *
    2)
    (Value.int
    IntKind.i64
    i76)
    (T.st n80
    (n81 +
    Int.toNat
    i57 *
    2 +
    1)
    (Value.int
    IntKind.i64
    i77)
    (T.chk []
    (T.next 0
    [Value.int
    IntKind.i64
    (IntKind.wrap
    IntKind.i64
    (i54 +
    1)),
    Value.int
    IntKind.i64
    (IntKind.wrap
    IntKind.i64
    (i57 -
    1))]
    ([Value.slice
    o0
    n1
    n2,
    Value.int
    IntKind.i64
    i3,
    Value.func
    (Fn.func
    58)
    (Array.mk
    [])
    (Array.mk
    [])] =
    [Value.slice
    o0
    n1
    n2,
    Value.int
    IntKind.i64
    i3,
    Value.func
    (Fn.func
    58)
    (Array.mk
    [])
    (Array.mk
    [])] ∧ ([] : List Deferred) = []))))))))))))))
    (T.loop 2 [Value.int IntKind.i64 i51] fun l82 j83 =>
    T.asI IntKind.i64
    (List.headD l82 (Value.tuple (Array.mk [])))
    fun i84 =>
    T.drew
    (T.ite (decide (i54 ≤ i84))
    (T.req (0 ≤ i84 ∧ i84 < (↑n1 : Int))
    (T.sm o0 fun n85 n86 =>
    T.ldI IntKind.i64 n85
    (n86 + Int.toNat i84 * 2) fun i87 =>
    T.ldI IntKind.i64 n85
    (n86 + Int.toNat i84 * 2 + 1) fun i88 =>
    T.req (0 ≤ i3 ∧ i3 < (↑n1 : Int))
    (T.sm o0 fun n89 n90 =>
    T.ldI IntKind.i64 n89
    (n90 + Int.toNat i3 * 2)
    fun i91 =>
    T.ldI IntKind.i64 n89
    (n90 + Int.toNat i3 * 2 + 1)
    fun i92 =>
    T.call 58
    [Value.agg
    (Array.mk
    [Value.int IntKind.i64
    i87,
    Value.int IntKind.i64
    i88]),
    Value.agg
    (Array.mk
    [Value.int IntKind.i64
    i91,
    Value.int IntKind.i64
    i92])]
    fun v93 =>
    T.asI IntKind.i64 v93
    fun i94 =>
    T.chk []
    (T.ite (!decide (i94 < 0))
    (T.next 2
    [Value.int IntKind.i64
    (IntKind.wrap
    IntKind.i64
    (i84 - 1))]
    ([Value.slice o0 n1
    n2,
    Value.int
    IntKind.i64
    i3,
    Value.func
    (Fn.func 58)
    (Array.mk [])
    (Array.mk []),
    Value.int
    IntKind.i64
    i54] =
    [Value.slice o0 n1
    n2,
    Value.int
    IntKind.i64
    i3,
    Value.func
    (Fn.func 58)
    (Array.mk [])
    (Array.mk []),
    Value.int
    IntKind.i64
    i54] ∧ ([] : List Deferred) = []))
    (T.next 1
    [Value.int IntKind.i64
    i84]
    ([Value.slice o0 n1
    n2,
    Value.int
    IntKind.i64
    i3,
    Value.func
    (Fn.func 58)
    (Array.mk [])
    (Array.mk []),
    Value.int
    IntKind.i64
    i54] =
    [Value.slice o0 n1
    n2,
    Value.int
    IntKind.i64
    i3,
    Value.func
    (Fn.func 58)
    (Array.mk [])
    (Array.mk []),
    Value.int
    IntKind.i64
    i54] ∧ ([] : List Deferred) = []))))))
    (T.chk []
    (T.next 1 [Value.int IntKind.i64 i84]
    ([Value.slice o0 n1 n2,
    Value.int IntKind.i64 i3,
    Value.func (Fn.func 58) (Array.mk [])
    (Array.mk []),
    Value.int IntKind.i64 i54] =
    [Value.slice o0 n1 n2,
    Value.int IntKind.i64 i3,
    Value.func (Fn.func 58) (Array.mk [])
    (Array.mk []),
    Value.int IntKind.i64 i54] ∧ ([] : List Deferred) = []))))))
    (T.loop 2 [Value.int IntKind.i64 i50] fun l95 j96 =>
    T.asI IntKind.i64
    (List.headD l95 (Value.tuple (Array.mk []))) fun i97 =>
    T.drew
    (T.ite (decide (i97 ≤ i51))
    (T.req (0 ≤ i97 ∧ i97 < (↑n1 : Int))
    (T.sm o0 fun n98 n99 =>
    T.ldI IntKind.i64 n98 (n99 + Int.toNat i97 * 2)
    fun i100 =>
    T.ldI IntKind.i64 n98
    (n99 + Int.toNat i97 * 2 + 1) fun i101 =>
    T.req (0 ≤ i3 ∧ i3 < (↑n1 : Int))
    (T.sm o0 fun n102 n103 =>
    T.ldI IntKind.i64 n102
    (n103 + Int.toNat i3 * 2) fun i104 =>
    T.ldI IntKind.i64 n102
    (n103 + Int.toNat i3 * 2 + 1)
    fun i105 =>
    T.call 58
    [Value.agg
    (Array.mk
    [Value.int IntKind.i64 i100,
    Value.int IntKind.i64
    i101]),
    Value.agg
    (Array.mk
    [Value.int IntKind.i64 i104,
    Value.int IntKind.i64
    i105])]
    fun v106 =>
    T.asI IntKind.i64 v106 fun i107 =>
    T.chk []
    (T.ite (decide (i107 < 0))
    (T.next 2
    [Value.int IntKind.i64
    (IntKind.wrap
    IntKind.i64
    (i97 + 1))]
    ([Value.slice o0 n1 n2,
    Value.int IntKind.i64
    i3,
    Value.func
    (Fn.func 58)
    (Array.mk [])
    (Array.mk []),
    Value.int IntKind.i64
    i51] =
    [Value.slice o0 n1 n2,
    Value.int IntKind.i64
    i3,
    Value.func
    (Fn.func 58)
    (Array.mk [])
    (Array.mk []),
    Value.int IntKind.i64
    i51] ∧ ([] : List Deferred) = []))
    (T.next 1
    [Value.int IntKind.i64 i97]
    ([Value.slice o0 n1 n2,
    Value.int IntKind.i64
    i3,
    Value.func
    (Fn.func 58)
    (Array.mk [])
    (Array.mk []),
    Value.int IntKind.i64
    i51] =
    [Value.slice o0 n1 n2,
    Value.int IntKind.i64
    i3,
    Value.func
    (Fn.func 58)
    (Array.mk [])
    (Array.mk []),
    Value.int IntKind.i64
    i51] ∧ ([] : List Deferred) = []))))))
    (T.chk []
    (T.next 1 [Value.int IntKind.i64 i97]
    ([Value.slice o0 n1 n2, Value.int IntKind.i64 i3,
    Value.func (Fn.func 58) (Array.mk [])
    (Array.mk []),
    Value.int IntKind.i64 i51] =
    [Value.slice o0 n1 n2,
    Value.int IntKind.i64 i3,
    Value.func (Fn.func 58) (Array.mk [])
    (Array.mk []),
    Value.int IntKind.i64 i51] ∧ ([] : List Deferred) = []))))))))))))))))))
    (T.loop 1 [Value.int IntKind.i64 (IntKind.wrap IntKind.i64 (i4 - 1))] fun l108 j109 =>
    T.asI IntKind.i64 (List.headD l108 (Value.tuple (Array.mk []))) fun i110 =>
    T.drew
    (T.ite (decide (i20 ≤ i110))
    (T.req (0 ≤ i110 ∧ i110 < (↑n1 : Int))
    (T.sm o0 fun n111 n112 =>
    T.ldI IntKind.i64 n111 (n112 + Int.toNat i110 * 2) fun i113 =>
    T.ldI IntKind.i64 n111 (n112 + Int.toNat i110 * 2 + 1) fun i114 =>
    T.req (0 ≤ i3 ∧ i3 < (↑n1 : Int))
    (T.sm o0 fun n115 n116 =>
    T.ldI IntKind.i64 n115 (n116 + Int.toNat i3 * 2) fun i117 =>
    T.ldI IntKind.i64 n115 (n116 + Int.toNat i3 * 2 + 1) fun i118 =>
    T.call 58
    [Value.agg (Array.mk [Value.int IntKind.i64 i113, Value.int IntKind.i64 i114]),
    Value.agg (Array.mk [Value.int IntKind.i64 i117, Value.int IntKind.i64 i118])]
    fun v119 =>
    T.asI IntKind.i64 v119 fun i120 =>
    T.chk []
    (T.ite (!decide (i120 < 0))
    (T.next 1 [Value.int IntKind.i64 (IntKind.wrap IntKind.i64 (i110 - 1))]
    ([Value.slice o0 n1 n2, Value.int IntKind.i64 i3,
    Value.func (Fn.func 58) (Array.mk []) (Array.mk []),
    Value.int IntKind.i64 i20] =
    [Value.slice o0 n1 n2, Value.int IntKind.i64 i3,
    Value.func (Fn.func 58) (Array.mk []) (Array.mk []),
    Value.int IntKind.i64 i20] ∧ ([] : List Deferred) = []))
    (T.next 0 [Value.int IntKind.i64 i110]
    ([Value.slice o0 n1 n2, Value.int IntKind.i64 i3,
    Value.func (Fn.func 58) (Array.mk []) (Array.mk []),
    Value.int IntKind.i64 i20] =
    [Value.slice o0 n1 n2, Value.int IntKind.i64 i3,
    Value.func (Fn.func 58) (Array.mk []) (Array.mk []),
    Value.int IntKind.i64 i20] ∧ ([] : List Deferred) = []))))))
    (T.chk []
    (T.next 0 [Value.int IntKind.i64 i110]
    ([Value.slice o0 n1 n2, Value.int IntKind.i64 i3, Value.func (Fn.func 58) (Array.mk []) (Array.mk []),
    Value.int IntKind.i64 i20] =
    [Value.slice o0 n1 n2, Value.int IntKind.i64 i3,
    Value.func (Fn.func 58) (Array.mk []) (Array.mk []), Value.int IntKind.i64 i20] ∧ ([] : List Deferred) = []))))))
    (T.loop 1 [Value.int IntKind.i64 (IntKind.wrap IntKind.i64 (i3 + 1))] fun l121 j122 =>
    T.asI IntKind.i64 (List.headD l121 (Value.tuple (Array.mk []))) fun i123 =>
    T.drew
    (T.ite (decide (i123 ≤ IntKind.wrap IntKind.i64 (i4 - 1)))
    (T.req (0 ≤ i123 ∧ i123 < (↑n1 : Int))
    (T.sm o0 fun n124 n125 =>
    T.ldI IntKind.i64 n124 (n125 + Int.toNat i123 * 2) fun i126 =>
    T.ldI IntKind.i64 n124 (n125 + Int.toNat i123 * 2 + 1) fun i127 =>
    T.req (0 ≤ i3 ∧ i3 < (↑n1 : Int))
    (T.sm o0 fun n128 n129 =>
    T.ldI IntKind.i64 n128 (n129 + Int.toNat i3 * 2) fun i130 =>
    T.ldI IntKind.i64 n128 (n129 + Int.toNat i3 * 2 + 1) fun i131 =>
    T.call 58
    [Value.agg (Array.mk [Value.int IntKind.i64 i126, Value.int IntKind.i64 i127]),
    Value.agg (Array.mk [Value.int IntKind.i64 i130, Value.int IntKind.i64 i131])]
    fun v132 =>
    T.asI IntKind.i64 v132 fun i133 =>
    T.chk []
    (T.ite (decide (i133 < 0))
    (T.next 1 [Value.int IntKind.i64 (IntKind.wrap IntKind.i64 (i123 + 1))]
    ([Value.slice o0 n1 n2, Value.int IntKind.i64 i3,
    Value.func (Fn.func 58) (Array.mk []) (Array.mk []),
    Value.int IntKind.i64 (IntKind.wrap IntKind.i64 (i4 - 1))] =
    [Value.slice o0 n1 n2, Value.int IntKind.i64 i3,
    Value.func (Fn.func 58) (Array.mk []) (Array.mk []),
    Value.int IntKind.i64 (IntKind.wrap IntKind.i64 (i4 - 1))] ∧ ([] : List Deferred) = []))
    (T.next 0 [Value.int IntKind.i64 i123]
    ([Value.slice o0 n1 n2, Value.int IntKind.i64 i3,
    Value.func (Fn.func 58) (Array.mk []) (Array.mk []),
    Value.int IntKind.i64 (IntKind.wrap IntKind.i64 (i4 - 1))] =
    [Value.slice o0 n1 n2, Value.int IntKind.i64 i3,
    Value.func (Fn.func 58) (Array.mk []) (Array.mk []),
    Value.int IntKind.i64 (IntKind.wrap IntKind.i64 (i4 - 1))] ∧ ([] : List Deferred) = []))))))
    (T.chk []
    (T.next 0 [Value.int IntKind.i64 i123]
    ([Value.slice o0 n1 n2, Value.int IntKind.i64 i3, Value.func (Fn.func 58) (Array.mk []) (Array.mk []),
    Value.int IntKind.i64 (IntKind.wrap IntKind.i64 (i4 - 1))] =
    [Value.slice o0 n1 n2, Value.int IntKind.i64 i3, Value.func (Fn.func 58) (Array.mk []) (Array.mk []),
    Value.int IntKind.i64 (IntKind.wrap IntKind.i64 (i4 - 1))] ∧ ([] : List Deferred) = []))))))))))))))))
theorem e100 (o0 : Option Addr) (n1 n2 : Nat) (i3 : Int) (i4 : Int) (i5 : Int) : treeOf Tryz.prog Tryz.f100 (codeOf Tryz.f100) (.s .n (.s (.p [0, 1, 2, 3, 4, 5, 6, 7, 8, 9, 10, 11, 12, 13, 14, 15]) (.s .n (.c [(12, .int .i64)] [0, 1, 4, 13] (.u (.l [(12, .int .i64)] [0, 1, 4, 13] (.s (.s (.p [0, 1, 2, 3, 4, 5, 6, 7, 8, 9, 10, 11, 12, 13, 14, 15]) .n) .n))) (.c [(13, .int .i64)] [0, 1, 4, 12] (.u (.l [(13, .int .i64)] [0, 1, 4, 12] (.s (.s (.p [0, 1, 2, 3, 4, 5, 6, 7, 8, 9, 10, 11, 12, 13, 14, 15, 16]) .n) .n))) (.s (.s .n (.s (.s (.p [0, 1, 2, 3, 4, 5, 6, 7, 8, 9, 10, 11, 12, 13, 14, 15]) .n) .n)) (.s (.p [0, 1, 2, 3, 4, 5, 6, 7, 8, 9, 10, 11, 12, 13, 14, 15]) (.s .n (.s .n (.s (.u (.l [(12, .int .i64), (13, .int .i64)] [0, 1, 4] (.u (.c [(12, .int .i64)] [0, 1, 4, 13] (.u (.l [(12, .int .i64)] [0, 1, 4, 13] (.s (.s (.p [0, 1, 2, 3, 4, 5, 6, 7, 8, 9, 10, 11, 12, 13, 14, 15]) .n) .n))) (.c [(13, .int .i64)] [0, 1, 4, 12] (.u (.l [(13, .int .i64)] [0, 1, 4, 12] (.s (.s (.p [0, 1, 2, 3, 4, 5, 6, 7, 8, 9, 10, 11, 12, 13, 14, 15, 16]) .n) .n))) (.s .n (.s (.p [0, 1, 2, 3, 4, 5, 6, 7, 8, 9, 10, 11, 12, 13, 14, 15]) .n))))))) (.s (.p [0, 1, 2, 3, 4, 5, 6, 7, 8, 9, 10, 11, 12, 13, 14, 15]) .n))))))))))) [.v (.slice o0 n1 n2), .v (.int .i64 i3), .v (.int .i64 i4), .v (.int .i64 i5), .v (.func (.func 58) #[] #[])] = (t100 o0 n1 n2 i3 i4 i5) := by kernel_rfl
theorem c100 (o0 : Option Addr) (n1 n2 : Nat) (i3 : Int) (i4 : Int) (i5 : Int) {w : World} {R : Ending → World → Prop} (h : (t100 o0 n1 n2 i3 i4 i5).sem Tryz.prog R ρ0 w) : Calls Tryz.prog 100 #[.slice o0 n1 n2, .int .i64 i3, .int .i64 i4, .int .i64 i5, .func (.func 58) #[] #[]] w R :=
  calls_of mixed Tryz.func100 rfl rfl (e100 o0 n1 n2 i3 i4 i5) h
def t110 (o0 : Option Addr) (n1 n2 : Nat) (i3 : Int) (i4 : Int) (i5 : Int) : T :=
  T.loop 0 [Value.int IntKind.i64 i3] fun l6 j7 =>
  T.asI IntKind.i64 (List.headD l6 (Value.tuple (Array.mk []))) fun i8 =>
    T.ite (decide (IntKind.wrap IntKind.i64 (IntKind.wrap IntKind.i64 (2 * i8) + 1) ≥ i4)) (T.ret (Value.tuple (Array.mk [])))
    (T.blk 1
    (fun l9 j10 =>
    T.asI IntKind.i64 (List.headD l9 (Value.tuple (Array.mk []))) fun i11 =>
    T.drew
    (T.req (0 ≤ IntKind.wrap IntKind.i64 (i5 + i8) ∧ IntKind.wrap IntKind.i64 (i5 + i8) < (↑n1 : Int))
    (T.sm o0 fun n12 n13 =>
    T.ldI IntKind.i64 n12 (n13 + Int.toNat (IntKind.wrap IntKind.i64 (i5 + i8)) * 2) fun i14 =>
    T.ldI IntKind.i64 n12 (n13 + Int.toNat (IntKind.wrap IntKind.i64 (i5 + i8)) * 2 + 1) fun i15 =>
    T.req (0 ≤ IntKind.wrap IntKind.i64 (i5 + i11) ∧ IntKind.wrap IntKind.i64 (i5 + i11) < (↑n1 : Int))
    (T.sm o0 fun n16 n17 =>
    T.ldI IntKind.i64 n16 (n17 + Int.toNat (IntKind.wrap IntKind.i64 (i5 + i11)) * 2) fun i18 =>
    T.ldI IntKind.i64 n16 (n17 + Int.toNat (IntKind.wrap IntKind.i64 (i5 + i11)) * 2 + 1) fun i19 =>
    T.call 58
    [Value.agg (Array.mk [Value.int IntKind.i64 i14, Value.int IntKind.i64 i15]),
    Value.agg (Array.mk [Value.int IntKind.i64 i18, Value.int IntKind.i64 i19])]
    fun v20 =>
    T.asI IntKind.i64 v20 fun i21 =>
    T.chk []
    (T.ite (!decide (i21 < 0)) (T.ret (Value.tuple (Array.mk [])))
    (T.drew
    (T.req (0 ≤ IntKind.wrap IntKind.i64 (i5 + i11) ∧ IntKind.wrap IntKind.i64 (i5 + i11) < (↑n1 : Int))
    (T.sm o0 fun n22 n23 =>
    T.ldI IntKind.i64 n22 (n23 + Int.toNat (IntKind.wrap IntKind.i64 (i5 + i11)) * 2) fun i24 =>
    T.ldI IntKind.i64 n22 (n23 + Int.toNat (IntKind.wrap IntKind.i64 (i5 + i11)) * 2 + 1) fun i25 =>
    T.req (0 ≤ IntKind.wrap IntKind.i64 (i5 + i8) ∧ IntKind.wrap IntKind.i64 (i5 + i8) < (↑n1 : Int))
    (T.sm o0 fun n26 n27 =>
    T.ldI IntKind.i64 n26 (n27 + Int.toNat (IntKind.wrap IntKind.i64 (i5 + i8)) * 2) fun i28 =>
    T.ldI IntKind.i64 n26 (n27 + Int.toNat (IntKind.wrap IntKind.i64 (i5 + i8)) * 2 + 1) fun i29 =>
    T.req (0 ≤ IntKind.wrap IntKind.i64 (i5 + i8) ∧ IntKind.wrap IntKind.i64 (i5 + i8) < (↑n1 : Int))
    (T.sm o0 fun n30 n31 =>
    T.st n30 (n31 + Int.toNat (IntKind.wrap IntKind.i64 (i5 + i8)) * 2) (Value.int IntKind.i64 i24)
    (T.st n30 (n31 + Int.toNat (IntKind.wrap IntKind.i64 (i5 + i8)) * 2 + 1)
    (Value.int IntKind.i64 i25)
    (T.chk []
    (T.req
    (0 ≤ IntKind.wrap IntKind.i64 (i5 + i11) ∧
    IntKind.wrap IntKind.i64 (i5 + i11) < (↑n1 : Int))
    (T.sm o0 fun n32 n33 =>
    T.st n32 (n33 + Int.toNat (IntKind.wrap IntKind.i64 (i5 + i11)) * 2)
    (Value.int IntKind.i64 i28)
    (T.st n32 (n33 + Int.toNat (IntKind.wrap IntKind.i64 (i5 + i11)) * 2 + 1)
    (Value.int IntKind.i64 i29)
    (T.chk []
    (T.next 0 [Value.int IntKind.i64 i11]
    ([Value.slice o0 n1 n2, Value.int IntKind.i64 i4, Value.int IntKind.i64 i5,
    Value.func (Fn.func 58) (Array.mk []) (Array.mk [])] =
    [Value.slice o0 n1 n2, Value.int IntKind.i64 i4, Value.int IntKind.i64 i5,
    Value.func (Fn.func 58) (Array.mk []) (Array.mk [])] ∧ ([] : List Deferred) = []))))))))))))))))))
    (T.drew
    (T.ite (decide (IntKind.wrap IntKind.i64 (IntKind.wrap IntKind.i64 (IntKind.wrap IntKind.i64 (2 * i8) + 1) + 1) < i4))
    (T.req
    (0 ≤ IntKind.wrap IntKind.i64 (i5 + IntKind.wrap IntKind.i64 (IntKind.wrap IntKind.i64 (2 * i8) + 1)) ∧
    IntKind.wrap IntKind.i64 (i5 + IntKind.wrap IntKind.i64 (IntKind.wrap IntKind.i64 (2 * i8) + 1)) < (↑n1 : Int))
    (T.sm o0 fun n34 n35 =>
    T.ldI IntKind.i64 n34 (n35 + Int.toNat (IntKind.wrap IntKind.i64 (i5 + IntKind.wrap IntKind.i64 (IntKind.wrap IntKind.i64 (2 * i8) + 1))) * 2)
    fun i36 =>
    T.ldI IntKind.i64 n34
    (n35 + Int.toNat (IntKind.wrap IntKind.i64 (i5 + IntKind.wrap IntKind.i64 (IntKind.wrap IntKind.i64 (2 * i8) + 1))) * 2 + 1) fun i37 =>
    T.req
    (0 ≤ IntKind.wrap IntKind.i64 (IntKind.wrap IntKind.i64 (i5 + IntKind.wrap IntKind.i64 (IntKind.wrap IntKind.i64 (2 * i8) + 1)) + 1) ∧
    IntKind.wrap IntKind.i64 (IntKind.wrap IntKind.i64 (i5 + IntKind.wrap IntKind.i64 (IntKind.wrap IntKind.i64 (2 * i8) + 1)) + 1) <
    (↑n1 : Int))
    (T.sm o0 fun n38 n39 =>
    T.ldI IntKind.i64 n38
    (n39 +
    Int.toNat
    (IntKind.wrap IntKind.i64
    (IntKind.wrap IntKind.i64 (i5 + IntKind.wrap IntKind.i64 (IntKind.wrap IntKind.i64 (2 * i8) + 1)) + 1)) *
    2)
    fun i40 =>
    T.ldI IntKind.i64 n38
    (n39 +
    Int.toNat
    (IntKind.wrap IntKind.i64
    (IntKind.wrap IntKind.i64 (i5 + IntKind.wrap IntKind.i64 (IntKind.wrap IntKind.i64 (2 * i8) + 1)) + 1)) *
    2 +
    1)
    fun i41 =>
    T.call 58
    [Value.agg (Array.mk [Value.int IntKind.i64 i36, Value.int IntKind.i64 i37]),
    Value.agg (Array.mk [Value.int IntKind.i64 i40, Value.int IntKind.i64 i41])]
    fun v42 =>
    T.asI IntKind.i64 v42 fun i43 =>
    T.chk []
    (T.ite (decide (i43 < 0))
    (T.next 1
    [Value.int IntKind.i64 (IntKind.wrap IntKind.i64 (IntKind.wrap IntKind.i64 (IntKind.wrap IntKind.i64 (2 * i8) + 1) + 1))]
    ([Value.slice o0 n1 n2, Value.int IntKind.i64 i4, Value.int IntKind.i64 i5,
    Value.func (Fn.func 58) (Array.mk []) (Array.mk []), Value.int IntKind.i64 i8] =
    [Value.slice o0 n1 n2, Value.int IntKind.i64 i4, Value.int IntKind.i64 i5,
    Value.func (Fn.func 58) (Array.mk []) (Array.mk []), Value.int IntKind.i64 i8] ∧ ([] : List Deferred) = []))
    (T.next 1 [Value.int IntKind.i64 (IntKind.wrap IntKind.i64 (IntKind.wrap IntKind.i64 (2 * i8) + 1))]
    ([Value.slice o0 n1 n2, Value.int IntKind.i64 i4, Value.int IntKind.i64 i5,
    Value.func (Fn.func 58) (Array.mk []) (Array.mk []), Value.int IntKind.i64 i8] =
    [Value.slice o0 n1 n2, Value.int IntKind.i64 i4, Value.int IntKind.i64 i5,
    Value.func (Fn.func 58) (Array.mk []) (Array.mk []), Value.int IntKind.i64 i8] ∧ ([] : List Deferred) = []))))))
    (T.chk []
    (T.next 1 [Value.int IntKind.i64 (IntKind.wrap IntKind.i64 (IntKind.wrap IntKind.i64 (2 * i8) + 1))]
    ([Value.slice o0 n1 n2, Value.int IntKind.i64 i4, Value.int IntKind.i64 i5, Value.func (Fn.func 58) (Array.mk []) (Array.mk []),
    Value.int IntKind.i64 i8] =
    [Value.slice o0 n1 n2, Value.int IntKind.i64 i4, Value.int IntKind.i64 i5, Value.func (Fn.func 58) (Array.mk []) (Array.mk []),
    Value.int IntKind.i64 i8] ∧ ([] : List Deferred) = []))))))
theorem e110 (o0 : Option Addr) (n1 n2 : Nat) (i3 : Int) (i4 : Int) (i5 : Int) : treeOf Tryz.prog Tryz.f110 (codeOf Tryz.f110) (.s .n (.u (.l [(10, .int .i64)] [0, 2, 3, 4] (.u (.s .n (.s .n (.c [(11, .int .i64)] [0, 2, 3, 4, 10] (.s (.p [0, 1, 2, 3, 4, 5, 6, 7, 8, 9, 10, 11, 12, 13, 14, 15, 16, 17, 18, 19, 20, 21]) .n) (.s (.s (.p [0, 1, 2, 3, 4, 5, 6, 7, 8, 9, 10, 11, 12, 13, 14, 15]) .n) (.s (.p [0, 1, 2, 3, 4, 5, 6, 7, 8, 9, 10, 11, 12, 13, 14, 15, 16, 17, 18, 19, 20, 21, 22, 23]) .n))))))))) [.v (.slice o0 n1 n2), .v (.int .i64 i3), .v (.int .i64 i4), .v (.int .i64 i5), .v (.func (.func 58) #[] #[])] = (t110 o0 n1 n2 i3 i4 i5) := by kernel_rfl
theorem c110 (o0 : Option Addr) (n1 n2 : Nat) (i3 : Int) (i4 : Int) (i5 : Int) {w : World} {R : Ending → World → Prop} (h : (t110 o0 n1 n2 i3 i4 i5).sem Tryz.prog R ρ0 w) : Calls Tryz.prog 110 #[.slice o0 n1 n2, .int .i64 i3, .int .i64 i4, .int .i64 i5, .func (.func 58) #[] #[]] w R :=
  calls_of mixed Tryz.func110 rfl rfl (e110 o0 n1 n2 i3 i4 i5) h
def t111 (o0 : Option Addr) (n1 n2 : Nat) (i3 : Int) (n4 n5 : Nat) : T :=
  T.call 112
  [Value.slice o0 n1 n2, Value.int IntKind.i64 (IntKind.wrap IntKind.i64 (i3 - 1)), Value.int IntKind.i64 i3,
    Value.int IntKind.i64 (IntKind.wrap IntKind.i64 (i3 + 1)), Value.pointer (some (Addr.mk n4 n5 none)), Value.func (Fn.func 58) (Array.mk []) (Array.mk [])]
  fun v6 => T.asI IntKind.i64 v6 fun i7 => T.ret (Value.int IntKind.i64 i7)
theorem e111 (o0 : Option Addr) (n1 n2 : Nat) (i3 : Int) (n4 n5 : Nat) : treeOf Tryz.prog Tryz.f111 (codeOf Tryz.f111) .n [.v (.slice o0 n1 n2), .v (.int .i64 i3), .p n4 n5, .v (.func (.func 58) #[] #[])] = (t111 o0 n1 n2 i3 n4 n5) := by kernel_rfl
theorem c111 (o0 : Option Addr) (n1 n2 : Nat) (i3 : Int) (n4 n5 : Nat) {w : World} {R : Ending → World → Prop} (h : (t111 o0 n1 n2 i3 n4 n5).sem Tryz.prog R ρ0 w) : Calls Tryz.prog 111 #[.slice o0 n1 n2, .int .i64 i3, .pointer (some ⟨n4, n5, none⟩), .func (.func 58) #[] #[]] w R :=
  calls_of mixed Tryz.func111 rfl rfl (e111 o0 n1 n2 i3 n4 n5) h
def t112 (o0 : Option Addr) (n1 n2 : Nat) (i3 : Int) (i4 : Int) (i5 : Int) (n6 n7 : Nat) : T :=
  T.call 116
  [Value.slice o0 n1 n2, Value.int IntKind.i64 i3, Value.int IntKind.i64 i4, Value.pointer (some (Addr.mk n6 n7 none)),
    Value.func (Fn.func 58) (Array.mk []) (Array.mk [])]
  fun v8 =>
  T.asU v8 fun l9 =>
    T.req (List.length l9 = 2)
    (T.asI IntKind.i64 (List.headD l9 (Value.tuple (Array.mk []))) fun i10 =>
    T.asI IntKind.i64 (List.headD (List.tail l9) (Value.tuple (Array.mk []))) fun i11 =>
    T.call 116
    [Value.slice o0 n1 n2, Value.int IntKind.i64 i11, Value.int IntKind.i64 i5, Value.pointer (some (Addr.mk n6 n7 none)),
    Value.func (Fn.func 58) (Array.mk []) (Array.mk [])]
    fun v12 =>
    T.asU v12 fun l13 =>
    T.req (List.length l13 = 2)
    (T.asI IntKind.i64 (List.headD l13 (Value.tuple (Array.mk []))) fun i14 =>
    T.asI IntKind.i64 (List.headD (List.tail l13) (Value.tuple (Array.mk []))) fun i15 =>
    T.call 116
    [Value.slice o0 n1 n2, Value.int IntKind.i64 i10, Value.int IntKind.i64 i14, Value.pointer (some (Addr.mk n6 n7 none)),
    Value.func (Fn.func 58) (Array.mk []) (Array.mk [])]
    fun v16 =>
    T.asU v16 fun l17 =>
    T.req (List.length l17 = 2)
    (T.asI IntKind.i64 (List.headD l17 (Value.tuple (Array.mk []))) fun i18 =>
    T.asI IntKind.i64 (List.headD (List.tail l17) (Value.tuple (Array.mk []))) fun i19 => T.ret (Value.int IntKind.i64 i19))))
theorem e112 (o0 : Option Addr) (n1 n2 : Nat) (i3 : Int) (i4 : Int) (i5 : Int) (n6 n7 : Nat) : treeOf Tryz.prog Tryz.f112 (codeOf Tryz.f112) .n [.v (.slice o0 n1 n2), .v (.int .i64 i3), .v (.int .i64 i4), .v (.int .i64 i5), .p n6 n7, .v (.func (.func 58) #[] #[])] = (t112 o0 n1 n2 i3 i4 i5 n6 n7) := by kernel_rfl
theorem c112 (o0 : Option Addr) (n1 n2 : Nat) (i3 : Int) (i4 : Int) (i5 : Int) (n6 n7 : Nat) {w : World} {R : Ending → World → Prop} (h : (t112 o0 n1 n2 i3 i4 i5 n6 n7).sem Tryz.prog R ρ0 w) : Calls Tryz.prog 112 #[.slice o0 n1 n2, .int .i64 i3, .int .i64 i4, .int .i64 i5, .pointer (some ⟨n6, n7, none⟩), .func (.func 58) #[] #[]] w R :=
  calls_of mixed Tryz.func112 rfl rfl (e112 o0 n1 n2 i3 i4 i5 n6 n7) h
def t116 (o0 : Option Addr) (n1 n2 : Nat) (i3 : Int) (i4 : Int) (n5 n6 : Nat) : T :=
  T.drew
  (T.req (0 ≤ i4 ∧ i4 < (↑n1 : Int))
    (T.sm o0 fun n7 n8 =>
    T.ldI IntKind.i64 n7 (n8 + Int.toNat i4 * 2) fun i9 =>
    T.ldI IntKind.i64 n7 (n8 + Int.toNat i4 * 2 + 1) fun i10 =>
    T.req (0 ≤ i3 ∧ i3 < (↑n1 : Int))
    (T.sm o0 fun n11 n12 =>
    T.ldI IntKind.i64 n11 (n12 + Int.toNat i3 * 2) fun i13 =>
    T.ldI IntKind.i64 n11 (n12 + Int.toNat i3 * 2 + 1) fun i14 =>
    T.call 58
    [Value.agg (Array.mk [Value.int IntKind.i64 i9, Value.int IntKind.i64 i10]),
    Value.agg (Array.mk [Value.int IntKind.i64 i13, Value.int IntKind.i64 i14])]
    fun v15 =>
    T.asI IntKind.i64 v15 fun i16 =>
    T.chk []
    (T.ite (decide (i16 < 0))
    (T.ldI IntKind.i64 n5 n6 fun i17 =>
    T.st n5 n6 (Value.int IntKind.i64 (IntKind.wrap IntKind.i64 (i17 + 1)))
    (T.ret (Value.tuple (Array.mk [Value.int IntKind.i64 i4, Value.int IntKind.i64 i3]))))
    (T.ret (Value.tuple (Array.mk [Value.int IntKind.i64 i3, Value.int IntKind.i64 i4])))))))
theorem e116 (o0 : Option Addr) (n1 n2 : Nat) (i3 : Int) (i4 : Int) (n5 n6 : Nat) : treeOf Tryz.prog Tryz.f116 (codeOf Tryz.f116) (.s .n (.s (.s (.p [0, 1, 2, 3, 4, 5, 6, 7, 8, 9, 10]) .n) .n)) [.v (.slice o0 n1 n2), .v (.int .i64 i3), .v (.int .i64 i4), .p n5 n6, .v (.func (.func 58) #[] #[])] = (t116 o0 n1 n2 i3 i4 n5 n6) := by kernel_rfl
theorem c116 (o0 : Option Addr) (n1 n2 : Nat) (i3 : Int) (i4 : Int) (n5 n6 : Nat) {w : World} {R : Ending → World → Prop} (h : (t116 o0 n1 n2 i3 i4 n5 n6).sem Tryz.prog R ρ0 w) : Calls Tryz.prog 116 #[.slice o0 n1 n2, .int .i64 i3, .int .i64 i4, .pointer (some ⟨n5, n6, none⟩), .func (.func 58) #[] #[]] w R :=
  calls_of mixed Tryz.func116 rfl rfl (e116 o0 n1 n2 i3 i4 n5 n6) h
def t58 (i0 : Int) (i1 : Int) (i2 : Int) (i3 : Int) : T :=
  T.new (Obj.cells (Array.mk [Value.int IntKind.i64 i0, Value.int IntKind.i64 i1]) 32) fun n4 =>
  T.new (Obj.cells (Array.mk [Value.int IntKind.i64 i2, Value.int IntKind.i64 i3]) 32) fun n5 =>
    T.ldI IntKind.i64 n4 0 fun i6 =>
    T.ldI IntKind.i64 n4 1 fun i7 =>
    T.ldI IntKind.i64 n5 0 fun i8 =>
    T.ldI IntKind.i64 n5 1 fun i9 =>
    T.ite (i6 == i8 && (i7 == i9 && true)) (T.ret (Value.int IntKind.i64 0))
    (T.ldI IntKind.i64 n4 0 fun i10 =>
    T.ldI IntKind.i64 n5 0 fun i11 =>
    T.ite (decide (i10 < i11)) (T.ret (Value.int IntKind.i64 (-1)))
    (T.ldI IntKind.i64 n4 0 fun i12 =>
    T.ldI IntKind.i64 n5 0 fun i13 =>
    T.ite (i12 == i13)
    (T.ldI IntKind.i64 n4 1 fun i14 =>
    T.ldI IntKind.i64 n5 1 fun i15 => T.ite (decide (i14 < i15)) (T.ret (Value.int IntKind.i64 (-1))) (T.ret (Value.int IntKind.i64 1)))
    (T.ret (Value.int IntKind.i64 1))))
theorem e58 (i0 : Int) (i1 : Int) (i2 : Int) (i3 : Int) : treeOf Tryz.prog Tryz.f58 (codeOf Tryz.f58) .n [.v (.agg #[.int .i64 i0, .int .i64 i1]), .v (.agg #[.int .i64 i2, .int .i64 i3])] = (t58 i0 i1 i2 i3) := by kernel_rfl
theorem c58 (i0 : Int) (i1 : Int) (i2 : Int) (i3 : Int) {w : World} {R : Ending → World → Prop} (h : (t58 i0 i1 i2 i3).sem Tryz.prog R ρ0 w) : Calls Tryz.prog 58 #[.agg #[.int .i64 i0, .int .i64 i1], .agg #[.int .i64 i2, .int .i64 i3]] w R :=
  calls_of mixed Tryz.func58 rfl rfl (e58 i0 i1 i2 i3) h
end Go.Proofs.YtpjcfnnnciknmaaGreat
