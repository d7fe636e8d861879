/- The functions' trees, printed by a program (wip/tools/Emit.lean) and checked by the kernel against the model's own code. -/
import Derived.Test.YtihipcofjpnfbaaGreatDoorCode
import Derived.Test.YtihipcofjpnfbaaGreatDoorProg
namespace Go.Proofs.YtihipcofjpnfbaaGreatDoor
open Go hiding Expr
open Go.Proofs.YtihipcofjpnfbaaGreatDoor.Tr
set_option linter.unusedVariables false
set_option maxRecDepth 100000
theorem mixed : Tryz.prog.follows .mixedOrders = true := by kernel_rfl
def t23 (o0 : Option Addr) (n1 n2 : Nat) : T :=
  T.call2 49 [Value.slice o0 n1 n2, Value.string (ByteArray.mk (Array.mk [OfNat.ofNat 32]))] (fun v3 => T.asT v3 fun s4 => T.ret (Value.string s4)) fun v5 =>
  T.pan v5
theorem e23 (o0 : Option Addr) (n1 n2 : Nat) : treeOf Tryz.prog Tryz.f23 (codeOf Tryz.f23) .n [.v (.slice o0 n1 n2)] = (t23 o0 n1 n2) := by kernel_rfl
theorem c23 (o0 : Option Addr) (n1 n2 : Nat) {w : World} {R : Ending → World → Prop} (h : (t23 o0 n1 n2).sem Tryz.prog R ρ0 w) : Calls Tryz.prog 23 #[.slice o0 n1 n2] w R :=
  calls_of mixed Tryz.func23 rfl rfl (e23 o0 n1 n2) h
def t24 (i0 : Int) : T :=
  T.call 50 [Value.int IntKind.i64 i0, Value.int IntKind.i64 10] fun v1 => T.asT v1 fun s2 => T.ret (Value.string s2)
theorem e24 (i0 : Int) : treeOf Tryz.prog Tryz.f24 (codeOf Tryz.f24) .n [.v (.int .i64 i0)] = (t24 i0) := by kernel_rfl
theorem c24 (i0 : Int) {w : World} {R : Ending → World → Prop} (h : (t24 i0).sem Tryz.prog R ρ0 w) : Calls Tryz.prog 24 #[.int .i64 i0] w R :=
  calls_of mixed Tryz.func24 rfl rfl (e24 i0) h
def t99 (i0 : Int) : T :=
  T.call 50 [Value.int IntKind.i64 i0, Value.int IntKind.i64 10] fun v1 => T.asT v1 fun s2 => T.ret (Value.string s2)
theorem e99 (i0 : Int) : treeOf Tryz.prog Tryz.f99 (codeOf Tryz.f99) .n [.v (.int .i64 i0)] = (t99 i0) := by kernel_rfl
theorem c99 (i0 : Int) {w : World} {R : Ending → World → Prop} (h : (t99 i0).sem Tryz.prog R ρ0 w) : Calls Tryz.prog 99 #[.int .i64 i0] w R :=
  calls_of mixed Tryz.func99 rfl rfl (e99 i0) h
def t110 (i0 : Int) : T :=
  T.call 50 [Value.int IntKind.i64 (IntKind.wrap IntKind.i64 i0), Value.int IntKind.i64 10] fun v1 => T.asT v1 fun s2 => T.ret (Value.string s2)
theorem e110 (i0 : Int) : treeOf Tryz.prog Tryz.f110 (codeOf Tryz.f110) .n [.v (.int .i32 i0)] = (t110 i0) := by kernel_rfl
theorem c110 (i0 : Int) {w : World} {R : Ending → World → Prop} (h : (t110 i0).sem Tryz.prog R ρ0 w) : Calls Tryz.prog 110 #[.int .i32 i0] w R :=
  calls_of mixed Tryz.func110 rfl rfl (e110 i0) h
def t82 (i0 : Int) : T :=
  T.call 50 [Value.int IntKind.i64 i0, Value.int IntKind.i64 10] fun v1 => T.asT v1 fun s2 => T.ret (Value.string s2)
theorem e82 (i0 : Int) : treeOf Tryz.prog Tryz.f82 (codeOf Tryz.f82) .n [.v (.int .i64 i0)] = (t82 i0) := by kernel_rfl
theorem c82 (i0 : Int) {w : World} {R : Ending → World → Prop} (h : (t82 i0).sem Tryz.prog R ρ0 w) : Calls Tryz.prog 82 #[.int .i64 i0] w R :=
  calls_of mixed Tryz.func82 rfl rfl (e82 i0) h
def t54 (i0 : Int) : T :=
  T.call 82 [Value.int IntKind.i64 i0] fun v1 => T.asT v1 fun s2 => T.ret (Value.string s2)
theorem e54 (i0 : Int) : treeOf Tryz.prog Tryz.f54 (codeOf Tryz.f54) .n [.v (.int .i64 i0)] = (t54 i0) := by kernel_rfl
theorem c54 (i0 : Int) {w : World} {R : Ending → World → Prop} (h : (t54 i0).sem Tryz.prog R ρ0 w) : Calls Tryz.prog 54 #[.int .i64 i0] w R :=
  calls_of mixed Tryz.func54 rfl rfl (e54 i0) h
def t28 (i0 : Int) (i1 : Int) (i2 : Int) (i3 : Int) (i4 : Int) : T :=
  T.new
  (Obj.cells (Array.mk [Value.int IntKind.i64 i0, Value.int IntKind.i64 i1, Value.int IntKind.i64 i2, Value.int IntKind.i64 i3, Value.int IntKind.u64 i4]) 24)
  fun n5 =>
  T.drew
    (T.ldI IntKind.i64 n5 0 fun i6 =>
    T.ldI IntKind.i64 n5 1 fun i7 =>
    T.ldI IntKind.i64 n5 2 fun i8 =>
    T.ldI IntKind.i64 n5 3 fun i9 =>
    T.ldI IntKind.u64 n5 4 fun i10 =>
    T.call 54 [Value.int IntKind.i64 i6] fun v11 =>
    T.asT v11 fun s12 =>
    T.chk
    [(Addr.mk n5 4 none, Value.int IntKind.u64 i10), (Addr.mk n5 3 none, Value.int IntKind.i64 i9),
    (Addr.mk n5 2 none, Value.int IntKind.i64 i8), (Addr.mk n5 1 none, Value.int IntKind.i64 i7)]
    (T.req (6 + ByteArray.size s12 ≤ 9223372036854775807)
    (T.req
    (ByteArray.size
    (ByteArray.mk (Array.mk [OfNat.ofNat 119, OfNat.ofNat 111, OfNat.ofNat 114, OfNat.ofNat 108, OfNat.ofNat 100, OfNat.ofNat 32]) ++
    s12) +
    1 ≤
    9223372036854775807)
    (T.call 54 [Value.int IntKind.i64 i7] fun v13 =>
    T.asT v13 fun s14 =>
    T.chk
    [(Addr.mk n5 4 none, Value.int IntKind.u64 i10), (Addr.mk n5 3 none, Value.int IntKind.i64 i9),
    (Addr.mk n5 2 none, Value.int IntKind.i64 i8)]
    (T.req
    (ByteArray.size
    (ByteArray.mk
    (Array.mk [OfNat.ofNat 119, OfNat.ofNat 111, OfNat.ofNat 114, OfNat.ofNat 108, OfNat.ofNat 100, OfNat.ofNat 32]) ++
    s12 ++
    ByteArray.mk (Array.mk [OfNat.ofNat 32])) +
    ByteArray.size s14 ≤
    9223372036854775807)
    (T.req
    (ByteArray.size
    (ByteArray.mk
    (Array.mk
    [OfNat.ofNat 119, OfNat.ofNat 111, OfNat.ofNat 114, OfNat.ofNat 108, OfNat.ofNat 100, OfNat.ofNat 32]) ++
    s12 ++
    ByteArray.mk (Array.mk [OfNat.ofNat 32]) ++
    s14) +
    1 ≤
    9223372036854775807)
    (T.call 54 [Value.int IntKind.i64 i8] fun v15 =>
    T.asT v15 fun s16 =>
    T.chk [(Addr.mk n5 4 none, Value.int IntKind.u64 i10), (Addr.mk n5 3 none, Value.int IntKind.i64 i9)]
    (T.req
    (ByteArray.size
    (ByteArray.mk
    (Array.mk
    [OfNat.ofNat 119, OfNat.ofNat 111, OfNat.ofNat 114, OfNat.ofNat 108, OfNat.ofNat 100,
    OfNat.ofNat 32]) ++
    s12 ++
    ByteArray.mk (Array.mk [OfNat.ofNat 32]) ++
    s14 ++
    ByteArray.mk (Array.mk [OfNat.ofNat 32])) +
    ByteArray.size s16 ≤
    9223372036854775807)
    (T.req
    (ByteArray.size
    (ByteArray.mk
    (Array.mk
    [OfNat.ofNat 119, OfNat.ofNat 111, OfNat.ofNat 114, OfNat.ofNat 108, OfNat.ofNat 100,
    OfNat.ofNat 32]) ++
    s12 ++
    ByteArray.mk (Array.mk [OfNat.ofNat 32]) ++
    s14 ++
    ByteArray.mk (Array.mk [OfNat.ofNat 32]) ++
    s16) +
    1 ≤
    9223372036854775807)
    (T.call 54 [Value.int IntKind.i64 i9] fun v17 =>
    T.asT v17 fun s18 =>
    T.chk [(Addr.mk n5 4 none, Value.int IntKind.u64 i10)]
    (T.req
    (ByteArray.size
    (ByteArray.mk
    (Array.mk
    [OfNat.ofNat 119, OfNat.ofNat 111, OfNat.ofNat 114, OfNat.ofNat 108, OfNat.ofNat 100,
    OfNat.ofNat 32]) ++
    s12 ++
    ByteArray.mk (Array.mk [OfNat.ofNat 32]) ++
    s14 ++
    ByteArray.mk (Array.mk [OfNat.ofNat 32]) ++
    s16 ++
    ByteArray.mk (Array.mk [OfNat.ofNat 32])) +
    ByteArray.size s18 ≤
    9223372036854775807)
    (T.req
    (ByteArray.size
    (ByteArray.mk
    (Array.mk
    [OfNat.ofNat 119, OfNat.ofNat 111, OfNat.ofNat 114, OfNat.ofNat 108,
    OfNat.ofNat 100, OfNat.ofNat 32]) ++
    s12 ++
    ByteArray.mk (Array.mk [OfNat.ofNat 32]) ++
    s14 ++
    ByteArray.mk (Array.mk [OfNat.ofNat 32]) ++
    s16 ++
    ByteArray.mk (Array.mk [OfNat.ofNat 32]) ++
    s18) +
    1 ≤
    9223372036854775807)
    (T.call 25 [Value.int IntKind.u64 i10, Value.int IntKind.i64 10] fun v19 =>
    T.asT v19 fun s20 =>
    T.chk []
    (T.req
    (ByteArray.size
    (ByteArray.mk
    (Array.mk
    [OfNat.ofNat 119, OfNat.ofNat 111, OfNat.ofNat 114, OfNat.ofNat 108,
    OfNat.ofNat 100, OfNat.ofNat 32]) ++
    s12 ++
    ByteArray.mk (Array.mk [OfNat.ofNat 32]) ++
    s14 ++
    ByteArray.mk (Array.mk [OfNat.ofNat 32]) ++
    s16 ++
    ByteArray.mk (Array.mk [OfNat.ofNat 32]) ++
    s18 ++
    ByteArray.mk (Array.mk [OfNat.ofNat 32])) +
    ByteArray.size s20 ≤
    9223372036854775807)
    (T.ret
    (Value.string
    (ByteArray.mk
    (Array.mk
    [OfNat.ofNat 119, OfNat.ofNat 111, OfNat.ofNat 114, OfNat.ofNat 108,
    OfNat.ofNat 100, OfNat.ofNat 32]) ++
    s12 ++
    ByteArray.mk (Array.mk [OfNat.ofNat 32]) ++
    s14 ++
    ByteArray.mk (Array.mk [OfNat.ofNat 32]) ++
    s16 ++
    ByteArray.mk (Array.mk [OfNat.ofNat 32]) ++
    s18 ++
    ByteArray.mk (Array.mk [OfNat.ofNat 32]) ++
    s20)))))))))))))))))
theorem e28 (i0 : Int) (i1 : Int) (i2 : Int) (i3 : Int) (i4 : Int) : treeOf Tryz.prog Tryz.f28 (codeOf Tryz.f28) (.s .n (.s (.p [0, 1, 5, 6, 10, 11, 15, 16, 20, 21, 2, 3, 4, 7, 8, 9, 12, 13, 14, 17, 18, 19, 22, 23, 24]) .n)) [.v (.agg #[.int .i64 i0, .int .i64 i1, .int .i64 i2, .int .i64 i3, .int .u64 i4])] = (t28 i0 i1 i2 i3 i4) := by kernel_rfl
theorem c28 (i0 : Int) (i1 : Int) (i2 : Int) (i3 : Int) (i4 : Int) {w : World} {R : Ending → World → Prop} (h : (t28 i0 i1 i2 i3 i4).sem Tryz.prog R ρ0 w) : Calls Tryz.prog 28 #[.agg #[.int .i64 i0, .int .i64 i1, .int .i64 i2, .int .i64 i3, .int .u64 i4]] w R :=
  calls_of mixed Tryz.func28 rfl rfl (e28 i0 i1 i2 i3 i4) h
def t81 (o0 : Option Addr) (n1 n2 : Nat) : T :=
  T.call 24 [Value.int IntKind.i64 (↑n1 : Int)] fun v3 =>
  T.asT v3 fun s4 =>
    T.new (Obj.cells (Array.mk [Value.string s4]) 9) fun n5 =>
    T.loop 0 [Value.slice (some (Addr.mk n5 0 none)) 1 1, Value.int IntKind.i64 0] fun l6 j7 =>
    T.asS (List.headD l6 (Value.tuple (Array.mk []))) fun o8 n9 n10 =>
    T.asI IntKind.i64 (List.headD (List.tail l6) (Value.tuple (Array.mk []))) fun i11 =>
    T.ite (decide (i11 < (↑n1 : Int)))
    (T.req (0 ≤ i11 ∧ i11 < (↑n1 : Int))
    (T.sm o0 fun n12 n13 =>
    T.ldI IntKind.i32 n12 (n13 + Int.toNat i11 * 2) fun i14 =>
    T.ldI IntKind.i64 n12 (n13 + Int.toNat i11 * 2 + 1) fun i15 =>
    T.new (Obj.cells (Array.mk [Value.int IntKind.i32 0, Value.int IntKind.i64 0]) 63) fun n16 =>
    T.st n16 0 (Value.int IntKind.i32 i14)
    (T.st n16 1 (Value.int IntKind.i64 i15)
    (T.drew
    (T.ldI IntKind.i32 n16 0 fun i17 =>
    T.ldI IntKind.i64 n16 1 fun i18 =>
    T.call 110 [Value.int IntKind.i32 i17] fun v19 =>
    T.asT v19 fun s20 =>
    T.chk [(Addr.mk n16 1 none, Value.int IntKind.i64 i18)]
    (T.call 99 [Value.int IntKind.i64 i18] fun v21 =>
    T.asT v21 fun s22 =>
    T.chk []
    (T.new (Obj.cells (Array.mk [Value.string s20, Value.string s22]) 9) fun n23 =>
    T.chk []
    (T.run
    (biV Builtin.append (Array.mk [45, 45]) 45
    (Array.mk [Value.slice o8 n9 n10, Value.slice (some (Addr.mk n23 0 none)) 2 2]))
    fun v24 =>
    T.asS v24 fun o25 n26 n27 =>
    T.chk []
    (T.next 0 [Value.slice o25 n26 n27, Value.int IntKind.i64 (IntKind.wrap IntKind.i64 (i11 + 1))]
    ([Value.slice o0 n1 n2, Value.int IntKind.i64 (↑n1 : Int)] =
    [Value.slice o0 n1 n2, Value.int IntKind.i64 (↑n1 : Int)] ∧ ([] : List Deferred) = []))))))))))
    (T.call 23 [Value.slice o8 n9 n10] fun v28 => T.asT v28 fun s29 => T.ret (Value.string s29))
theorem e81 (o0 : Option Addr) (n1 n2 : Nat) : treeOf Tryz.prog Tryz.f81 (codeOf Tryz.f81) (.s .n (.s .n (.s (.s .n (.u (.l [(3, .slice), (12, .int .i64)] [10, 11] (.s .n (.s .n (.s (.u (.s .n (.p [0, 1, 2, 4, 5, 3, 6, 7, 8, 9]))) .n)))))) .n))) [.v (.slice o0 n1 n2)] = (t81 o0 n1 n2) := by kernel_rfl
theorem c81 (o0 : Option Addr) (n1 n2 : Nat) {w : World} {R : Ending → World → Prop} (h : (t81 o0 n1 n2).sem Tryz.prog R ρ0 w) : Calls Tryz.prog 81 #[.slice o0 n1 n2] w R :=
  calls_of mixed Tryz.func81 rfl rfl (e81 o0 n1 n2) h
def t57 (o0 : Option Addr) (n1 n2 : Nat) : T :=
  T.call 54 [Value.int IntKind.i64 (↑n1 : Int)] fun v3 =>
  T.asT v3 fun s4 =>
    T.loop 0 [Value.string s4, Value.int IntKind.i64 0] fun l5 j6 =>
    T.asT (List.headD l5 (Value.tuple (Array.mk []))) fun s7 =>
    T.asI IntKind.i64 (List.headD (List.tail l5) (Value.tuple (Array.mk []))) fun i8 =>
    T.ite (decide (i8 < (↑n1 : Int)))
    (T.drew
    (T.req (0 ≤ i8 ∧ i8 < (↑n1 : Int))
    (T.sm o0 fun n9 n10 =>
    T.ldI IntKind.i32 n9 (n10 + Int.toNat i8 * 2) fun i11 =>
    T.req (0 ≤ i8 ∧ i8 < (↑n1 : Int))
    (T.sm o0 fun n12 n13 =>
    T.ldI IntKind.i64 n12 (n13 + Int.toNat i8 * 2 + 1) fun i14 =>
    T.call 82 [Value.int IntKind.i64 (IntKind.wrap IntKind.i64 i11)] fun v15 =>
    T.asT v15 fun s16 =>
    T.chk
    [(Addr.mk n12 (n13 + Int.toNat i8 * 2 + 1) none, Value.int IntKind.i64 i14),
    (Addr.mk n9 (n10 + Int.toNat i8 * 2) none, Value.int IntKind.i32 i11)]
    (T.req (1 + ByteArray.size s16 ≤ 9223372036854775807)
    (T.req (ByteArray.size (ByteArray.mk (Array.mk [OfNat.ofNat 32]) ++ s16) + 1 ≤ 9223372036854775807)
    (T.call 82 [Value.int IntKind.i64 i14] fun v17 =>
    T.asT v17 fun s18 =>
    T.chk [(Addr.mk n9 (n10 + Int.toNat i8 * 2) none, Value.int IntKind.i32 i11)]
    (T.req
    (ByteArray.size (ByteArray.mk (Array.mk [OfNat.ofNat 32]) ++ s16 ++ ByteArray.mk (Array.mk [OfNat.ofNat 32])) +
    ByteArray.size s18 ≤
    9223372036854775807)
    (T.req
    (ByteArray.size s7 +
    ByteArray.size
    (ByteArray.mk (Array.mk [OfNat.ofNat 32]) ++ s16 ++ ByteArray.mk (Array.mk [OfNat.ofNat 32]) ++ s18) ≤
    9223372036854775807)
    (T.next 0
    [Value.string
    (s7 ++
    (ByteArray.mk (Array.mk [OfNat.ofNat 32]) ++ s16 ++ ByteArray.mk (Array.mk [OfNat.ofNat 32]) ++ s18)),
    Value.int IntKind.i64 (IntKind.wrap IntKind.i64 (i8 + 1))]
    ([Value.slice o0 n1 n2] = [Value.slice o0 n1 n2] ∧ ([] : List Deferred) = [])))))))))))
    (T.ret (Value.string s7))
theorem e57 (o0 : Option Addr) (n1 n2 : Nat) : treeOf Tryz.prog Tryz.f57 (codeOf Tryz.f57) (.s .n (.s .n (.s (.s .n (.u (.l [(3, .str), (4, .int .i64)] [0] (.s .n (.s (.u (.p [0, 1, 2, 3, 4, 5, 6, 10, 11, 12, 13, 14, 7, 8, 9, 15, 16, 17, 18])) .n))))) .n))) [.v (.slice o0 n1 n2)] = (t57 o0 n1 n2) := by kernel_rfl
theorem c57 (o0 : Option Addr) (n1 n2 : Nat) {w : World} {R : Ending → World → Prop} (h : (t57 o0 n1 n2).sem Tryz.prog R ρ0 w) : Calls Tryz.prog 57 #[.slice o0 n1 n2] w R :=
  calls_of mixed Tryz.func57 rfl rfl (e57 o0 n1 n2) h
def t12 (o0 : Option Addr) (n1 n2 : Nat) : T :=
  T.ite ((↑n1 : Int) == 0) (T.ret (Value.string (ByteArray.mk (Array.mk [OfNat.ofNat 45]))))
  (T.new (Obj.cells (Array.mk [Value.pointer none, Value.slice none 0 0]) 67) fun n3 =>
    T.loop 0 [Value.int IntKind.i64 0] fun l4 j5 =>
    T.asI IntKind.i64 (List.headD l4 (Value.tuple (Array.mk []))) fun i6 =>
    T.ite (decide (i6 < (↑n1 : Int)))
    (T.req (0 ≤ i6 ∧ i6 < (↑n1 : Int))
    (T.sm o0 fun n7 n8 =>
    T.ldI IntKind.u8 n7 (n8 + Int.toNat i6 * 1) fun i9 =>
    T.req ((0 : Int) ≤ 4)
    (T.req (0 ≤ shrI IntKind.u8 i9 4 ∧ shrI IntKind.u8 i9 4 < 16)
    (T.call 31
    [Value.pointer (some (Addr.mk n3 0 none)),
    Value.int IntKind.u8
    (↑(UInt8.toNat
    (Array.getD
    (Array.mk
    [OfNat.ofNat 48, OfNat.ofNat 49, OfNat.ofNat 50, OfNat.ofNat 51, OfNat.ofNat 52, OfNat.ofNat 53, OfNat.ofNat 54,
    OfNat.ofNat 55, OfNat.ofNat 56, OfNat.ofNat 57, OfNat.ofNat 97, OfNat.ofNat 98, OfNat.ofNat 99, OfNat.ofNat 100,
    OfNat.ofNat 101, OfNat.ofNat 102])
    (Int.toNat (shrI IntKind.u8 i9 4)) (OfNat.ofNat 0))) :
    Int)]
    fun v10 =>
    T.req (0 ≤ bitsI BinOp.and IntKind.u8 i9 15 ∧ bitsI BinOp.and IntKind.u8 i9 15 < 16)
    (T.call 31
    [Value.pointer (some (Addr.mk n3 0 none)),
    Value.int IntKind.u8
    (↑(UInt8.toNat
    (Array.getD
    (Array.mk
    [OfNat.ofNat 48, OfNat.ofNat 49, OfNat.ofNat 50, OfNat.ofNat 51, OfNat.ofNat 52, OfNat.ofNat 53, OfNat.ofNat 54,
    OfNat.ofNat 55, OfNat.ofNat 56, OfNat.ofNat 57, OfNat.ofNat 97, OfNat.ofNat 98, OfNat.ofNat 99, OfNat.ofNat 100,
    OfNat.ofNat 101, OfNat.ofNat 102])
    (Int.toNat (bitsI BinOp.and IntKind.u8 i9 15)) (OfNat.ofNat 0))) :
    Int)]
    fun v11 =>
    T.next 0 [Value.int IntKind.i64 (IntKind.wrap IntKind.i64 (i6 + 1))]
    ([Value.pointer (some (Addr.mk n3 0 none)), Value.slice o0 n1 n2, Value.int IntKind.i64 (↑n1 : Int)] =
    [Value.pointer (some (Addr.mk n3 0 none)), Value.slice o0 n1 n2, Value.int IntKind.i64 (↑n1 : Int)] ∧ ([] : List Deferred) = []))))))
    (T.call 27 [Value.pointer (some (Addr.mk n3 0 none))] fun v12 => T.asT v12 fun s13 => T.ret (Value.string s13)))
theorem e12 (o0 : Option Addr) (n1 n2 : Nat) : treeOf Tryz.prog Tryz.f12 (codeOf Tryz.f12) (.s .n (.s .n (.s .n (.s (.s .n (.u (.l [(11, .int .i64)] [3, 9, 10] .n))) .n)))) [.v (.slice o0 n1 n2)] = (t12 o0 n1 n2) := by kernel_rfl
theorem c12 (o0 : Option Addr) (n1 n2 : Nat) {w : World} {R : Ending → World → Prop} (h : (t12 o0 n1 n2).sem Tryz.prog R ρ0 w) : Calls Tryz.prog 12 #[.slice o0 n1 n2] w R :=
  calls_of mixed Tryz.func12 rfl rfl (e12 o0 n1 n2) h
def t84 (o0 : Option Addr) (n1 n2 : Nat) : T :=
  T.ite ((↑n1 : Int) == 0) (T.ret (Value.string (ByteArray.mk (Array.mk [OfNat.ofNat 45]))))
  (T.loop 0 [Value.slice none 0 0, Value.int IntKind.i64 0] fun l3 j4 =>
    T.asS (List.headD l3 (Value.tuple (Array.mk []))) fun o5 n6 n7 =>
    T.asI IntKind.i64 (List.headD (List.tail l3) (Value.tuple (Array.mk []))) fun i8 =>
    T.ite (decide (i8 < (↑n1 : Int)))
    (T.drew
    (T.req (0 ≤ i8 ∧ i8 < (↑n1 : Int))
    (T.sm o0 fun n9 n10 =>
    T.ldI IntKind.u8 n9 (n10 + Int.toNat i8 * 1) fun i11 =>
    T.req ((16 : Int) ≠ 0)
    (T.req (0 ≤ IntKind.wrap IntKind.u8 (Int.tdiv i11 16) ∧ IntKind.wrap IntKind.u8 (Int.tdiv i11 16) < 16)
    (T.req (0 ≤ i8 ∧ i8 < (↑n1 : Int))
    (T.sm o0 fun n12 n13 =>
    T.ldI IntKind.u8 n12 (n13 + Int.toNat i8 * 1) fun i14 =>
    T.req ((16 : Int) ≠ 0)
    (T.req (0 ≤ Int.tmod i14 16 ∧ Int.tmod i14 16 < 16)
    (T.new
    (Obj.cells
    (Array.mk
    [Value.int IntKind.u8
    (↑(UInt8.toNat
    (Array.getD
    (Array.mk
    [OfNat.ofNat 48, OfNat.ofNat 49, OfNat.ofNat 50, OfNat.ofNat 51, OfNat.ofNat 52, OfNat.ofNat 53,
    OfNat.ofNat 54, OfNat.ofNat 55, OfNat.ofNat 56, OfNat.ofNat 57, OfNat.ofNat 97, OfNat.ofNat 98,
    OfNat.ofNat 99, OfNat.ofNat 100, OfNat.ofNat 101, OfNat.ofNat 102])
    (Int.toNat (IntKind.wrap IntKind.u8 (Int.tdiv i11 16))) (OfNat.ofNat 0))) :
    Int),
    Value.int IntKind.u8
    (↑(UInt8.toNat
    (Array.getD
    (Array.mk
    [OfNat.ofNat 48, OfNat.ofNat 49, OfNat.ofNat 50, OfNat.ofNat 51, OfNat.ofNat 52, OfNat.ofNat 53,
    OfNat.ofNat 54, OfNat.ofNat 55, OfNat.ofNat 56, OfNat.ofNat 57, OfNat.ofNat 97, OfNat.ofNat 98,
    OfNat.ofNat 99, OfNat.ofNat 100, OfNat.ofNat 101, OfNat.ofNat 102])
    (Int.toNat (Int.tmod i14 16)) (OfNat.ofNat 0))) :
    Int)])
    5)
    fun n15 =>
    T.chk
    [(Addr.mk n12 (n13 + Int.toNat i8 * 1) none, Value.int IntKind.u8 i14),
    (Addr.mk n9 (n10 + Int.toNat i8 * 1) none, Value.int IntKind.u8 i11)]
    (T.run
    (biV Builtin.append (Array.mk [35, 35]) 35 (Array.mk [Value.slice o5 n6 n7, Value.slice (some (Addr.mk n15 0 none)) 2 2]))
    fun v16 =>
    T.asS v16 fun o17 n18 n19 =>
    T.chk
    [(Addr.mk n12 (n13 + Int.toNat i8 * 1) none, Value.int IntKind.u8 i14),
    (Addr.mk n9 (n10 + Int.toNat i8 * 1) none, Value.int IntKind.u8 i11)]
    (T.next 0 [Value.slice o17 n18 n19, Value.int IntKind.i64 (IntKind.wrap IntKind.i64 (i8 + 1))]
    ([Value.slice o0 n1 n2] = [Value.slice o0 n1 n2] ∧ ([] : List Deferred) = [])))))))))))
    (T.run (convert 35 9 (Value.slice o5 n6 n7)) fun v20 => T.asT v20 fun s21 => T.ret (Value.string s21)))
theorem e84 (o0 : Option Addr) (n1 n2 : Nat) : treeOf Tryz.prog Tryz.f84 (codeOf Tryz.f84) (.s .n (.s .n (.s .n (.s (.s .n (.u (.l [(3, .slice), (4, .int .i64)] [0] (.s .n (.s (.u (.p [0, 1, 2, 3, 4, 5, 6, 7, 8, 9, 10, 11, 12, 13, 14, 15])) .n))))) .n)))) [.v (.slice o0 n1 n2)] = (t84 o0 n1 n2) := by kernel_rfl
theorem c84 (o0 : Option Addr) (n1 n2 : Nat) {w : World} {R : Ending → World → Prop} (h : (t84 o0 n1 n2).sem Tryz.prog R ρ0 w) : Calls Tryz.prog 84 #[.slice o0 n1 n2] w R :=
  calls_of mixed Tryz.func84 rfl rfl (e84 o0 n1 n2) h
def t25 (i0 : Int) (i1 : Int) : T :=
  T.call 51 [Value.int IntKind.u64 i0, Value.int IntKind.i64 i1] fun v2 => T.asT v2 fun s3 => T.ret (Value.string s3)
theorem e25 (i0 : Int) (i1 : Int) : treeOf Tryz.prog Tryz.f25 (codeOf Tryz.f25) .n [.v (.int .u64 i0), .v (.int .i64 i1)] = (t25 i0 i1) := by kernel_rfl
theorem c25 (i0 : Int) (i1 : Int) {w : World} {R : Ending → World → Prop} (h : (t25 i0 i1).sem Tryz.prog R ρ0 w) : Calls Tryz.prog 25 #[.int .u64 i0, .int .i64 i1] w R :=
  calls_of mixed Tryz.func25 rfl rfl (e25 i0 i1) h
def t51 (i0 : Int) (i1 : Int) : T :=
  T.ite (i1 == 10)
  (T.ite (decide (i0 < 100)) (T.call 76 [Value.int IntKind.i64 (IntKind.wrap IntKind.i64 i0)] fun v2 => T.asT v2 fun s3 => T.ret (Value.string s3))
    (T.new
    (Obj.cells
    (Array.mk
    [Value.int IntKind.u8 0, Value.int IntKind.u8 0, Value.int IntKind.u8 0, Value.int IntKind.u8 0, Value.int IntKind.u8 0, Value.int IntKind.u8 0,
    Value.int IntKind.u8 0, Value.int IntKind.u8 0, Value.int IntKind.u8 0, Value.int IntKind.u8 0, Value.int IntKind.u8 0, Value.int IntKind.u8 0,
    Value.int IntKind.u8 0, Value.int IntKind.u8 0, Value.int IntKind.u8 0, Value.int IntKind.u8 0, Value.int IntKind.u8 0, Value.int IntKind.u8 0,
    Value.int IntKind.u8 0, Value.int IntKind.u8 0, Value.int IntKind.u8 0, Value.int IntKind.u8 0, Value.int IntKind.u8 0, Value.int IntKind.u8 0])
    124)
    fun n4 =>
    T.call 77 [Value.int IntKind.u64 i0] fun v5 =>
    T.asI IntKind.i64 v5 fun i6 =>
    T.req (0 ≤ i6 ∧ i6 ≤ 24)
    (T.call 78 [Value.slice (some (Addr.mk n4 0 none)) (Int.toNat i6) 24, Value.int IntKind.u64 i0] fun v7 =>
    T.req (0 ≤ i6 ∧ i6 ≤ 24)
    (T.run (convert 35 9 (Value.slice (some (Addr.mk n4 0 none)) (Int.toNat i6) 24)) fun v8 => T.asT v8 fun s9 => T.ret (Value.string s9)))))
  (T.call2 79 [Value.slice none 0 0, Value.int IntKind.u64 i0, Value.int IntKind.i64 i1, Value.bool false, Value.bool false]
    (fun v10 =>
    T.asU v10 fun l11 =>
    T.req (List.length l11 = 2)
    (T.asS (List.headD l11 (Value.tuple (Array.mk []))) fun o12 n13 n14 =>
    T.asT (List.headD (List.tail l11) (Value.tuple (Array.mk []))) fun s15 => T.ret (Value.string s15)))
    fun v16 => T.pan v16)
theorem e51 (i0 : Int) (i1 : Int) : treeOf Tryz.prog Tryz.f51 (codeOf Tryz.f51) .n [.v (.int .u64 i0), .v (.int .i64 i1)] = (t51 i0 i1) := by kernel_rfl
theorem c51 (i0 : Int) (i1 : Int) {w : World} {R : Ending → World → Prop} (h : (t51 i0 i1).sem Tryz.prog R ρ0 w) : Calls Tryz.prog 51 #[.int .u64 i0, .int .i64 i1] w R :=
  calls_of mixed Tryz.func51 rfl rfl (e51 i0 i1) h
def t80 (i0 : Int) (i1 : Int) (o2 : Option Addr) (n3 n4 : Nat) (o5 : Option Addr) (n6 n7 : Nat) (o8 : Option Addr) (n9 n10 : Nat) (o11 : Option Addr) (n12 n13 : Nat) : T :=
  T.new
  (Obj.cells
    (Array.mk [Value.int IntKind.i64 i0, Value.int IntKind.i64 i1, Value.slice o2 n3 n4, Value.slice o5 n6 n7, Value.slice o8 n9 n10, Value.slice o11 n12 n13])
    52)
  fun n14 =>
  T.blk 0
    (fun l15 j16 =>
    T.drew
    (T.ldS n14 2 fun o17 n18 n19 =>
    T.ldS n14 3 fun o20 n21 n22 =>
    T.call 12 [Value.slice o17 n18 n19] fun v23 =>
    T.asT v23 fun s24 =>
    T.chk [(Addr.mk n14 3 none, Value.slice o20 n21 n22)]
    (T.call 24 [Value.int IntKind.i64 (↑n21 : Int)] fun v25 =>
    T.asT v25 fun s26 =>
    T.chk [(Addr.mk n14 3 none, Value.slice o20 n21 n22)]
    (T.new
    (Obj.cells
    (Array.mk
    [Value.string (ByteArray.mk (Array.mk [OfNat.ofNat 99, OfNat.ofNat 111, OfNat.ofNat 100, OfNat.ofNat 101])), Value.string s24,
    Value.string (ByteArray.mk (Array.mk [OfNat.ofNat 97, OfNat.ofNat 114, OfNat.ofNat 103, OfNat.ofNat 115])), Value.string s26])
    9)
    fun n27 =>
    T.chk [(Addr.mk n14 3 none, Value.slice o20 n21 n22)]
    (T.ldS n14 3 fun o28 n29 n30 =>
    T.loop 0 [Value.slice (some (Addr.mk n27 0 none)) 4 4, Value.int IntKind.i64 0] fun l31 j32 =>
    T.asS (List.headD l31 (Value.tuple (Array.mk []))) fun o33 n34 n35 =>
    T.asI IntKind.i64 (List.headD (List.tail l31) (Value.tuple (Array.mk []))) fun i36 =>
    T.ite (decide (i36 < (↑n29 : Int)))
    (T.req (0 ≤ i36 ∧ i36 < (↑n29 : Int))
    (T.sm o28 fun n37 n38 =>
    T.ldI IntKind.i64 n37 (n38 + Int.toNat i36 * 1) fun i39 =>
    T.call 99 [Value.int IntKind.i64 i39] fun v40 =>
    T.asT v40 fun s41 =>
    T.new (Obj.cells (Array.mk [Value.string s41]) 9) fun n42 =>
    T.run
    (biV Builtin.append (Array.mk [45, 45]) 45
    (Array.mk [Value.slice o33 n34 n35, Value.slice (some (Addr.mk n42 0 none)) 1 1]))
    fun v43 =>
    T.asS v43 fun o44 n45 n46 =>
    T.next 0 [Value.slice o44 n45 n46, Value.int IntKind.i64 (IntKind.wrap IntKind.i64 (i36 + 1))]
    ([Value.pointer (some (Addr.mk n14 0 none)), Value.slice o28 n29 n30,
    Value.int IntKind.i64 (↑n29 : Int)] =
    [Value.pointer (some (Addr.mk n14 0 none)), Value.slice o28 n29 n30,
    Value.int IntKind.i64 (↑n29 : Int)] ∧ ([] : List Deferred) = [])))
    (T.drew
    (T.ldS n14 4 fun o47 n48 n49 =>
    T.ldS n14 5 fun o50 n51 n52 =>
    T.call 81 [Value.slice o47 n48 n49] fun v53 =>
    T.asT v53 fun s54 =>
    T.chk [(Addr.mk n14 5 none, Value.slice o50 n51 n52)]
    (T.call 81 [Value.slice o50 n51 n52] fun v55 =>
    T.asT v55 fun s56 =>
    T.chk []
    (T.new
    (Obj.cells
    (Array.mk
    [Value.string
    (ByteArray.mk
    (Array.mk
    [OfNat.ofNat 114, OfNat.ofNat 101, OfNat.ofNat 97, OfNat.ofNat 100, OfNat.ofNat 115])),
    Value.string s54,
    Value.string
    (ByteArray.mk
    (Array.mk
    [OfNat.ofNat 119, OfNat.ofNat 114, OfNat.ofNat 105, OfNat.ofNat 116, OfNat.ofNat 101,
    OfNat.ofNat 115])),
    Value.string s56])
    9)
    fun n57 =>
    T.chk []
    (T.run
    (biV Builtin.append (Array.mk [45, 45]) 45
    (Array.mk [Value.slice o33 n34 n35, Value.slice (some (Addr.mk n57 0 none)) 4 4]))
    fun v58 =>
    T.asS v58 fun o59 n60 n61 =>
    T.chk []
    (T.call 23 [Value.slice o59 n60 n61] fun v62 =>
    T.asT v62 fun s63 =>
    T.chk []
    (T.ret (Value.tuple (Array.mk [Value.string s63, Value.int IntKind.i64 0]))))))))))))))
    (T.ldI IntKind.i64 n14 0 fun i64 =>
    T.ite (i64 != 0) (T.ret (Value.tuple (Array.mk [Value.string (ByteArray.mk (Array.mk [])), Value.int IntKind.i64 1])))
    (T.ldI IntKind.i64 n14 1 fun i65 =>
    T.ite (i65 != 0) (T.ret (Value.tuple (Array.mk [Value.string (ByteArray.mk (Array.mk [])), Value.int IntKind.i64 1])))
    (T.next 0 [] ([Value.pointer (some (Addr.mk n14 0 none))] = [Value.pointer (some (Addr.mk n14 0 none))] ∧ ([] : List Deferred) = []))))
theorem e80 (i0 : Int) (i1 : Int) (o2 : Option Addr) (n3 n4 : Nat) (o5 : Option Addr) (n6 n7 : Nat) (o8 : Option Addr) (n9 n10 : Nat) (o11 : Option Addr) (n12 n13 : Nat) : treeOf Tryz.prog Tryz.f80 (codeOf Tryz.f80) (.s .n (.c [] [1] .n (.s (.p [0, 1, 3, 4, 5, 2, 6, 7, 8]) (.s (.s .n (.u (.l [(4, .slice), (26, .int .i64)] [1, 24, 25] .n))) (.s (.p [0, 1, 2, 4, 5, 3, 6, 7, 8, 9, 10, 11]) .n))))) [.v (.agg #[.int .i64 i0, .int .i64 i1, .slice o2 n3 n4, .slice o5 n6 n7, .slice o8 n9 n10, .slice o11 n12 n13])] = (t80 i0 i1 o2 n3 n4 o5 n6 n7 o8 n9 n10 o11 n12 n13) := by kernel_rfl
theorem c80 (i0 : Int) (i1 : Int) (o2 : Option Addr) (n3 n4 : Nat) (o5 : Option Addr) (n6 n7 : Nat) (o8 : Option Addr) (n9 n10 : Nat) (o11 : Option Addr) (n12 n13 : Nat) {w : World} {R : Ending → World → Prop} (h : (t80 i0 i1 o2 n3 n4 o5 n6 n7 o8 n9 n10 o11 n12 n13).sem Tryz.prog R ρ0 w) : Calls Tryz.prog 80 #[.agg #[.int .i64 i0, .int .i64 i1, .slice o2 n3 n4, .slice o5 n6 n7, .slice o8 n9 n10, .slice o11 n12 n13]] w R :=
  calls_of mixed Tryz.func80 rfl rfl (e80 i0 i1 o2 n3 n4 o5 n6 n7 o8 n9 n10 o11 n12 n13) h
def t56 (i0 : Int) (i1 : Int) (o2 : Option Addr) (n3 n4 : Nat) (o5 : Option Addr) (n6 n7 : Nat) (o8 : Option Addr) (n9 n10 : Nat) (o11 : Option Addr) (n12 n13 : Nat) : T :=
  T.new
  (Obj.cells
    (Array.mk [Value.int IntKind.i64 i0, Value.int IntKind.i64 i1, Value.slice o2 n3 n4, Value.slice o5 n6 n7, Value.slice o8 n9 n10, Value.slice o11 n12 n13])
    52)
  fun n14 =>
  T.blk 0
    (fun l15 j16 =>
    T.drew
    (T.ldS n14 2 fun o17 n18 n19 =>
    T.ldS n14 3 fun o20 n21 n22 =>
    T.call 84 [Value.slice o17 n18 n19] fun v23 =>
    T.asT v23 fun s24 =>
    T.chk [(Addr.mk n14 3 none, Value.slice o20 n21 n22)]
    (T.req (5 + ByteArray.size s24 ≤ 9223372036854775807)
    (T.req
    (ByteArray.size (ByteArray.mk (Array.mk [OfNat.ofNat 99, OfNat.ofNat 111, OfNat.ofNat 100, OfNat.ofNat 101, OfNat.ofNat 32]) ++ s24) + 6 ≤
    9223372036854775807)
    (T.call 54 [Value.int IntKind.i64 (↑n21 : Int)] fun v25 =>
    T.asT v25 fun s26 =>
    T.chk [(Addr.mk n14 3 none, Value.slice o20 n21 n22)]
    (T.req
    (ByteArray.size
    (ByteArray.mk (Array.mk [OfNat.ofNat 99, OfNat.ofNat 111, OfNat.ofNat 100, OfNat.ofNat 101, OfNat.ofNat 32]) ++ s24 ++
    ByteArray.mk
    (Array.mk [OfNat.ofNat 32, OfNat.ofNat 97, OfNat.ofNat 114, OfNat.ofNat 103, OfNat.ofNat 115, OfNat.ofNat 32])) +
    ByteArray.size s26 ≤
    9223372036854775807)
    (T.loop 0
    [Value.string
    (ByteArray.mk (Array.mk [OfNat.ofNat 99, OfNat.ofNat 111, OfNat.ofNat 100, OfNat.ofNat 101, OfNat.ofNat 32]) ++ s24 ++
    ByteArray.mk
    (Array.mk [OfNat.ofNat 32, OfNat.ofNat 97, OfNat.ofNat 114, OfNat.ofNat 103, OfNat.ofNat 115, OfNat.ofNat 32]) ++
    s26),
    Value.int IntKind.i64 0]
    fun l27 j28 =>
    T.asT (List.headD l27 (Value.tuple (Array.mk []))) fun s29 =>
    T.asI IntKind.i64 (List.headD (List.tail l27) (Value.tuple (Array.mk []))) fun i30 =>
    T.ldS n14 3 fun o31 n32 n33 =>
    T.ite (decide (i30 < (↑n32 : Int)))
    (T.ldS n14 3 fun o34 n35 n36 =>
    T.req (0 ≤ i30 ∧ i30 < (↑n35 : Int))
    (T.sm o34 fun n37 n38 =>
    T.ldI IntKind.i64 n37 (n38 + Int.toNat i30 * 1) fun i39 =>
    T.call 82 [Value.int IntKind.i64 i39] fun v40 =>
    T.asT v40 fun s41 =>
    T.req (1 + ByteArray.size s41 ≤ 9223372036854775807)
    (T.req
    (ByteArray.size s29 + ByteArray.size (ByteArray.mk (Array.mk [OfNat.ofNat 32]) ++ s41) ≤
    9223372036854775807)
    (T.next 0
    [Value.string (s29 ++ (ByteArray.mk (Array.mk [OfNat.ofNat 32]) ++ s41)),
    Value.int IntKind.i64 (IntKind.wrap IntKind.i64 (i30 + 1))]
    ([Value.pointer (some (Addr.mk n14 0 none))] = [Value.pointer (some (Addr.mk n14 0 none))] ∧ ([] : List Deferred) = [])))))
    (T.drew
    (T.req (ByteArray.size s29 + 7 ≤ 9223372036854775807)
    (T.ldS n14 4 fun o42 n43 n44 =>
    T.ldS n14 5 fun o45 n46 n47 =>
    T.call 57 [Value.slice o42 n43 n44] fun v48 =>
    T.asT v48 fun s49 =>
    T.chk [(Addr.mk n14 5 none, Value.slice o45 n46 n47)]
    (T.req
    (ByteArray.size
    (s29 ++
    ByteArray.mk
    (Array.mk
    [OfNat.ofNat 32, OfNat.ofNat 114, OfNat.ofNat 101, OfNat.ofNat 97, OfNat.ofNat 100,
    OfNat.ofNat 115, OfNat.ofNat 32])) +
    ByteArray.size s49 ≤
    9223372036854775807)
    (T.req
    (ByteArray.size
    (s29 ++
    ByteArray.mk
    (Array.mk
    [OfNat.ofNat 32, OfNat.ofNat 114, OfNat.ofNat 101, OfNat.ofNat 97, OfNat.ofNat 100,
    OfNat.ofNat 115, OfNat.ofNat 32]) ++
    s49) +
    8 ≤
    9223372036854775807)
    (T.call 57 [Value.slice o45 n46 n47] fun v50 =>
    T.asT v50 fun s51 =>
    T.chk []
    (T.req
    (ByteArray.size
    (s29 ++
    ByteArray.mk
    (Array.mk
    [OfNat.ofNat 32, OfNat.ofNat 114, OfNat.ofNat 101, OfNat.ofNat 97,
    OfNat.ofNat 100, OfNat.ofNat 115, OfNat.ofNat 32]) ++
    s49 ++
    ByteArray.mk
    (Array.mk
    [OfNat.ofNat 32, OfNat.ofNat 119, OfNat.ofNat 114, OfNat.ofNat 105,
    OfNat.ofNat 116, OfNat.ofNat 101, OfNat.ofNat 115, OfNat.ofNat 32])) +
    ByteArray.size s51 ≤
    9223372036854775807)
    (T.ret
    (Value.tuple
    (Array.mk
    [Value.string
    (s29 ++
    ByteArray.mk
    (Array.mk
    [OfNat.ofNat 32, OfNat.ofNat 114, OfNat.ofNat 101, OfNat.ofNat 97,
    OfNat.ofNat 100, OfNat.ofNat 115, OfNat.ofNat 32]) ++
    s49 ++
    ByteArray.mk
    (Array.mk
    [OfNat.ofNat 32, OfNat.ofNat 119, OfNat.ofNat 114, OfNat.ofNat 105,
    OfNat.ofNat 116, OfNat.ofNat 101, OfNat.ofNat 115, OfNat.ofNat 32]) ++
    s51),
    Value.int IntKind.i64 0])))))))))))))))))
    (T.ldI IntKind.i64 n14 0 fun i52 =>
    T.ite (i52 != 0) (T.ret (Value.tuple (Array.mk [Value.string (ByteArray.mk (Array.mk [])), Value.int IntKind.i64 1])))
    (T.ldI IntKind.i64 n14 1 fun i53 =>
    T.ite (i53 != 0) (T.ret (Value.tuple (Array.mk [Value.string (ByteArray.mk (Array.mk [])), Value.int IntKind.i64 1])))
    (T.next 0 [] ([Value.pointer (some (Addr.mk n14 0 none))] = [Value.pointer (some (Addr.mk n14 0 none))] ∧ ([] : List Deferred) = []))))
theorem e56 (i0 : Int) (i1 : Int) (o2 : Option Addr) (n3 n4 : Nat) (o5 : Option Addr) (n6 n7 : Nat) (o8 : Option Addr) (n9 n10 : Nat) (o11 : Option Addr) (n12 n13 : Nat) : treeOf Tryz.prog Tryz.f56 (codeOf Tryz.f56) (.s .n (.c [] [1] .n (.s (.p [0, 1, 5, 6, 7, 2, 3, 4, 8, 9, 10]) (.s (.s .n (.u (.l [(4, .str), (5, .int .i64)] [1] .n))) (.s (.p [0, 1, 2, 3, 7, 8, 4, 5, 6, 9, 10, 11, 12]) .n))))) [.v (.agg #[.int .i64 i0, .int .i64 i1, .slice o2 n3 n4, .slice o5 n6 n7, .slice o8 n9 n10, .slice o11 n12 n13])] = (t56 i0 i1 o2 n3 n4 o5 n6 n7 o8 n9 n10 o11 n12 n13) := by kernel_rfl
theorem c56 (i0 : Int) (i1 : Int) (o2 : Option Addr) (n3 n4 : Nat) (o5 : Option Addr) (n6 n7 : Nat) (o8 : Option Addr) (n9 n10 : Nat) (o11 : Option Addr) (n12 n13 : Nat) {w : World} {R : Ending → World → Prop} (h : (t56 i0 i1 o2 n3 n4 o5 n6 n7 o8 n9 n10 o11 n12 n13).sem Tryz.prog R ρ0 w) : Calls Tryz.prog 56 #[.agg #[.int .i64 i0, .int .i64 i1, .slice o2 n3 n4, .slice o5 n6 n7, .slice o8 n9 n10, .slice o11 n12 n13]] w R :=
  calls_of mixed Tryz.func56 rfl rfl (e56 i0 i1 o2 n3 n4 o5 n6 n7 o8 n9 n10 o11 n12 n13) h
def t21 (i0 : Int) (i1 : Int) (i2 : Int) (i3 : Int) (i4 : Int) (o5 : Option Addr) (n6 n7 : Nat) (o8 : Option Addr) (n9 n10 : Nat) (o11 : Option Addr) (n12 n13 : Nat) (o14 : Option Addr) (n15 n16 : Nat) (o17 : Option Addr) (n18 n19 : Nat) (i20 : Int) (i21 : Int) (i22 : Int) (i23 : Int) (i24 : Int) (i25 : Int) (i26 : Int) (i27 : Int) (i28 : Int) (i29 : Int) (i30 : Int) (o31 : Option Addr) (n32 n33 : Nat) (o34 : Option Addr) (n35 n36 : Nat) (o37 : Option Addr) (n38 n39 : Nat) (o40 : Option Addr) (n41 n42 : Nat) (o43 : Option Addr) (n44 n45 : Nat) (i46 : Int) (i47 : Int) (i48 : Int) (i49 : Int) (i50 : Int) (i51 : Int) : T :=
  T.new
  (Obj.cells
    (Array.mk
    [Value.int IntKind.i64 i0, Value.int IntKind.i64 i1, Value.int IntKind.i64 i2, Value.int IntKind.i64 i3, Value.int IntKind.i64 i4, Value.slice o5 n6 n7,
    Value.slice o8 n9 n10, Value.slice o11 n12 n13, Value.slice o14 n15 n16, Value.slice o17 n18 n19, Value.int IntKind.i64 i20, Value.int IntKind.i64 i21,
    Value.int IntKind.i64 i22, Value.int IntKind.u8 i23, Value.int IntKind.i64 i24, Value.int IntKind.i64 i25])
    56)
  fun n52 =>
  T.new
    (Obj.cells
    (Array.mk
    [Value.int IntKind.i64 i26, Value.int IntKind.i64 i27, Value.int IntKind.i64 i28, Value.int IntKind.i64 i29, Value.int IntKind.i64 i30,
    Value.slice o31 n32 n33, Value.slice o34 n35 n36, Value.slice o37 n38 n39, Value.slice o40 n41 n42, Value.slice o43 n44 n45,
    Value.int IntKind.i64 i46, Value.int IntKind.i64 i47, Value.int IntKind.i64 i48, Value.int IntKind.u8 i49, Value.int IntKind.i64 i50,
    Value.int IntKind.i64 i51])
    56)
    fun n53 =>
    T.ldI IntKind.i64 n52 0 fun i54 =>
    T.ldI IntKind.i64 n53 0 fun i55 =>
    T.ite (i54 == i55)
    (T.ldI IntKind.i64 n52 1 fun i56 =>
    T.ldI IntKind.i64 n53 1 fun i57 =>
    T.ite (i56 == i57)
    (T.ldI IntKind.i64 n52 2 fun i58 =>
    T.ldI IntKind.i64 n53 2 fun i59 =>
    T.ite (i58 == i59)
    (T.ldI IntKind.i64 n52 3 fun i60 =>
    T.ldI IntKind.i64 n52 4 fun i61 =>
    T.ldS n52 5 fun o62 n63 n64 =>
    T.ldS n52 6 fun o65 n66 n67 =>
    T.ldS n52 7 fun o68 n69 n70 =>
    T.ldS n52 8 fun o71 n72 n73 =>
    T.ldI IntKind.i64 n53 3 fun i74 =>
    T.ldI IntKind.i64 n53 4 fun i75 =>
    T.ldS n53 5 fun o76 n77 n78 =>
    T.ldS n53 6 fun o79 n80 n81 =>
    T.ldS n53 7 fun o82 n83 n84 =>
    T.ldS n53 8 fun o85 n86 n87 =>
    T.call 46
    [Value.agg
    (Array.mk
    [Value.int IntKind.i64 i60, Value.int IntKind.i64 i61, Value.slice o62 n63 n64, Value.slice o65 n66 n67,
    Value.slice o68 n69 n70, Value.slice o71 n72 n73]),
    Value.agg
    (Array.mk
    [Value.int IntKind.i64 i74, Value.int IntKind.i64 i75, Value.slice o76 n77 n78, Value.slice o79 n80 n81,
    Value.slice o82 n83 n84, Value.slice o85 n86 n87])]
    fun v88 =>
    T.asB v88 fun b89 =>
    T.ite b89
    (T.ldS n52 9 fun o90 n91 n92 =>
    T.ldS n53 9 fun o93 n94 n95 =>
    T.call 47 [Value.slice o90 n91 n92, Value.slice o93 n94 n95] fun v96 =>
    T.asB v96 fun b97 =>
    T.ite b97
    (T.ldI IntKind.i64 n52 10 fun i98 =>
    T.ldI IntKind.i64 n52 11 fun i99 =>
    T.ldI IntKind.i64 n53 10 fun i100 =>
    T.ldI IntKind.i64 n53 11 fun i101 =>
    T.ite (i98 == i100 && (i99 == i101 && true))
    (T.ldI IntKind.i64 n52 12 fun i102 =>
    T.ldI IntKind.i64 n53 12 fun i103 =>
    T.ite (i102 == i103)
    (T.ldI IntKind.u8 n52 13 fun i104 =>
    T.ldI IntKind.u8 n53 13 fun i105 =>
    T.ite (i104 == i105)
    (T.ldI IntKind.i64 n52 14 fun i106 =>
    T.ldI IntKind.i64 n53 14 fun i107 =>
    T.ite (i106 == i107)
    (T.ldI IntKind.i64 n52 15 fun i108 =>
    T.ldI IntKind.i64 n53 15 fun i109 =>
    T.ret (Value.bool (i108 == i109)))
    (T.ret (Value.bool false)))
    (T.ret (Value.bool false)))
    (T.ret (Value.bool false)))
    (T.ret (Value.bool false)))
    (T.ret (Value.bool false)))
    (T.ret (Value.bool false)))
    (T.ret (Value.bool false)))
    (T.ret (Value.bool false)))
    (T.ret (Value.bool false))
theorem e21 (i0 : Int) (i1 : Int) (i2 : Int) (i3 : Int) (i4 : Int) (o5 : Option Addr) (n6 n7 : Nat) (o8 : Option Addr) (n9 n10 : Nat) (o11 : Option Addr) (n12 n13 : Nat) (o14 : Option Addr) (n15 n16 : Nat) (o17 : Option Addr) (n18 n19 : Nat) (i20 : Int) (i21 : Int) (i22 : Int) (i23 : Int) (i24 : Int) (i25 : Int) (i26 : Int) (i27 : Int) (i28 : Int) (i29 : Int) (i30 : Int) (o31 : Option Addr) (n32 n33 : Nat) (o34 : Option Addr) (n35 n36 : Nat) (o37 : Option Addr) (n38 n39 : Nat) (o40 : Option Addr) (n41 n42 : Nat) (o43 : Option Addr) (n44 n45 : Nat) (i46 : Int) (i47 : Int) (i48 : Int) (i49 : Int) (i50 : Int) (i51 : Int) : treeOf Tryz.prog Tryz.f21 (codeOf Tryz.f21) .n [.v (.agg #[.int .i64 i0, .int .i64 i1, .int .i64 i2, .int .i64 i3, .int .i64 i4, .slice o5 n6 n7, .slice o8 n9 n10, .slice o11 n12 n13, .slice o14 n15 n16, .slice o17 n18 n19, .int .i64 i20, .int .i64 i21, .int .i64 i22, .int .u8 i23, .int .i64 i24, .int .i64 i25]), .v (.agg #[.int .i64 i26, .int .i64 i27, .int .i64 i28, .int .i64 i29, .int .i64 i30, .slice o31 n32 n33, .slice o34 n35 n36, .slice o37 n38 n39, .slice o40 n41 n42, .slice o43 n44 n45, .int .i64 i46, .int .i64 i47, .int .i64 i48, .int .u8 i49, .int .i64 i50, .int .i64 i51])] = (t21 i0 i1 i2 i3 i4 o5 n6 n7 o8 n9 n10 o11 n12 n13 o14 n15 n16 o17 n18 n19 i20 i21 i22 i23 i24 i25 i26 i27 i28 i29 i30 o31 n32 n33 o34 n35 n36 o37 n38 n39 o40 n41 n42 o43 n44 n45 i46 i47 i48 i49 i50 i51) := by kernel_rfl
theorem c21 (i0 : Int) (i1 : Int) (i2 : Int) (i3 : Int) (i4 : Int) (o5 : Option Addr) (n6 n7 : Nat) (o8 : Option Addr) (n9 n10 : Nat) (o11 : Option Addr) (n12 n13 : Nat) (o14 : Option Addr) (n15 n16 : Nat) (o17 : Option Addr) (n18 n19 : Nat) (i20 : Int) (i21 : Int) (i22 : Int) (i23 : Int) (i24 : Int) (i25 : Int) (i26 : Int) (i27 : Int) (i28 : Int) (i29 : Int) (i30 : Int) (o31 : Option Addr) (n32 n33 : Nat) (o34 : Option Addr) (n35 n36 : Nat) (o37 : Option Addr) (n38 n39 : Nat) (o40 : Option Addr) (n41 n42 : Nat) (o43 : Option Addr) (n44 n45 : Nat) (i46 : Int) (i47 : Int) (i48 : Int) (i49 : Int) (i50 : Int) (i51 : Int) {w : World} {R : Ending → World → Prop} (h : (t21 i0 i1 i2 i3 i4 o5 n6 n7 o8 n9 n10 o11 n12 n13 o14 n15 n16 o17 n18 n19 i20 i21 i22 i23 i24 i25 i26 i27 i28 i29 i30 o31 n32 n33 o34 n35 n36 o37 n38 n39 o40 n41 n42 o43 n44 n45 i46 i47 i48 i49 i50 i51).sem Tryz.prog R ρ0 w) : Calls Tryz.prog 21 #[.agg #[.int .i64 i0, .int .i64 i1, .int .i64 i2, .int .i64 i3, .int .i64 i4, .slice o5 n6 n7, .slice o8 n9 n10, .slice o11 n12 n13, .slice o14 n15 n16, .slice o17 n18 n19, .int .i64 i20, .int .i64 i21, .int .i64 i22, .int .u8 i23, .int .i64 i24, .int .i64 i25], .agg #[.int .i64 i26, .int .i64 i27, .int .i64 i28, .int .i64 i29, .int .i64 i30, .slice o31 n32 n33, .slice o34 n35 n36, .slice o37 n38 n39, .slice o40 n41 n42, .slice o43 n44 n45, .int .i64 i46, .int .i64 i47, .int .i64 i48, .int .u8 i49, .int .i64 i50, .int .i64 i51]] w R :=
  calls_of mixed Tryz.func21 rfl rfl (e21 i0 i1 i2 i3 i4 o5 n6 n7 o8 n9 n10 o11 n12 n13 o14 n15 n16 o17 n18 n19 i20 i21 i22 i23 i24 i25 i26 i27 i28 i29 i30 o31 n32 n33 o34 n35 n36 o37 n38 n39 o40 n41 n42 o43 n44 n45 i46 i47 i48 i49 i50 i51) h
def t53 (i0 : Int) (i1 : Int) (i2 : Int) (i3 : Int) (i4 : Int) (o5 : Option Addr) (n6 n7 : Nat) (o8 : Option Addr) (n9 n10 : Nat) (o11 : Option Addr) (n12 n13 : Nat) (o14 : Option Addr) (n15 n16 : Nat) (o17 : Option Addr) (n18 n19 : Nat) (i20 : Int) (i21 : Int) (i22 : Int) (i23 : Int) (i24 : Int) (i25 : Int) : T :=
  T.new
  (Obj.cells
    (Array.mk
    [Value.int IntKind.i64 i0, Value.int IntKind.i64 i1, Value.int IntKind.i64 i2, Value.int IntKind.i64 i3, Value.int IntKind.i64 i4, Value.slice o5 n6 n7,
    Value.slice o8 n9 n10, Value.slice o11 n12 n13, Value.slice o14 n15 n16, Value.slice o17 n18 n19, Value.int IntKind.i64 i20, Value.int IntKind.i64 i21,
    Value.int IntKind.i64 i22, Value.int IntKind.u8 i23, Value.int IntKind.i64 i24, Value.int IntKind.i64 i25])
    56)
  fun n26 =>
  T.ldI IntKind.i64 n26 3 fun i27 =>
    T.ldI IntKind.i64 n26 4 fun i28 =>
    T.ldS n26 5 fun o29 n30 n31 =>
    T.ldS n26 6 fun o32 n33 n34 =>
    T.ldS n26 7 fun o35 n36 n37 =>
    T.ldS n26 8 fun o38 n39 n40 =>
    T.new
    (Obj.cells
    (Array.mk
    [Value.int IntKind.i64 0, Value.int IntKind.i64 0, Value.slice none 0 0, Value.slice none 0 0, Value.slice none 0 0, Value.slice none 0 0])
    52)
    fun n41 =>
    T.st n41 0 (Value.int IntKind.i64 i27)
    (T.st n41 1 (Value.int IntKind.i64 i28)
    (T.st n41 2 (Value.slice o29 n30 n31)
    (T.st n41 3 (Value.slice o32 n33 n34)
    (T.st n41 4 (Value.slice o35 n36 n37)
    (T.st n41 5 (Value.slice o38 n39 n40)
    (T.ldI IntKind.i64 n26 1 fun i42 =>
    T.ite (i42 == 0)
    (T.ldI IntKind.i64 n26 2 fun i43 =>
    T.ite (i43 == 0)
    (T.ldI IntKind.i64 n41 0 fun i44 =>
    T.ite (i44 == 0)
    (T.ldI IntKind.i64 n41 1 fun i45 =>
    T.ite (i45 == 0)
    (T.ldS n41 2 fun o46 n47 n48 =>
    T.ldS n41 3 fun o49 n50 n51 =>
    T.ldS n41 4 fun o52 n53 n54 =>
    T.ldS n41 5 fun o55 n56 n57 =>
    T.ldS n26 9 fun o58 n59 n60 =>
    T.ite
    (IntKind.wrap IntKind.i64
    (IntKind.wrap IntKind.i64
    (IntKind.wrap IntKind.i64
    (IntKind.wrap IntKind.i64 ((↑n47 : Int) + (↑n50 : Int)) + (↑n53 : Int)) +
    (↑n56 : Int)) +
    (↑n59 : Int)) ==
    0)
    (T.ldI IntKind.i64 n26 10 fun i61 =>
    T.ldI IntKind.i64 n26 11 fun i62 =>
    T.ite (i61 == 0 && (i62 == 0 && true))
    (T.ldI IntKind.i64 n26 12 fun i63 =>
    T.ite (i63 == 0)
    (T.ldI IntKind.u8 n26 13 fun i64 =>
    T.ite (i64 == 0)
    (T.ldI IntKind.i64 n26 14 fun i65 =>
    T.ite (i65 == 0) (T.ldI IntKind.i64 n26 15 fun i66 => T.ret (Value.bool (i66 == 0)))
    (T.ret (Value.bool false)))
    (T.ret (Value.bool false)))
    (T.ret (Value.bool false)))
    (T.ret (Value.bool false)))
    (T.ret (Value.bool false)))
    (T.ret (Value.bool false)))
    (T.ret (Value.bool false)))
    (T.ret (Value.bool false)))
    (T.ret (Value.bool false))))))))
theorem e53 (i0 : Int) (i1 : Int) (i2 : Int) (i3 : Int) (i4 : Int) (o5 : Option Addr) (n6 n7 : Nat) (o8 : Option Addr) (n9 n10 : Nat) (o11 : Option Addr) (n12 n13 : Nat) (o14 : Option Addr) (n15 n16 : Nat) (o17 : Option Addr) (n18 n19 : Nat) (i20 : Int) (i21 : Int) (i22 : Int) (i23 : Int) (i24 : Int) (i25 : Int) : treeOf Tryz.prog Tryz.f53 (codeOf Tryz.f53) .n [.v (.agg #[.int .i64 i0, .int .i64 i1, .int .i64 i2, .int .i64 i3, .int .i64 i4, .slice o5 n6 n7, .slice o8 n9 n10, .slice o11 n12 n13, .slice o14 n15 n16, .slice o17 n18 n19, .int .i64 i20, .int .i64 i21, .int .i64 i22, .int .u8 i23, .int .i64 i24, .int .i64 i25])] = (t53 i0 i1 i2 i3 i4 o5 n6 n7 o8 n9 n10 o11 n12 n13 o14 n15 n16 o17 n18 n19 i20 i21 i22 i23 i24 i25) := by kernel_rfl
theorem c53 (i0 : Int) (i1 : Int) (i2 : Int) (i3 : Int) (i4 : Int) (o5 : Option Addr) (n6 n7 : Nat) (o8 : Option Addr) (n9 n10 : Nat) (o11 : Option Addr) (n12 n13 : Nat) (o14 : Option Addr) (n15 n16 : Nat) (o17 : Option Addr) (n18 n19 : Nat) (i20 : Int) (i21 : Int) (i22 : Int) (i23 : Int) (i24 : Int) (i25 : Int) {w : World} {R : Ending → World → Prop} (h : (t53 i0 i1 i2 i3 i4 o5 n6 n7 o8 n9 n10 o11 n12 n13 o14 n15 n16 o17 n18 n19 i20 i21 i22 i23 i24 i25).sem Tryz.prog R ρ0 w) : Calls Tryz.prog 53 #[.agg #[.int .i64 i0, .int .i64 i1, .int .i64 i2, .int .i64 i3, .int .i64 i4, .slice o5 n6 n7, .slice o8 n9 n10, .slice o11 n12 n13, .slice o14 n15 n16, .slice o17 n18 n19, .int .i64 i20, .int .i64 i21, .int .i64 i22, .int .u8 i23, .int .i64 i24, .int .i64 i25]] w R :=
  calls_of mixed Tryz.func53 rfl rfl (e53 i0 i1 i2 i3 i4 o5 n6 n7 o8 n9 n10 o11 n12 n13 o14 n15 n16 o17 n18 n19 i20 i21 i22 i23 i24 i25) h
def t46 (i0 : Int) (i1 : Int) (o2 : Option Addr) (n3 n4 : Nat) (o5 : Option Addr) (n6 n7 : Nat) (o8 : Option Addr) (n9 n10 : Nat) (o11 : Option Addr) (n12 n13 : Nat) (i14 : Int) (i15 : Int) (o16 : Option Addr) (n17 n18 : Nat) (o19 : Option Addr) (n20 n21 : Nat) (o22 : Option Addr) (n23 n24 : Nat) (o25 : Option Addr) (n26 n27 : Nat) : T :=
  T.new
  (Obj.cells
    (Array.mk [Value.int IntKind.i64 i0, Value.int IntKind.i64 i1, Value.slice o2 n3 n4, Value.slice o5 n6 n7, Value.slice o8 n9 n10, Value.slice o11 n12 n13])
    52)
  fun n28 =>
  T.new
    (Obj.cells
    (Array.mk
    [Value.int IntKind.i64 i14, Value.int IntKind.i64 i15, Value.slice o16 n17 n18, Value.slice o19 n20 n21, Value.slice o22 n23 n24,
    Value.slice o25 n26 n27])
    52)
    fun n29 =>
    T.blk 0
    (fun l30 j31 =>
    T.loop 0 [Value.int IntKind.i64 0] fun l32 j33 =>
    T.asI IntKind.i64 (List.headD l32 (Value.tuple (Array.mk []))) fun i34 =>
    T.ldS n28 2 fun o35 n36 n37 =>
    T.ite (decide (i34 < (↑n36 : Int)))
    (T.drew
    (T.ldS n28 2 fun o38 n39 n40 =>
    T.req (0 ≤ i34 ∧ i34 < (↑n39 : Int))
    (T.sm o38 fun n41 n42 =>
    T.ldI IntKind.u8 n41 (n42 + Int.toNat i34 * 1) fun i43 =>
    T.ldS n29 2 fun o44 n45 n46 =>
    T.req (0 ≤ i34 ∧ i34 < (↑n45 : Int))
    (T.sm o44 fun n47 n48 =>
    T.ldI IntKind.u8 n47 (n48 + Int.toNat i34 * 1) fun i49 =>
    T.ite (i43 != i49) (T.ret (Value.bool false))
    (T.next 0 [Value.int IntKind.i64 (IntKind.wrap IntKind.i64 (i34 + 1))]
    ([Value.pointer (some (Addr.mk n28 0 none)), Value.pointer (some (Addr.mk n29 0 none))] =
    [Value.pointer (some (Addr.mk n28 0 none)), Value.pointer (some (Addr.mk n29 0 none))] ∧ ([] : List Deferred) = []))))))
    (T.ldS n28 4 fun o50 n51 n52 =>
    T.ldS n29 4 fun o53 n54 n55 =>
    T.call 47 [Value.slice o50 n51 n52, Value.slice o53 n54 n55] fun v56 =>
    T.asB v56 fun b57 =>
    T.ite b57
    (T.ldS n28 5 fun o58 n59 n60 =>
    T.ldS n29 5 fun o61 n62 n63 =>
    T.call 47 [Value.slice o58 n59 n60, Value.slice o61 n62 n63] fun v64 => T.asB v64 fun b65 => T.ret (Value.bool b65))
    (T.ret (Value.bool false))))
    (T.ldI IntKind.i64 n28 0 fun i66 =>
    T.ldI IntKind.i64 n29 0 fun i67 =>
    T.ite (i66 != i67) (T.ret (Value.bool false))
    (T.ldI IntKind.i64 n28 1 fun i68 =>
    T.ldI IntKind.i64 n29 1 fun i69 =>
    T.ite (i68 != i69) (T.ret (Value.bool false))
    (T.ldS n28 2 fun o70 n71 n72 =>
    T.ldS n29 2 fun o73 n74 n75 =>
    T.ite ((↑n71 : Int) != (↑n74 : Int)) (T.ret (Value.bool false))
    (T.ldS n28 3 fun o76 n77 n78 =>
    T.ldS n29 3 fun o79 n80 n81 =>
    T.call 72 [Value.slice o76 n77 n78, Value.slice o79 n80 n81] fun v82 =>
    T.asB v82 fun b83 =>
    T.ite (!b83) (T.ret (Value.bool false))
    (T.next 0 []
    ([Value.pointer (some (Addr.mk n28 0 none)), Value.pointer (some (Addr.mk n29 0 none))] =
    [Value.pointer (some (Addr.mk n28 0 none)), Value.pointer (some (Addr.mk n29 0 none))] ∧ ([] : List Deferred) = []))))))
theorem e46 (i0 : Int) (i1 : Int) (o2 : Option Addr) (n3 n4 : Nat) (o5 : Option Addr) (n6 n7 : Nat) (o8 : Option Addr) (n9 n10 : Nat) (o11 : Option Addr) (n12 n13 : Nat) (i14 : Int) (i15 : Int) (o16 : Option Addr) (n17 n18 : Nat) (o19 : Option Addr) (n20 n21 : Nat) (o22 : Option Addr) (n23 n24 : Nat) (o25 : Option Addr) (n26 n27 : Nat) : treeOf Tryz.prog Tryz.f46 (codeOf Tryz.f46) (.s .n (.c [] [2, 3] .n (.s (.s .n (.u (.l [(5, .int .i64)] [2, 3] (.s .n (.s (.u (.s (.p [0, 1, 2, 3, 4, 5, 6, 7, 8, 9, 10]) .n)) .n))))) .n))) [.v (.agg #[.int .i64 i0, .int .i64 i1, .slice o2 n3 n4, .slice o5 n6 n7, .slice o8 n9 n10, .slice o11 n12 n13]), .v (.agg #[.int .i64 i14, .int .i64 i15, .slice o16 n17 n18, .slice o19 n20 n21, .slice o22 n23 n24, .slice o25 n26 n27])] = (t46 i0 i1 o2 n3 n4 o5 n6 n7 o8 n9 n10 o11 n12 n13 i14 i15 o16 n17 n18 o19 n20 n21 o22 n23 n24 o25 n26 n27) := by kernel_rfl
theorem c46 (i0 : Int) (i1 : Int) (o2 : Option Addr) (n3 n4 : Nat) (o5 : Option Addr) (n6 n7 : Nat) (o8 : Option Addr) (n9 n10 : Nat) (o11 : Option Addr) (n12 n13 : Nat) (i14 : Int) (i15 : Int) (o16 : Option Addr) (n17 n18 : Nat) (o19 : Option Addr) (n20 n21 : Nat) (o22 : Option Addr) (n23 n24 : Nat) (o25 : Option Addr) (n26 n27 : Nat) {w : World} {R : Ending → World → Prop} (h : (t46 i0 i1 o2 n3 n4 o5 n6 n7 o8 n9 n10 o11 n12 n13 i14 i15 o16 n17 n18 o19 n20 n21 o22 n23 n24 o25 n26 n27).sem Tryz.prog R ρ0 w) : Calls Tryz.prog 46 #[.agg #[.int .i64 i0, .int .i64 i1, .slice o2 n3 n4, .slice o5 n6 n7, .slice o8 n9 n10, .slice o11 n12 n13], .agg #[.int .i64 i14, .int .i64 i15, .slice o16 n17 n18, .slice o19 n20 n21, .slice o22 n23 n24, .slice o25 n26 n27]] w R :=
  calls_of mixed Tryz.func46 rfl rfl (e46 i0 i1 o2 n3 n4 o5 n6 n7 o8 n9 n10 o11 n12 n13 i14 i15 o16 n17 n18 o19 n20 n21 o22 n23 n24 o25 n26 n27) h
def t47 (o0 : Option Addr) (n1 n2 : Nat) (o3 : Option Addr) (n4 n5 : Nat) : T :=
  T.ite ((↑n1 : Int) != (↑n4 : Int)) (T.ret (Value.bool false))
  (T.loop 0 [Value.int IntKind.i64 0] fun l6 j7 =>
    T.asI IntKind.i64 (List.headD l6 (Value.tuple (Array.mk []))) fun i8 =>
    T.ite (decide (i8 < (↑n1 : Int)))
    (T.drew
    (T.req (0 ≤ i8 ∧ i8 < (↑n1 : Int))
    (T.sm o0 fun n9 n10 =>
    T.ldI IntKind.i32 n9 (n10 + Int.toNat i8 * 2) fun i11 =>
    T.ldI IntKind.i64 n9 (n10 + Int.toNat i8 * 2 + 1) fun i12 =>
    T.req (0 ≤ i8 ∧ i8 < (↑n4 : Int))
    (T.sm o3 fun n13 n14 =>
    T.ldI IntKind.i32 n13 (n14 + Int.toNat i8 * 2) fun i15 =>
    T.ldI IntKind.i64 n13 (n14 + Int.toNat i8 * 2 + 1) fun i16 =>
    T.ite (!(i11 == i15 && (i12 == i16 && true))) (T.ret (Value.bool false))
    (T.next 0 [Value.int IntKind.i64 (IntKind.wrap IntKind.i64 (i8 + 1))]
    ([Value.slice o0 n1 n2, Value.slice o3 n4 n5] = [Value.slice o0 n1 n2, Value.slice o3 n4 n5] ∧ ([] : List Deferred) = []))))))
    (T.ret (Value.bool true)))
theorem e47 (o0 : Option Addr) (n1 n2 : Nat) (o3 : Option Addr) (n4 n5 : Nat) : treeOf Tryz.prog Tryz.f47 (codeOf Tryz.f47) (.s .n (.s .n (.s (.s .n (.u (.l [(5, .int .i64)] [0, 1] (.s .n (.s (.u (.s (.p [0, 1, 2, 3, 4, 5, 6, 7, 8]) .n)) .n))))) .n))) [.v (.slice o0 n1 n2), .v (.slice o3 n4 n5)] = (t47 o0 n1 n2 o3 n4 n5) := by kernel_rfl
theorem c47 (o0 : Option Addr) (n1 n2 : Nat) (o3 : Option Addr) (n4 n5 : Nat) {w : World} {R : Ending → World → Prop} (h : (t47 o0 n1 n2 o3 n4 n5).sem Tryz.prog R ρ0 w) : Calls Tryz.prog 47 #[.slice o0 n1 n2, .slice o3 n4 n5] w R :=
  calls_of mixed Tryz.func47 rfl rfl (e47 o0 n1 n2 o3 n4 n5) h
def t72 (o0 : Option Addr) (n1 n2 : Nat) (o3 : Option Addr) (n4 n5 : Nat) : T :=
  T.ite ((↑n1 : Int) != (↑n4 : Int)) (T.ret (Value.bool false))
  (T.loop 0 [Value.int IntKind.i64 0] fun l6 j7 =>
    T.asI IntKind.i64 (List.headD l6 (Value.tuple (Array.mk []))) fun i8 =>
    T.ite (decide (i8 < (↑n1 : Int)))
    (T.drew
    (T.req (0 ≤ i8 ∧ i8 < (↑n1 : Int))
    (T.sm o0 fun n9 n10 =>
    T.ldI IntKind.i64 n9 (n10 + Int.toNat i8 * 1) fun i11 =>
    T.req (0 ≤ i8 ∧ i8 < (↑n4 : Int))
    (T.sm o3 fun n12 n13 =>
    T.ldI IntKind.i64 n12 (n13 + Int.toNat i8 * 1) fun i14 =>
    T.ite (i11 != i14) (T.ret (Value.bool false))
    (T.next 0 [Value.int IntKind.i64 (IntKind.wrap IntKind.i64 (i8 + 1))]
    ([Value.slice o0 n1 n2, Value.slice o3 n4 n5] = [Value.slice o0 n1 n2, Value.slice o3 n4 n5] ∧ ([] : List Deferred) = []))))))
    (T.ret (Value.bool true)))
theorem e72 (o0 : Option Addr) (n1 n2 : Nat) (o3 : Option Addr) (n4 n5 : Nat) : treeOf Tryz.prog Tryz.f72 (codeOf Tryz.f72) (.s .n (.s .n (.s (.s .n (.u (.l [(5, .int .i64)] [0, 1] (.s .n (.s (.u (.s (.p [0, 1, 2, 3, 4, 5, 6, 7, 8]) .n)) .n))))) .n))) [.v (.slice o0 n1 n2), .v (.slice o3 n4 n5)] = (t72 o0 n1 n2 o3 n4 n5) := by kernel_rfl
theorem c72 (o0 : Option Addr) (n1 n2 : Nat) (o3 : Option Addr) (n4 n5 : Nat) {w : World} {R : Ending → World → Prop} (h : (t72 o0 n1 n2 o3 n4 n5).sem Tryz.prog R ρ0 w) : Calls Tryz.prog 72 #[.slice o0 n1 n2, .slice o3 n4 n5] w R :=
  calls_of mixed Tryz.func72 rfl rfl (e72 o0 n1 n2 o3 n4 n5) h
def t83 (i0 : Int) : T :=
  T.ite (i0 == 1) (T.ret (Value.string (ByteArray.mk (Array.mk [OfNat.ofNat 116, OfNat.ofNat 105, OfNat.ofNat 99, OfNat.ofNat 107]))))
  (T.ite (i0 == 2)
    (T.ret (Value.string (ByteArray.mk (Array.mk [OfNat.ofNat 115, OfNat.ofNat 117, OfNat.ofNat 98, OfNat.ofNat 109, OfNat.ofNat 105, OfNat.ofNat 116]))))
    (T.ite (i0 == 3) (T.ret (Value.string (ByteArray.mk (Array.mk [OfNat.ofNat 114, OfNat.ofNat 101, OfNat.ofNat 116, OfNat.ofNat 114, OfNat.ofNat 121]))))
    (T.ite (i0 == 4) (T.ret (Value.string (ByteArray.mk (Array.mk [OfNat.ofNat 113, OfNat.ofNat 117, OfNat.ofNat 101, OfNat.ofNat 114, OfNat.ofNat 121]))))
    (T.ite (i0 == 5) (T.ret (Value.string (ByteArray.mk (Array.mk [OfNat.ofNat 119, OfNat.ofNat 111, OfNat.ofNat 114, OfNat.ofNat 107]))))
    (T.ite (i0 == 6) (T.ret (Value.string (ByteArray.mk (Array.mk [OfNat.ofNat 100, OfNat.ofNat 114, OfNat.ofNat 97, OfNat.ofNat 105, OfNat.ofNat 110]))))
    (T.ite (i0 == 7)
    (T.ret
    (Value.string
    (ByteArray.mk
    (Array.mk [OfNat.ofNat 100, OfNat.ofNat 101, OfNat.ofNat 108, OfNat.ofNat 105, OfNat.ofNat 118, OfNat.ofNat 101, OfNat.ofNat 114]))))
    (T.ite (i0 == 8) (T.ret (Value.string (ByteArray.mk (Array.mk [OfNat.ofNat 100, OfNat.ofNat 114, OfNat.ofNat 111, OfNat.ofNat 112]))))
    (T.ite (i0 == 9)
    (T.ret
    (Value.string
    (ByteArray.mk (Array.mk [OfNat.ofNat 100, OfNat.ofNat 111, OfNat.ofNat 117, OfNat.ofNat 98, OfNat.ofNat 108, OfNat.ofNat 101]))))
    (T.ite (i0 == 10)
    (T.ret (Value.string (ByteArray.mk (Array.mk [OfNat.ofNat 115, OfNat.ofNat 112, OfNat.ofNat 111, OfNat.ofNat 105, OfNat.ofNat 108]))))
    (T.ite (i0 == 11)
    (T.ret (Value.string (ByteArray.mk (Array.mk [OfNat.ofNat 99, OfNat.ofNat 114, OfNat.ofNat 97, OfNat.ofNat 115, OfNat.ofNat 104]))))
    (T.ite (i0 == 12) (T.ret (Value.string (ByteArray.mk (Array.mk [OfNat.ofNat 102, OfNat.ofNat 117, OfNat.ofNat 115, OfNat.ofNat 101]))))
    (T.ite (i0 == 13)
    (T.ret
    (Value.string
    (ByteArray.mk
    (Array.mk
    [OfNat.ofNat 114, OfNat.ofNat 101, OfNat.ofNat 115, OfNat.ofNat 116, OfNat.ofNat 97, OfNat.ofNat 114, OfNat.ofNat 116]))))
    (T.ite (i0 == 14) (T.ret (Value.string (ByteArray.mk (Array.mk [OfNat.ofNat 97, OfNat.ofNat 108, OfNat.ofNat 108]))))
    (T.ite (i0 == 15)
    (T.ret
    (Value.string
    (ByteArray.mk
    (Array.mk [OfNat.ofNat 97, OfNat.ofNat 114, OfNat.ofNat 114, OfNat.ofNat 105, OfNat.ofNat 118, OfNat.ofNat 101]))))
    (T.ite (i0 == 16)
    (T.ret (Value.string (ByteArray.mk (Array.mk [OfNat.ofNat 100, OfNat.ofNat 101, OfNat.ofNat 97, OfNat.ofNat 102]))))
    (T.ite (i0 == 17)
    (T.ret (Value.string (ByteArray.mk (Array.mk [OfNat.ofNat 104, OfNat.ofNat 101, OfNat.ofNat 97, OfNat.ofNat 114]))))
    (T.ite (i0 == 18)
    (T.ret (Value.string (ByteArray.mk (Array.mk [OfNat.ofNat 116, OfNat.ofNat 117, OfNat.ofNat 114, OfNat.ofNat 110]))))
    (T.ite (i0 == 19) (T.ret (Value.string (ByteArray.mk (Array.mk [OfNat.ofNat 99, OfNat.ofNat 117, OfNat.ofNat 116]))))
    (T.ite (i0 == 20)
    (T.ret (Value.string (ByteArray.mk (Array.mk [OfNat.ofNat 106, OfNat.ofNat 111, OfNat.ofNat 105, OfNat.ofNat 110]))))
    (T.ret (Value.string (ByteArray.mk (Array.mk [])))))))))))))))))))))))
theorem e83 (i0 : Int) : treeOf Tryz.prog Tryz.f83 (codeOf Tryz.f83) .n [.v (.int .i64 i0)] = (t83 i0) := by kernel_rfl
theorem c83 (i0 : Int) {w : World} {R : Ending → World → Prop} (h : (t83 i0).sem Tryz.prog R ρ0 w) : Calls Tryz.prog 83 #[.int .i64 i0] w R :=
  calls_of mixed Tryz.func83 rfl rfl (e83 i0) h
end Go.Proofs.YtihipcofjpnfbaaGreatDoor
