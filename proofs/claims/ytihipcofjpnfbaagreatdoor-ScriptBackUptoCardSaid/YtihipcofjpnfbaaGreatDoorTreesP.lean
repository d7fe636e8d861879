/- The functions' trees, printed by a program (wip/tools/Emit.lean) and checked by the kernel against the model's own code. -/
import Derived.Test.YtihipcofjpnfbaaGreatDoorTreesA
import Derived.Test.YtihipcofjpnfbaaGreatDoorProg
namespace Go.Proofs.YtihipcofjpnfbaaGreatDoor
open Go hiding Expr
open Go.Proofs.YtihipcofjpnfbaaGreatDoor.Tr
set_option linter.unusedVariables false
set_option maxRecDepth 100000
def t36 (n0 n1 : Nat) : T :=
  T.blk 0
  (fun l2 j3 =>
    T.ldS n0 n1 fun o4 n5 n6 =>
    T.req ((0 : Int) ≤ 0 ∧ (0 : Int) < (↑n5 : Int))
    (T.sm o4 fun n7 n8 =>
    T.ldT n7 n8 fun s9 =>
    T.ldS n0 n1 fun o10 n11 n12 =>
    T.req ((0 : Int) ≤ 1 ∧ (1 : Int) ≤ (↑n11 : Int)) (T.st n0 n1 (Value.slice (sliceBase o10 1 n12 1) (n11 - 1) (n12 - 1)) (T.ret (Value.string s9)))))
  (T.ldS n0 n1 fun o13 n14 n15 =>
    T.ite ((↑n14 : Int) == 0) (T.pan (Value.iface 44 (Value.agg (Array.mk []))))
    (T.next 0 [] ([Value.pointer (some (Addr.mk n0 n1 none))] = [Value.pointer (some (Addr.mk n0 n1 none))] ∧ ([] : List Deferred) = [])))
theorem e36 (n0 n1 : Nat) : treeOf Tryz.prog Tryz.f36 (codeOf Tryz.f36) (.s .n (.c [] [0] .n .n)) [.p n0 n1] = (t36 n0 n1) := by kernel_rfl
theorem c36 (n0 n1 : Nat) {w : World} {R : Ending → World → Prop} (h : (t36 n0 n1).sem Tryz.prog R ρ0 w) : Calls Tryz.prog 36 #[.pointer (some ⟨n0, n1, none⟩)] w R :=
  calls_of mixed Tryz.func36 rfl rfl (e36 n0 n1) h
def t34 (n0 n1 : Nat) (s2 : ByteArray) : T :=
  T.call2 36 [Value.pointer (some (Addr.mk n0 n1 none))]
  (fun v3 =>
    T.asT v3 fun s4 =>
    T.ite (!ByteArray.toList s4 == ByteArray.toList s2) (T.pan (Value.iface 44 (Value.agg (Array.mk [])))) (T.ret (Value.tuple (Array.mk []))))
  fun v5 => T.pan v5
theorem e34 (n0 n1 : Nat) (s2 : ByteArray) : treeOf Tryz.prog Tryz.f34 (codeOf Tryz.f34) .n [.p n0 n1, .v (.string s2)] = (t34 n0 n1 s2) := by kernel_rfl
theorem c34 (n0 n1 : Nat) (s2 : ByteArray) {w : World} {R : Ending → World → Prop} (h : (t34 n0 n1 s2).sem Tryz.prog R ρ0 w) : Calls Tryz.prog 34 #[.pointer (some ⟨n0, n1, none⟩), .string s2] w R :=
  calls_of mixed Tryz.func34 rfl rfl (e34 n0 n1 s2) h
def t64 (n0 n1 : Nat) : T :=
  T.call2 36 [Value.pointer (some (Addr.mk n0 n1 none))]
  (fun v2 =>
    T.asT v2 fun s3 =>
    T.call 98 [Value.string s3, Value.int IntKind.i64 10, Value.int IntKind.i64 64] fun v4 =>
    T.asU v4 fun l5 =>
    T.req (List.length l5 = 2)
    (T.asI IntKind.i64 (List.headD l5 (Value.tuple (Array.mk []))) fun i6 =>
    T.blk 0 (fun l7 j8 => T.ret (Value.int IntKind.i64 i6))
    (T.req (isI (List.headD (List.tail l5) (Value.tuple (Array.mk []))))
    (T.ite (!isNilI (List.headD (List.tail l5) (Value.tuple (Array.mk [])))) (T.pan (Value.iface 44 (Value.agg (Array.mk []))))
    (T.call 99 [Value.int IntKind.i64 i6] fun v9 =>
    T.asT v9 fun s10 =>
    T.ite (!ByteArray.toList s10 == ByteArray.toList s3) (T.pan (Value.iface 44 (Value.agg (Array.mk []))))
    (T.next 0 [] ([Value.int IntKind.i64 i6] = [Value.int IntKind.i64 i6] ∧ ([] : List Deferred) = [])))))))
  fun v11 => T.pan v11
theorem e64 (n0 n1 : Nat) : treeOf Tryz.prog Tryz.f64 (codeOf Tryz.f64) (.s .n (.s .n (.s .n (.c [] [4] .n .n)))) [.p n0 n1] = (t64 n0 n1) := by kernel_rfl
theorem c64 (n0 n1 : Nat) {w : World} {R : Ending → World → Prop} (h : (t64 n0 n1).sem Tryz.prog R ρ0 w) : Calls Tryz.prog 64 #[.pointer (some ⟨n0, n1, none⟩)] w R :=
  calls_of mixed Tryz.func64 rfl rfl (e64 n0 n1) h
def t35 (n0 n1 : Nat) : T :=
  T.call2 64 [Value.pointer (some (Addr.mk n0 n1 none))] (fun v2 => T.asI IntKind.i64 v2 fun i3 => T.ret (Value.int IntKind.i64 i3)) fun v4 => T.pan v4
theorem e35 (n0 n1 : Nat) : treeOf Tryz.prog Tryz.f35 (codeOf Tryz.f35) .n [.p n0 n1] = (t35 n0 n1) := by kernel_rfl
theorem c35 (n0 n1 : Nat) {w : World} {R : Ending → World → Prop} (h : (t35 n0 n1).sem Tryz.prog R ρ0 w) : Calls Tryz.prog 35 #[.pointer (some ⟨n0, n1, none⟩)] w R :=
  calls_of mixed Tryz.func35 rfl rfl (e35 n0 n1) h
def t100 (n0 n1 : Nat) : T :=
  T.call2 64 [Value.pointer (some (Addr.mk n0 n1 none))]
  (fun v2 =>
    T.asI IntKind.i64 v2 fun i3 =>
    T.blk 0 (fun l4 j5 => T.ret (Value.int IntKind.i64 i3))
    (T.ite (decide (i3 < 0)) (T.pan (Value.iface 44 (Value.agg (Array.mk []))))
    (T.ldS n0 n1 fun o6 n7 n8 =>
    T.ite (decide (i3 > (↑n7 : Int))) (T.pan (Value.iface 44 (Value.agg (Array.mk []))))
    (T.next 0 [] ([Value.int IntKind.i64 i3] = [Value.int IntKind.i64 i3] ∧ ([] : List Deferred) = [])))))
  fun v9 => T.pan v9
theorem e100 (n0 n1 : Nat) : treeOf Tryz.prog Tryz.f100 (codeOf Tryz.f100) (.s .n (.s .n (.c [] [3] .n .n))) [.p n0 n1] = (t100 n0 n1) := by kernel_rfl
theorem c100 (n0 n1 : Nat) {w : World} {R : Ending → World → Prop} (h : (t100 n0 n1).sem Tryz.prog R ρ0 w) : Calls Tryz.prog 100 #[.pointer (some ⟨n0, n1, none⟩)] w R :=
  calls_of mixed Tryz.func100 rfl rfl (e100 n0 n1) h
def t66 (n0 n1 : Nat) : T :=
  T.call2 100 [Value.pointer (some (Addr.mk n0 n1 none))]
  (fun v2 =>
    T.asI IntKind.i64 v2 fun i3 =>
    T.loop 0 [Value.slice none 0 0, Value.int IntKind.i64 0] fun l4 j5 =>
    T.asS (List.headD l4 (Value.tuple (Array.mk []))) fun o6 n7 n8 =>
    T.asI IntKind.i64 (List.headD (List.tail l4) (Value.tuple (Array.mk []))) fun i9 =>
    T.ite (decide (i9 < i3))
    (T.call2 64 [Value.pointer (some (Addr.mk n0 n1 none))]
    (fun v10 =>
    T.asI IntKind.i64 v10 fun i11 =>
    T.blk 1
    (fun l12 j13 =>
    T.call2 64 [Value.pointer (some (Addr.mk n0 n1 none))]
    (fun v14 =>
    T.asI IntKind.i64 v14 fun i15 =>
    T.new (Obj.cells (Array.mk [Value.int IntKind.i32 (IntKind.wrap IntKind.i32 i11), Value.int IntKind.i64 i15]) 63) fun n16 =>
    T.run (biV Builtin.append (Array.mk [50, 50]) 50 (Array.mk [Value.slice o6 n7 n8, Value.slice (some (Addr.mk n16 0 none)) 1 1]))
    fun v17 =>
    T.asS v17 fun o18 n19 n20 =>
    T.next 0 [Value.slice o18 n19 n20, Value.int IntKind.i64 (IntKind.wrap IntKind.i64 (i9 + 1))]
    ([Value.pointer (some (Addr.mk n0 n1 none)), Value.int IntKind.i64 i3] =
    [Value.pointer (some (Addr.mk n0 n1 none)), Value.int IntKind.i64 i3] ∧ ([] : List Deferred) = []))
    fun v21 => T.pan v21)
    (T.ite (i11 != IntKind.wrap IntKind.i64 (IntKind.wrap IntKind.i32 i11)) (T.pan (Value.iface 44 (Value.agg (Array.mk []))))
    (T.next 1 []
    ([Value.pointer (some (Addr.mk n0 n1 none)), Value.slice o6 n7 n8, Value.int IntKind.i64 i11, Value.int IntKind.i64 i3,
    Value.int IntKind.i64 i9] =
    [Value.pointer (some (Addr.mk n0 n1 none)), Value.slice o6 n7 n8, Value.int IntKind.i64 i11, Value.int IntKind.i64 i3,
    Value.int IntKind.i64 i9] ∧ ([] : List Deferred) = []))))
    fun v22 => T.pan v22)
    (T.ret (Value.slice o6 n7 n8)))
  fun v23 => T.pan v23
theorem e66 (n0 n1 : Nat) : treeOf Tryz.prog Tryz.f66 (codeOf Tryz.f66) (.s .n (.s .n (.s (.s .n (.u (.l [(3, .slice), (7, .int .i64)] [0, 6] (.s .n (.s .n (.s (.u (.s .n (.c [] [0, 3, 4, 6, 7] .n .n))) .n)))))) .n))) [.p n0 n1] = (t66 n0 n1) := by kernel_rfl
theorem c66 (n0 n1 : Nat) {w : World} {R : Ending → World → Prop} (h : (t66 n0 n1).sem Tryz.prog R ρ0 w) : Calls Tryz.prog 66 #[.pointer (some ⟨n0, n1, none⟩)] w R :=
  calls_of mixed Tryz.func66 rfl rfl (e66 n0 n1) h
def t65 (n0 n1 : Nat) : T :=
  T.new
  (Obj.cells
    (Array.mk [Value.int IntKind.i64 0, Value.int IntKind.i64 0, Value.slice none 0 0, Value.slice none 0 0, Value.slice none 0 0, Value.slice none 0 0]) 52)
  fun n2 =>
  T.new
    (Obj.cells
    (Array.mk [Value.int IntKind.i64 0, Value.int IntKind.i64 0, Value.slice none 0 0, Value.slice none 0 0, Value.slice none 0 0, Value.slice none 0 0]) 52)
    fun n3 =>
    T.call2 34
    [Value.pointer (some (Addr.mk n0 n1 none)), Value.string (ByteArray.mk (Array.mk [OfNat.ofNat 99, OfNat.ofNat 111, OfNat.ofNat 100, OfNat.ofNat 101]))]
    (fun v4 =>
    T.call2 36 [Value.pointer (some (Addr.mk n0 n1 none))]
    (fun v5 =>
    T.asT v5 fun s6 =>
    T.call 11 [Value.string s6] fun v7 =>
    T.asU v7 fun l8 =>
    T.req (List.length l8 = 2)
    (T.asS (List.headD l8 (Value.tuple (Array.mk []))) fun o9 n10 n11 =>
    T.asB (List.headD (List.tail l8) (Value.tuple (Array.mk []))) fun b12 =>
    T.blk 0
    (fun l13 j14 =>
    T.st n3 2 (Value.slice o9 n10 n11)
    (T.call2 34
    [Value.pointer (some (Addr.mk n0 n1 none)),
    Value.string (ByteArray.mk (Array.mk [OfNat.ofNat 97, OfNat.ofNat 114, OfNat.ofNat 103, OfNat.ofNat 115]))]
    (fun v15 =>
    T.call2 100 [Value.pointer (some (Addr.mk n0 n1 none))]
    (fun v16 =>
    T.asI IntKind.i64 v16 fun i17 =>
    T.loop 0 [Value.int IntKind.i64 0] fun l18 j19 =>
    T.asI IntKind.i64 (List.headD l18 (Value.tuple (Array.mk []))) fun i20 =>
    T.ite (decide (i20 < i17))
    (T.drew
    (T.ldS n3 3 fun o21 n22 n23 =>
    T.call2 64 [Value.pointer (some (Addr.mk n0 n1 none))]
    (fun v24 =>
    T.asI IntKind.i64 v24 fun i25 =>
    T.chk [(Addr.mk n3 3 none, Value.slice o21 n22 n23)]
    (T.new (Obj.cells (Array.mk [Value.int IntKind.i64 i25]) 2) fun n26 =>
    T.chk [(Addr.mk n3 3 none, Value.slice o21 n22 n23)]
    (T.run
    (biV Builtin.append (Array.mk [49, 49]) 49
    (Array.mk [Value.slice o21 n22 n23, Value.slice (some (Addr.mk n26 0 none)) 1 1]))
    fun v27 =>
    T.asS v27 fun o28 n29 n30 =>
    T.chk []
    (T.st n3 3 (Value.slice o28 n29 n30)
    (T.chk []
    (T.next 0 [Value.int IntKind.i64 (IntKind.wrap IntKind.i64 (i20 + 1))]
    ([Value.pointer (some (Addr.mk n0 n1 none)), Value.pointer (some (Addr.mk n2 0 none)),
    Value.pointer (some (Addr.mk n3 0 none)), Value.int IntKind.i64 i17] =
    [Value.pointer (some (Addr.mk n0 n1 none)),
    Value.pointer (some (Addr.mk n2 0 none)),
    Value.pointer (some (Addr.mk n3 0 none)), Value.int IntKind.i64 i17] ∧ ([] : List Deferred) = [])))))))
    fun v31 => T.pan v31))
    (T.call2 34
    [Value.pointer (some (Addr.mk n0 n1 none)),
    Value.string
    (ByteArray.mk
    (Array.mk [OfNat.ofNat 114, OfNat.ofNat 101, OfNat.ofNat 97, OfNat.ofNat 100, OfNat.ofNat 115]))]
    (fun v32 =>
    T.call2 66 [Value.pointer (some (Addr.mk n0 n1 none))]
    (fun v33 =>
    T.asS v33 fun o34 n35 n36 =>
    T.st n3 4 (Value.slice o34 n35 n36)
    (T.call2 34
    [Value.pointer (some (Addr.mk n0 n1 none)),
    Value.string
    (ByteArray.mk
    (Array.mk
    [OfNat.ofNat 119, OfNat.ofNat 114, OfNat.ofNat 105, OfNat.ofNat 116, OfNat.ofNat 101,
    OfNat.ofNat 115]))]
    (fun v37 =>
    T.call2 66 [Value.pointer (some (Addr.mk n0 n1 none))]
    (fun v38 =>
    T.asS v38 fun o39 n40 n41 =>
    T.st n3 5 (Value.slice o39 n40 n41)
    (T.ldI IntKind.i64 n3 0 fun i42 =>
    T.ldI IntKind.i64 n3 1 fun i43 =>
    T.ldS n3 2 fun o44 n45 n46 =>
    T.ldS n3 3 fun o47 n48 n49 =>
    T.ldS n3 4 fun o50 n51 n52 =>
    T.ldS n3 5 fun o53 n54 n55 =>
    T.st n2 0 (Value.int IntKind.i64 i42)
    (T.st n2 1 (Value.int IntKind.i64 i43)
    (T.st n2 2 (Value.slice o44 n45 n46)
    (T.st n2 3 (Value.slice o47 n48 n49)
    (T.st n2 4 (Value.slice o50 n51 n52)
    (T.st n2 5 (Value.slice o53 n54 n55)
    (T.ldI IntKind.i64 n2 0 fun i56 =>
    T.ldI IntKind.i64 n2 1 fun i57 =>
    T.ldS n2 2 fun o58 n59 n60 =>
    T.ldS n2 3 fun o61 n62 n63 =>
    T.ldS n2 4 fun o64 n65 n66 =>
    T.ldS n2 5 fun o67 n68 n69 =>
    T.ret
    (Value.agg
    (Array.mk
    [Value.int IntKind.i64 i56,
    Value.int IntKind.i64 i57,
    Value.slice o58 n59 n60,
    Value.slice o61 n62 n63,
    Value.slice o64 n65 n66,
    Value.slice o67 n68 n69]))))))))))
    fun v70 => T.pan v70)
    fun v71 => T.pan v71))
    fun v72 => T.pan v72)
    fun v73 => T.pan v73))
    fun v74 => T.pan v74)
    fun v75 => T.pan v75))
    (T.ite (!b12) (T.pan (Value.iface 44 (Value.agg (Array.mk []))))
    (T.next 0 []
    ([Value.pointer (some (Addr.mk n0 n1 none)), Value.pointer (some (Addr.mk n2 0 none)), Value.pointer (some (Addr.mk n3 0 none)),
    Value.slice o9 n10 n11] =
    [Value.pointer (some (Addr.mk n0 n1 none)), Value.pointer (some (Addr.mk n2 0 none)),
    Value.pointer (some (Addr.mk n3 0 none)), Value.slice o9 n10 n11] ∧ ([] : List Deferred) = [])))))
    fun v76 => T.pan v76)
    fun v77 => T.pan v77
theorem e65 (n0 n1 : Nat) : treeOf Tryz.prog Tryz.f65 (codeOf Tryz.f65) (.s .n (.s .n (.s .n (.s .n (.c [] [0, 2, 3, 4] .n (.s .n (.s .n (.s (.s .n (.u (.l [(24, .int .i64)] [0, 2, 3, 23] (.s .n (.s .n (.s (.u (.p [0, 1, 2, 3, 4, 5, 6, 7])) .n)))))) .n)))))))) [.p n0 n1] = (t65 n0 n1) := by kernel_rfl
theorem c65 (n0 n1 : Nat) {w : World} {R : Ending → World → Prop} (h : (t65 n0 n1).sem Tryz.prog R ρ0 w) : Calls Tryz.prog 65 #[.pointer (some ⟨n0, n1, none⟩)] w R :=
  calls_of mixed Tryz.func65 rfl rfl (e65 n0 n1) h
def t40 (n0 n1 : Nat) (n2 n3 : Nat) (i4 : Int) : T :=
  T.ite (i4 == 0)
  (T.call2 35 [Value.pointer (some (Addr.mk n0 n1 none))]
    (fun v5 => T.asI IntKind.i64 v5 fun i6 => T.st n2 (n3 + 1) (Value.int IntKind.i64 i6) (T.ret (Value.tuple (Array.mk [])))) fun v7 => T.pan v7)
  (T.ite (i4 == 1)
    (T.call2 35 [Value.pointer (some (Addr.mk n0 n1 none))]
    (fun v8 => T.asI IntKind.i64 v8 fun i9 => T.st n2 (n3 + 2) (Value.int IntKind.i64 i9) (T.ret (Value.tuple (Array.mk [])))) fun v10 => T.pan v10)
    (T.ite (i4 == 2)
    (T.call2 65 [Value.pointer (some (Addr.mk n0 n1 none))]
    (fun v11 =>
    T.asA v11 fun l12 =>
    T.req (List.length l12 = 6)
    (T.asI IntKind.i64 (List.headD l12 (Value.tuple (Array.mk []))) fun i13 =>
    T.asI IntKind.i64 (List.headD (List.tail l12) (Value.tuple (Array.mk []))) fun i14 =>
    T.asS (List.headD (List.tail (List.tail l12)) (Value.tuple (Array.mk []))) fun o15 n16 n17 =>
    T.asS (List.headD (List.tail (List.tail (List.tail l12))) (Value.tuple (Array.mk []))) fun o18 n19 n20 =>
    T.asS (List.headD (List.tail (List.tail (List.tail (List.tail l12)))) (Value.tuple (Array.mk []))) fun o21 n22 n23 =>
    T.asS (List.headD (List.tail (List.tail (List.tail (List.tail (List.tail l12))))) (Value.tuple (Array.mk []))) fun o24 n25 n26 =>
    T.st n2 (n3 + 3) (Value.int IntKind.i64 i13)
    (T.st n2 (n3 + 4) (Value.int IntKind.i64 i14)
    (T.st n2 (n3 + 5) (Value.slice o15 n16 n17)
    (T.st n2 (n3 + 6) (Value.slice o18 n19 n20)
    (T.st n2 (n3 + 7) (Value.slice o21 n22 n23)
    (T.st n2 (n3 + 8) (Value.slice o24 n25 n26) (T.ret (Value.tuple (Array.mk []))))))))))
    fun v27 => T.pan v27)
    (T.ite (i4 == 3)
    (T.call2 66 [Value.pointer (some (Addr.mk n0 n1 none))]
    (fun v28 => T.asS v28 fun o29 n30 n31 => T.st n2 (n3 + 9) (Value.slice o29 n30 n31) (T.ret (Value.tuple (Array.mk [])))) fun v32 => T.pan v32)
    (T.ite (i4 == 4)
    (T.call2 35 [Value.pointer (some (Addr.mk n0 n1 none))]
    (fun v33 =>
    T.asI IntKind.i64 v33 fun i34 =>
    T.call2 35 [Value.pointer (some (Addr.mk n0 n1 none))]
    (fun v35 =>
    T.asI IntKind.i64 v35 fun i36 =>
    T.st n2 (n3 + 10) (Value.int IntKind.i64 i34) (T.st n2 (n3 + 11) (Value.int IntKind.i64 i36) (T.ret (Value.tuple (Array.mk [])))))
    fun v37 => T.pan v37)
    fun v38 => T.pan v38)
    (T.ite (i4 == 5)
    (T.call2 35 [Value.pointer (some (Addr.mk n0 n1 none))]
    (fun v39 => T.asI IntKind.i64 v39 fun i40 => T.st n2 (n3 + 12) (Value.int IntKind.i64 i40) (T.ret (Value.tuple (Array.mk [])))) fun v41 =>
    T.pan v41)
    (T.ite (i4 == 6)
    (T.call2 64 [Value.pointer (some (Addr.mk n0 n1 none))]
    (fun v42 =>
    T.asI IntKind.i64 v42 fun i43 =>
    T.blk 0 (fun l44 j45 => T.st n2 (n3 + 13) (Value.int IntKind.u8 (IntKind.wrap IntKind.u8 i43)) (T.ret (Value.tuple (Array.mk []))))
    (T.ite (decide (i43 < 0)) (T.pan (Value.iface 44 (Value.agg (Array.mk []))))
    (T.ite (decide (i43 > 255)) (T.pan (Value.iface 44 (Value.agg (Array.mk []))))
    (T.next 0 []
    ([Value.pointer (some (Addr.mk n2 n3 none)), Value.int IntKind.i64 i43] =
    [Value.pointer (some (Addr.mk n2 n3 none)), Value.int IntKind.i64 i43] ∧ ([] : List Deferred) = [])))))
    fun v46 => T.pan v46)
    (T.ite (i4 == 7)
    (T.call2 35 [Value.pointer (some (Addr.mk n0 n1 none))]
    (fun v47 => T.asI IntKind.i64 v47 fun i48 => T.st n2 (n3 + 14) (Value.int IntKind.i64 i48) (T.ret (Value.tuple (Array.mk [])))) fun v49 =>
    T.pan v49)
    (T.ite (i4 == 8)
    (T.call2 35 [Value.pointer (some (Addr.mk n0 n1 none))]
    (fun v50 => T.asI IntKind.i64 v50 fun i51 => T.st n2 (n3 + 15) (Value.int IntKind.i64 i51) (T.ret (Value.tuple (Array.mk [])))) fun v52 =>
    T.pan v52)
    (T.ret (Value.tuple (Array.mk [])))))))))))
theorem e40 (n0 n1 : Nat) (n2 n3 : Nat) (i4 : Int) : treeOf Tryz.prog Tryz.f40 (codeOf Tryz.f40) (.s .n (.u (.s .n (.s .n (.s .n (.s .n (.s .n (.s .n (.s .n (.s .n (.s .n (.s .n (.s .n (.s .n (.s .n (.s (.s .n (.c [] [1, 6] .n .n)) .n)))))))))))))))) [.p n0 n1, .p n2 n3, .v (.int .i64 i4)] = (t40 n0 n1 n2 n3 i4) := by kernel_rfl
theorem c40 (n0 n1 : Nat) (n2 n3 : Nat) (i4 : Int) {w : World} {R : Ending → World → Prop} (h : (t40 n0 n1 n2 n3 i4).sem Tryz.prog R ρ0 w) : Calls Tryz.prog 40 #[.pointer (some ⟨n0, n1, none⟩), .pointer (some ⟨n2, n3, none⟩), .int .i64 i4] w R :=
  calls_of mixed Tryz.func40 rfl rfl (e40 n0 n1 n2 n3 i4) h
def t18 (n0 n1 : Nat) : T :=
  T.new
  (Obj.cells
    (Array.mk
    [Value.int IntKind.i64 0, Value.int IntKind.i64 0, Value.int IntKind.i64 0, Value.int IntKind.i64 0, Value.int IntKind.i64 0, Value.slice none 0 0,
    Value.slice none 0 0, Value.slice none 0 0, Value.slice none 0 0, Value.slice none 0 0, Value.int IntKind.i64 0, Value.int IntKind.i64 0,
    Value.int IntKind.i64 0, Value.int IntKind.u8 0, Value.int IntKind.i64 0, Value.int IntKind.i64 0])
    56)
  fun n2 =>
  T.call2 36 [Value.pointer (some (Addr.mk n0 n1 none))]
    (fun v3 =>
    T.asT v3 fun s4 =>
    T.new (Obj.cells (Array.mk [Value.string (ByteArray.mk (Array.mk []))]) 9) fun n5 =>
    T.st n5 0 (Value.string s4)
    (T.call 37 [] fun v6 =>
    T.asA v6 fun l7 =>
    T.req (List.length l7 = 42)
    (T.asT (List.headD l7 (Value.tuple (Array.mk []))) fun s8 =>
    T.asS (List.headD (List.tail l7) (Value.tuple (Array.mk []))) fun o9 n10 n11 =>
    T.asT (List.headD (List.tail (List.tail l7)) (Value.tuple (Array.mk []))) fun s12 =>
    T.asS (List.headD (List.tail (List.tail (List.tail l7))) (Value.tuple (Array.mk []))) fun o13 n14 n15 =>
    T.asT (List.headD (List.tail (List.tail (List.tail (List.tail l7)))) (Value.tuple (Array.mk []))) fun s16 =>
    T.asS (List.headD (List.tail (List.tail (List.tail (List.tail (List.tail l7))))) (Value.tuple (Array.mk []))) fun o17 n18 n19 =>
    T.asT (List.headD (List.tail (List.tail (List.tail (List.tail (List.tail (List.tail l7)))))) (Value.tuple (Array.mk [])))
    fun s20 =>
    T.asS
    (List.headD (List.tail (List.tail (List.tail (List.tail (List.tail (List.tail (List.tail l7)))))))
    (Value.tuple (Array.mk [])))
    fun o21 n22 n23 =>
    T.asT
    (List.headD (List.tail (List.tail (List.tail (List.tail (List.tail (List.tail (List.tail (List.tail l7))))))))
    (Value.tuple (Array.mk [])))
    fun s24 =>
    T.asS
    (List.headD (List.tail (List.tail (List.tail (List.tail (List.tail (List.tail (List.tail (List.tail (List.tail l7)))))))))
    (Value.tuple (Array.mk [])))
    fun o25 n26 n27 =>
    T.asT
    (List.headD
    (List.tail
    (List.tail (List.tail (List.tail (List.tail (List.tail (List.tail (List.tail (List.tail (List.tail l7))))))))))
    (Value.tuple (Array.mk [])))
    fun s28 =>
    T.asS
    (List.headD
    (List.tail
    (List.tail
    (List.tail (List.tail (List.tail (List.tail (List.tail (List.tail (List.tail (List.tail (List.tail l7)))))))))))
    (Value.tuple (Array.mk [])))
    fun o29 n30 n31 =>
    T.asT
    (List.headD
    (List.tail
    (List.tail
    (List.tail
    (List.tail
    (List.tail (List.tail (List.tail (List.tail (List.tail (List.tail (List.tail (List.tail l7))))))))))))
    (Value.tuple (Array.mk [])))
    fun s32 =>
    T.asS
    (List.headD
    (List.tail
    (List.tail
    (List.tail
    (List.tail
    (List.tail
    (List.tail
    (List.tail (List.tail (List.tail (List.tail (List.tail (List.tail (List.tail l7)))))))))))))
    (Value.tuple (Array.mk [])))
    fun o33 n34 n35 =>
    T.asT
    (List.headD
    (List.tail
    (List.tail
    (List.tail
    (List.tail
    (List.tail
    (List.tail
    (List.tail
    (List.tail (List.tail (List.tail (List.tail (List.tail (List.tail (List.tail l7))))))))))))))
    (Value.tuple (Array.mk [])))
    fun s36 =>
    T.asS
    (List.headD
    (List.tail
    (List.tail
    (List.tail
    (List.tail
    (List.tail
    (List.tail
    (List.tail
    (List.tail
    (List.tail
    (List.tail (List.tail (List.tail (List.tail (List.tail (List.tail l7)))))))))))))))
    (Value.tuple (Array.mk [])))
    fun o37 n38 n39 =>
    T.asT
    (List.headD
    (List.tail
    (List.tail
    (List.tail
    (List.tail
    (List.tail
    (List.tail
    (List.tail
    (List.tail
    (List.tail
    (List.tail
    (List.tail (List.tail (List.tail (List.tail (List.tail (List.tail l7))))))))))))))))
    (Value.tuple (Array.mk [])))
    fun s40 =>
    T.asS
    (List.headD
    (List.tail
    (List.tail
    (List.tail
    (List.tail
    (List.tail
    (List.tail
    (List.tail
    (List.tail
    (List.tail
    (List.tail
    (List.tail
    (List.tail
    (List.tail (List.tail (List.tail (List.tail (List.tail l7)))))))))))))))))
    (Value.tuple (Array.mk [])))
    fun o41 n42 n43 =>
    T.asT
    (List.headD
    (List.tail
    (List.tail
    (List.tail
    (List.tail
    (List.tail
    (List.tail
    (List.tail
    (List.tail
    (List.tail
    (List.tail
    (List.tail
    (List.tail
    (List.tail
    (List.tail (List.tail (List.tail (List.tail (List.tail l7))))))))))))))))))
    (Value.tuple (Array.mk [])))
    fun s44 =>
    T.asS
    (List.headD
    (List.tail
    (List.tail
    (List.tail
    (List.tail
    (List.tail
    (List.tail
    (List.tail
    (List.tail
    (List.tail
    (List.tail
    (List.tail
    (List.tail
    (List.tail
    (List.tail
    (List.tail
    (List.tail (List.tail (List.tail (List.tail l7)))))))))))))))))))
    (Value.tuple (Array.mk [])))
    fun o45 n46 n47 =>
    T.asT
    (List.headD
    (List.tail
    (List.tail
    (List.tail
    (List.tail
    (List.tail
    (List.tail
    (List.tail
    (List.tail
    (List.tail
    (List.tail
    (List.tail
    (List.tail
    (List.tail
    (List.tail
    (List.tail
    (List.tail
    (List.tail (List.tail (List.tail (List.tail l7))))))))))))))))))))
    (Value.tuple (Array.mk [])))
    fun s48 =>
    T.asS
    (List.headD
    (List.tail
    (List.tail
    (List.tail
    (List.tail
    (List.tail
    (List.tail
    (List.tail
    (List.tail
    (List.tail
    (List.tail
    (List.tail
    (List.tail
    (List.tail
    (List.tail
    (List.tail
    (List.tail
    (List.tail
    (List.tail
    (List.tail (List.tail (List.tail l7)))))))))))))))))))))
    (Value.tuple (Array.mk [])))
    fun o49 n50 n51 =>
    T.asT
    (List.headD
    (List.tail
    (List.tail
    (List.tail
    (List.tail
    (List.tail
    (List.tail
    (List.tail
    (List.tail
    (List.tail
    (List.tail
    (List.tail
    (List.tail
    (List.tail
    (List.tail
    (List.tail
    (List.tail
    (List.tail
    (List.tail
    (List.tail
    (List.tail
    (List.tail (List.tail l7))))))))))))))))))))))
    (Value.tuple (Array.mk [])))
    fun s52 =>
    T.asS
    (List.headD
    (List.tail
    (List.tail
    (List.tail
    (List.tail
    (List.tail
    (List.tail
    (List.tail
    (List.tail
    (List.tail
    (List.tail
    (List.tail
    (List.tail
    (List.tail
    (List.tail
    (List.tail
    (List.tail
    (List.tail
    (List.tail
    (List.tail
    (List.tail
    (List.tail
    (List.tail (List.tail l7)))))))))))))))))))))))
    (Value.tuple (Array.mk [])))
    fun o53 n54 n55 =>
    T.asT
    (List.headD
    (List.tail
    (List.tail
    (List.tail
    (List.tail
    (List.tail
    (List.tail
    (List.tail
    (List.tail
    (List.tail
    (List.tail
    (List.tail
    (List.tail
    (List.tail
    (List.tail
    (List.tail
    (List.tail
    (List.tail
    (List.tail
    (List.tail
    (List.tail
    (List.tail
    (List.tail
    (List.tail
    (List.tail l7))))))))))))))))))))))))
    (Value.tuple (Array.mk [])))
    fun s56 =>
    T.asS
    (List.headD
    (List.tail
    (List.tail
    (List.tail
    (List.tail
    (List.tail
    (List.tail
    (List.tail
    (List.tail
    (List.tail
    (List.tail
    (List.tail
    (List.tail
    (List.tail
    (List.tail
    (List.tail
    (List.tail
    (List.tail
    (List.tail
    (List.tail
    (List.tail
    (List.tail
    (List.tail
    (List.tail
    (List.tail
    (List.tail l7)))))))))))))))))))))))))
    (Value.tuple (Array.mk [])))
    fun o57 n58 n59 =>
    T.asT
    (List.headD
    (List.tail
    (List.tail
    (List.tail
    (List.tail
    (List.tail
    (List.tail
    (List.tail
    (List.tail
    (List.tail
    (List.tail
    (List.tail
    (List.tail
    (List.tail
    (List.tail
    (List.tail
    (List.tail
    (List.tail
    (List.tail
    (List.tail
    (List.tail
    (List.tail
    (List.tail
    (List.tail
    (List.tail
    (List.tail
    (List.tail
    l7))))))))))))))))))))))))))
    (Value.tuple (Array.mk [])))
    fun s60 =>
    T.asS
    (List.headD
    (List.tail
    (List.tail
    (List.tail
    (List.tail
    (List.tail
    (List.tail
    (List.tail
    (List.tail
    (List.tail
    (List.tail
    (List.tail
    (List.tail
    (List.tail
    (List.tail
    (List.tail
    (List.tail
    (List.tail
    (List.tail
    (List.tail
    (List.tail
    (List.tail
    (List.tail
    (List.tail
    (List.tail
    (List.tail
    (List.tail
    (List.tail
    l7)))))))))))))))))))))))))))
    (Value.tuple (Array.mk [])))
    fun o61 n62 n63 =>
    T.asT
    (List.headD
    (List.tail
    (List.tail
    (List.tail
    (List.tail
    (List.tail
    (List.tail
    (List.tail
    (List.tail
    (List.tail
    (List.tail
    (List.tail
    (List.tail
    (List.tail
    (List.tail
    (List.tail
    (List.tail
    (List.tail
    (List.tail
    (List.tail
    (List.tail
    (List.tail
    (List.tail
    (List.tail
    (List.tail
    (List.tail
    (List.tail
    (List.tail
    (List.tail
    l7))))))))))))))))))))))))))))
    (Value.tuple (Array.mk [])))
    fun s64 =>
    T.asS
    (List.headD
    (List.tail
    (List.tail
    (List.tail
    (List.tail
    (List.tail
    (List.tail
    (List.tail
    (List.tail
    (List.tail
    (List.tail
    (List.tail
    (List.tail
    (List.tail
    (List.tail
    (List.tail
    (List.tail
    (List.tail
    (List.tail
    (List.tail
    (List.tail
    (List.tail
    (List.tail
    (List.tail
    (List.tail
    (List.tail
    (List.tail
    (List.tail
    (List.tail
    (List.tail
    l7)))))))))))))))))))))))))))))
    (Value.tuple (Array.mk [])))
    fun o65 n66 n67 =>
    T.asT
    (List.headD
    (List.tail
    (List.tail
    (List.tail
    (List.tail
    (List.tail
    (List.tail
    (List.tail
    (List.tail
    (List.tail
    (List.tail
    (List.tail
    (List.tail
    (List.tail
    (List.tail
    (List.tail
    (List.tail
    (List.tail
    (List.tail
    (List.tail
    (List.tail
    (List.tail
    (List.tail
    (List.tail
    (List.tail
    (List.tail
    (List.tail
    (List.tail
    (List.tail
    (List.tail
    (List.tail
    l7))))))))))))))))))))))))))))))
    (Value.tuple (Array.mk [])))
    fun s68 =>
    T.asS
    (List.headD
    (List.tail
    (List.tail
    (List.tail
    (List.tail
    (List.tail
    (List.tail
    (List.tail
    (List.tail
    (List.tail
    (List.tail
    (List.tail
    (List.tail
    (List.tail
    (List.tail
    (List.tail
    (List.tail
    (List.tail
    (List.tail
    (List.tail
    (List.tail
    (List.tail
    (List.tail
    (List.tail
    (List.tail
    (List.tail
    (List.tail
    (List.tail
    (List.tail
    (List.tail
    (List.tail
    (List.tail
    l7)))))))))))))))))))))))))))))))
    (Value.tuple (Array.mk [])))
    fun o69 n70 n71 =>
    T.asT
    (List.headD
    (List.tail
    (List.tail
    (List.tail
    (List.tail
    (List.tail
    (List.tail
    (List.tail
    (List.tail
    (List.tail
    (List.tail
    (List.tail
    (List.tail
    (List.tail
    (List.tail
    (List.tail
    (List.tail
    (List.tail
    (List.tail
    (List.tail
    (List.tail
    (List.tail
    (List.tail
    (List.tail
    (List.tail
    (List.tail
    (List.tail
    (List.tail
    (List.tail
    (List.tail
    (List.tail
    (List.tail
    (List.tail
    l7))))))))))))))))))))))))))))))))
    (Value.tuple (Array.mk [])))
    fun s72 =>
    T.asS
    (List.headD
    (List.tail
    (List.tail
    (List.tail
    (List.tail
    (List.tail
    (List.tail
    (List.tail
    (List.tail
    (List.tail
    (List.tail
    (List.tail
    (List.tail
    (List.tail
    (List.tail
    (List.tail
    (List.tail
    (List.tail
    (List.tail
    (List.tail
    (List.tail
    (List.tail
    (List.tail
    (List.tail
    (List.tail
    (List.tail
    (List.tail
    (List.tail
    (List.tail
    (List.tail
    (List.tail
    (List.tail
    (List.tail
    (List.tail
    l7)))))))))))))))))))))))))))))))))
    (Value.tuple (Array.mk [])))
    fun o73 n74 n75 =>
    T.asT
    (List.headD
    (List.tail
    (List.tail
    (List.tail
    (List.tail
    (List.tail
    (List.tail
    (List.tail
    (List.tail
    (List.tail
    (List.tail
    (List.tail
    (List.tail
    (List.tail
    (List.tail
    (List.tail
    (List.tail
    (List.tail
    (List.tail
    (List.tail
    (List.tail
    (List.tail
    (List.tail
    (List.tail
    (List.tail
    (List.tail
    (List.tail
    (List.tail
    (List.tail
    (List.tail
    (List.tail
    (List.tail
    (List.tail
    (List.tail
    (List.tail
    l7))))))))))))))))))))))))))))))))))
    (Value.tuple (Array.mk [])))
    fun s76 =>
    T.asS
    (List.headD
    (List.tail
    (List.tail
    (List.tail
    (List.tail
    (List.tail
    (List.tail
    (List.tail
    (List.tail
    (List.tail
    (List.tail
    (List.tail
    (List.tail
    (List.tail
    (List.tail
    (List.tail
    (List.tail
    (List.tail
    (List.tail
    (List.tail
    (List.tail
    (List.tail
    (List.tail
    (List.tail
    (List.tail
    (List.tail
    (List.tail
    (List.tail
    (List.tail
    (List.tail
    (List.tail
    (List.tail
    (List.tail
    (List.tail
    (List.tail
    (List.tail
    l7)))))))))))))))))))))))))))))))))))
    (Value.tuple (Array.mk [])))
    fun o77 n78 n79 =>
    T.asT
    (List.headD
    (List.tail
    (List.tail
    (List.tail
    (List.tail
    (List.tail
    (List.tail
    (List.tail
    (List.tail
    (List.tail
    (List.tail
    (List.tail
    (List.tail
    (List.tail
    (List.tail
    (List.tail
    (List.tail
    (List.tail
    (List.tail
    (List.tail
    (List.tail
    (List.tail
    (List.tail
    (List.tail
    (List.tail
    (List.tail
    (List.tail
    (List.tail
    (List.tail
    (List.tail
    (List.tail
    (List.tail
    (List.tail
    (List.tail
    (List.tail
    (List.tail
    (List.tail
    l7))))))))))))))))))))))))))))))))))))
    (Value.tuple (Array.mk [])))
    fun s80 =>
    T.asS
    (List.headD
    (List.tail
    (List.tail
    (List.tail
    (List.tail
    (List.tail
    (List.tail
    (List.tail
    (List.tail
    (List.tail
    (List.tail
    (List.tail
    (List.tail
    (List.tail
    (List.tail
    (List.tail
    (List.tail
    (List.tail
    (List.tail
    (List.tail
    (List.tail
    (List.tail
    (List.tail
    (List.tail
    (List.tail
    (List.tail
    (List.tail
    (List.tail
    (List.tail
    (List.tail
    (List.tail
    (List.tail
    (List.tail
    (List.tail
    (List.tail
    (List.tail
    (List.tail
    (List.tail
    l7)))))))))))))))))))))))))))))))))))))
    (Value.tuple (Array.mk [])))
    fun o81 n82 n83 =>
    T.asT
    (List.headD
    (List.tail
    (List.tail
    (List.tail
    (List.tail
    (List.tail
    (List.tail
    (List.tail
    (List.tail
    (List.tail
    (List.tail
    (List.tail
    (List.tail
    (List.tail
    (List.tail
    (List.tail
    (List.tail
    (List.tail
    (List.tail
    (List.tail
    (List.tail
    (List.tail
    (List.tail
    (List.tail
    (List.tail
    (List.tail
    (List.tail
    (List.tail
    (List.tail
    (List.tail
    (List.tail
    (List.tail
    (List.tail
    (List.tail
    (List.tail
    (List.tail
    (List.tail
    (List.tail
    (List.tail
    l7))))))))))))))))))))))))))))))))))))))
    (Value.tuple (Array.mk [])))
    fun s84 =>
    T.asS
    (List.headD
    (List.tail
    (List.tail
    (List.tail
    (List.tail
    (List.tail
    (List.tail
    (List.tail
    (List.tail
    (List.tail
    (List.tail
    (List.tail
    (List.tail
    (List.tail
    (List.tail
    (List.tail
    (List.tail
    (List.tail
    (List.tail
    (List.tail
    (List.tail
    (List.tail
    (List.tail
    (List.tail
    (List.tail
    (List.tail
    (List.tail
    (List.tail
    (List.tail
    (List.tail
    (List.tail
    (List.tail
    (List.tail
    (List.tail
    (List.tail
    (List.tail
    (List.tail
    (List.tail
    (List.tail
    (List.tail
    l7)))))))))))))))))))))))))))))))))))))))
    (Value.tuple (Array.mk [])))
    fun o85 n86 n87 =>
    T.asT
    (List.headD
    (List.tail
    (List.tail
    (List.tail
    (List.tail
    (List.tail
    (List.tail
    (List.tail
    (List.tail
    (List.tail
    (List.tail
    (List.tail
    (List.tail
    (List.tail
    (List.tail
    (List.tail
    (List.tail
    (List.tail
    (List.tail
    (List.tail
    (List.tail
    (List.tail
    (List.tail
    (List.tail
    (List.tail
    (List.tail
    (List.tail
    (List.tail
    (List.tail
    (List.tail
    (List.tail
    (List.tail
    (List.tail
    (List.tail
    (List.tail
    (List.tail
    (List.tail
    (List.tail
    (List.tail
    (List.tail
    (List.tail
    l7))))))))))))))))))))))))))))))))))))))))
    (Value.tuple (Array.mk [])))
    fun s88 =>
    T.asS
    (List.headD
    (List.tail
    (List.tail
    (List.tail
    (List.tail
    (List.tail
    (List.tail
    (List.tail
    (List.tail
    (List.tail
    (List.tail
    (List.tail
    (List.tail
    (List.tail
    (List.tail
    (List.tail
    (List.tail
    (List.tail
    (List.tail
    (List.tail
    (List.tail
    (List.tail
    (List.tail
    (List.tail
    (List.tail
    (List.tail
    (List.tail
    (List.tail
    (List.tail
    (List.tail
    (List.tail
    (List.tail
    (List.tail
    (List.tail
    (List.tail
    (List.tail
    (List.tail
    (List.tail
    (List.tail
    (List.tail
    (List.tail
    (List.tail
    l7)))))))))))))))))))))))))))))))))))))))))
    (Value.tuple (Array.mk [])))
    fun o89 n90 n91 =>
    T.new
    (Obj.cells
    (Array.mk
    [Value.string (ByteArray.mk (Array.mk [])),
    Value.slice none 0 0,
    Value.string (ByteArray.mk (Array.mk [])),
    Value.slice none 0 0,
    Value.string (ByteArray.mk (Array.mk [])),
    Value.slice none 0 0,
    Value.string (ByteArray.mk (Array.mk [])),
    Value.slice none 0 0,
    Value.string (ByteArray.mk (Array.mk [])),
    Value.slice none 0 0,
    Value.string (ByteArray.mk (Array.mk [])),
    Value.slice none 0 0,
    Value.string (ByteArray.mk (Array.mk [])),
    Value.slice none 0 0,
    Value.string (ByteArray.mk (Array.mk [])),
    Value.slice none 0 0,
    Value.string (ByteArray.mk (Array.mk [])),
    Value.slice none 0 0,
    Value.string (ByteArray.mk (Array.mk [])),
    Value.slice none 0 0,
    Value.string (ByteArray.mk (Array.mk [])),
    Value.slice none 0 0,
    Value.string (ByteArray.mk (Array.mk [])),
    Value.slice none 0 0,
    Value.string (ByteArray.mk (Array.mk [])),
    Value.slice none 0 0,
    Value.string (ByteArray.mk (Array.mk [])),
    Value.slice none 0 0,
    Value.string (ByteArray.mk (Array.mk [])),
    Value.slice none 0 0,
    Value.string (ByteArray.mk (Array.mk [])),
    Value.slice none 0 0,
    Value.string (ByteArray.mk (Array.mk [])),
    Value.slice none 0 0,
    Value.string (ByteArray.mk (Array.mk [])),
    Value.slice none 0 0,
    Value.string (ByteArray.mk (Array.mk [])),
    Value.slice none 0 0,
    Value.string (ByteArray.mk (Array.mk [])),
    Value.slice none 0 0,
    Value.string (ByteArray.mk (Array.mk [])),
    Value.slice none 0 0])
    90)
    fun n92 =>
    T.st n92 0 (Value.string s8)
    (T.st n92 1 (Value.slice o9 n10 n11)
    (T.st n92 2 (Value.string s12)
    (T.st n92 3 (Value.slice o13 n14 n15)
    (T.st n92 4 (Value.string s16)
    (T.st n92 5 (Value.slice o17 n18 n19)
    (T.st n92 6 (Value.string s20)
    (T.st n92 7 (Value.slice o21 n22 n23)
    (T.st n92 8 (Value.string s24)
    (T.st n92 9 (Value.slice o25 n26 n27)
    (T.st n92 10 (Value.string s28)
    (T.st n92 11
    (Value.slice o29 n30 n31)
    (T.st n92 12 (Value.string s32)
    (T.st n92 13
    (Value.slice o33 n34 n35)
    (T.st n92 14
    (Value.string s36)
    (T.st n92 15
    (Value.slice o37 n38
    n39)
    (T.st n92 16
    (Value.string s40)
    (T.st n92 17
    (Value.slice o41 n42
    n43)
    (T.st n92 18
    (Value.string s44)
    (T.st n92 19
    (Value.slice o45
    n46 n47)
    (T.st n92 20
    (Value.string
    s48)
    (T.st n92 21
    (Value.slice
    o49 n50
    n51)
    (T.st n92 22
    (Value.string
    s52)
    (T.st n92
    23
    (Value.slice
    o53
    n54
    n55)
    (T.st
    n92 24
    (Value.string
    s56)
    (T.st
    n92
    25
    (Value.slice
    o57
    n58
    n59)
    (T.st
    n92
    26
    (Value.string
    s60)
    (T.st
    n92
    27
    (Value.slice
    o61
    n62
    n63)
    (T.st
    n92
    28
    (Value.string
    s64)
    (T.st
    n92
    29
    (Value.slice
    o65
    n66
    n67)
    (T.st
    n92
    30
    (Value.string
    s68)
    (T.st
    n92
    31
    (Value.slice
    o69
    n70
    n71)
    (T.st
    n92
    32
    (Value.string
    s72)
    (T.st
    n92
    33
    (Value.slice
    o73
    n74
    n75)
    (T.st
    n92
    34
    (Value.string
    s76)
    (T.st
    n92
    35
    (Value.slice
    o77
    n78
    n79)
    (T.st
    n92
    36
    (Value.string
    s80)
    (T.st
    n92
    37
    (Value.slice
    o81
    n82
    n83)
    (T.st
    n92
    38
    (Value.string
    s84)
    (T.st
    n92
    39
    (Value.slice
    o85
    n86
    n87)
    (T.st
    n92
    40
    (Value.string
    s88)
    (T.st
    n92
    41
    (Value.slice
    o89
    n90
    n91)
    (T.call
    38
    [Value.slice
    (some
    (Addr.mk
    n92
    0
    none))
    21
    21,
    Value.func
    (Fn.func
    39)
    (Array.mk
    [])
    (Array.mk
    [Value.pointer
    (some
    (Addr.mk
    n5
    0
    none))])]
    fun
    v93 =>
    T.asI
    IntKind.i64
    v93
    fun
    i94 =>
    T.blk
    0
    (fun
    l95
    j96 =>
    T.new
    (Obj.cells
    (Array.mk
    [Value.int
    IntKind.i64
    0,
    Value.int
    IntKind.i64
    0,
    Value.int
    IntKind.i64
    0,
    Value.int
    IntKind.i64
    0,
    Value.int
    IntKind.i64
    0,
    Value.slice
    none
    0
    0,
    Value.slice
    none
    0
    0,
    Value.slice
    none
    0
    0,
    Value.slice
    none
    0
    0,
    Value.slice
    none
    0
    0,
    Value.int
    IntKind.i64
    0,
    Value.int
    IntKind.i64
    0,
    Value.int
    IntKind.i64
    0,
    Value.int
    IntKind.u8
    0,
    Value.int
    IntKind.i64
    0,
    Value.int
    IntKind.i64
    0])
    56)
    fun
    n97 =>
    T.st
    n97
    0
    (Value.int
    IntKind.i64
    i94)
    (T.st
    n97
    1
    (Value.int
    IntKind.i64
    0)
    (T.st
    n97
    2
    (Value.int
    IntKind.i64
    0)
    (T.st
    n97
    3
    (Value.int
    IntKind.i64
    0)
    (T.st
    n97
    4
    (Value.int
    IntKind.i64
    0)
    (T.st
    n97
    5
    (Value.slice
    none
    0
    0)
    (T.st
    n97
    6
    (Value.slice
    none
    0
    0)
    (T.st
    n97
    7
    (Value.slice
    none
    0
    0)
    (T.st
    n97
    8
    (Value.slice
    none
    0
    0)
    (T.st
    n97
    9
    (Value.slice
    none
    0
    0)
    (T.st
    n97
    10
    (Value.int
    IntKind.i64
    0)
    (T.st
    n97
    11
    (Value.int
    IntKind.i64
    0)
    (T.st
    n97
    12
    (Value.int
    IntKind.i64
    0)
    (T.st
    n97
    13
    (Value.int
    IntKind.u8
    0)
    (T.st
    n97
    14
    (Value.int
    IntKind.i64
    0)
    (T.st
    n97
    15
    (Value.int
    IntKind.i64
    0)
    (T.req
    (0 ≤
    i94 ∧
    i94 <
    21)
    (T.ldS
    n92
    (0 +
    Int.toNat
    i94 *
    2 +
    1)
    fun
    o98
    n99
    n100 =>
    T.loop
    0
    [Value.int
    IntKind.i64
    0]
    fun
    l101
    j102 =>
    T.asI
    IntKind.i64
    (List.headD
    l101
    (Value.tuple
    (Array.mk
    [])))
    fun
    i103 =>
    T.ite
    (decide
    (i103 <
    (↑n99 :
    Int)))
    (T.req
    (0 ≤
    i103 ∧
    i103 <
    (↑n99 :
    Int))
    (T.sm
    o98
    fun
    n104
    n105 =>
    T.ldI
    IntKind.i64
    n104
    (n105 +
    Int.toNat
    i103 *
    1)
    fun
    i106 =>
    T.call2
    40
    [Value.pointer
    (some
    (Addr.mk
    n0
    n1
    none)),
    Value.pointer
    (some
    (Addr.mk
    n97
    0
    none)),
    Value.int
    IntKind.i64
    i106]
    (fun
    v107 =>
    T.next
    0
    [Value.int
    IntKind.i64
    (IntKind.wrap
    IntKind.i64
    (i103 +
    1))]
    ([Value.pointer
    (some
    (Addr.mk
    n0
    n1
    none)),
    Value.pointer
    (some
    (Addr.mk
    n2
    0
    none)),
    Value.pointer
    (some
    (Addr.mk
    n97
    0
    none)),
    Value.slice
    o98
    n99
    n100,
    Value.int
    IntKind.i64
    (↑n99 :
    Int)] =
    [Value.pointer
    (some
    (Addr.mk
    n0
    n1
    none)),
    Value.pointer
    (some
    (Addr.mk
    n2
    0
    none)),
    Value.pointer
    (some
    (Addr.mk
    n97
    0
    none)),
    Value.slice
    o98
    n99
    n100,
    Value.int
    IntKind.i64
    (↑n99 :
    Int)] ∧ ([] : List Deferred) = []))
    fun
    v108 =>
    T.pan
    v108))
    (T.ldI
    IntKind.i64
    n97
    0
    fun
    i109 =>
    T.ldI
    IntKind.i64
    n97
    1
    fun
    i110 =>
    T.ldI
    IntKind.i64
    n97
    2
    fun
    i111 =>
    T.ldI
    IntKind.i64
    n97
    3
    fun
    i112 =>
    T.ldI
    IntKind.i64
    n97
    4
    fun
    i113 =>
    T.ldS
    n97
    5
    fun
    o114
    n115
    n116 =>
    T.ldS
    n97
    6
    fun
    o117
    n118
    n119 =>
    T.ldS
    n97
    7
    fun
    o120
    n121
    n122 =>
    T.ldS
    n97
    8
    fun
    o123
    n124
    n125 =>
    T.ldS
    n97
    9
    fun
    o126
    n127
    n128 =>
    T.ldI
    IntKind.i64
    n97
    10
    fun
    i129 =>
    T.ldI
    IntKind.i64
    n97
    11
    fun
    i130 =>
    T.ldI
    IntKind.i64
    n97
    12
    fun
    i131 =>
    T.ldI
    IntKind.u8
    n97
    13
    fun
    i132 =>
    T.ldI
    IntKind.i64
    n97
    14
    fun
    i133 =>
    T.ldI
    IntKind.i64
    n97
    15
    fun
    i134 =>
    T.st
    n2
    0
    (Value.int
    IntKind.i64
    i109)
    (T.st
    n2
    1
    (Value.int
    IntKind.i64
    i110)
    (T.st
    n2
    2
    (Value.int
    IntKind.i64
    i111)
    (T.st
    n2
    3
    (Value.int
    IntKind.i64
    i112)
    (T.st
    n2
    4
    (Value.int
    IntKind.i64
    i113)
    (T.st
    n2
    5
    (Value.slice
    o114
    n115
    n116)
    (T.st
    n2
    6
    (Value.slice
    o117
    n118
    n119)
    (T.st
    n2
    7
    (Value.slice
    o120
    n121
    n122)
    (T.st
    n2
    8
    (Value.slice
    o123
    n124
    n125)
    (T.st
    n2
    9
    (Value.slice
    o126
    n127
    n128)
    (T.st
    n2
    10
    (Value.int
    IntKind.i64
    i129)
    (T.st
    n2
    11
    (Value.int
    IntKind.i64
    i130)
    (T.st
    n2
    12
    (Value.int
    IntKind.i64
    i131)
    (T.st
    n2
    13
    (Value.int
    IntKind.u8
    i132)
    (T.st
    n2
    14
    (Value.int
    IntKind.i64
    i133)
    (T.st
    n2
    15
    (Value.int
    IntKind.i64
    i134)
    (T.ldI
    IntKind.i64
    n2
    0
    fun
    i135 =>
    T.ldI
    IntKind.i64
    n2
    1
    fun
    i136 =>
    T.ldI
    IntKind.i64
    n2
    2
    fun
    i137 =>
    T.ldI
    IntKind.i64
    n2
    3
    fun
    i138 =>
    T.ldI
    IntKind.i64
    n2
    4
    fun
    i139 =>
    T.ldS
    n2
    5
    fun
    o140
    n141
    n142 =>
    T.ldS
    n2
    6
    fun
    o143
    n144
    n145 =>
    T.ldS
    n2
    7
    fun
    o146
    n147
    n148 =>
    T.ldS
    n2
    8
    fun
    o149
    n150
    n151 =>
    T.ldS
    n2
    9
    fun
    o152
    n153
    n154 =>
    T.ldI
    IntKind.i64
    n2
    10
    fun
    i155 =>
    T.ldI
    IntKind.i64
    n2
    11
    fun
    i156 =>
    T.ldI
    IntKind.i64
    n2
    12
    fun
    i157 =>
    T.ldI
    IntKind.u8
    n2
    13
    fun
    i158 =>
    T.ldI
    IntKind.i64
    n2
    14
    fun
    i159 =>
    T.ldI
    IntKind.i64
    n2
    15
    fun
    i160 =>
    T.ret
    (Value.agg
    (Array.mk
    [Value.int
    IntKind.i64
    i135,
    Value.int
    IntKind.i64
    i136,
    Value.int
    IntKind.i64
    i137,
    Value.int
    IntKind.i64
    i138,
    Value.int
    IntKind.i64
    i139,
    Value.slice
    o140
    n141
    n142,
    Value.slice
    o143
    n144
    n145,
    Value.slice
    o146
    n147
    n148,
    Value.slice
    o149
    n150
    n151,
    Value.slice
    o152
    n153
    n154,
    Value.int
    IntKind.i64
    i155,
    Value.int
    IntKind.i64
    i156,
    Value.int
    IntKind.i64
    i157,
    Value.int
    IntKind.u8
    i158,
    Value.int
    IntKind.i64
    i159,
    Value.int
    IntKind.i64
    i160])))))))))))))))))))))))))))))))))))))
    (T.ite
    (decide
    (i94 <
    1))
    (T.pan
    (Value.iface
    44
    (Value.agg
    (Array.mk
    []))))
    (T.next
    0
    []
    ([Value.pointer
    (some
    (Addr.mk
    n0
    n1
    none)),
    Value.pointer
    (some
    (Addr.mk
    n2
    0
    none)),
    Value.pointer
    (some
    (Addr.mk
    n92
    0
    none)),
    Value.int
    IntKind.i64
    i94] =
    [Value.pointer
    (some
    (Addr.mk
    n0
    n1
    none)),
    Value.pointer
    (some
    (Addr.mk
    n2
    0
    none)),
    Value.pointer
    (some
    (Addr.mk
    n92
    0
    none)),
    Value.int
    IntKind.i64
    i94] ∧ ([] : List Deferred) = []))))))))))))))))))))))))))))))))))))))))))))))))
    fun v161 => T.pan v161
theorem e18 (n0 n1 : Nat) : treeOf Tryz.prog Tryz.f18 (codeOf Tryz.f18) (.s .n (.s .n (.s .n (.s .n (.c [] [0, 2, 4, 5] .n (.s .n (.s (.s .n (.u (.l [(26, .int .i64)] [0, 2, 6, 24, 25] .n))) .n))))))) [.p n0 n1] = (t18 n0 n1) := by kernel_rfl
theorem c18 (n0 n1 : Nat) {w : World} {R : Ending → World → Prop} (h : (t18 n0 n1).sem Tryz.prog R ρ0 w) : Calls Tryz.prog 18 #[.pointer (some ⟨n0, n1, none⟩)] w R :=
  calls_of mixed Tryz.func18 rfl rfl (e18 n0 n1) h
def t17 (n0 n1 : Nat) : T :=
  T.new (Obj.cells (Array.mk [Value.int IntKind.i64 0, Value.int IntKind.i64 0, Value.int IntKind.i64 0, Value.int IntKind.i64 0, Value.int IntKind.u64 0]) 24)
  fun n2 =>
  T.call2 34
    [Value.pointer (some (Addr.mk n0 n1 none)),
    Value.string (ByteArray.mk (Array.mk [OfNat.ofNat 119, OfNat.ofNat 111, OfNat.ofNat 114, OfNat.ofNat 108, OfNat.ofNat 100]))]
    (fun v3 =>
    T.call2 35 [Value.pointer (some (Addr.mk n0 n1 none))]
    (fun v4 =>
    T.asI IntKind.i64 v4 fun i5 =>
    T.call2 35 [Value.pointer (some (Addr.mk n0 n1 none))]
    (fun v6 =>
    T.asI IntKind.i64 v6 fun i7 =>
    T.call2 35 [Value.pointer (some (Addr.mk n0 n1 none))]
    (fun v8 =>
    T.asI IntKind.i64 v8 fun i9 =>
    T.call2 35 [Value.pointer (some (Addr.mk n0 n1 none))]
    (fun v10 =>
    T.asI IntKind.i64 v10 fun i11 =>
    T.new
    (Obj.cells
    (Array.mk
    [Value.int IntKind.i64 0, Value.int IntKind.i64 0, Value.int IntKind.i64 0, Value.int IntKind.i64 0,
    Value.int IntKind.u64 0])
    24)
    fun n12 =>
    T.st n12 0 (Value.int IntKind.i64 i5)
    (T.st n12 1 (Value.int IntKind.i64 i7)
    (T.st n12 2 (Value.int IntKind.i64 i9)
    (T.st n12 3 (Value.int IntKind.i64 i11)
    (T.st n12 4 (Value.int IntKind.u64 0)
    (T.call2 36 [Value.pointer (some (Addr.mk n0 n1 none))]
    (fun v13 =>
    T.asT v13 fun s14 =>
    T.call 30 [Value.string s14, Value.int IntKind.i64 10, Value.int IntKind.i64 64] fun v15 =>
    T.asU v15 fun l16 =>
    T.req (List.length l16 = 2)
    (T.asI IntKind.u64 (List.headD l16 (Value.tuple (Array.mk []))) fun i17 =>
    T.blk 0
    (fun l18 j19 =>
    T.st n12 4 (Value.int IntKind.u64 i17)
    (T.ldI IntKind.i64 n12 0 fun i20 =>
    T.ldI IntKind.i64 n12 1 fun i21 =>
    T.ldI IntKind.i64 n12 2 fun i22 =>
    T.ldI IntKind.i64 n12 3 fun i23 =>
    T.ldI IntKind.u64 n12 4 fun i24 =>
    T.st n2 0 (Value.int IntKind.i64 i20)
    (T.st n2 1 (Value.int IntKind.i64 i21)
    (T.st n2 2 (Value.int IntKind.i64 i22)
    (T.st n2 3 (Value.int IntKind.i64 i23)
    (T.st n2 4 (Value.int IntKind.u64 i24)
    (T.ldI IntKind.i64 n2 0 fun i25 =>
    T.ldI IntKind.i64 n2 1 fun i26 =>
    T.ldI IntKind.i64 n2 2 fun i27 =>
    T.ldI IntKind.i64 n2 3 fun i28 =>
    T.ldI IntKind.u64 n2 4 fun i29 =>
    T.ret
    (Value.agg
    (Array.mk
    [Value.int IntKind.i64 i25, Value.int IntKind.i64 i26,
    Value.int IntKind.i64 i27, Value.int IntKind.i64 i28,
    Value.int IntKind.u64 i29])))))))))
    (T.req (isI (List.headD (List.tail l16) (Value.tuple (Array.mk []))))
    (T.ite (!isNilI (List.headD (List.tail l16) (Value.tuple (Array.mk []))))
    (T.pan (Value.iface 44 (Value.agg (Array.mk []))))
    (T.call 25 [Value.int IntKind.u64 i17, Value.int IntKind.i64 10] fun v30 =>
    T.asT v30 fun s31 =>
    T.ite (!ByteArray.toList s31 == ByteArray.toList s14)
    (T.pan (Value.iface 44 (Value.agg (Array.mk []))))
    (T.next 0 []
    ([Value.pointer (some (Addr.mk n2 0 none)), Value.pointer (some (Addr.mk n12 0 none)),
    Value.int IntKind.u64 i17] =
    [Value.pointer (some (Addr.mk n2 0 none)), Value.pointer (some (Addr.mk n12 0 none)),
    Value.int IntKind.u64 i17] ∧ ([] : List Deferred) = [])))))))
    fun v32 => T.pan v32))))))
    fun v33 => T.pan v33)
    fun v34 => T.pan v34)
    fun v35 => T.pan v35)
    fun v36 => T.pan v36)
    fun v37 => T.pan v37
theorem e17 (n0 n1 : Nat) : treeOf Tryz.prog Tryz.f17 (codeOf Tryz.f17) (.s .n (.s .n (.s .n (.s .n (.s .n (.c [] [2, 3, 5] .n .n)))))) [.p n0 n1] = (t17 n0 n1) := by kernel_rfl
theorem c17 (n0 n1 : Nat) {w : World} {R : Ending → World → Prop} (h : (t17 n0 n1).sem Tryz.prog R ρ0 w) : Calls Tryz.prog 17 #[.pointer (some ⟨n0, n1, none⟩)] w R :=
  calls_of mixed Tryz.func17 rfl rfl (e17 n0 n1) h
def t5 (s0 : ByteArray) : T :=
  T.new (Obj.cells (Array.mk [Value.int IntKind.i64 0, Value.int IntKind.i64 0, Value.int IntKind.i64 0, Value.int IntKind.i64 0, Value.int IntKind.u64 0]) 24)
  fun n1 =>
  T.new (Obj.cells (Array.mk [Value.slice none 0 0]) 25) fun n2 =>
    T.new (Obj.cells (Array.mk [Value.int IntKind.i64 0]) 26) fun n3 =>
    T.loop 0 [Value.string s0, Value.int IntKind.i64 1] fun l4 j5 =>
    T.asT (List.headD l4 (Value.tuple (Array.mk []))) fun s6 =>
    T.asI IntKind.i64 (List.headD (List.tail l4) (Value.tuple (Array.mk []))) fun i7 =>
    T.blk 1
    (fun l8 j9 =>
    T.ite (decide (i7 > 16385))
    (T.st n1 0 (Value.int IntKind.i64 0)
    (T.st n1 1 (Value.int IntKind.i64 0)
    (T.st n1 2 (Value.int IntKind.i64 0)
    (T.st n1 3 (Value.int IntKind.i64 0)
    (T.st n1 4 (Value.int IntKind.u64 0)
    (T.st n2 0 (Value.slice none 0 0)
    (T.st n3 0 (Value.int IntKind.i64 3)
    (T.dcall 13
    [Value.pointer (some (Addr.mk n1 0 none)), Value.pointer (some (Addr.mk n2 0 none)), Value.pointer (some (Addr.mk n3 0 none))]
    none
    (T.ldI IntKind.i64 n1 0 fun i10 =>
    T.ldI IntKind.i64 n1 1 fun i11 =>
    T.ldI IntKind.i64 n1 2 fun i12 =>
    T.ldI IntKind.i64 n1 3 fun i13 =>
    T.ldI IntKind.u64 n1 4 fun i14 =>
    T.ldS n2 0 fun o15 n16 n17 =>
    T.ldI IntKind.i64 n3 0 fun i18 =>
    T.ret
    (Value.tuple
    (Array.mk
    [Value.agg
    (Array.mk
    [Value.int IntKind.i64 i10, Value.int IntKind.i64 i11, Value.int IntKind.i64 i12,
    Value.int IntKind.i64 i13, Value.int IntKind.u64 i14]),
    Value.slice o15 n16 n17, Value.int IntKind.i64 i7, Value.int IntKind.i64 i18])))
    (T.ldI IntKind.i64 n1 0 fun i19 =>
    T.ldI IntKind.i64 n1 1 fun i20 =>
    T.ldI IntKind.i64 n1 2 fun i21 =>
    T.ldI IntKind.i64 n1 3 fun i22 =>
    T.ldI IntKind.u64 n1 4 fun i23 =>
    T.ldS n2 0 fun o24 n25 n26 =>
    T.ldI IntKind.i64 n3 0 fun i27 =>
    T.ret
    (Value.tuple
    (Array.mk
    [Value.agg
    (Array.mk
    [Value.int IntKind.i64 i19, Value.int IntKind.i64 i20, Value.int IntKind.i64 i21,
    Value.int IntKind.i64 i22, Value.int IntKind.u64 i23]),
    Value.slice o24 n25 n26, Value.int IntKind.i64 i7, Value.int IntKind.i64 i27])))))))))))
    (T.call2 15 [Value.string s6, Value.string (ByteArray.mk (Array.mk [OfNat.ofNat 10]))]
    (fun v28 =>
    T.asU v28 fun l29 =>
    T.req (List.length l29 = 3)
    (T.asT (List.headD l29 (Value.tuple (Array.mk []))) fun s30 =>
    T.asT (List.headD (List.tail l29) (Value.tuple (Array.mk []))) fun s31 =>
    T.asB (List.headD (List.tail (List.tail l29)) (Value.tuple (Array.mk []))) fun b32 =>
    T.blk 1
    (fun l33 j34 =>
    T.call2 16 [Value.string s30, Value.string (ByteArray.mk (Array.mk [OfNat.ofNat 32]))]
    (fun v35 =>
    T.asS v35 fun o36 n37 n38 =>
    T.new (Obj.cells (Array.mk [Value.slice none 0 0]) 46) fun n39 =>
    T.st n39 0 (Value.slice o36 n37 n38)
    (T.blk 1
    (fun l40 j41 =>
    T.ldS n39 0 fun o42 n43 n44 =>
    T.ite (decide ((↑n43 : Int) > 0))
    (T.dcall 13
    [Value.pointer (some (Addr.mk n1 0 none)), Value.pointer (some (Addr.mk n2 0 none)),
    Value.pointer (some (Addr.mk n3 0 none))]
    (some (Value.iface 44 (Value.agg (Array.mk []))))
    (T.ldI IntKind.i64 n1 0 fun i45 =>
    T.ldI IntKind.i64 n1 1 fun i46 =>
    T.ldI IntKind.i64 n1 2 fun i47 =>
    T.ldI IntKind.i64 n1 3 fun i48 =>
    T.ldI IntKind.u64 n1 4 fun i49 =>
    T.ldS n2 0 fun o50 n51 n52 =>
    T.ldI IntKind.i64 n3 0 fun i53 =>
    T.ret
    (Value.tuple
    (Array.mk
    [Value.agg
    (Array.mk
    [Value.int IntKind.i64 i45, Value.int IntKind.i64 i46,
    Value.int IntKind.i64 i47, Value.int IntKind.i64 i48,
    Value.int IntKind.u64 i49]),
    Value.slice o50 n51 n52, Value.int IntKind.i64 i7, Value.int IntKind.i64 i53])))
    (T.pan (Value.iface 44 (Value.agg (Array.mk [])))))
    (T.next 0 [Value.string s31, Value.int IntKind.i64 (IntKind.wrap IntKind.i64 (i7 + 1))]
    ([Value.pointer (some (Addr.mk n1 0 none)), Value.pointer (some (Addr.mk n2 0 none)),
    Value.pointer (some (Addr.mk n3 0 none))] =
    [Value.pointer (some (Addr.mk n1 0 none)), Value.pointer (some (Addr.mk n2 0 none)),
    Value.pointer (some (Addr.mk n3 0 none))] ∧
    [Deferred.mk
    (Target.fn (Fn.func 13)
    (Array.mk
    [Value.pointer (some (Addr.mk n1 0 none)), Value.pointer (some (Addr.mk n2 0 none)),
    Value.pointer (some (Addr.mk n3 0 none))]))
    (Array.mk [])] =
    [Deferred.mk
    (Target.fn (Fn.func 13)
    (Array.mk
    [Value.pointer (some (Addr.mk n1 0 none)), Value.pointer (some (Addr.mk n2 0 none)),
    Value.pointer (some (Addr.mk n3 0 none))]))
    (Array.mk [])])))
    (T.ite (i7 == 1)
    (T.call2 17 [Value.pointer (some (Addr.mk n39 0 none))]
    (fun v54 =>
    T.asA v54 fun l55 =>
    T.req (List.length l55 = 5)
    (T.asI IntKind.i64 (List.headD l55 (Value.tuple (Array.mk []))) fun i56 =>
    T.asI IntKind.i64 (List.headD (List.tail l55) (Value.tuple (Array.mk []))) fun i57 =>
    T.asI IntKind.i64 (List.headD (List.tail (List.tail l55)) (Value.tuple (Array.mk []))) fun i58 =>
    T.asI IntKind.i64
    (List.headD (List.tail (List.tail (List.tail l55))) (Value.tuple (Array.mk []))) fun i59 =>
    T.asI IntKind.u64
    (List.headD (List.tail (List.tail (List.tail (List.tail l55)))) (Value.tuple (Array.mk [])))
    fun i60 =>
    T.st n1 0 (Value.int IntKind.i64 i56)
    (T.st n1 1 (Value.int IntKind.i64 i57)
    (T.st n1 2 (Value.int IntKind.i64 i58)
    (T.st n1 3 (Value.int IntKind.i64 i59)
    (T.st n1 4 (Value.int IntKind.u64 i60)
    (T.next 1 []
    ([Value.pointer (some (Addr.mk n1 0 none)),
    Value.pointer (some (Addr.mk n2 0 none)), Value.int IntKind.i64 i7,
    Value.pointer (some (Addr.mk n3 0 none)), Value.string s31,
    Value.pointer (some (Addr.mk n39 0 none))] =
    [Value.pointer (some (Addr.mk n1 0 none)),
    Value.pointer (some (Addr.mk n2 0 none)), Value.int IntKind.i64 i7,
    Value.pointer (some (Addr.mk n3 0 none)), Value.string s31,
    Value.pointer (some (Addr.mk n39 0 none))] ∧
    [Deferred.mk
    (Target.fn (Fn.func 13)
    (Array.mk
    [Value.pointer (some (Addr.mk n1 0 none)),
    Value.pointer (some (Addr.mk n2 0 none)),
    Value.pointer (some (Addr.mk n3 0 none))]))
    (Array.mk [])] =
    [Deferred.mk
    (Target.fn (Fn.func 13)
    (Array.mk
    [Value.pointer (some (Addr.mk n1 0 none)),
    Value.pointer (some (Addr.mk n2 0 none)),
    Value.pointer (some (Addr.mk n3 0 none))]))
    (Array.mk [])]))))))))
    fun v61 =>
    T.dcall 13
    [Value.pointer (some (Addr.mk n1 0 none)), Value.pointer (some (Addr.mk n2 0 none)),
    Value.pointer (some (Addr.mk n3 0 none))]
    (some v61)
    (T.ldI IntKind.i64 n1 0 fun i62 =>
    T.ldI IntKind.i64 n1 1 fun i63 =>
    T.ldI IntKind.i64 n1 2 fun i64 =>
    T.ldI IntKind.i64 n1 3 fun i65 =>
    T.ldI IntKind.u64 n1 4 fun i66 =>
    T.ldS n2 0 fun o67 n68 n69 =>
    T.ldI IntKind.i64 n3 0 fun i70 =>
    T.ret
    (Value.tuple
    (Array.mk
    [Value.agg
    (Array.mk
    [Value.int IntKind.i64 i62, Value.int IntKind.i64 i63,
    Value.int IntKind.i64 i64, Value.int IntKind.i64 i65,
    Value.int IntKind.u64 i66]),
    Value.slice o67 n68 n69, Value.int IntKind.i64 i7, Value.int IntKind.i64 i70])))
    (T.pan v61))
    (T.drew
    (T.ldS n2 0 fun o71 n72 n73 =>
    T.call2 18 [Value.pointer (some (Addr.mk n39 0 none))]
    (fun v74 =>
    T.asA v74 fun l75 =>
    T.req (List.length l75 = 16)
    (T.asI IntKind.i64 (List.headD l75 (Value.tuple (Array.mk []))) fun i76 =>
    T.asI IntKind.i64 (List.headD (List.tail l75) (Value.tuple (Array.mk []))) fun i77 =>
    T.asI IntKind.i64 (List.headD (List.tail (List.tail l75)) (Value.tuple (Array.mk [])))
    fun i78 =>
    T.asI IntKind.i64
    (List.headD (List.tail (List.tail (List.tail l75))) (Value.tuple (Array.mk [])))
    fun i79 =>
    T.asI IntKind.i64
    (List.headD (List.tail (List.tail (List.tail (List.tail l75))))
    (Value.tuple (Array.mk [])))
    fun i80 =>
    T.asS
    (List.headD (List.tail (List.tail (List.tail (List.tail (List.tail l75)))))
    (Value.tuple (Array.mk [])))
    fun o81 n82 n83 =>
    T.asS
    (List.headD
    (List.tail (List.tail (List.tail (List.tail (List.tail (List.tail l75))))))
    (Value.tuple (Array.mk [])))
    fun o84 n85 n86 =>
    T.asS
    (List.headD
    (List.tail
    (List.tail (List.tail (List.tail (List.tail (List.tail (List.tail l75)))))))
    (Value.tuple (Array.mk [])))
    fun o87 n88 n89 =>
    T.asS
    (List.headD
    (List.tail
    (List.tail
    (List.tail
    (List.tail (List.tail (List.tail (List.tail (List.tail l75))))))))
    (Value.tuple (Array.mk [])))
    fun o90 n91 n92 =>
    T.asS
    (List.headD
    (List.tail
    (List.tail
    (List.tail
    (List.tail
    (List.tail (List.tail (List.tail (List.tail (List.tail l75)))))))))
    (Value.tuple (Array.mk [])))
    fun o93 n94 n95 =>
    T.asI IntKind.i64
    (List.headD
    (List.tail
    (List.tail
    (List.tail
    (List.tail
    (List.tail
    (List.tail
    (List.tail (List.tail (List.tail (List.tail l75))))))))))
    (Value.tuple (Array.mk [])))
    fun i96 =>
    T.asI IntKind.i64
    (List.headD
    (List.tail
    (List.tail
    (List.tail
    (List.tail
    (List.tail
    (List.tail
    (List.tail
    (List.tail (List.tail (List.tail (List.tail l75)))))))))))
    (Value.tuple (Array.mk [])))
    fun i97 =>
    T.asI IntKind.i64
    (List.headD
    (List.tail
    (List.tail
    (List.tail
    (List.tail
    (List.tail
    (List.tail
    (List.tail
    (List.tail
    (List.tail
    (List.tail (List.tail (List.tail l75))))))))))))
    (Value.tuple (Array.mk [])))
    fun i98 =>
    T.asI IntKind.u8
    (List.headD
    (List.tail
    (List.tail
    (List.tail
    (List.tail
    (List.tail
    (List.tail
    (List.tail
    (List.tail
    (List.tail
    (List.tail
    (List.tail
    (List.tail (List.tail l75)))))))))))))
    (Value.tuple (Array.mk [])))
    fun i99 =>
    T.asI IntKind.i64
    (List.headD
    (List.tail
    (List.tail
    (List.tail
    (List.tail
    (List.tail
    (List.tail
    (List.tail
    (List.tail
    (List.tail
    (List.tail
    (List.tail
    (List.tail
    (List.tail (List.tail l75))))))))))))))
    (Value.tuple (Array.mk [])))
    fun i100 =>
    T.asI IntKind.i64
    (List.headD
    (List.tail
    (List.tail
    (List.tail
    (List.tail
    (List.tail
    (List.tail
    (List.tail
    (List.tail
    (List.tail
    (List.tail
    (List.tail
    (List.tail
    (List.tail
    (List.tail
    (List.tail l75)))))))))))))))
    (Value.tuple (Array.mk [])))
    fun i101 =>
    T.chk [(Addr.mk n2 0 none, Value.slice o71 n72 n73)]
    (T.new
    (Obj.cells
    (Array.mk
    [Value.int IntKind.i64 i76, Value.int IntKind.i64 i77,
    Value.int IntKind.i64 i78, Value.int IntKind.i64 i79,
    Value.int IntKind.i64 i80, Value.slice o81 n82 n83,
    Value.slice o84 n85 n86, Value.slice o87 n88 n89,
    Value.slice o90 n91 n92, Value.slice o93 n94 n95,
    Value.int IntKind.i64 i96, Value.int IntKind.i64 i97,
    Value.int IntKind.i64 i98, Value.int IntKind.u8 i99,
    Value.int IntKind.i64 i100, Value.int IntKind.i64 i101])
    56)
    fun n102 =>
    T.chk [(Addr.mk n2 0 none, Value.slice o71 n72 n73)]
    (T.run
    (biV Builtin.append (Array.mk [25, 25]) 25
    (Array.mk
    [Value.slice o71 n72 n73,
    Value.slice (some (Addr.mk n102 0 none)) 1 1]))
    fun v103 =>
    T.asS v103 fun o104 n105 n106 =>
    T.chk []
    (T.st n2 0 (Value.slice o104 n105 n106)
    (T.chk []
    (T.next 1 []
    ([Value.pointer (some (Addr.mk n1 0 none)),
    Value.pointer (some (Addr.mk n2 0 none)),
    Value.int IntKind.i64 i7,
    Value.pointer (some (Addr.mk n3 0 none)),
    Value.string s31,
    Value.pointer
    (some (Addr.mk n39 0 none))] =
    [Value.pointer (some (Addr.mk n1 0 none)),
    Value.pointer (some (Addr.mk n2 0 none)),
    Value.int IntKind.i64 i7,
    Value.pointer (some (Addr.mk n3 0 none)),
    Value.string s31,
    Value.pointer
    (some (Addr.mk n39 0 none))] ∧
    [Deferred.mk
    (Target.fn (Fn.func 13)
    (Array.mk
    [Value.pointer
    (some (Addr.mk n1 0 none)),
    Value.pointer
    (some (Addr.mk n2 0 none)),
    Value.pointer
    (some (Addr.mk n3 0 none))]))
    (Array.mk [])] =
    [Deferred.mk
    (Target.fn (Fn.func 13)
    (Array.mk
    [Value.pointer
    (some (Addr.mk n1 0 none)),
    Value.pointer
    (some (Addr.mk n2 0 none)),
    Value.pointer
    (some (Addr.mk n3 0 none))]))
    (Array.mk [])]))))))))
    fun v107 =>
    T.dcall 13
    [Value.pointer (some (Addr.mk n1 0 none)), Value.pointer (some (Addr.mk n2 0 none)),
    Value.pointer (some (Addr.mk n3 0 none))]
    (some v107)
    (T.ldI IntKind.i64 n1 0 fun i108 =>
    T.ldI IntKind.i64 n1 1 fun i109 =>
    T.ldI IntKind.i64 n1 2 fun i110 =>
    T.ldI IntKind.i64 n1 3 fun i111 =>
    T.ldI IntKind.u64 n1 4 fun i112 =>
    T.ldS n2 0 fun o113 n114 n115 =>
    T.ldI IntKind.i64 n3 0 fun i116 =>
    T.ret
    (Value.tuple
    (Array.mk
    [Value.agg
    (Array.mk
    [Value.int IntKind.i64 i108, Value.int IntKind.i64 i109,
    Value.int IntKind.i64 i110, Value.int IntKind.i64 i111,
    Value.int IntKind.u64 i112]),
    Value.slice o113 n114 n115, Value.int IntKind.i64 i7,
    Value.int IntKind.i64 i116])))
    (T.pan v107))))))
    fun v117 =>
    T.dcall 13
    [Value.pointer (some (Addr.mk n1 0 none)), Value.pointer (some (Addr.mk n2 0 none)),
    Value.pointer (some (Addr.mk n3 0 none))]
    (some v117)
    (T.ldI IntKind.i64 n1 0 fun i118 =>
    T.ldI IntKind.i64 n1 1 fun i119 =>
    T.ldI IntKind.i64 n1 2 fun i120 =>
    T.ldI IntKind.i64 n1 3 fun i121 =>
    T.ldI IntKind.u64 n1 4 fun i122 =>
    T.ldS n2 0 fun o123 n124 n125 =>
    T.ldI IntKind.i64 n3 0 fun i126 =>
    T.ret
    (Value.tuple
    (Array.mk
    [Value.agg
    (Array.mk
    [Value.int IntKind.i64 i118, Value.int IntKind.i64 i119, Value.int IntKind.i64 i120,
    Value.int IntKind.i64 i121, Value.int IntKind.u64 i122]),
    Value.slice o123 n124 n125, Value.int IntKind.i64 i7, Value.int IntKind.i64 i126])))
    (T.pan v117))
    (T.ite (!b32)
    (T.dcall 13
    [Value.pointer (some (Addr.mk n1 0 none)), Value.pointer (some (Addr.mk n2 0 none)),
    Value.pointer (some (Addr.mk n3 0 none))]
    (some (Value.iface 44 (Value.agg (Array.mk []))))
    (T.ldI IntKind.i64 n1 0 fun i127 =>
    T.ldI IntKind.i64 n1 1 fun i128 =>
    T.ldI IntKind.i64 n1 2 fun i129 =>
    T.ldI IntKind.i64 n1 3 fun i130 =>
    T.ldI IntKind.u64 n1 4 fun i131 =>
    T.ldS n2 0 fun o132 n133 n134 =>
    T.ldI IntKind.i64 n3 0 fun i135 =>
    T.ret
    (Value.tuple
    (Array.mk
    [Value.agg
    (Array.mk
    [Value.int IntKind.i64 i127, Value.int IntKind.i64 i128, Value.int IntKind.i64 i129,
    Value.int IntKind.i64 i130, Value.int IntKind.u64 i131]),
    Value.slice o132 n133 n134, Value.int IntKind.i64 i7, Value.int IntKind.i64 i135])))
    (T.pan (Value.iface 44 (Value.agg (Array.mk [])))))
    (T.next 1 []
    ([Value.pointer (some (Addr.mk n1 0 none)), Value.pointer (some (Addr.mk n2 0 none)), Value.int IntKind.i64 i7,
    Value.pointer (some (Addr.mk n3 0 none)), Value.string s30, Value.string s31] =
    [Value.pointer (some (Addr.mk n1 0 none)), Value.pointer (some (Addr.mk n2 0 none)), Value.int IntKind.i64 i7,
    Value.pointer (some (Addr.mk n3 0 none)), Value.string s30, Value.string s31] ∧
    [Deferred.mk
    (Target.fn (Fn.func 13)
    (Array.mk
    [Value.pointer (some (Addr.mk n1 0 none)), Value.pointer (some (Addr.mk n2 0 none)),
    Value.pointer (some (Addr.mk n3 0 none))]))
    (Array.mk [])] =
    [Deferred.mk
    (Target.fn (Fn.func 13)
    (Array.mk
    [Value.pointer (some (Addr.mk n1 0 none)), Value.pointer (some (Addr.mk n2 0 none)),
    Value.pointer (some (Addr.mk n3 0 none))]))
    (Array.mk [])])))))
    fun v136 =>
    T.dcall 13 [Value.pointer (some (Addr.mk n1 0 none)), Value.pointer (some (Addr.mk n2 0 none)), Value.pointer (some (Addr.mk n3 0 none))]
    (some v136)
    (T.ldI IntKind.i64 n1 0 fun i137 =>
    T.ldI IntKind.i64 n1 1 fun i138 =>
    T.ldI IntKind.i64 n1 2 fun i139 =>
    T.ldI IntKind.i64 n1 3 fun i140 =>
    T.ldI IntKind.u64 n1 4 fun i141 =>
    T.ldS n2 0 fun o142 n143 n144 =>
    T.ldI IntKind.i64 n3 0 fun i145 =>
    T.ret
    (Value.tuple
    (Array.mk
    [Value.agg
    (Array.mk
    [Value.int IntKind.i64 i137, Value.int IntKind.i64 i138, Value.int IntKind.i64 i139, Value.int IntKind.i64 i140,
    Value.int IntKind.u64 i141]),
    Value.slice o142 n143 n144, Value.int IntKind.i64 i7, Value.int IntKind.i64 i145])))
    (T.pan v136)))
    (T.ite (i7 == 1)
    (T.next 1 []
    ([Value.string s6, Value.pointer (some (Addr.mk n1 0 none)), Value.pointer (some (Addr.mk n2 0 none)), Value.int IntKind.i64 i7,
    Value.pointer (some (Addr.mk n3 0 none))] =
    [Value.string s6, Value.pointer (some (Addr.mk n1 0 none)), Value.pointer (some (Addr.mk n2 0 none)), Value.int IntKind.i64 i7,
    Value.pointer (some (Addr.mk n3 0 none))] ∧
    [Deferred.mk
    (Target.fn (Fn.func 13)
    (Array.mk
    [Value.pointer (some (Addr.mk n1 0 none)), Value.pointer (some (Addr.mk n2 0 none)), Value.pointer (some (Addr.mk n3 0 none))]))
    (Array.mk [])] =
    [Deferred.mk
    (Target.fn (Fn.func 13)
    (Array.mk
    [Value.pointer (some (Addr.mk n1 0 none)), Value.pointer (some (Addr.mk n2 0 none)), Value.pointer (some (Addr.mk n3 0 none))]))
    (Array.mk [])]))
    (T.ite (!ByteArray.toList s6 == ByteArray.toList (ByteArray.mk (Array.mk [])))
    (T.next 1 []
    ([Value.string s6, Value.pointer (some (Addr.mk n1 0 none)), Value.pointer (some (Addr.mk n2 0 none)), Value.int IntKind.i64 i7,
    Value.pointer (some (Addr.mk n3 0 none))] =
    [Value.string s6, Value.pointer (some (Addr.mk n1 0 none)), Value.pointer (some (Addr.mk n2 0 none)), Value.int IntKind.i64 i7,
    Value.pointer (some (Addr.mk n3 0 none))] ∧
    [Deferred.mk
    (Target.fn (Fn.func 13)
    (Array.mk
    [Value.pointer (some (Addr.mk n1 0 none)), Value.pointer (some (Addr.mk n2 0 none)), Value.pointer (some (Addr.mk n3 0 none))]))
    (Array.mk [])] =
    [Deferred.mk
    (Target.fn (Fn.func 13)
    (Array.mk
    [Value.pointer (some (Addr.mk n1 0 none)), Value.pointer (some (Addr.mk n2 0 none)), Value.pointer (some (Addr.mk n3 0 none))]))
    (Array.mk [])]))
    (T.drew
    (T.ldI IntKind.i64 n1 0 fun i146 =>
    T.ldI IntKind.i64 n1 1 fun i147 =>
    T.ldI IntKind.i64 n1 2 fun i148 =>
    T.ldI IntKind.i64 n1 3 fun i149 =>
    T.ldI IntKind.u64 n1 4 fun i150 =>
    T.ldS n2 0 fun o151 n152 n153 =>
    T.st n1 0 (Value.int IntKind.i64 i146)
    (T.st n1 1 (Value.int IntKind.i64 i147)
    (T.st n1 2 (Value.int IntKind.i64 i148)
    (T.st n1 3 (Value.int IntKind.i64 i149)
    (T.st n1 4 (Value.int IntKind.u64 i150)
    (T.chk [(Addr.mk n2 0 none, Value.slice o151 n152 n153)]
    (T.st n2 0 (Value.slice o151 n152 n153)
    (T.chk []
    (T.st n3 0 (Value.int IntKind.i64 0)
    (T.chk []
    (T.dcall 13
    [Value.pointer (some (Addr.mk n1 0 none)), Value.pointer (some (Addr.mk n2 0 none)),
    Value.pointer (some (Addr.mk n3 0 none))]
    none
    (T.ldI IntKind.i64 n1 0 fun i154 =>
    T.ldI IntKind.i64 n1 1 fun i155 =>
    T.ldI IntKind.i64 n1 2 fun i156 =>
    T.ldI IntKind.i64 n1 3 fun i157 =>
    T.ldI IntKind.u64 n1 4 fun i158 =>
    T.ldS n2 0 fun o159 n160 n161 =>
    T.ldI IntKind.i64 n3 0 fun i162 =>
    T.ret
    (Value.tuple
    (Array.mk
    [Value.agg
    (Array.mk
    [Value.int IntKind.i64 i154, Value.int IntKind.i64 i155,
    Value.int IntKind.i64 i156, Value.int IntKind.i64 i157,
    Value.int IntKind.u64 i158]),
    Value.slice o159 n160 n161, Value.int IntKind.i64 0, Value.int IntKind.i64 i162])))
    (T.ldI IntKind.i64 n1 0 fun i163 =>
    T.ldI IntKind.i64 n1 1 fun i164 =>
    T.ldI IntKind.i64 n1 2 fun i165 =>
    T.ldI IntKind.i64 n1 3 fun i166 =>
    T.ldI IntKind.u64 n1 4 fun i167 =>
    T.ldS n2 0 fun o168 n169 n170 =>
    T.ldI IntKind.i64 n3 0 fun i171 =>
    T.ret
    (Value.tuple
    (Array.mk
    [Value.agg
    (Array.mk
    [Value.int IntKind.i64 i163, Value.int IntKind.i64 i164,
    Value.int IntKind.i64 i165, Value.int IntKind.i64 i166,
    Value.int IntKind.u64 i167]),
    Value.slice o168 n169 n170, Value.int IntKind.i64 0,
    Value.int IntKind.i64 i171])))))))))))))))))
theorem e5 (s0 : ByteArray) : treeOf Tryz.prog Tryz.f5 (codeOf Tryz.f5) (.s .n (.s .n (.s (.s .n (.u (.l [(0, .str), (4, .int .i64)] [2, 3, 5] (.c [] [0, 2, 3, 4, 5] .n (.s (.u (.s .n (.s .n (.c [] [2, 3, 4, 5, 6, 7] .n (.s .n (.c [] [2, 3, 4, 5, 7, 9] (.s .n (.s .n (.p [0, 1, 2, 3, 4]))) .n)))))) .n))))) (.s (.p [0, 1, 2, 3, 4, 5]) .n)))) [.v (.string s0)] = (t5 s0) := by kernel_rfl
theorem c5 (s0 : ByteArray) {w : World} {R : Ending → World → Prop} (h : (t5 s0).sem Tryz.prog R ρ0 w) : Calls Tryz.prog 5 #[.string s0] w R :=
  calls_of mixed Tryz.func5 rfl rfl (e5 s0) h
def t6 (s0 : ByteArray) : T :=
  T.new (Obj.cells (Array.mk [Value.int IntKind.i64 0, Value.int IntKind.i64 0, Value.int IntKind.i64 0, Value.int IntKind.i64 0, Value.int IntKind.u64 0]) 24)
  fun n1 =>
  T.new (Obj.cells (Array.mk [Value.int IntKind.i64 0, Value.int IntKind.i64 0, Value.int IntKind.i64 0, Value.int IntKind.i64 0, Value.int IntKind.u64 0]) 24)
    fun n2 =>
    T.loop 0 [Value.slice none 0 0, Value.int IntKind.i64 0, Value.int IntKind.i64 0, Value.int IntKind.i64 0] fun l3 j4 =>
    T.asS (List.headD l3 (Value.tuple (Array.mk []))) fun o5 n6 n7 =>
    T.asI IntKind.i64 (List.headD (List.tail l3) (Value.tuple (Array.mk []))) fun i8 =>
    T.asI IntKind.i64 (List.headD (List.tail (List.tail l3)) (Value.tuple (Array.mk []))) fun i9 =>
    T.asI IntKind.i64 (List.headD (List.tail (List.tail (List.tail l3))) (Value.tuple (Array.mk []))) fun i10 =>
    T.ite (decide (i10 < (↑(ByteArray.size s0) : Int)))
    (T.req (0 ≤ i10 ∧ i10 < (↑(ByteArray.size s0) : Int))
    (T.ite ((↑(UInt8.toNat (Array.getD (ByteArray.data s0) (Int.toNat i10) (OfNat.ofNat 0))) : Int) != 10)
    (T.next 0
    [Value.slice o5 n6 n7, Value.int IntKind.i64 i8, Value.int IntKind.i64 i9, Value.int IntKind.i64 (IntKind.wrap IntKind.i64 (i10 + 1))]
    ([Value.string s0, Value.pointer (some (Addr.mk n1 0 none)), Value.pointer (some (Addr.mk n2 0 none))] =
    [Value.string s0, Value.pointer (some (Addr.mk n1 0 none)), Value.pointer (some (Addr.mk n2 0 none))] ∧ ([] : List Deferred) = []))
    (T.req (0 ≤ i10 ∧ i10 ≤ (↑(ByteArray.size s0) : Int) ∧ 0 ≤ i8 ∧ i8 ≤ i10)
    (T.blk 1
    (fun l11 j12 =>
    T.asS (List.headD l11 (Value.tuple (Array.mk []))) fun o13 n14 n15 =>
    T.asB (List.headD (List.tail l11) (Value.tuple (Array.mk []))) fun b16 =>
    T.ite (!b16)
    (T.st n1 0 (Value.int IntKind.i64 0)
    (T.st n1 1 (Value.int IntKind.i64 0)
    (T.st n1 2 (Value.int IntKind.i64 0)
    (T.st n1 3 (Value.int IntKind.i64 0)
    (T.st n1 4 (Value.int IntKind.u64 0)
    (T.ldI IntKind.i64 n1 0 fun i17 =>
    T.ldI IntKind.i64 n1 1 fun i18 =>
    T.ldI IntKind.i64 n1 2 fun i19 =>
    T.ldI IntKind.i64 n1 3 fun i20 =>
    T.ldI IntKind.u64 n1 4 fun i21 =>
    T.ret
    (Value.tuple
    (Array.mk
    [Value.agg
    (Array.mk
    [Value.int IntKind.i64 i17, Value.int IntKind.i64 i18, Value.int IntKind.i64 i19,
    Value.int IntKind.i64 i20, Value.int IntKind.u64 i21]),
    Value.slice none 0 0, Value.int IntKind.i64 (IntKind.wrap IntKind.i64 (i9 + 1)),
    Value.int IntKind.i64 270]))))))))
    (T.next 0
    [Value.slice o13 n14 n15, Value.int IntKind.i64 (IntKind.wrap IntKind.i64 (i10 + 1)),
    Value.int IntKind.i64 (IntKind.wrap IntKind.i64 (i9 + 1)), Value.int IntKind.i64 (IntKind.wrap IntKind.i64 (i10 + 1))]
    ([Value.string s0, Value.pointer (some (Addr.mk n1 0 none)), Value.pointer (some (Addr.mk n2 0 none))] =
    [Value.string s0, Value.pointer (some (Addr.mk n1 0 none)), Value.pointer (some (Addr.mk n2 0 none))] ∧ ([] : List Deferred) = [])))
    (T.ite (IntKind.wrap IntKind.i64 (i9 + 1) == 1)
    (T.call 19 [Value.string (ByteArray.extract s0 (Int.toNat i8) (Int.toNat i10))] fun v22 =>
    T.asU v22 fun l23 =>
    T.req (List.length l23 = 2)
    (T.asA (List.headD l23 (Value.tuple (Array.mk []))) fun l24 =>
    T.req (List.length l24 = 5)
    (T.asI IntKind.i64 (List.headD l24 (Value.tuple (Array.mk []))) fun i25 =>
    T.asI IntKind.i64 (List.headD (List.tail l24) (Value.tuple (Array.mk []))) fun i26 =>
    T.asI IntKind.i64 (List.headD (List.tail (List.tail l24)) (Value.tuple (Array.mk []))) fun i27 =>
    T.asI IntKind.i64 (List.headD (List.tail (List.tail (List.tail l24))) (Value.tuple (Array.mk []))) fun i28 =>
    T.asI IntKind.u64 (List.headD (List.tail (List.tail (List.tail (List.tail l24)))) (Value.tuple (Array.mk [])))
    fun i29 =>
    T.asB (List.headD (List.tail l23) (Value.tuple (Array.mk []))) fun b30 =>
    T.st n2 0 (Value.int IntKind.i64 i25)
    (T.st n2 1 (Value.int IntKind.i64 i26)
    (T.st n2 2 (Value.int IntKind.i64 i27)
    (T.st n2 3 (Value.int IntKind.i64 i28)
    (T.st n2 4 (Value.int IntKind.u64 i29)
    (T.next 1 [Value.slice o5 n6 n7, Value.bool b30]
    ([Value.string s0, Value.pointer (some (Addr.mk n1 0 none)),
    Value.pointer (some (Addr.mk n2 0 none)),
    Value.int IntKind.i64 (IntKind.wrap IntKind.i64 (i10 + 1)),
    Value.int IntKind.i64 (IntKind.wrap IntKind.i64 (i9 + 1)), Value.int IntKind.i64 i10] =
    [Value.string s0, Value.pointer (some (Addr.mk n1 0 none)),
    Value.pointer (some (Addr.mk n2 0 none)),
    Value.int IntKind.i64 (IntKind.wrap IntKind.i64 (i10 + 1)),
    Value.int IntKind.i64 (IntKind.wrap IntKind.i64 (i9 + 1)), Value.int IntKind.i64 i10] ∧ ([] : List Deferred) = [])))))))))
    (T.ite (decide ((↑n6 : Int) ≥ 16384))
    (T.st n1 0 (Value.int IntKind.i64 0)
    (T.st n1 1 (Value.int IntKind.i64 0)
    (T.st n1 2 (Value.int IntKind.i64 0)
    (T.st n1 3 (Value.int IntKind.i64 0)
    (T.st n1 4 (Value.int IntKind.u64 0)
    (T.ldI IntKind.i64 n1 0 fun i31 =>
    T.ldI IntKind.i64 n1 1 fun i32 =>
    T.ldI IntKind.i64 n1 2 fun i33 =>
    T.ldI IntKind.i64 n1 3 fun i34 =>
    T.ldI IntKind.u64 n1 4 fun i35 =>
    T.ret
    (Value.tuple
    (Array.mk
    [Value.agg
    (Array.mk
    [Value.int IntKind.i64 i31, Value.int IntKind.i64 i32, Value.int IntKind.i64 i33,
    Value.int IntKind.i64 i34, Value.int IntKind.u64 i35]),
    Value.slice none 0 0, Value.int IntKind.i64 (IntKind.wrap IntKind.i64 (i9 + 1)),
    Value.int IntKind.i64 3]))))))))
    (T.call 20 [Value.string (ByteArray.extract s0 (Int.toNat i8) (Int.toNat i10))] fun v36 =>
    T.asU v36 fun l37 =>
    T.req (List.length l37 = 2)
    (T.asA (List.headD l37 (Value.tuple (Array.mk []))) fun l38 =>
    T.req (List.length l38 = 16)
    (T.asI IntKind.i64 (List.headD l38 (Value.tuple (Array.mk []))) fun i39 =>
    T.asI IntKind.i64 (List.headD (List.tail l38) (Value.tuple (Array.mk []))) fun i40 =>
    T.asI IntKind.i64 (List.headD (List.tail (List.tail l38)) (Value.tuple (Array.mk []))) fun i41 =>
    T.asI IntKind.i64 (List.headD (List.tail (List.tail (List.tail l38))) (Value.tuple (Array.mk []))) fun i42 =>
    T.asI IntKind.i64 (List.headD (List.tail (List.tail (List.tail (List.tail l38)))) (Value.tuple (Array.mk [])))
    fun i43 =>
    T.asS (List.headD (List.tail (List.tail (List.tail (List.tail (List.tail l38))))) (Value.tuple (Array.mk [])))
    fun o44 n45 n46 =>
    T.asS
    (List.headD (List.tail (List.tail (List.tail (List.tail (List.tail (List.tail l38))))))
    (Value.tuple (Array.mk [])))
    fun o47 n48 n49 =>
    T.asS
    (List.headD (List.tail (List.tail (List.tail (List.tail (List.tail (List.tail (List.tail l38)))))))
    (Value.tuple (Array.mk [])))
    fun o50 n51 n52 =>
    T.asS
    (List.headD
    (List.tail (List.tail (List.tail (List.tail (List.tail (List.tail (List.tail (List.tail l38))))))))
    (Value.tuple (Array.mk [])))
    fun o53 n54 n55 =>
    T.asS
    (List.headD
    (List.tail
    (List.tail
    (List.tail (List.tail (List.tail (List.tail (List.tail (List.tail (List.tail l38)))))))))
    (Value.tuple (Array.mk [])))
    fun o56 n57 n58 =>
    T.asI IntKind.i64
    (List.headD
    (List.tail
    (List.tail
    (List.tail
    (List.tail (List.tail (List.tail (List.tail (List.tail (List.tail (List.tail l38))))))))))
    (Value.tuple (Array.mk [])))
    fun i59 =>
    T.asI IntKind.i64
    (List.headD
    (List.tail
    (List.tail
    (List.tail
    (List.tail
    (List.tail
    (List.tail (List.tail (List.tail (List.tail (List.tail (List.tail l38)))))))))))
    (Value.tuple (Array.mk [])))
    fun i60 =>
    T.asI IntKind.i64
    (List.headD
    (List.tail
    (List.tail
    (List.tail
    (List.tail
    (List.tail
    (List.tail
    (List.tail (List.tail (List.tail (List.tail (List.tail (List.tail l38))))))))))))
    (Value.tuple (Array.mk [])))
    fun i61 =>
    T.asI IntKind.u8
    (List.headD
    (List.tail
    (List.tail
    (List.tail
    (List.tail
    (List.tail
    (List.tail
    (List.tail
    (List.tail
    (List.tail (List.tail (List.tail (List.tail (List.tail l38)))))))))))))
    (Value.tuple (Array.mk [])))
    fun i62 =>
    T.asI IntKind.i64
    (List.headD
    (List.tail
    (List.tail
    (List.tail
    (List.tail
    (List.tail
    (List.tail
    (List.tail
    (List.tail
    (List.tail
    (List.tail (List.tail (List.tail (List.tail (List.tail l38))))))))))))))
    (Value.tuple (Array.mk [])))
    fun i63 =>
    T.asI IntKind.i64
    (List.headD
    (List.tail
    (List.tail
    (List.tail
    (List.tail
    (List.tail
    (List.tail
    (List.tail
    (List.tail
    (List.tail
    (List.tail
    (List.tail
    (List.tail (List.tail (List.tail (List.tail l38)))))))))))))))
    (Value.tuple (Array.mk [])))
    fun i64 =>
    T.asB (List.headD (List.tail l37) (Value.tuple (Array.mk []))) fun b65 =>
    T.new
    (Obj.cells
    (Array.mk
    [Value.int IntKind.i64 0, Value.int IntKind.i64 0, Value.int IntKind.i64 0,
    Value.int IntKind.i64 0, Value.int IntKind.i64 0, Value.slice none 0 0,
    Value.slice none 0 0, Value.slice none 0 0, Value.slice none 0 0,
    Value.slice none 0 0, Value.int IntKind.i64 0, Value.int IntKind.i64 0,
    Value.int IntKind.i64 0, Value.int IntKind.u8 0, Value.int IntKind.i64 0,
    Value.int IntKind.i64 0])
    56)
    fun n66 =>
    T.st n66 0 (Value.int IntKind.i64 i39)
    (T.st n66 1 (Value.int IntKind.i64 i40)
    (T.st n66 2 (Value.int IntKind.i64 i41)
    (T.st n66 3 (Value.int IntKind.i64 i42)
    (T.st n66 4 (Value.int IntKind.i64 i43)
    (T.st n66 5 (Value.slice o44 n45 n46)
    (T.st n66 6 (Value.slice o47 n48 n49)
    (T.st n66 7 (Value.slice o50 n51 n52)
    (T.st n66 8 (Value.slice o53 n54 n55)
    (T.st n66 9 (Value.slice o56 n57 n58)
    (T.st n66 10 (Value.int IntKind.i64 i59)
    (T.st n66 11 (Value.int IntKind.i64 i60)
    (T.st n66 12 (Value.int IntKind.i64 i61)
    (T.st n66 13 (Value.int IntKind.u8 i62)
    (T.st n66 14 (Value.int IntKind.i64 i63)
    (T.st n66 15 (Value.int IntKind.i64 i64)
    (T.ldI IntKind.i64 n66 0 fun i67 =>
    T.ldI IntKind.i64 n66 1 fun i68 =>
    T.ldI IntKind.i64 n66 2 fun i69 =>
    T.ldI IntKind.i64 n66 3 fun i70 =>
    T.ldI IntKind.i64 n66 4 fun i71 =>
    T.ldS n66 5 fun o72 n73 n74 =>
    T.ldS n66 6 fun o75 n76 n77 =>
    T.ldS n66 7 fun o78 n79 n80 =>
    T.ldS n66 8 fun o81 n82 n83 =>
    T.ldS n66 9 fun o84 n85 n86 =>
    T.ldI IntKind.i64 n66 10
    fun i87 =>
    T.ldI IntKind.i64 n66 11
    fun i88 =>
    T.ldI IntKind.i64 n66 12
    fun i89 =>
    T.ldI IntKind.u8 n66 13
    fun i90 =>
    T.ldI IntKind.i64 n66 14
    fun i91 =>
    T.ldI IntKind.i64 n66 15
    fun i92 =>
    T.new
    (Obj.cells
    (Array.mk
    [Value.int
    IntKind.i64
    i67,
    Value.int
    IntKind.i64
    i68,
    Value.int
    IntKind.i64
    i69,
    Value.int
    IntKind.i64
    i70,
    Value.int
    IntKind.i64
    i71,
    Value.slice
    o72 n73 n74,
    Value.slice
    o75 n76 n77,
    Value.slice
    o78 n79 n80,
    Value.slice
    o81 n82 n83,
    Value.slice
    o84 n85 n86,
    Value.int
    IntKind.i64
    i87,
    Value.int
    IntKind.i64
    i88,
    Value.int
    IntKind.i64
    i89,
    Value.int
    IntKind.u8
    i90,
    Value.int
    IntKind.i64
    i91,
    Value.int
    IntKind.i64
    i92])
    56)
    fun n93 =>
    T.run
    (biV
    Builtin.append
    (Array.mk
    [25, 25])
    25
    (Array.mk
    [Value.slice
    o5 n6 n7,
    Value.slice
    (some
    (Addr.mk
    n93 0
    none))
    1 1]))
    fun v94 =>
    T.asS v94
    fun o95 n96
    n97 =>
    T.next 1
    [Value.slice
    o95 n96
    n97,
    Value.bool
    b65]
    ([Value.string
    s0,
    Value.pointer
    (some
    (Addr.mk
    n1
    0
    none)),
    Value.pointer
    (some
    (Addr.mk
    n2
    0
    none)),
    Value.int
    IntKind.i64
    (IntKind.wrap
    IntKind.i64
    (i10 +
    1)),
    Value.int
    IntKind.i64
    (IntKind.wrap
    IntKind.i64
    (i9 +
    1)),
    Value.int
    IntKind.i64
    i10] =
    [Value.string
    s0,
    Value.pointer
    (some
    (Addr.mk
    n1
    0
    none)),
    Value.pointer
    (some
    (Addr.mk
    n2
    0
    none)),
    Value.int
    IntKind.i64
    (IntKind.wrap
    IntKind.i64
    (i10 +
    1)),
    Value.int
    IntKind.i64
    (IntKind.wrap
    IntKind.i64
    (i9 +
    1)),
    Value.int
    IntKind.i64
    i10] ∧ ([] : List Deferred) = []))))))))))))))))))))))))))
    (T.blk 0
    (fun l98 j99 =>
    T.asB (List.headD l98 (Value.tuple (Array.mk []))) fun b100 =>
    T.ite b100
    (T.st n1 0 (Value.int IntKind.i64 0)
    (T.st n1 1 (Value.int IntKind.i64 0)
    (T.st n1 2 (Value.int IntKind.i64 0)
    (T.st n1 3 (Value.int IntKind.i64 0)
    (T.st n1 4 (Value.int IntKind.u64 0)
    (T.ldI IntKind.i64 n1 0 fun i101 =>
    T.ldI IntKind.i64 n1 1 fun i102 =>
    T.ldI IntKind.i64 n1 2 fun i103 =>
    T.ldI IntKind.i64 n1 3 fun i104 =>
    T.ldI IntKind.u64 n1 4 fun i105 =>
    T.ret
    (Value.tuple
    (Array.mk
    [Value.agg
    (Array.mk
    [Value.int IntKind.i64 i101, Value.int IntKind.i64 i102, Value.int IntKind.i64 i103,
    Value.int IntKind.i64 i104, Value.int IntKind.u64 i105]),
    Value.slice none 0 0, Value.int IntKind.i64 (IntKind.wrap IntKind.i64 (i9 + 1)),
    Value.int IntKind.i64 3]))))))))
    (T.blk 0
    (fun l106 j107 =>
    T.asB (List.headD l106 (Value.tuple (Array.mk []))) fun b108 =>
    T.ite b108
    (T.st n1 0 (Value.int IntKind.i64 0)
    (T.st n1 1 (Value.int IntKind.i64 0)
    (T.st n1 2 (Value.int IntKind.i64 0)
    (T.st n1 3 (Value.int IntKind.i64 0)
    (T.st n1 4 (Value.int IntKind.u64 0)
    (T.ldI IntKind.i64 n1 0 fun i109 =>
    T.ldI IntKind.i64 n1 1 fun i110 =>
    T.ldI IntKind.i64 n1 2 fun i111 =>
    T.ldI IntKind.i64 n1 3 fun i112 =>
    T.ldI IntKind.u64 n1 4 fun i113 =>
    T.ret
    (Value.tuple
    (Array.mk
    [Value.agg
    (Array.mk
    [Value.int IntKind.i64 i109, Value.int IntKind.i64 i110, Value.int IntKind.i64 i111,
    Value.int IntKind.i64 i112, Value.int IntKind.u64 i113]),
    Value.slice none 0 0, Value.int IntKind.i64 (IntKind.wrap IntKind.i64 (i9 + 1)),
    Value.int IntKind.i64 270]))))))))
    (T.ldI IntKind.i64 n2 0 fun i114 =>
    T.ldI IntKind.i64 n2 1 fun i115 =>
    T.ldI IntKind.i64 n2 2 fun i116 =>
    T.ldI IntKind.i64 n2 3 fun i117 =>
    T.ldI IntKind.u64 n2 4 fun i118 =>
    T.st n1 0 (Value.int IntKind.i64 i114)
    (T.st n1 1 (Value.int IntKind.i64 i115)
    (T.st n1 2 (Value.int IntKind.i64 i116)
    (T.st n1 3 (Value.int IntKind.i64 i117)
    (T.st n1 4 (Value.int IntKind.u64 i118)
    (T.ldI IntKind.i64 n1 0 fun i119 =>
    T.ldI IntKind.i64 n1 1 fun i120 =>
    T.ldI IntKind.i64 n1 2 fun i121 =>
    T.ldI IntKind.i64 n1 3 fun i122 =>
    T.ldI IntKind.u64 n1 4 fun i123 =>
    T.ret
    (Value.tuple
    (Array.mk
    [Value.agg
    (Array.mk
    [Value.int IntKind.i64 i119, Value.int IntKind.i64 i120, Value.int IntKind.i64 i121,
    Value.int IntKind.i64 i122, Value.int IntKind.u64 i123]),
    Value.slice o5 n6 n7, Value.int IntKind.i64 0, Value.int IntKind.i64 0])))))))))
    (T.ite (decide (i8 < (↑(ByteArray.size s0) : Int)))
    (T.next 0 [Value.bool true]
    ([Value.pointer (some (Addr.mk n1 0 none)), Value.pointer (some (Addr.mk n2 0 none)), Value.slice o5 n6 n7,
    Value.int IntKind.i64 i9] =
    [Value.pointer (some (Addr.mk n1 0 none)), Value.pointer (some (Addr.mk n2 0 none)), Value.slice o5 n6 n7,
    Value.int IntKind.i64 i9] ∧ ([] : List Deferred) = []))
    (T.next 0 [Value.bool (i9 == 0)]
    ([Value.pointer (some (Addr.mk n1 0 none)), Value.pointer (some (Addr.mk n2 0 none)), Value.slice o5 n6 n7,
    Value.int IntKind.i64 i9] =
    [Value.pointer (some (Addr.mk n1 0 none)), Value.pointer (some (Addr.mk n2 0 none)), Value.slice o5 n6 n7,
    Value.int IntKind.i64 i9] ∧ ([] : List Deferred) = [])))))
    (T.ite (decide (i8 < (↑(ByteArray.size s0) : Int)))
    (T.next 0 [Value.bool (decide ((↑n6 : Int) ≥ 16384))]
    ([Value.string s0, Value.pointer (some (Addr.mk n1 0 none)), Value.pointer (some (Addr.mk n2 0 none)), Value.slice o5 n6 n7,
    Value.int IntKind.i64 i8, Value.int IntKind.i64 i9] =
    [Value.string s0, Value.pointer (some (Addr.mk n1 0 none)), Value.pointer (some (Addr.mk n2 0 none)), Value.slice o5 n6 n7,
    Value.int IntKind.i64 i8, Value.int IntKind.i64 i9] ∧ ([] : List Deferred) = []))
    (T.next 0 [Value.bool false]
    ([Value.string s0, Value.pointer (some (Addr.mk n1 0 none)), Value.pointer (some (Addr.mk n2 0 none)), Value.slice o5 n6 n7,
    Value.int IntKind.i64 i8, Value.int IntKind.i64 i9] =
    [Value.string s0, Value.pointer (some (Addr.mk n1 0 none)), Value.pointer (some (Addr.mk n2 0 none)), Value.slice o5 n6 n7,
    Value.int IntKind.i64 i8, Value.int IntKind.i64 i9] ∧ ([] : List Deferred) = []))))
theorem e6 (s0 : ByteArray) : treeOf Tryz.prog Tryz.f6 (codeOf Tryz.f6) (.s .n (.s .n (.s .n (.s .n (.s (.s .n (.u (.l [(7, .slice), (8, .int .i64), (9, .int .i64), (10, .int .i64)] [0, 2, 6] (.s .n (.s (.u (.s .n (.s .n (.s .n (.s .n (.s .n (.c [(7, .slice), (12, .bool)] [0, 2, 6, 8, 9, 10] .n .n))))))) .n))))) (.s (.c [(67, .bool)] [0, 2, 6, 7, 8, 9] .n .n) (.s (.c [(78, .bool)] [2, 6, 7, 9] .n .n) .n))))))) [.v (.string s0)] = (t6 s0) := by kernel_rfl
theorem c6 (s0 : ByteArray) {w : World} {R : Ending → World → Prop} (h : (t6 s0).sem Tryz.prog R ρ0 w) : Calls Tryz.prog 6 #[.string s0] w R :=
  calls_of mixed Tryz.func6 rfl rfl (e6 s0) h
def t19 (s0 : ByteArray) : T :=
  T.new (Obj.cells (Array.mk [Value.int IntKind.i64 0, Value.int IntKind.i64 0, Value.int IntKind.i64 0, Value.int IntKind.i64 0, Value.int IntKind.u64 0]) 24)
  fun n1 =>
  T.call 41 [Value.string s0] fun v2 =>
    T.asS v2 fun o3 n4 n5 =>
    T.new (Obj.cells (Array.mk [Value.slice o3 n4 n5, Value.bool true]) 100) fun n6 =>
    T.call 42
    [Value.pointer (some (Addr.mk n6 0 none)),
    Value.string (ByteArray.mk (Array.mk [OfNat.ofNat 119, OfNat.ofNat 111, OfNat.ofNat 114, OfNat.ofNat 108, OfNat.ofNat 100]))]
    fun v7 =>
    T.call 43 [Value.pointer (some (Addr.mk n6 0 none))] fun v8 =>
    T.asI IntKind.i64 v8 fun i9 =>
    T.new
    (Obj.cells
    (Array.mk [Value.int IntKind.i64 0, Value.int IntKind.i64 0, Value.int IntKind.i64 0, Value.int IntKind.i64 0, Value.int IntKind.u64 0]) 24)
    fun n10 =>
    T.st n10 0 (Value.int IntKind.i64 i9)
    (T.st n10 1 (Value.int IntKind.i64 0)
    (T.st n10 2 (Value.int IntKind.i64 0)
    (T.st n10 3 (Value.int IntKind.i64 0)
    (T.st n10 4 (Value.int IntKind.u64 0)
    (T.call 43 [Value.pointer (some (Addr.mk n6 0 none))] fun v11 =>
    T.asI IntKind.i64 v11 fun i12 =>
    T.st n10 1 (Value.int IntKind.i64 i12)
    (T.call 43 [Value.pointer (some (Addr.mk n6 0 none))] fun v13 =>
    T.asI IntKind.i64 v13 fun i14 =>
    T.st n10 2 (Value.int IntKind.i64 i14)
    (T.call 43 [Value.pointer (some (Addr.mk n6 0 none))] fun v15 =>
    T.asI IntKind.i64 v15 fun i16 =>
    T.st n10 3 (Value.int IntKind.i64 i16)
    (T.call 44 [Value.pointer (some (Addr.mk n6 0 none))] fun v17 =>
    T.asI IntKind.u64 v17 fun i18 =>
    T.st n10 4 (Value.int IntKind.u64 i18)
    (T.drew
    (T.ldI IntKind.i64 n10 0 fun i19 =>
    T.ldI IntKind.i64 n10 1 fun i20 =>
    T.ldI IntKind.i64 n10 2 fun i21 =>
    T.ldI IntKind.i64 n10 3 fun i22 =>
    T.ldI IntKind.u64 n10 4 fun i23 =>
    T.ldB n6 1 fun b24 =>
    T.ite b24
    (T.ldI IntKind.i64 n10 0 fun i25 =>
    T.ldI IntKind.i64 n10 1 fun i26 =>
    T.ldI IntKind.i64 n10 2 fun i27 =>
    T.ldI IntKind.i64 n10 3 fun i28 =>
    T.ldI IntKind.u64 n10 4 fun i29 =>
    T.call 28
    [Value.agg
    (Array.mk
    [Value.int IntKind.i64 i25, Value.int IntKind.i64 i26,
    Value.int IntKind.i64 i27, Value.int IntKind.i64 i28,
    Value.int IntKind.u64 i29])]
    fun v30 =>
    T.asT v30 fun s31 =>
    T.chk
    [(Addr.mk n6 1 none, Value.bool b24),
    (Addr.mk n10 0 none, Value.int IntKind.i64 i19),
    (Addr.mk n10 1 none, Value.int IntKind.i64 i20),
    (Addr.mk n10 2 none, Value.int IntKind.i64 i21),
    (Addr.mk n10 3 none, Value.int IntKind.i64 i22),
    (Addr.mk n10 4 none, Value.int IntKind.u64 i23)]
    (T.st n1 0 (Value.int IntKind.i64 i19)
    (T.st n1 1 (Value.int IntKind.i64 i20)
    (T.st n1 2 (Value.int IntKind.i64 i21)
    (T.st n1 3 (Value.int IntKind.i64 i22)
    (T.st n1 4 (Value.int IntKind.u64 i23)
    (T.chk [(Addr.mk n6 1 none, Value.bool b24)]
    (T.ldI IntKind.i64 n1 0 fun i32 =>
    T.ldI IntKind.i64 n1 1 fun i33 =>
    T.ldI IntKind.i64 n1 2 fun i34 =>
    T.ldI IntKind.i64 n1 3 fun i35 =>
    T.ldI IntKind.u64 n1 4 fun i36 =>
    T.ret
    (Value.tuple
    (Array.mk
    [Value.agg
    (Array.mk
    [Value.int IntKind.i64 i32,
    Value.int IntKind.i64 i33,
    Value.int IntKind.i64 i34,
    Value.int IntKind.i64 i35,
    Value.int IntKind.u64 i36]),
    Value.bool
    (ByteArray.toList s31 ==
    ByteArray.toList s0)]))))))))))
    (T.chk
    [(Addr.mk n6 1 none, Value.bool b24), (Addr.mk n10 0 none, Value.int IntKind.i64 i19),
    (Addr.mk n10 1 none, Value.int IntKind.i64 i20),
    (Addr.mk n10 2 none, Value.int IntKind.i64 i21),
    (Addr.mk n10 3 none, Value.int IntKind.i64 i22),
    (Addr.mk n10 4 none, Value.int IntKind.u64 i23)]
    (T.st n1 0 (Value.int IntKind.i64 i19)
    (T.st n1 1 (Value.int IntKind.i64 i20)
    (T.st n1 2 (Value.int IntKind.i64 i21)
    (T.st n1 3 (Value.int IntKind.i64 i22)
    (T.st n1 4 (Value.int IntKind.u64 i23)
    (T.chk [(Addr.mk n6 1 none, Value.bool b24)]
    (T.ldI IntKind.i64 n1 0 fun i37 =>
    T.ldI IntKind.i64 n1 1 fun i38 =>
    T.ldI IntKind.i64 n1 2 fun i39 =>
    T.ldI IntKind.i64 n1 3 fun i40 =>
    T.ldI IntKind.u64 n1 4 fun i41 =>
    T.ret
    (Value.tuple
    (Array.mk
    [Value.agg
    (Array.mk
    [Value.int IntKind.i64 i37, Value.int IntKind.i64 i38,
    Value.int IntKind.i64 i39, Value.int IntKind.i64 i40,
    Value.int IntKind.u64 i41]),
    Value.bool false]))))))))))))))))))))
theorem e19 (s0 : ByteArray) : treeOf Tryz.prog Tryz.f19 (codeOf Tryz.f19) (.s .n (.s .n (.s .n (.s .n (.s .n (.s .n (.s .n (.s .n (.s (.p [0, 1, 2, 3, 4, 5, 6, 8, 7, 9, 10, 11, 12]) .n))))))))) [.v (.string s0)] = (t19 s0) := by kernel_rfl
theorem c19 (s0 : ByteArray) {w : World} {R : Ending → World → Prop} (h : (t19 s0).sem Tryz.prog R ρ0 w) : Calls Tryz.prog 19 #[.string s0] w R :=
  calls_of mixed Tryz.func19 rfl rfl (e19 s0) h
def t20 (s0 : ByteArray) : T :=
  T.new
  (Obj.cells
    (Array.mk
    [Value.int IntKind.i64 0, Value.int IntKind.i64 0, Value.int IntKind.i64 0, Value.int IntKind.i64 0, Value.int IntKind.i64 0, Value.slice none 0 0,
    Value.slice none 0 0, Value.slice none 0 0, Value.slice none 0 0, Value.slice none 0 0, Value.int IntKind.i64 0, Value.int IntKind.i64 0,
    Value.int IntKind.i64 0, Value.int IntKind.u8 0, Value.int IntKind.i64 0, Value.int IntKind.i64 0])
    56)
  fun n1 =>
  T.call 41 [Value.string s0] fun v2 =>
    T.asS v2 fun o3 n4 n5 =>
    T.new (Obj.cells (Array.mk [Value.slice o3 n4 n5, Value.bool true]) 100) fun n6 =>
    T.call 45 [Value.pointer (some (Addr.mk n6 0 none))] fun v7 =>
    T.asA v7 fun l8 =>
    T.req (List.length l8 = 16)
    (T.asI IntKind.i64 (List.headD l8 (Value.tuple (Array.mk []))) fun i9 =>
    T.asI IntKind.i64 (List.headD (List.tail l8) (Value.tuple (Array.mk []))) fun i10 =>
    T.asI IntKind.i64 (List.headD (List.tail (List.tail l8)) (Value.tuple (Array.mk []))) fun i11 =>
    T.asI IntKind.i64 (List.headD (List.tail (List.tail (List.tail l8))) (Value.tuple (Array.mk []))) fun i12 =>
    T.asI IntKind.i64 (List.headD (List.tail (List.tail (List.tail (List.tail l8)))) (Value.tuple (Array.mk []))) fun i13 =>
    T.asS (List.headD (List.tail (List.tail (List.tail (List.tail (List.tail l8))))) (Value.tuple (Array.mk []))) fun o14 n15 n16 =>
    T.asS (List.headD (List.tail (List.tail (List.tail (List.tail (List.tail (List.tail l8)))))) (Value.tuple (Array.mk [])))
    fun o17 n18 n19 =>
    T.asS
    (List.headD (List.tail (List.tail (List.tail (List.tail (List.tail (List.tail (List.tail l8))))))) (Value.tuple (Array.mk [])))
    fun o20 n21 n22 =>
    T.asS
    (List.headD (List.tail (List.tail (List.tail (List.tail (List.tail (List.tail (List.tail (List.tail l8))))))))
    (Value.tuple (Array.mk [])))
    fun o23 n24 n25 =>
    T.asS
    (List.headD (List.tail (List.tail (List.tail (List.tail (List.tail (List.tail (List.tail (List.tail (List.tail l8)))))))))
    (Value.tuple (Array.mk [])))
    fun o26 n27 n28 =>
    T.asI IntKind.i64
    (List.headD
    (List.tail (List.tail (List.tail (List.tail (List.tail (List.tail (List.tail (List.tail (List.tail (List.tail l8))))))))))
    (Value.tuple (Array.mk [])))
    fun i29 =>
    T.asI IntKind.i64
    (List.headD
    (List.tail
    (List.tail
    (List.tail (List.tail (List.tail (List.tail (List.tail (List.tail (List.tail (List.tail (List.tail l8)))))))))))
    (Value.tuple (Array.mk [])))
    fun i30 =>
    T.asI IntKind.i64
    (List.headD
    (List.tail
    (List.tail
    (List.tail
    (List.tail
    (List.tail (List.tail (List.tail (List.tail (List.tail (List.tail (List.tail (List.tail l8))))))))))))
    (Value.tuple (Array.mk [])))
    fun i31 =>
    T.asI IntKind.u8
    (List.headD
    (List.tail
    (List.tail
    (List.tail
    (List.tail
    (List.tail
    (List.tail (List.tail (List.tail (List.tail (List.tail (List.tail (List.tail (List.tail l8)))))))))))))
    (Value.tuple (Array.mk [])))
    fun i32 =>
    T.asI IntKind.i64
    (List.headD
    (List.tail
    (List.tail
    (List.tail
    (List.tail
    (List.tail
    (List.tail
    (List.tail
    (List.tail (List.tail (List.tail (List.tail (List.tail (List.tail (List.tail l8))))))))))))))
    (Value.tuple (Array.mk [])))
    fun i33 =>
    T.asI IntKind.i64
    (List.headD
    (List.tail
    (List.tail
    (List.tail
    (List.tail
    (List.tail
    (List.tail
    (List.tail
    (List.tail
    (List.tail (List.tail (List.tail (List.tail (List.tail (List.tail (List.tail l8)))))))))))))))
    (Value.tuple (Array.mk [])))
    fun i34 =>
    T.new
    (Obj.cells
    (Array.mk
    [Value.int IntKind.i64 0, Value.int IntKind.i64 0, Value.int IntKind.i64 0, Value.int IntKind.i64 0,
    Value.int IntKind.i64 0, Value.slice none 0 0, Value.slice none 0 0, Value.slice none 0 0,
    Value.slice none 0 0, Value.slice none 0 0, Value.int IntKind.i64 0, Value.int IntKind.i64 0,
    Value.int IntKind.i64 0, Value.int IntKind.u8 0, Value.int IntKind.i64 0, Value.int IntKind.i64 0])
    56)
    fun n35 =>
    T.st n35 0 (Value.int IntKind.i64 i9)
    (T.st n35 1 (Value.int IntKind.i64 i10)
    (T.st n35 2 (Value.int IntKind.i64 i11)
    (T.st n35 3 (Value.int IntKind.i64 i12)
    (T.st n35 4 (Value.int IntKind.i64 i13)
    (T.st n35 5 (Value.slice o14 n15 n16)
    (T.st n35 6 (Value.slice o17 n18 n19)
    (T.st n35 7 (Value.slice o20 n21 n22)
    (T.st n35 8 (Value.slice o23 n24 n25)
    (T.st n35 9 (Value.slice o26 n27 n28)
    (T.st n35 10 (Value.int IntKind.i64 i29)
    (T.st n35 11 (Value.int IntKind.i64 i30)
    (T.st n35 12 (Value.int IntKind.i64 i31)
    (T.st n35 13 (Value.int IntKind.u8 i32)
    (T.st n35 14 (Value.int IntKind.i64 i33)
    (T.st n35 15 (Value.int IntKind.i64 i34)
    (T.ldI IntKind.i64 n35 0 fun i36 =>
    T.ldI IntKind.i64 n35 1 fun i37 =>
    T.ldI IntKind.i64 n35 2 fun i38 =>
    T.ldI IntKind.i64 n35 3 fun i39 =>
    T.ldI IntKind.i64 n35 4 fun i40 =>
    T.ldS n35 5 fun o41 n42 n43 =>
    T.ldS n35 6 fun o44 n45 n46 =>
    T.ldS n35 7 fun o47 n48 n49 =>
    T.ldS n35 8 fun o50 n51 n52 =>
    T.ldS n35 9 fun o53 n54 n55 =>
    T.ldI IntKind.i64 n35 10 fun i56 =>
    T.ldI IntKind.i64 n35 11 fun i57 =>
    T.ldI IntKind.i64 n35 12 fun i58 =>
    T.ldI IntKind.u8 n35 13 fun i59 =>
    T.ldI IntKind.i64 n35 14 fun i60 =>
    T.ldI IntKind.i64 n35 15 fun i61 =>
    T.call 29
    [Value.agg
    (Array.mk
    [Value.int IntKind.i64 i36,
    Value.int IntKind.i64 i37,
    Value.int IntKind.i64 i38,
    Value.int IntKind.i64 i39,
    Value.int IntKind.i64 i40,
    Value.slice o41 n42 n43,
    Value.slice o44 n45 n46,
    Value.slice o47 n48 n49,
    Value.slice o50 n51 n52,
    Value.slice o53 n54 n55,
    Value.int IntKind.i64 i56,
    Value.int IntKind.i64 i57,
    Value.int IntKind.i64 i58,
    Value.int IntKind.u8 i59,
    Value.int IntKind.i64 i60,
    Value.int IntKind.i64 i61])]
    fun v62 =>
    T.asU v62 fun l63 =>
    T.req (List.length l63 = 2)
    (T.asT
    (List.headD l63
    (Value.tuple (Array.mk [])))
    fun s64 =>
    T.asI IntKind.i64
    (List.headD (List.tail l63)
    (Value.tuple (Array.mk [])))
    fun i65 =>
    T.drew
    (T.ldI IntKind.i64 n35 0 fun i66 =>
    T.ldI IntKind.i64 n35 1 fun i67 =>
    T.ldI IntKind.i64 n35 2
    fun i68 =>
    T.ldI IntKind.i64 n35 3
    fun i69 =>
    T.ldI IntKind.i64 n35 4
    fun i70 =>
    T.ldS n35 5
    fun o71 n72 n73 =>
    T.ldS n35 6
    fun o74 n75 n76 =>
    T.ldS n35 7
    fun o77 n78 n79 =>
    T.ldS n35 8
    fun o80 n81 n82 =>
    T.ldS n35 9
    fun o83 n84
    n85 =>
    T.ldI
    IntKind.i64
    n35 10
    fun i86 =>
    T.ldI
    IntKind.i64
    n35 11
    fun i87 =>
    T.ldI
    IntKind.i64
    n35 12
    fun i88 =>
    T.ldI
    IntKind.u8
    n35 13
    fun
    i89 =>
    T.ldI
    IntKind.i64
    n35 14
    fun
    i90 =>
    T.ldI
    IntKind.i64
    n35
    15
    fun
    i91 =>
    T.ldB
    n6
    1
    fun
    b92 =>
    T.ite
    b92
    (T.ite
    (i65 ==
    0)
    (T.st
    n1
    0
    (Value.int
    IntKind.i64
    i66)
    (T.st
    n1
    1
    (Value.int
    IntKind.i64
    i67)
    (T.st
    n1
    2
    (Value.int
    IntKind.i64
    i68)
    (T.st
    n1
    3
    (Value.int
    IntKind.i64
    i69)
    (T.st
    n1
    4
    (Value.int
    IntKind.i64
    i70)
    (T.st
    n1
    5
    (Value.slice
    o71
    n72
    n73)
    (T.st
    n1
    6
    (Value.slice
    o74
    n75
    n76)
    (T.st
    n1
    7
    (Value.slice
    o77
    n78
    n79)
    (T.st
    n1
    8
    (Value.slice
    o80
    n81
    n82)
    (T.st
    n1
    9
    (Value.slice
    o83
    n84
    n85)
    (T.st
    n1
    10
    (Value.int
    IntKind.i64
    i86)
    (T.st
    n1
    11
    (Value.int
    IntKind.i64
    i87)
    (T.st
    n1
    12
    (Value.int
    IntKind.i64
    i88)
    (T.st
    n1
    13
    (Value.int
    IntKind.u8
    i89)
    (T.st
    n1
    14
    (Value.int
    IntKind.i64
    i90)
    (T.st
    n1
    15
    (Value.int
    IntKind.i64
    i91)
    (T.chk
    [(Addr.mk
    n6
    1
    none,
    Value.bool
    b92)]
    (T.ldI
    IntKind.i64
    n1
    0
    fun
    i93 =>
    T.ldI
    IntKind.i64
    n1
    1
    fun
    i94 =>
    T.ldI
    IntKind.i64
    n1
    2
    fun
    i95 =>
    T.ldI
    IntKind.i64
    n1
    3
    fun
    i96 =>
    T.ldI
    IntKind.i64
    n1
    4
    fun
    i97 =>
    T.ldS
    n1
    5
    fun
    o98
    n99
    n100 =>
    T.ldS
    n1
    6
    fun
    o101
    n102
    n103 =>
    T.ldS
    n1
    7
    fun
    o104
    n105
    n106 =>
    T.ldS
    n1
    8
    fun
    o107
    n108
    n109 =>
    T.ldS
    n1
    9
    fun
    o110
    n111
    n112 =>
    T.ldI
    IntKind.i64
    n1
    10
    fun
    i113 =>
    T.ldI
    IntKind.i64
    n1
    11
    fun
    i114 =>
    T.ldI
    IntKind.i64
    n1
    12
    fun
    i115 =>
    T.ldI
    IntKind.u8
    n1
    13
    fun
    i116 =>
    T.ldI
    IntKind.i64
    n1
    14
    fun
    i117 =>
    T.ldI
    IntKind.i64
    n1
    15
    fun
    i118 =>
    T.ret
    (Value.tuple
    (Array.mk
    [Value.agg
    (Array.mk
    [Value.int
    IntKind.i64
    i93,
    Value.int
    IntKind.i64
    i94,
    Value.int
    IntKind.i64
    i95,
    Value.int
    IntKind.i64
    i96,
    Value.int
    IntKind.i64
    i97,
    Value.slice
    o98
    n99
    n100,
    Value.slice
    o101
    n102
    n103,
    Value.slice
    o104
    n105
    n106,
    Value.slice
    o107
    n108
    n109,
    Value.slice
    o110
    n111
    n112,
    Value.int
    IntKind.i64
    i113,
    Value.int
    IntKind.i64
    i114,
    Value.int
    IntKind.i64
    i115,
    Value.int
    IntKind.u8
    i116,
    Value.int
    IntKind.i64
    i117,
    Value.int
    IntKind.i64
    i118]),
    Value.bool
    (ByteArray.toList
    s64 ==
    ByteArray.toList
    s0)]))))))))))))))))))))
    (T.st
    n1
    0
    (Value.int
    IntKind.i64
    i66)
    (T.st
    n1
    1
    (Value.int
    IntKind.i64
    i67)
    (T.st
    n1
    2
    (Value.int
    IntKind.i64
    i68)
    (T.st
    n1
    3
    (Value.int
    IntKind.i64
    i69)
    (T.st
    n1
    4
    (Value.int
    IntKind.i64
    i70)
    (T.st
    n1
    5
    (Value.slice
    o71
    n72
    n73)
    (T.st
    n1
    6
    (Value.slice
    o74
    n75
    n76)
    (T.st
    n1
    7
    (Value.slice
    o77
    n78
    n79)
    (T.st
    n1
    8
    (Value.slice
    o80
    n81
    n82)
    (T.st
    n1
    9
    (Value.slice
    o83
    n84
    n85)
    (T.st
    n1
    10
    (Value.int
    IntKind.i64
    i86)
    (T.st
    n1
    11
    (Value.int
    IntKind.i64
    i87)
    (T.st
    n1
    12
    (Value.int
    IntKind.i64
    i88)
    (T.st
    n1
    13
    (Value.int
    IntKind.u8
    i89)
    (T.st
    n1
    14
    (Value.int
    IntKind.i64
    i90)
    (T.st
    n1
    15
    (Value.int
    IntKind.i64
    i91)
    (T.chk
    [(Addr.mk
    n6
    1
    none,
    Value.bool
    b92)]
    (T.ldI
    IntKind.i64
    n1
    0
    fun
    i119 =>
    T.ldI
    IntKind.i64
    n1
    1
    fun
    i120 =>
    T.ldI
    IntKind.i64
    n1
    2
    fun
    i121 =>
    T.ldI
    IntKind.i64
    n1
    3
    fun
    i122 =>
    T.ldI
    IntKind.i64
    n1
    4
    fun
    i123 =>
    T.ldS
    n1
    5
    fun
    o124
    n125
    n126 =>
    T.ldS
    n1
    6
    fun
    o127
    n128
    n129 =>
    T.ldS
    n1
    7
    fun
    o130
    n131
    n132 =>
    T.ldS
    n1
    8
    fun
    o133
    n134
    n135 =>
    T.ldS
    n1
    9
    fun
    o136
    n137
    n138 =>
    T.ldI
    IntKind.i64
    n1
    10
    fun
    i139 =>
    T.ldI
    IntKind.i64
    n1
    11
    fun
    i140 =>
    T.ldI
    IntKind.i64
    n1
    12
    fun
    i141 =>
    T.ldI
    IntKind.u8
    n1
    13
    fun
    i142 =>
    T.ldI
    IntKind.i64
    n1
    14
    fun
    i143 =>
    T.ldI
    IntKind.i64
    n1
    15
    fun
    i144 =>
    T.ret
    (Value.tuple
    (Array.mk
    [Value.agg
    (Array.mk
    [Value.int
    IntKind.i64
    i119,
    Value.int
    IntKind.i64
    i120,
    Value.int
    IntKind.i64
    i121,
    Value.int
    IntKind.i64
    i122,
    Value.int
    IntKind.i64
    i123,
    Value.slice
    o124
    n125
    n126,
    Value.slice
    o127
    n128
    n129,
    Value.slice
    o130
    n131
    n132,
    Value.slice
    o133
    n134
    n135,
    Value.slice
    o136
    n137
    n138,
    Value.int
    IntKind.i64
    i139,
    Value.int
    IntKind.i64
    i140,
    Value.int
    IntKind.i64
    i141,
    Value.int
    IntKind.u8
    i142,
    Value.int
    IntKind.i64
    i143,
    Value.int
    IntKind.i64
    i144]),
    Value.bool
    false])))))))))))))))))))))
    (T.st
    n1
    0
    (Value.int
    IntKind.i64
    i66)
    (T.st
    n1
    1
    (Value.int
    IntKind.i64
    i67)
    (T.st
    n1
    2
    (Value.int
    IntKind.i64
    i68)
    (T.st
    n1
    3
    (Value.int
    IntKind.i64
    i69)
    (T.st
    n1
    4
    (Value.int
    IntKind.i64
    i70)
    (T.st
    n1
    5
    (Value.slice
    o71
    n72
    n73)
    (T.st
    n1
    6
    (Value.slice
    o74
    n75
    n76)
    (T.st
    n1
    7
    (Value.slice
    o77
    n78
    n79)
    (T.st
    n1
    8
    (Value.slice
    o80
    n81
    n82)
    (T.st
    n1
    9
    (Value.slice
    o83
    n84
    n85)
    (T.st
    n1
    10
    (Value.int
    IntKind.i64
    i86)
    (T.st
    n1
    11
    (Value.int
    IntKind.i64
    i87)
    (T.st
    n1
    12
    (Value.int
    IntKind.i64
    i88)
    (T.st
    n1
    13
    (Value.int
    IntKind.u8
    i89)
    (T.st
    n1
    14
    (Value.int
    IntKind.i64
    i90)
    (T.st
    n1
    15
    (Value.int
    IntKind.i64
    i91)
    (T.chk
    [(Addr.mk
    n6
    1
    none,
    Value.bool
    b92)]
    (T.ldI
    IntKind.i64
    n1
    0
    fun
    i145 =>
    T.ldI
    IntKind.i64
    n1
    1
    fun
    i146 =>
    T.ldI
    IntKind.i64
    n1
    2
    fun
    i147 =>
    T.ldI
    IntKind.i64
    n1
    3
    fun
    i148 =>
    T.ldI
    IntKind.i64
    n1
    4
    fun
    i149 =>
    T.ldS
    n1
    5
    fun
    o150
    n151
    n152 =>
    T.ldS
    n1
    6
    fun
    o153
    n154
    n155 =>
    T.ldS
    n1
    7
    fun
    o156
    n157
    n158 =>
    T.ldS
    n1
    8
    fun
    o159
    n160
    n161 =>
    T.ldS
    n1
    9
    fun
    o162
    n163
    n164 =>
    T.ldI
    IntKind.i64
    n1
    10
    fun
    i165 =>
    T.ldI
    IntKind.i64
    n1
    11
    fun
    i166 =>
    T.ldI
    IntKind.i64
    n1
    12
    fun
    i167 =>
    T.ldI
    IntKind.u8
    n1
    13
    fun
    i168 =>
    T.ldI
    IntKind.i64
    n1
    14
    fun
    i169 =>
    T.ldI
    IntKind.i64
    n1
    15
    fun
    i170 =>
    T.ret
    (Value.tuple
    (Array.mk
    [Value.agg
    (Array.mk
    [Value.int
    IntKind.i64
    i145,
    Value.int
    IntKind.i64
    i146,
    Value.int
    IntKind.i64
    i147,
    Value.int
    IntKind.i64
    i148,
    Value.int
    IntKind.i64
    i149,
    Value.slice
    o150
    n151
    n152,
    Value.slice
    o153
    n154
    n155,
    Value.slice
    o156
    n157
    n158,
    Value.slice
    o159
    n160
    n161,
    Value.slice
    o162
    n163
    n164,
    Value.int
    IntKind.i64
    i165,
    Value.int
    IntKind.i64
    i166,
    Value.int
    IntKind.i64
    i167,
    Value.int
    IntKind.u8
    i168,
    Value.int
    IntKind.i64
    i169,
    Value.int
    IntKind.i64
    i170]),
    Value.bool
    false])))))))))))))))))))))))))))))))))))))))
theorem e20 (s0 : ByteArray) : treeOf Tryz.prog Tryz.f20 (codeOf Tryz.f20) (.s .n (.s .n (.s .n (.s .n (.s (.p [0, 1, 2, 3, 4, 5, 6, 7, 8, 9, 10, 11, 12, 13, 14, 15]) .n))))) [.v (.string s0)] = (t20 s0) := by kernel_rfl
theorem c20 (s0 : ByteArray) {w : World} {R : Ending → World → Prop} (h : (t20 s0).sem Tryz.prog R ρ0 w) : Calls Tryz.prog 20 #[.string s0] w R :=
  calls_of mixed Tryz.func20 rfl rfl (e20 s0) h
def t41 (s0 : ByteArray) : T :=
  T.loop 0 [Value.slice none 0 0, Value.int IntKind.i64 0, Value.int IntKind.i64 0] fun l1 j2 =>
  T.asS (List.headD l1 (Value.tuple (Array.mk []))) fun o3 n4 n5 =>
    T.asI IntKind.i64 (List.headD (List.tail l1) (Value.tuple (Array.mk []))) fun i6 =>
    T.asI IntKind.i64 (List.headD (List.tail (List.tail l1)) (Value.tuple (Array.mk []))) fun i7 =>
    T.ite (decide (i7 ≤ (↑(ByteArray.size s0) : Int)))
    (T.blk 1
    (fun l8 j9 =>
    T.asB (List.headD l8 (Value.tuple (Array.mk []))) fun b10 =>
    T.ite b10
    (T.req (0 ≤ i7 ∧ i7 ≤ (↑(ByteArray.size s0) : Int) ∧ 0 ≤ i6 ∧ i6 ≤ i7)
    (T.new (Obj.cells (Array.mk [Value.string (ByteArray.extract s0 (Int.toNat i6) (Int.toNat i7))]) 9) fun n11 =>
    T.run (biV Builtin.append (Array.mk [45, 45]) 45 (Array.mk [Value.slice o3 n4 n5, Value.slice (some (Addr.mk n11 0 none)) 1 1]))
    fun v12 =>
    T.asS v12 fun o13 n14 n15 =>
    T.next 0
    [Value.slice o13 n14 n15, Value.int IntKind.i64 (IntKind.wrap IntKind.i64 (i7 + 1)),
    Value.int IntKind.i64 (IntKind.wrap IntKind.i64 (i7 + 1))]
    ([Value.string s0] = [Value.string s0] ∧ ([] : List Deferred) = [])))
    (T.next 0 [Value.slice o3 n4 n5, Value.int IntKind.i64 i6, Value.int IntKind.i64 (IntKind.wrap IntKind.i64 (i7 + 1))]
    ([Value.string s0] = [Value.string s0] ∧ ([] : List Deferred) = [])))
    (T.ite (i7 == (↑(ByteArray.size s0) : Int))
    (T.next 1 [Value.bool true]
    ([Value.string s0, Value.slice o3 n4 n5, Value.int IntKind.i64 i6, Value.int IntKind.i64 i7] =
    [Value.string s0, Value.slice o3 n4 n5, Value.int IntKind.i64 i6, Value.int IntKind.i64 i7] ∧ ([] : List Deferred) = []))
    (T.req (0 ≤ i7 ∧ i7 < (↑(ByteArray.size s0) : Int))
    (T.next 1 [Value.bool ((↑(UInt8.toNat (Array.getD (ByteArray.data s0) (Int.toNat i7) (OfNat.ofNat 0))) : Int) == 32)]
    ([Value.string s0, Value.slice o3 n4 n5, Value.int IntKind.i64 i6, Value.int IntKind.i64 i7] =
    [Value.string s0, Value.slice o3 n4 n5, Value.int IntKind.i64 i6, Value.int IntKind.i64 i7] ∧ ([] : List Deferred) = [])))))
    (T.ret (Value.slice o3 n4 n5))
theorem e41 (s0 : ByteArray) : treeOf Tryz.prog Tryz.f41 (codeOf Tryz.f41) (.s .n (.s .n (.s .n (.s (.s .n (.u (.l [(3, .slice), (4, .int .i64), (5, .int .i64)] [0] (.s .n (.s (.u (.c [(21, .bool)] [0, 3, 4, 5] .n .n)) .n))))) .n)))) [.v (.string s0)] = (t41 s0) := by kernel_rfl
theorem c41 (s0 : ByteArray) {w : World} {R : Ending → World → Prop} (h : (t41 s0).sem Tryz.prog R ρ0 w) : Calls Tryz.prog 41 #[.string s0] w R :=
  calls_of mixed Tryz.func41 rfl rfl (e41 s0) h
def t42 (n0 n1 : Nat) (s2 : ByteArray) : T :=
  T.call 67 [Value.pointer (some (Addr.mk n0 n1 none))] fun v3 =>
  T.asT v3 fun s4 =>
    T.ite (ByteArray.toList s4 == ByteArray.toList s2) (T.ldB n0 (n1 + 1) fun b5 => T.st n0 (n1 + 1) (Value.bool b5) (T.ret (Value.tuple (Array.mk []))))
    (T.st n0 (n1 + 1) (Value.bool false) (T.ret (Value.tuple (Array.mk []))))
theorem e42 (n0 n1 : Nat) (s2 : ByteArray) : treeOf Tryz.prog Tryz.f42 (codeOf Tryz.f42) .n [.p n0 n1, .v (.string s2)] = (t42 n0 n1 s2) := by kernel_rfl
theorem c42 (n0 n1 : Nat) (s2 : ByteArray) {w : World} {R : Ending → World → Prop} (h : (t42 n0 n1 s2).sem Tryz.prog R ρ0 w) : Calls Tryz.prog 42 #[.pointer (some ⟨n0, n1, none⟩), .string s2] w R :=
  calls_of mixed Tryz.func42 rfl rfl (e42 n0 n1 s2) h
def t43 (n0 n1 : Nat) : T :=
  T.call 68 [Value.pointer (some (Addr.mk n0 n1 none))] fun v2 => T.asI IntKind.i64 v2 fun i3 => T.ret (Value.int IntKind.i64 i3)
theorem e43 (n0 n1 : Nat) : treeOf Tryz.prog Tryz.f43 (codeOf Tryz.f43) .n [.p n0 n1] = (t43 n0 n1) := by kernel_rfl
theorem c43 (n0 n1 : Nat) {w : World} {R : Ending → World → Prop} (h : (t43 n0 n1).sem Tryz.prog R ρ0 w) : Calls Tryz.prog 43 #[.pointer (some ⟨n0, n1, none⟩)] w R :=
  calls_of mixed Tryz.func43 rfl rfl (e43 n0 n1) h
def t44 (n0 n1 : Nat) : T :=
  T.call 67 [Value.pointer (some (Addr.mk n0 n1 none))] fun v2 =>
  T.asT v2 fun s3 =>
    T.loop 0 [Value.int IntKind.u64 0, Value.int IntKind.i64 0] fun l4 j5 =>
    T.asI IntKind.u64 (List.headD l4 (Value.tuple (Array.mk []))) fun i6 =>
    T.asI IntKind.i64 (List.headD (List.tail l4) (Value.tuple (Array.mk []))) fun i7 =>
    T.ite (decide (i7 < (↑(ByteArray.size s3) : Int)))
    (T.blk 1
    (fun l8 j9 =>
    T.req (0 ≤ i7 ∧ i7 < (↑(ByteArray.size s3) : Int))
    (T.next 0
    [Value.int IntKind.u64
    (IntKind.wrap IntKind.u64
    (IntKind.wrap IntKind.u64 (10 * i6) +
    IntKind.wrap IntKind.u64
    (IntKind.wrap IntKind.u8 ((↑(UInt8.toNat (Array.getD (ByteArray.data s3) (Int.toNat i7) (OfNat.ofNat 0))) : Int) - 48)))),
    Value.int IntKind.i64 (IntKind.wrap IntKind.i64 (i7 + 1))]
    ([Value.pointer (some (Addr.mk n0 n1 none)), Value.string s3] = [Value.pointer (some (Addr.mk n0 n1 none)), Value.string s3] ∧ ([] : List Deferred) = [])))
    (T.req (0 ≤ i7 ∧ i7 < (↑(ByteArray.size s3) : Int))
    (T.ite (decide ((↑(UInt8.toNat (Array.getD (ByteArray.data s3) (Int.toNat i7) (OfNat.ofNat 0))) : Int) < 48))
    (T.st n0 (n1 + 1) (Value.bool false) (T.ret (Value.int IntKind.u64 0)))
    (T.req (0 ≤ i7 ∧ i7 < (↑(ByteArray.size s3) : Int))
    (T.ite (decide ((↑(UInt8.toNat (Array.getD (ByteArray.data s3) (Int.toNat i7) (OfNat.ofNat 0))) : Int) > 57))
    (T.st n0 (n1 + 1) (Value.bool false) (T.ret (Value.int IntKind.u64 0)))
    (T.req (0 ≤ i7 ∧ i7 < (↑(ByteArray.size s3) : Int))
    (T.req ((10 : Int) ≠ 0)
    (T.ite
    (decide
    (i6 >
    IntKind.wrap IntKind.u64
    (Int.tdiv
    (IntKind.wrap IntKind.u64
    (18446744073709551615 -
    IntKind.wrap IntKind.u64
    (IntKind.wrap IntKind.u8
    ((↑(UInt8.toNat (Array.getD (ByteArray.data s3) (Int.toNat i7) (OfNat.ofNat 0))) : Int) - 48))))
    10)))
    (T.st n0 (n1 + 1) (Value.bool false) (T.ret (Value.int IntKind.u64 0)))
    (T.next 1 []
    ([Value.pointer (some (Addr.mk n0 n1 none)), Value.string s3, Value.int IntKind.u64 i6, Value.int IntKind.i64 i7] =
    [Value.pointer (some (Addr.mk n0 n1 none)), Value.string s3, Value.int IntKind.u64 i6, Value.int IntKind.i64 i7] ∧ ([] : List Deferred) = []))))))))))
    (T.ret (Value.int IntKind.u64 i6))
theorem e44 (n0 n1 : Nat) : treeOf Tryz.prog Tryz.f44 (codeOf Tryz.f44) (.s .n (.s .n (.s .n (.s (.s .n (.u (.l [(4, .int .u64), (5, .int .i64)] [0, 3] (.s .n (.s (.u (.c [] [0, 3, 4, 5] .n .n)) .n))))) .n)))) [.p n0 n1] = (t44 n0 n1) := by kernel_rfl
theorem c44 (n0 n1 : Nat) {w : World} {R : Ending → World → Prop} (h : (t44 n0 n1).sem Tryz.prog R ρ0 w) : Calls Tryz.prog 44 #[.pointer (some ⟨n0, n1, none⟩)] w R :=
  calls_of mixed Tryz.func44 rfl rfl (e44 n0 n1) h
def t45 (n0 n1 : Nat) : T :=
  T.new
  (Obj.cells
    (Array.mk
    [Value.int IntKind.i64 0, Value.int IntKind.i64 0, Value.int IntKind.i64 0, Value.int IntKind.i64 0, Value.int IntKind.i64 0, Value.slice none 0 0,
    Value.slice none 0 0, Value.slice none 0 0, Value.slice none 0 0, Value.slice none 0 0, Value.int IntKind.i64 0, Value.int IntKind.i64 0,
    Value.int IntKind.i64 0, Value.int IntKind.u8 0, Value.int IntKind.i64 0, Value.int IntKind.i64 0])
    56)
  fun n2 =>
  T.call 67 [Value.pointer (some (Addr.mk n0 n1 none))] fun v3 =>
    T.asT v3 fun s4 =>
    T.call 69 [Value.string s4] fun v5 =>
    T.asI IntKind.i64 v5 fun i6 =>
    T.new
    (Obj.cells
    (Array.mk
    [Value.int IntKind.i64 0, Value.int IntKind.i64 0, Value.int IntKind.i64 0, Value.int IntKind.i64 0, Value.int IntKind.i64 0,
    Value.slice none 0 0, Value.slice none 0 0, Value.slice none 0 0, Value.slice none 0 0, Value.slice none 0 0, Value.int IntKind.i64 0,
    Value.int IntKind.i64 0, Value.int IntKind.i64 0, Value.int IntKind.u8 0, Value.int IntKind.i64 0, Value.int IntKind.i64 0])
    56)
    fun n7 =>
    T.st n7 0 (Value.int IntKind.i64 i6)
    (T.st n7 1 (Value.int IntKind.i64 0)
    (T.st n7 2 (Value.int IntKind.i64 0)
    (T.st n7 3 (Value.int IntKind.i64 0)
    (T.st n7 4 (Value.int IntKind.i64 0)
    (T.st n7 5 (Value.slice none 0 0)
    (T.st n7 6 (Value.slice none 0 0)
    (T.st n7 7 (Value.slice none 0 0)
    (T.st n7 8 (Value.slice none 0 0)
    (T.st n7 9 (Value.slice none 0 0)
    (T.st n7 10 (Value.int IntKind.i64 0)
    (T.st n7 11 (Value.int IntKind.i64 0)
    (T.st n7 12 (Value.int IntKind.i64 0)
    (T.st n7 13 (Value.int IntKind.u8 0)
    (T.st n7 14 (Value.int IntKind.i64 0)
    (T.st n7 15 (Value.int IntKind.i64 0)
    (T.blk 0
    (fun l8 j9 =>
    T.ldI IntKind.i64 n7 0 fun i10 =>
    T.ldI IntKind.i64 n7 1 fun i11 =>
    T.ldI IntKind.i64 n7 2 fun i12 =>
    T.ldI IntKind.i64 n7 3 fun i13 =>
    T.ldI IntKind.i64 n7 4 fun i14 =>
    T.ldS n7 5 fun o15 n16 n17 =>
    T.ldS n7 6 fun o18 n19 n20 =>
    T.ldS n7 7 fun o21 n22 n23 =>
    T.ldS n7 8 fun o24 n25 n26 =>
    T.ldS n7 9 fun o27 n28 n29 =>
    T.ldI IntKind.i64 n7 10 fun i30 =>
    T.ldI IntKind.i64 n7 11 fun i31 =>
    T.ldI IntKind.i64 n7 12 fun i32 =>
    T.ldI IntKind.u8 n7 13 fun i33 =>
    T.ldI IntKind.i64 n7 14 fun i34 =>
    T.ldI IntKind.i64 n7 15 fun i35 =>
    T.st n2 0 (Value.int IntKind.i64 i10)
    (T.st n2 1 (Value.int IntKind.i64 i11)
    (T.st n2 2 (Value.int IntKind.i64 i12)
    (T.st n2 3 (Value.int IntKind.i64 i13)
    (T.st n2 4 (Value.int IntKind.i64 i14)
    (T.st n2 5 (Value.slice o15 n16 n17)
    (T.st n2 6 (Value.slice o18 n19 n20)
    (T.st n2 7 (Value.slice o21 n22 n23)
    (T.st n2 8 (Value.slice o24 n25 n26)
    (T.st n2 9 (Value.slice o27 n28 n29)
    (T.st n2 10 (Value.int IntKind.i64 i30)
    (T.st n2 11 (Value.int IntKind.i64 i31)
    (T.st n2 12 (Value.int IntKind.i64 i32)
    (T.st n2 13 (Value.int IntKind.u8 i33)
    (T.st n2 14 (Value.int IntKind.i64 i34)
    (T.st n2 15 (Value.int IntKind.i64 i35)
    (T.ldI IntKind.i64 n2 0 fun i36 =>
    T.ldI IntKind.i64 n2 1 fun i37 =>
    T.ldI IntKind.i64 n2 2 fun i38 =>
    T.ldI IntKind.i64 n2 3 fun i39 =>
    T.ldI IntKind.i64 n2 4 fun i40 =>
    T.ldS n2 5 fun o41 n42 n43 =>
    T.ldS n2 6 fun o44 n45 n46 =>
    T.ldS n2 7 fun o47 n48 n49 =>
    T.ldS n2 8 fun o50 n51 n52 =>
    T.ldS n2 9 fun o53 n54 n55 =>
    T.ldI IntKind.i64 n2 10
    fun i56 =>
    T.ldI IntKind.i64 n2 11
    fun i57 =>
    T.ldI IntKind.i64 n2 12
    fun i58 =>
    T.ldI IntKind.u8 n2 13
    fun i59 =>
    T.ldI IntKind.i64 n2
    14 fun i60 =>
    T.ldI IntKind.i64
    n2 15 fun i61 =>
    T.ret
    (Value.agg
    (Array.mk
    [Value.int
    IntKind.i64
    i36,
    Value.int
    IntKind.i64
    i37,
    Value.int
    IntKind.i64
    i38,
    Value.int
    IntKind.i64
    i39,
    Value.int
    IntKind.i64
    i40,
    Value.slice
    o41
    n42
    n43,
    Value.slice
    o44
    n45
    n46,
    Value.slice
    o47
    n48
    n49,
    Value.slice
    o50
    n51
    n52,
    Value.slice
    o53
    n54
    n55,
    Value.int
    IntKind.i64
    i56,
    Value.int
    IntKind.i64
    i57,
    Value.int
    IntKind.i64
    i58,
    Value.int
    IntKind.u8
    i59,
    Value.int
    IntKind.i64
    i60,
    Value.int
    IntKind.i64
    i61])))))))))))))))))))
    (T.ldI IntKind.i64 n7 0 fun i62 =>
    T.blk 1
    (fun l63 j64 =>
    T.asB (List.headD l63 (Value.tuple (Array.mk []))) fun b65 =>
    T.ite b65
    (T.call 43 [Value.pointer (some (Addr.mk n0 n1 none))] fun v66 =>
    T.asI IntKind.i64 v66 fun i67 =>
    T.st n7 1 (Value.int IntKind.i64 i67)
    (T.next 0 []
    ([Value.pointer (some (Addr.mk n2 0 none)), Value.pointer (some (Addr.mk n7 0 none))] =
    [Value.pointer (some (Addr.mk n2 0 none)), Value.pointer (some (Addr.mk n7 0 none))] ∧ ([] : List Deferred) = [])))
    (T.ite (i62 == 2)
    (T.call 43 [Value.pointer (some (Addr.mk n0 n1 none))] fun v68 =>
    T.asI IntKind.i64 v68 fun i69 =>
    T.st n7 2 (Value.int IntKind.i64 i69)
    (T.call 43 [Value.pointer (some (Addr.mk n0 n1 none))] fun v70 =>
    T.asI IntKind.i64 v70 fun i71 =>
    T.st n7 1 (Value.int IntKind.i64 i71)
    (T.call 70 [Value.pointer (some (Addr.mk n0 n1 none))] fun v72 =>
    T.asA v72 fun l73 =>
    T.req (List.length l73 = 6)
    (T.asI IntKind.i64 (List.headD l73 (Value.tuple (Array.mk []))) fun i74 =>
    T.asI IntKind.i64 (List.headD (List.tail l73) (Value.tuple (Array.mk [])))
    fun i75 =>
    T.asS (List.headD (List.tail (List.tail l73)) (Value.tuple (Array.mk [])))
    fun o76 n77 n78 =>
    T.asS
    (List.headD (List.tail (List.tail (List.tail l73)))
    (Value.tuple (Array.mk [])))
    fun o79 n80 n81 =>
    T.asS
    (List.headD (List.tail (List.tail (List.tail (List.tail l73))))
    (Value.tuple (Array.mk [])))
    fun o82 n83 n84 =>
    T.asS
    (List.headD
    (List.tail (List.tail (List.tail (List.tail (List.tail l73)))))
    (Value.tuple (Array.mk [])))
    fun o85 n86 n87 =>
    T.st n7 3 (Value.int IntKind.i64 i74)
    (T.st n7 4 (Value.int IntKind.i64 i75)
    (T.st n7 5 (Value.slice o76 n77 n78)
    (T.st n7 6 (Value.slice o79 n80 n81)
    (T.st n7 7 (Value.slice o82 n83 n84)
    (T.st n7 8 (Value.slice o85 n86 n87)
    (T.next 0 []
    ([Value.pointer (some (Addr.mk n2 0 none)),
    Value.pointer (some (Addr.mk n7 0 none))] =
    [Value.pointer (some (Addr.mk n2 0 none)),
    Value.pointer (some (Addr.mk n7 0 none))] ∧ ([] : List Deferred) = [])))))))))))
    (T.blk 1
    (fun l88 j89 =>
    T.asB (List.headD l88 (Value.tuple (Array.mk []))) fun b90 =>
    T.ite b90
    (T.call 43 [Value.pointer (some (Addr.mk n0 n1 none))] fun v91 =>
    T.asI IntKind.i64 v91 fun i92 =>
    T.st n7 2 (Value.int IntKind.i64 i92)
    (T.next 0 []
    ([Value.pointer (some (Addr.mk n2 0 none)),
    Value.pointer (some (Addr.mk n7 0 none))] =
    [Value.pointer (some (Addr.mk n2 0 none)),
    Value.pointer (some (Addr.mk n7 0 none))] ∧ ([] : List Deferred) = [])))
    (T.ite (i62 == 4)
    (T.call 43 [Value.pointer (some (Addr.mk n0 n1 none))] fun v93 =>
    T.asI IntKind.i64 v93 fun i94 =>
    T.st n7 2 (Value.int IntKind.i64 i94)
    (T.call 43 [Value.pointer (some (Addr.mk n0 n1 none))] fun v95 =>
    T.asI IntKind.i64 v95 fun i96 =>
    T.st n7 1 (Value.int IntKind.i64 i96)
    (T.call 71 [Value.pointer (some (Addr.mk n0 n1 none))] fun v97 =>
    T.asS v97 fun o98 n99 n100 =>
    T.st n7 9 (Value.slice o98 n99 n100)
    (T.next 0 []
    ([Value.pointer (some (Addr.mk n2 0 none)),
    Value.pointer (some (Addr.mk n7 0 none))] =
    [Value.pointer (some (Addr.mk n2 0 none)),
    Value.pointer (some (Addr.mk n7 0 none))] ∧ ([] : List Deferred) = [])))))
    (T.ite (i62 == 5)
    (T.call 43 [Value.pointer (some (Addr.mk n0 n1 none))] fun v101 =>
    T.asI IntKind.i64 v101 fun i102 =>
    T.st n7 1 (Value.int IntKind.i64 i102)
    (T.call 43 [Value.pointer (some (Addr.mk n0 n1 none))] fun v103 =>
    T.asI IntKind.i64 v103 fun i104 =>
    T.st n7 15 (Value.int IntKind.i64 i104)
    (T.next 0 []
    ([Value.pointer (some (Addr.mk n2 0 none)),
    Value.pointer (some (Addr.mk n7 0 none))] =
    [Value.pointer (some (Addr.mk n2 0 none)),
    Value.pointer (some (Addr.mk n7 0 none))] ∧ ([] : List Deferred) = []))))
    (T.blk 1
    (fun l105 j106 =>
    T.asB (List.headD l105 (Value.tuple (Array.mk []))) fun b107 =>
    T.ite b107
    (T.call 43 [Value.pointer (some (Addr.mk n0 n1 none))] fun v108 =>
    T.asI IntKind.i64 v108 fun i109 =>
    T.st n7 10 (Value.int IntKind.i64 i109)
    (T.call 43 [Value.pointer (some (Addr.mk n0 n1 none))] fun v110 =>
    T.asI IntKind.i64 v110 fun i111 =>
    T.st n7 11 (Value.int IntKind.i64 i111)
    (T.next 0 []
    ([Value.pointer (some (Addr.mk n2 0 none)),
    Value.pointer (some (Addr.mk n7 0 none))] =
    [Value.pointer (some (Addr.mk n2 0 none)),
    Value.pointer (some (Addr.mk n7 0 none))] ∧ ([] : List Deferred) = []))))
    (T.ite (i62 == 10)
    (T.call 43 [Value.pointer (some (Addr.mk n0 n1 none))] fun v112 =>
    T.asI IntKind.i64 v112 fun i113 =>
    T.st n7 10 (Value.int IntKind.i64 i113)
    (T.call 43 [Value.pointer (some (Addr.mk n0 n1 none))] fun v114 =>
    T.asI IntKind.i64 v114 fun i115 =>
    T.st n7 11 (Value.int IntKind.i64 i115)
    (T.call 43 [Value.pointer (some (Addr.mk n0 n1 none))] fun v116 =>
    T.asI IntKind.i64 v116 fun i117 =>
    T.st n7 12 (Value.int IntKind.i64 i117)
    (T.call 43 [Value.pointer (some (Addr.mk n0 n1 none))]
    fun v118 =>
    T.asI IntKind.i64 v118 fun i119 =>
    T.st n7 13
    (Value.int IntKind.u8 (IntKind.wrap IntKind.u8 i119))
    (T.next 0 []
    ([Value.pointer (some (Addr.mk n2 0 none)),
    Value.pointer (some (Addr.mk n7 0 none))] =
    [Value.pointer (some (Addr.mk n2 0 none)),
    Value.pointer (some (Addr.mk n7 0 none))] ∧ ([] : List Deferred) = []))))))
    (T.ite (i62 == 12)
    (T.call 43 [Value.pointer (some (Addr.mk n0 n1 none))] fun v120 =>
    T.asI IntKind.i64 v120 fun i121 =>
    T.st n7 1 (Value.int IntKind.i64 i121)
    (T.call 43 [Value.pointer (some (Addr.mk n0 n1 none))] fun v122 =>
    T.asI IntKind.i64 v122 fun i123 =>
    T.st n7 15 (Value.int IntKind.i64 i123)
    (T.call 43 [Value.pointer (some (Addr.mk n0 n1 none))] fun v124 =>
    T.asI IntKind.i64 v124 fun i125 =>
    T.st n7 14 (Value.int IntKind.i64 i125)
    (T.next 0 []
    ([Value.pointer (some (Addr.mk n2 0 none)),
    Value.pointer (some (Addr.mk n7 0 none))] =
    [Value.pointer (some (Addr.mk n2 0 none)),
    Value.pointer (some (Addr.mk n7 0 none))] ∧ ([] : List Deferred) = [])))))
    (T.next 0 []
    ([Value.pointer (some (Addr.mk n2 0 none)),
    Value.pointer (some (Addr.mk n7 0 none))] =
    [Value.pointer (some (Addr.mk n2 0 none)),
    Value.pointer (some (Addr.mk n7 0 none))] ∧ ([] : List Deferred) = [])))))
    (T.ite (i62 == 7)
    (T.next 1 [Value.bool (i62 == 7)]
    ([Value.pointer (some (Addr.mk n0 n1 none)),
    Value.pointer (some (Addr.mk n2 0 none)),
    Value.pointer (some (Addr.mk n7 0 none)), Value.int IntKind.i64 i62] =
    [Value.pointer (some (Addr.mk n0 n1 none)),
    Value.pointer (some (Addr.mk n2 0 none)),
    Value.pointer (some (Addr.mk n7 0 none)), Value.int IntKind.i64 i62] ∧ ([] : List Deferred) = []))
    (T.ite (i62 == 8)
    (T.next 1 [Value.bool (i62 == 8)]
    ([Value.pointer (some (Addr.mk n0 n1 none)),
    Value.pointer (some (Addr.mk n2 0 none)),
    Value.pointer (some (Addr.mk n7 0 none)), Value.int IntKind.i64 i62] =
    [Value.pointer (some (Addr.mk n0 n1 none)),
    Value.pointer (some (Addr.mk n2 0 none)),
    Value.pointer (some (Addr.mk n7 0 none)), Value.int IntKind.i64 i62] ∧ ([] : List Deferred) = []))
    (T.ite (i62 == 9)
    (T.next 1 [Value.bool (i62 == 9)]
    ([Value.pointer (some (Addr.mk n0 n1 none)),
    Value.pointer (some (Addr.mk n2 0 none)),
    Value.pointer (some (Addr.mk n7 0 none)), Value.int IntKind.i64 i62] =
    [Value.pointer (some (Addr.mk n0 n1 none)),
    Value.pointer (some (Addr.mk n2 0 none)),
    Value.pointer (some (Addr.mk n7 0 none)), Value.int IntKind.i64 i62] ∧ ([] : List Deferred) = []))
    (T.ite (i62 == 18)
    (T.next 1 [Value.bool (i62 == 18)]
    ([Value.pointer (some (Addr.mk n0 n1 none)),
    Value.pointer (some (Addr.mk n2 0 none)),
    Value.pointer (some (Addr.mk n7 0 none)), Value.int IntKind.i64 i62] =
    [Value.pointer (some (Addr.mk n0 n1 none)),
    Value.pointer (some (Addr.mk n2 0 none)),
    Value.pointer (some (Addr.mk n7 0 none)), Value.int IntKind.i64 i62] ∧ ([] : List Deferred) = []))
    (T.ite (i62 == 19)
    (T.next 1 [Value.bool (i62 == 19)]
    ([Value.pointer (some (Addr.mk n0 n1 none)),
    Value.pointer (some (Addr.mk n2 0 none)),
    Value.pointer (some (Addr.mk n7 0 none)), Value.int IntKind.i64 i62] =
    [Value.pointer (some (Addr.mk n0 n1 none)),
    Value.pointer (some (Addr.mk n2 0 none)),
    Value.pointer (some (Addr.mk n7 0 none)), Value.int IntKind.i64 i62] ∧ ([] : List Deferred) = []))
    (T.next 1 [Value.bool (i62 == 20)]
    ([Value.pointer (some (Addr.mk n0 n1 none)),
    Value.pointer (some (Addr.mk n2 0 none)),
    Value.pointer (some (Addr.mk n7 0 none)), Value.int IntKind.i64 i62] =
    [Value.pointer (some (Addr.mk n0 n1 none)),
    Value.pointer (some (Addr.mk n2 0 none)),
    Value.pointer (some (Addr.mk n7 0 none)), Value.int IntKind.i64 i62] ∧ ([] : List Deferred) = [])))))))))))
    (T.ite (i62 == 3)
    (T.next 1 [Value.bool (i62 == 3)]
    ([Value.pointer (some (Addr.mk n0 n1 none)), Value.pointer (some (Addr.mk n2 0 none)),
    Value.pointer (some (Addr.mk n7 0 none)), Value.int IntKind.i64 i62] =
    [Value.pointer (some (Addr.mk n0 n1 none)), Value.pointer (some (Addr.mk n2 0 none)),
    Value.pointer (some (Addr.mk n7 0 none)), Value.int IntKind.i64 i62] ∧ ([] : List Deferred) = []))
    (T.ite (i62 == 16)
    (T.next 1 [Value.bool (i62 == 16)]
    ([Value.pointer (some (Addr.mk n0 n1 none)), Value.pointer (some (Addr.mk n2 0 none)),
    Value.pointer (some (Addr.mk n7 0 none)), Value.int IntKind.i64 i62] =
    [Value.pointer (some (Addr.mk n0 n1 none)), Value.pointer (some (Addr.mk n2 0 none)),
    Value.pointer (some (Addr.mk n7 0 none)), Value.int IntKind.i64 i62] ∧ ([] : List Deferred) = []))
    (T.next 1 [Value.bool (i62 == 17)]
    ([Value.pointer (some (Addr.mk n0 n1 none)), Value.pointer (some (Addr.mk n2 0 none)),
    Value.pointer (some (Addr.mk n7 0 none)), Value.int IntKind.i64 i62] =
    [Value.pointer (some (Addr.mk n0 n1 none)), Value.pointer (some (Addr.mk n2 0 none)),
    Value.pointer (some (Addr.mk n7 0 none)), Value.int IntKind.i64 i62] ∧ ([] : List Deferred) = [])))))))
    (T.ite (i62 == 1)
    (T.next 1 [Value.bool (i62 == 1)]
    ([Value.pointer (some (Addr.mk n0 n1 none)), Value.pointer (some (Addr.mk n2 0 none)),
    Value.pointer (some (Addr.mk n7 0 none)), Value.int IntKind.i64 i62] =
    [Value.pointer (some (Addr.mk n0 n1 none)), Value.pointer (some (Addr.mk n2 0 none)),
    Value.pointer (some (Addr.mk n7 0 none)), Value.int IntKind.i64 i62] ∧ ([] : List Deferred) = []))
    (T.ite (i62 == 6)
    (T.next 1 [Value.bool (i62 == 6)]
    ([Value.pointer (some (Addr.mk n0 n1 none)), Value.pointer (some (Addr.mk n2 0 none)),
    Value.pointer (some (Addr.mk n7 0 none)), Value.int IntKind.i64 i62] =
    [Value.pointer (some (Addr.mk n0 n1 none)), Value.pointer (some (Addr.mk n2 0 none)),
    Value.pointer (some (Addr.mk n7 0 none)), Value.int IntKind.i64 i62] ∧ ([] : List Deferred) = []))
    (T.ite (i62 == 13)
    (T.next 1 [Value.bool (i62 == 13)]
    ([Value.pointer (some (Addr.mk n0 n1 none)), Value.pointer (some (Addr.mk n2 0 none)),
    Value.pointer (some (Addr.mk n7 0 none)), Value.int IntKind.i64 i62] =
    [Value.pointer (some (Addr.mk n0 n1 none)), Value.pointer (some (Addr.mk n2 0 none)),
    Value.pointer (some (Addr.mk n7 0 none)), Value.int IntKind.i64 i62] ∧ ([] : List Deferred) = []))
    (T.next 1 [Value.bool (i62 == 11)]
    ([Value.pointer (some (Addr.mk n0 n1 none)), Value.pointer (some (Addr.mk n2 0 none)),
    Value.pointer (some (Addr.mk n7 0 none)), Value.int IntKind.i64 i62] =
    [Value.pointer (some (Addr.mk n0 n1 none)), Value.pointer (some (Addr.mk n2 0 none)),
    Value.pointer (some (Addr.mk n7 0 none)), Value.int IntKind.i64 i62] ∧ ([] : List Deferred) = []))))))))))))))))))))))
theorem e45 (n0 n1 : Nat) : treeOf Tryz.prog Tryz.f45 (codeOf Tryz.f45) (.s .n (.s .n (.c [] [2, 3] (.s .n (.u (.c [(11, .bool)] [0, 2, 3, 10] .n (.s .n (.s .n (.s .n (.c [(30, .bool)] [0, 2, 3, 10] .n (.s .n (.s .n (.s .n (.s .n (.s .n (.c [(56, .bool)] [0, 2, 3, 10] .n .n))))))))))))) .n))) [.p n0 n1] = (t45 n0 n1) := by kernel_rfl
theorem c45 (n0 n1 : Nat) {w : World} {R : Ending → World → Prop} (h : (t45 n0 n1).sem Tryz.prog R ρ0 w) : Calls Tryz.prog 45 #[.pointer (some ⟨n0, n1, none⟩)] w R :=
  calls_of mixed Tryz.func45 rfl rfl (e45 n0 n1) h
def t67 (n0 n1 : Nat) : T :=
  T.ldS n0 n1 fun o2 n3 n4 =>
  T.ite ((↑n3 : Int) == 0) (T.st n0 (n1 + 1) (Value.bool false) (T.ret (Value.string (ByteArray.mk (Array.mk [])))))
    (T.ldS n0 n1 fun o5 n6 n7 =>
    T.req ((0 : Int) ≤ 0 ∧ (0 : Int) < (↑n6 : Int))
    (T.sm o5 fun n8 n9 =>
    T.ldT n8 n9 fun s10 =>
    T.ldS n0 n1 fun o11 n12 n13 =>
    T.req ((0 : Int) ≤ 1 ∧ (1 : Int) ≤ (↑n12 : Int)) (T.st n0 n1 (Value.slice (sliceBase o11 1 n13 1) (n12 - 1) (n13 - 1)) (T.ret (Value.string s10)))))
theorem e67 (n0 n1 : Nat) : treeOf Tryz.prog Tryz.f67 (codeOf Tryz.f67) .n [.p n0 n1] = (t67 n0 n1) := by kernel_rfl
theorem c67 (n0 n1 : Nat) {w : World} {R : Ending → World → Prop} (h : (t67 n0 n1).sem Tryz.prog R ρ0 w) : Calls Tryz.prog 67 #[.pointer (some ⟨n0, n1, none⟩)] w R :=
  calls_of mixed Tryz.func67 rfl rfl (e67 n0 n1) h
def t68 (n0 n1 : Nat) : T :=
  T.call 67 [Value.pointer (some (Addr.mk n0 n1 none))] fun v2 =>
  T.asT v2 fun s3 =>
    T.call 101 [Value.string s3] fun v4 =>
    T.asU v4 fun l5 =>
    T.req (List.length l5 = 2)
    (T.asI IntKind.i64 (List.headD l5 (Value.tuple (Array.mk []))) fun i6 =>
    T.asB (List.headD (List.tail l5) (Value.tuple (Array.mk []))) fun b7 =>
    T.ldB n0 (n1 + 1) fun b8 =>
    T.ite b8 (T.st n0 (n1 + 1) (Value.bool b7) (T.ret (Value.int IntKind.i64 i6)))
    (T.st n0 (n1 + 1) (Value.bool false) (T.ret (Value.int IntKind.i64 i6))))
theorem e68 (n0 n1 : Nat) : treeOf Tryz.prog Tryz.f68 (codeOf Tryz.f68) .n [.p n0 n1] = (t68 n0 n1) := by kernel_rfl
theorem c68 (n0 n1 : Nat) {w : World} {R : Ending → World → Prop} (h : (t68 n0 n1).sem Tryz.prog R ρ0 w) : Calls Tryz.prog 68 #[.pointer (some ⟨n0, n1, none⟩)] w R :=
  calls_of mixed Tryz.func68 rfl rfl (e68 n0 n1) h
def t69 (s0 : ByteArray) : T :=
  T.loop 0 [Value.int IntKind.i64 1] fun l1 j2 =>
  T.asI IntKind.i64 (List.headD l1 (Value.tuple (Array.mk []))) fun i3 =>
    T.ite (decide (i3 ≤ 20))
    (T.call 83 [Value.int IntKind.i64 i3] fun v4 =>
    T.asT v4 fun s5 =>
    T.ite (ByteArray.toList s5 == ByteArray.toList s0) (T.ret (Value.int IntKind.i64 i3))
    (T.next 0 [Value.int IntKind.i64 (IntKind.wrap IntKind.i64 (i3 + 1))] ([Value.string s0] = [Value.string s0] ∧ ([] : List Deferred) = [])))
    (T.ret (Value.int IntKind.i64 0))
theorem e69 (s0 : ByteArray) : treeOf Tryz.prog Tryz.f69 (codeOf Tryz.f69) (.s .n (.s (.s .n (.u (.l [(3, .int .i64)] [0] .n))) .n)) [.v (.string s0)] = (t69 s0) := by kernel_rfl
theorem c69 (s0 : ByteArray) {w : World} {R : Ending → World → Prop} (h : (t69 s0).sem Tryz.prog R ρ0 w) : Calls Tryz.prog 69 #[.string s0] w R :=
  calls_of mixed Tryz.func69 rfl rfl (e69 s0) h
def t70 (n0 n1 : Nat) : T :=
  T.new
  (Obj.cells
    (Array.mk [Value.int IntKind.i64 0, Value.int IntKind.i64 0, Value.slice none 0 0, Value.slice none 0 0, Value.slice none 0 0, Value.slice none 0 0]) 52)
  fun n2 =>
  T.call 42
    [Value.pointer (some (Addr.mk n0 n1 none)), Value.string (ByteArray.mk (Array.mk [OfNat.ofNat 99, OfNat.ofNat 111, OfNat.ofNat 100, OfNat.ofNat 101]))]
    fun v3 =>
    T.call 67 [Value.pointer (some (Addr.mk n0 n1 none))] fun v4 =>
    T.asT v4 fun s5 =>
    T.call 102 [Value.string s5] fun v6 =>
    T.asU v6 fun l7 =>
    T.req (List.length l7 = 2)
    (T.asS (List.headD l7 (Value.tuple (Array.mk []))) fun o8 n9 n10 =>
    T.asB (List.headD (List.tail l7) (Value.tuple (Array.mk []))) fun b11 =>
    T.blk 0
    (fun l12 j13 =>
    T.new
    (Obj.cells
    (Array.mk
    [Value.int IntKind.i64 0, Value.int IntKind.i64 0, Value.slice none 0 0, Value.slice none 0 0, Value.slice none 0 0,
    Value.slice none 0 0])
    52)
    fun n14 =>
    T.st n14 0 (Value.int IntKind.i64 0)
    (T.st n14 1 (Value.int IntKind.i64 0)
    (T.st n14 2 (Value.slice o8 n9 n10)
    (T.st n14 3 (Value.slice none 0 0)
    (T.st n14 4 (Value.slice none 0 0)
    (T.st n14 5 (Value.slice none 0 0)
    (T.call 42
    [Value.pointer (some (Addr.mk n0 n1 none)),
    Value.string (ByteArray.mk (Array.mk [OfNat.ofNat 97, OfNat.ofNat 114, OfNat.ofNat 103, OfNat.ofNat 115]))]
    fun v15 =>
    T.call 103 [Value.pointer (some (Addr.mk n0 n1 none))] fun v16 =>
    T.asI IntKind.i64 v16 fun i17 =>
    T.loop 0 [Value.int IntKind.i64 0] fun l18 j19 =>
    T.asI IntKind.i64 (List.headD l18 (Value.tuple (Array.mk []))) fun i20 =>
    T.ite (decide (i20 < i17))
    (T.drew
    (T.ldS n14 3 fun o21 n22 n23 =>
    T.call 68 [Value.pointer (some (Addr.mk n0 n1 none))] fun v24 =>
    T.asI IntKind.i64 v24 fun i25 =>
    T.chk [(Addr.mk n14 3 none, Value.slice o21 n22 n23)]
    (T.new (Obj.cells (Array.mk [Value.int IntKind.i64 i25]) 2) fun n26 =>
    T.chk [(Addr.mk n14 3 none, Value.slice o21 n22 n23)]
    (T.run
    (biV Builtin.append (Array.mk [49, 49]) 49
    (Array.mk [Value.slice o21 n22 n23, Value.slice (some (Addr.mk n26 0 none)) 1 1]))
    fun v27 =>
    T.asS v27 fun o28 n29 n30 =>
    T.chk []
    (T.st n14 3 (Value.slice o28 n29 n30)
    (T.chk []
    (T.next 0 [Value.int IntKind.i64 (IntKind.wrap IntKind.i64 (i20 + 1))]
    ([Value.pointer (some (Addr.mk n0 n1 none)), Value.pointer (some (Addr.mk n2 0 none)),
    Value.pointer (some (Addr.mk n14 0 none)), Value.int IntKind.i64 i17] =
    [Value.pointer (some (Addr.mk n0 n1 none)),
    Value.pointer (some (Addr.mk n2 0 none)),
    Value.pointer (some (Addr.mk n14 0 none)), Value.int IntKind.i64 i17] ∧ ([] : List Deferred) = []))))))))
    (T.call 42
    [Value.pointer (some (Addr.mk n0 n1 none)),
    Value.string
    (ByteArray.mk
    (Array.mk [OfNat.ofNat 114, OfNat.ofNat 101, OfNat.ofNat 97, OfNat.ofNat 100, OfNat.ofNat 115]))]
    fun v31 =>
    T.call 71 [Value.pointer (some (Addr.mk n0 n1 none))] fun v32 =>
    T.asS v32 fun o33 n34 n35 =>
    T.st n14 4 (Value.slice o33 n34 n35)
    (T.call 42
    [Value.pointer (some (Addr.mk n0 n1 none)),
    Value.string
    (ByteArray.mk
    (Array.mk
    [OfNat.ofNat 119, OfNat.ofNat 114, OfNat.ofNat 105, OfNat.ofNat 116, OfNat.ofNat 101,
    OfNat.ofNat 115]))]
    fun v36 =>
    T.call 71 [Value.pointer (some (Addr.mk n0 n1 none))] fun v37 =>
    T.asS v37 fun o38 n39 n40 =>
    T.st n14 5 (Value.slice o38 n39 n40)
    (T.ldI IntKind.i64 n14 0 fun i41 =>
    T.ldI IntKind.i64 n14 1 fun i42 =>
    T.ldS n14 2 fun o43 n44 n45 =>
    T.ldS n14 3 fun o46 n47 n48 =>
    T.ldS n14 4 fun o49 n50 n51 =>
    T.ldS n14 5 fun o52 n53 n54 =>
    T.st n2 0 (Value.int IntKind.i64 i41)
    (T.st n2 1 (Value.int IntKind.i64 i42)
    (T.st n2 2 (Value.slice o43 n44 n45)
    (T.st n2 3 (Value.slice o46 n47 n48)
    (T.st n2 4 (Value.slice o49 n50 n51)
    (T.st n2 5 (Value.slice o52 n53 n54)
    (T.ldI IntKind.i64 n2 0 fun i55 =>
    T.ldI IntKind.i64 n2 1 fun i56 =>
    T.ldS n2 2 fun o57 n58 n59 =>
    T.ldS n2 3 fun o60 n61 n62 =>
    T.ldS n2 4 fun o63 n64 n65 =>
    T.ldS n2 5 fun o66 n67 n68 =>
    T.ret
    (Value.agg
    (Array.mk
    [Value.int IntKind.i64 i55, Value.int IntKind.i64 i56,
    Value.slice o57 n58 n59, Value.slice o60 n61 n62,
    Value.slice o63 n64 n65,
    Value.slice o66 n67 n68]))))))))))))))))))
    (T.ldB n0 (n1 + 1) fun b69 =>
    T.ite b69
    (T.st n0 (n1 + 1) (Value.bool b11)
    (T.next 0 []
    ([Value.pointer (some (Addr.mk n0 n1 none)), Value.pointer (some (Addr.mk n2 0 none)), Value.slice o8 n9 n10] =
    [Value.pointer (some (Addr.mk n0 n1 none)), Value.pointer (some (Addr.mk n2 0 none)), Value.slice o8 n9 n10] ∧ ([] : List Deferred) = [])))
    (T.st n0 (n1 + 1) (Value.bool false)
    (T.next 0 []
    ([Value.pointer (some (Addr.mk n0 n1 none)), Value.pointer (some (Addr.mk n2 0 none)), Value.slice o8 n9 n10] =
    [Value.pointer (some (Addr.mk n0 n1 none)), Value.pointer (some (Addr.mk n2 0 none)), Value.slice o8 n9 n10] ∧ ([] : List Deferred) = [])))))
theorem e70 (n0 n1 : Nat) : treeOf Tryz.prog Tryz.f70 (codeOf Tryz.f70) (.s .n (.s .n (.s .n (.c [] [0, 2, 3] .n (.s .n (.s .n (.s .n (.s (.s .n (.u (.l [(7, .int .i64)] [0, 2, 5, 6] (.s .n (.s (.u (.p [0, 1, 2, 3, 4, 5, 6, 7])) .n))))) .n)))))))) [.p n0 n1] = (t70 n0 n1) := by kernel_rfl
theorem c70 (n0 n1 : Nat) {w : World} {R : Ending → World → Prop} (h : (t70 n0 n1).sem Tryz.prog R ρ0 w) : Calls Tryz.prog 70 #[.pointer (some ⟨n0, n1, none⟩)] w R :=
  calls_of mixed Tryz.func70 rfl rfl (e70 n0 n1) h
def t71 (n0 n1 : Nat) : T :=
  T.call 103 [Value.pointer (some (Addr.mk n0 n1 none))] fun v2 =>
  T.asI IntKind.i64 v2 fun i3 =>
    T.loop 0 [Value.slice none 0 0, Value.int IntKind.i64 0] fun l4 j5 =>
    T.asS (List.headD l4 (Value.tuple (Array.mk []))) fun o6 n7 n8 =>
    T.asI IntKind.i64 (List.headD (List.tail l4) (Value.tuple (Array.mk []))) fun i9 =>
    T.blk 1
    (fun l10 j11 =>
    T.call 68 [Value.pointer (some (Addr.mk n0 n1 none))] fun v12 =>
    T.asI IntKind.i64 v12 fun i13 =>
    T.call 68 [Value.pointer (some (Addr.mk n0 n1 none))] fun v14 =>
    T.asI IntKind.i64 v14 fun i15 =>
    T.new (Obj.cells (Array.mk [Value.int IntKind.i32 0, Value.int IntKind.i64 0]) 63) fun n16 =>
    T.st n16 0 (Value.int IntKind.i32 (IntKind.wrap IntKind.i32 i13))
    (T.st n16 1 (Value.int IntKind.i64 i15)
    (T.ldB n0 (n1 + 1) fun b17 =>
    T.ite b17
    (T.ldI IntKind.i32 n16 0 fun i18 =>
    T.st n0 (n1 + 1) (Value.bool (IntKind.wrap IntKind.i64 i18 == i13))
    (T.ldI IntKind.i32 n16 0 fun i19 =>
    T.ldI IntKind.i64 n16 1 fun i20 =>
    T.new (Obj.cells (Array.mk [Value.int IntKind.i32 i19, Value.int IntKind.i64 i20]) 63) fun n21 =>
    T.run
    (biV Builtin.append (Array.mk [50, 50]) 50
    (Array.mk [Value.slice o6 n7 n8, Value.slice (some (Addr.mk n21 0 none)) 1 1]))
    fun v22 =>
    T.asS v22 fun o23 n24 n25 =>
    T.next 0 [Value.slice o23 n24 n25, Value.int IntKind.i64 (IntKind.wrap IntKind.i64 (i9 + 1))]
    ([Value.pointer (some (Addr.mk n0 n1 none)), Value.int IntKind.i64 i3] =
    [Value.pointer (some (Addr.mk n0 n1 none)), Value.int IntKind.i64 i3] ∧ ([] : List Deferred) = [])))
    (T.st n0 (n1 + 1) (Value.bool false)
    (T.ldI IntKind.i32 n16 0 fun i26 =>
    T.ldI IntKind.i64 n16 1 fun i27 =>
    T.new (Obj.cells (Array.mk [Value.int IntKind.i32 i26, Value.int IntKind.i64 i27]) 63) fun n28 =>
    T.run
    (biV Builtin.append (Array.mk [50, 50]) 50
    (Array.mk [Value.slice o6 n7 n8, Value.slice (some (Addr.mk n28 0 none)) 1 1]))
    fun v29 =>
    T.asS v29 fun o30 n31 n32 =>
    T.next 0 [Value.slice o30 n31 n32, Value.int IntKind.i64 (IntKind.wrap IntKind.i64 (i9 + 1))]
    ([Value.pointer (some (Addr.mk n0 n1 none)), Value.int IntKind.i64 i3] =
    [Value.pointer (some (Addr.mk n0 n1 none)), Value.int IntKind.i64 i3] ∧ ([] : List Deferred) = []))))))
    (T.ite (decide (i9 < i3))
    (T.ldB n0 (n1 + 1) fun b33 =>
    T.ite b33
    (T.next 1 []
    ([Value.pointer (some (Addr.mk n0 n1 none)), Value.int IntKind.i64 i3, Value.slice o6 n7 n8, Value.int IntKind.i64 i9] =
    [Value.pointer (some (Addr.mk n0 n1 none)), Value.int IntKind.i64 i3, Value.slice o6 n7 n8, Value.int IntKind.i64 i9] ∧ ([] : List Deferred) = []))
    (T.ret (Value.slice o6 n7 n8)))
    (T.ret (Value.slice o6 n7 n8)))
theorem e71 (n0 n1 : Nat) : treeOf Tryz.prog Tryz.f71 (codeOf Tryz.f71) (.s .n (.s .n (.s .n (.s (.s .n (.u (.l [(4, .slice), (5, .int .i64)] [0, 3] (.c [] [0, 3, 4, 5] .n .n)))) .n)))) [.p n0 n1] = (t71 n0 n1) := by kernel_rfl
theorem c71 (n0 n1 : Nat) {w : World} {R : Ending → World → Prop} (h : (t71 n0 n1).sem Tryz.prog R ρ0 w) : Calls Tryz.prog 71 #[.pointer (some ⟨n0, n1, none⟩)] w R :=
  calls_of mixed Tryz.func71 rfl rfl (e71 n0 n1) h
def t101 (s0 : ByteArray) : T :=
  T.blk 0
  (fun l1 j2 =>
    T.asB (List.headD l1 (Value.tuple (Array.mk []))) fun b3 =>
    T.blk 0
    (fun l4 j5 =>
    T.asI IntKind.i64 (List.headD l4 (Value.tuple (Array.mk []))) fun i6 =>
    T.ite (i6 == (↑(ByteArray.size s0) : Int)) (T.ret (Value.tuple (Array.mk [Value.int IntKind.i64 0, Value.bool false])))
    (T.loop 0 [Value.int IntKind.i64 i6, Value.int IntKind.i64 0] fun l7 j8 =>
    T.asI IntKind.i64 (List.headD l7 (Value.tuple (Array.mk []))) fun i9 =>
    T.asI IntKind.i64 (List.headD (List.tail l7) (Value.tuple (Array.mk []))) fun i10 =>
    T.ite (decide (i9 < (↑(ByteArray.size s0) : Int)))
    (T.blk 1
    (fun l11 j12 =>
    T.req (0 ≤ i9 ∧ i9 < (↑(ByteArray.size s0) : Int))
    (T.req ((10 : Int) ≠ 0)
    (T.ite
    (decide
    (i10 <
    IntKind.wrap IntKind.i64
    (Int.tdiv
    (IntKind.wrap IntKind.i64
    (-9223372036854775808 +
    IntKind.wrap IntKind.i64
    (IntKind.wrap IntKind.u8
    ((↑(UInt8.toNat (Array.getD (ByteArray.data s0) (Int.toNat i9) (OfNat.ofNat 0))) : Int) - 48))))
    10)))
    (T.ret (Value.tuple (Array.mk [Value.int IntKind.i64 0, Value.bool false])))
    (T.next 0
    [Value.int IntKind.i64 (IntKind.wrap IntKind.i64 (i9 + 1)),
    Value.int IntKind.i64
    (IntKind.wrap IntKind.i64
    (IntKind.wrap IntKind.i64 (10 * i10) -
    IntKind.wrap IntKind.i64
    (IntKind.wrap IntKind.u8
    ((↑(UInt8.toNat (Array.getD (ByteArray.data s0) (Int.toNat i9) (OfNat.ofNat 0))) : Int) - 48))))]
    ([Value.string s0, Value.bool b3] = [Value.string s0, Value.bool b3] ∧ ([] : List Deferred) = [])))))
    (T.req (0 ≤ i9 ∧ i9 < (↑(ByteArray.size s0) : Int))
    (T.ite (decide ((↑(UInt8.toNat (Array.getD (ByteArray.data s0) (Int.toNat i9) (OfNat.ofNat 0))) : Int) < 48))
    (T.ret (Value.tuple (Array.mk [Value.int IntKind.i64 0, Value.bool false])))
    (T.req (0 ≤ i9 ∧ i9 < (↑(ByteArray.size s0) : Int))
    (T.ite (decide ((↑(UInt8.toNat (Array.getD (ByteArray.data s0) (Int.toNat i9) (OfNat.ofNat 0))) : Int) > 57))
    (T.ret (Value.tuple (Array.mk [Value.int IntKind.i64 0, Value.bool false])))
    (T.next 1 []
    ([Value.string s0, Value.bool b3, Value.int IntKind.i64 i9, Value.int IntKind.i64 i10] =
    [Value.string s0, Value.bool b3, Value.int IntKind.i64 i9, Value.int IntKind.i64 i10] ∧ ([] : List Deferred) = [])))))))
    (T.ite b3 (T.ret (Value.tuple (Array.mk [Value.int IntKind.i64 i10, Value.bool true])))
    (T.ite (i10 == -9223372036854775808) (T.ret (Value.tuple (Array.mk [Value.int IntKind.i64 0, Value.bool false])))
    (T.ret (Value.tuple (Array.mk [Value.int IntKind.i64 (IntKind.wrap IntKind.i64 (0 - i10)), Value.bool true])))))))
    (T.ite b3 (T.next 0 [Value.int IntKind.i64 1] ([Value.string s0, Value.bool b3] = [Value.string s0, Value.bool b3] ∧ ([] : List Deferred) = []))
    (T.next 0 [Value.int IntKind.i64 0] ([Value.string s0, Value.bool b3] = [Value.string s0, Value.bool b3] ∧ ([] : List Deferred) = []))))
  (T.ite (decide ((↑(ByteArray.size s0) : Int) > 0))
    (T.req ((0 : Int) ≤ 0 ∧ (0 : Int) < (↑(ByteArray.size s0) : Int))
    (T.next 0 [Value.bool ((↑(UInt8.toNat (Array.getD (ByteArray.data s0) 0 (OfNat.ofNat 0))) : Int) == 45)]
    ([Value.string s0] = [Value.string s0] ∧ ([] : List Deferred) = [])))
    (T.next 0 [Value.bool false] ([Value.string s0] = [Value.string s0] ∧ ([] : List Deferred) = [])))
theorem e101 (s0 : ByteArray) : treeOf Tryz.prog Tryz.f101 (codeOf Tryz.f101) (.s .n (.c [(4, .bool)] [0] .n (.s .n (.c [(5, .int .i64)] [0, 4] .n (.s .n (.s .n (.s (.u (.l [(5, .int .i64), (6, .int .i64)] [0, 4] (.s .n (.s (.u (.c [] [0, 4, 5, 6] .n .n)) .n)))) .n))))))) [.v (.string s0)] = (t101 s0) := by kernel_rfl
theorem c101 (s0 : ByteArray) {w : World} {R : Ending → World → Prop} (h : (t101 s0).sem Tryz.prog R ρ0 w) : Calls Tryz.prog 101 #[.string s0] w R :=
  calls_of mixed Tryz.func101 rfl rfl (e101 s0) h
def t103 (n0 n1 : Nat) : T :=
  T.call 68 [Value.pointer (some (Addr.mk n0 n1 none))] fun v2 =>
  T.asI IntKind.i64 v2 fun i3 =>
    T.ite (decide (i3 < 0)) (T.st n0 (n1 + 1) (Value.bool false) (T.ret (Value.int IntKind.i64 0)))
    (T.ldS n0 n1 fun o4 n5 n6 =>
    T.ite (decide (i3 > (↑n5 : Int))) (T.st n0 (n1 + 1) (Value.bool false) (T.ret (Value.int IntKind.i64 0))) (T.ret (Value.int IntKind.i64 i3)))
theorem e103 (n0 n1 : Nat) : treeOf Tryz.prog Tryz.f103 (codeOf Tryz.f103) .n [.p n0 n1] = (t103 n0 n1) := by kernel_rfl
theorem c103 (n0 n1 : Nat) {w : World} {R : Ending → World → Prop} (h : (t103 n0 n1).sem Tryz.prog R ρ0 w) : Calls Tryz.prog 103 #[.pointer (some ⟨n0, n1, none⟩)] w R :=
  calls_of mixed Tryz.func103 rfl rfl (e103 n0 n1) h
def t3 (s0 : ByteArray) : T :=
  T.call2 5 [Value.string s0]
  (fun v1 =>
    T.asU v1 fun l2 =>
    T.req (List.length l2 = 4)
    (T.asA (List.headD l2 (Value.tuple (Array.mk []))) fun l3 =>
    T.req (List.length l3 = 5)
    (T.asI IntKind.i64 (List.headD l3 (Value.tuple (Array.mk []))) fun i4 =>
    T.asI IntKind.i64 (List.headD (List.tail l3) (Value.tuple (Array.mk []))) fun i5 =>
    T.asI IntKind.i64 (List.headD (List.tail (List.tail l3)) (Value.tuple (Array.mk []))) fun i6 =>
    T.asI IntKind.i64 (List.headD (List.tail (List.tail (List.tail l3))) (Value.tuple (Array.mk []))) fun i7 =>
    T.asI IntKind.u64 (List.headD (List.tail (List.tail (List.tail (List.tail l3)))) (Value.tuple (Array.mk []))) fun i8 =>
    T.asS (List.headD (List.tail l2) (Value.tuple (Array.mk []))) fun o9 n10 n11 =>
    T.asI IntKind.i64 (List.headD (List.tail (List.tail l2)) (Value.tuple (Array.mk []))) fun i12 =>
    T.asI IntKind.i64 (List.headD (List.tail (List.tail (List.tail l2))) (Value.tuple (Array.mk []))) fun i13 =>
    T.new
    (Obj.cells
    (Array.mk
    [Value.int IntKind.i64 0, Value.int IntKind.i64 0, Value.int IntKind.i64 0, Value.int IntKind.i64 0, Value.int IntKind.u64 0])
    24)
    fun n14 =>
    T.st n14 0 (Value.int IntKind.i64 i4)
    (T.st n14 1 (Value.int IntKind.i64 i5)
    (T.st n14 2 (Value.int IntKind.i64 i6)
    (T.st n14 3 (Value.int IntKind.i64 i7)
    (T.st n14 4 (Value.int IntKind.u64 i8)
    (T.call 6 [Value.string s0] fun v15 =>
    T.asU v15 fun l16 =>
    T.req (List.length l16 = 4)
    (T.asA (List.headD l16 (Value.tuple (Array.mk []))) fun l17 =>
    T.req (List.length l17 = 5)
    (T.asI IntKind.i64 (List.headD l17 (Value.tuple (Array.mk []))) fun i18 =>
    T.asI IntKind.i64 (List.headD (List.tail l17) (Value.tuple (Array.mk []))) fun i19 =>
    T.asI IntKind.i64 (List.headD (List.tail (List.tail l17)) (Value.tuple (Array.mk []))) fun i20 =>
    T.asI IntKind.i64 (List.headD (List.tail (List.tail (List.tail l17))) (Value.tuple (Array.mk [])))
    fun i21 =>
    T.asI IntKind.u64
    (List.headD (List.tail (List.tail (List.tail (List.tail l17)))) (Value.tuple (Array.mk [])))
    fun i22 =>
    T.asS (List.headD (List.tail l16) (Value.tuple (Array.mk []))) fun o23 n24 n25 =>
    T.asI IntKind.i64 (List.headD (List.tail (List.tail l16)) (Value.tuple (Array.mk []))) fun i26 =>
    T.asI IntKind.i64
    (List.headD (List.tail (List.tail (List.tail l16))) (Value.tuple (Array.mk []))) fun i27 =>
    T.new
    (Obj.cells
    (Array.mk
    [Value.int IntKind.i64 0, Value.int IntKind.i64 0, Value.int IntKind.i64 0,
    Value.int IntKind.i64 0, Value.int IntKind.u64 0])
    24)
    fun n28 =>
    T.st n28 0 (Value.int IntKind.i64 i18)
    (T.st n28 1 (Value.int IntKind.i64 i19)
    (T.st n28 2 (Value.int IntKind.i64 i20)
    (T.st n28 3 (Value.int IntKind.i64 i21)
    (T.st n28 4 (Value.int IntKind.u64 i22)
    (T.call 7 [] fun v29 =>
    T.asB v29 fun b30 =>
    T.ite b30
    (T.ite (i12 == i26)
    (T.ite (i13 == i27)
    (T.ldI IntKind.i64 n14 0 fun i31 =>
    T.ldI IntKind.i64 n14 1 fun i32 =>
    T.ldI IntKind.i64 n14 2 fun i33 =>
    T.ldI IntKind.i64 n14 3 fun i34 =>
    T.ldI IntKind.u64 n14 4 fun i35 =>
    T.ldI IntKind.i64 n28 0 fun i36 =>
    T.ldI IntKind.i64 n28 1 fun i37 =>
    T.ldI IntKind.i64 n28 2 fun i38 =>
    T.ldI IntKind.i64 n28 3 fun i39 =>
    T.ldI IntKind.u64 n28 4 fun i40 =>
    T.call 8
    [Value.agg
    (Array.mk
    [Value.int IntKind.i64 i31,
    Value.int IntKind.i64 i32,
    Value.int IntKind.i64 i33,
    Value.int IntKind.i64 i34,
    Value.int IntKind.u64 i35]),
    Value.agg
    (Array.mk
    [Value.int IntKind.i64 i36,
    Value.int IntKind.i64 i37,
    Value.int IntKind.i64 i38,
    Value.int IntKind.i64 i39,
    Value.int IntKind.u64 i40]),
    Value.slice o9 n10 n11, Value.slice o23 n24 n25]
    fun v41 =>
    T.asB v41 fun b42 => T.ret (Value.bool b42))
    (T.ret (Value.bool false)))
    (T.ret (Value.bool false)))
    (T.ret (Value.bool false)))))))))))))))))
  fun v43 => T.pan v43
theorem e3 (s0 : ByteArray) : treeOf Tryz.prog Tryz.f3 (codeOf Tryz.f3) .n [.v (.string s0)] = (t3 s0) := by kernel_rfl
theorem c3 (s0 : ByteArray) {w : World} {R : Ending → World → Prop} (h : (t3 s0).sem Tryz.prog R ρ0 w) : Calls Tryz.prog 3 #[.string s0] w R :=
  calls_of mixed Tryz.func3 rfl rfl (e3 s0) h
def t4 (i0 : Int) (i1 : Int) (i2 : Int) (i3 : Int) (i4 : Int) (o5 : Option Addr) (n6 n7 : Nat) (s8 : ByteArray) : T :=
  T.new
  (Obj.cells (Array.mk [Value.int IntKind.i64 i0, Value.int IntKind.i64 i1, Value.int IntKind.i64 i2, Value.int IntKind.i64 i3, Value.int IntKind.u64 i4]) 24)
  fun n9 =>
  T.ldI IntKind.i64 n9 0 fun i10 =>
    T.ldI IntKind.i64 n9 1 fun i11 =>
    T.ldI IntKind.i64 n9 2 fun i12 =>
    T.ldI IntKind.i64 n9 3 fun i13 =>
    T.ldI IntKind.u64 n9 4 fun i14 =>
    T.call 9
    [Value.agg
    (Array.mk
    [Value.int IntKind.i64 i10, Value.int IntKind.i64 i11, Value.int IntKind.i64 i12, Value.int IntKind.i64 i13, Value.int IntKind.u64 i14]),
    Value.slice o5 n6 n7]
    fun v15 =>
    T.asU v15 fun l16 =>
    T.req (List.length l16 = 2)
    (T.asT (List.headD l16 (Value.tuple (Array.mk []))) fun s17 =>
    T.asI IntKind.i64 (List.headD (List.tail l16) (Value.tuple (Array.mk []))) fun i18 =>
    T.blk 0
    (fun l19 j20 =>
    T.blk 0
    (fun l21 j22 =>
    T.call2 5 [Value.string s8]
    (fun v23 =>
    T.asU v23 fun l24 =>
    T.req (List.length l24 = 4)
    (T.asA (List.headD l24 (Value.tuple (Array.mk []))) fun l25 =>
    T.req (List.length l25 = 5)
    (T.asI IntKind.i64 (List.headD l25 (Value.tuple (Array.mk []))) fun i26 =>
    T.asI IntKind.i64 (List.headD (List.tail l25) (Value.tuple (Array.mk []))) fun i27 =>
    T.asI IntKind.i64 (List.headD (List.tail (List.tail l25)) (Value.tuple (Array.mk []))) fun i28 =>
    T.asI IntKind.i64 (List.headD (List.tail (List.tail (List.tail l25))) (Value.tuple (Array.mk []))) fun i29 =>
    T.asI IntKind.u64 (List.headD (List.tail (List.tail (List.tail (List.tail l25)))) (Value.tuple (Array.mk [])))
    fun i30 =>
    T.asS (List.headD (List.tail l24) (Value.tuple (Array.mk []))) fun o31 n32 n33 =>
    T.asI IntKind.i64 (List.headD (List.tail (List.tail l24)) (Value.tuple (Array.mk []))) fun i34 =>
    T.asI IntKind.i64 (List.headD (List.tail (List.tail (List.tail l24))) (Value.tuple (Array.mk [])))
    fun i35 =>
    T.new
    (Obj.cells
    (Array.mk
    [Value.int IntKind.i64 0, Value.int IntKind.i64 0, Value.int IntKind.i64 0,
    Value.int IntKind.i64 0, Value.int IntKind.u64 0])
    24)
    fun n36 =>
    T.st n36 0 (Value.int IntKind.i64 i26)
    (T.st n36 1 (Value.int IntKind.i64 i27)
    (T.st n36 2 (Value.int IntKind.i64 i28)
    (T.st n36 3 (Value.int IntKind.i64 i29)
    (T.st n36 4 (Value.int IntKind.u64 i30)
    (T.blk 0
    (fun l37 j38 =>
    T.run (convert 9 35 (Value.string s8)) fun v39 =>
    T.asS v39 fun o40 n41 n42 =>
    T.call 12 [Value.slice o40 n41 n42] fun v43 =>
    T.asT v43 fun s44 =>
    T.call 11 [Value.string s44] fun v45 =>
    T.asU v45 fun l46 =>
    T.req (List.length l46 = 2)
    (T.asS (List.headD l46 (Value.tuple (Array.mk []))) fun o47 n48 n49 =>
    T.asB (List.headD (List.tail l46) (Value.tuple (Array.mk [])))
    fun b50 =>
    T.ite b50
    (T.run (convert 35 9 (Value.slice o47 n48 n49)) fun v51 =>
    T.asT v51 fun s52 =>
    T.ret
    (Value.bool (ByteArray.toList s52 == ByteArray.toList s8)))
    (T.ret (Value.bool false))))
    (T.ite (i35 == 0)
    (T.ldI IntKind.i64 n36 0 fun i53 =>
    T.ldI IntKind.i64 n36 1 fun i54 =>
    T.ldI IntKind.i64 n36 2 fun i55 =>
    T.ldI IntKind.i64 n36 3 fun i56 =>
    T.ldI IntKind.u64 n36 4 fun i57 =>
    T.call 9
    [Value.agg
    (Array.mk
    [Value.int IntKind.i64 i53, Value.int IntKind.i64 i54,
    Value.int IntKind.i64 i55, Value.int IntKind.i64 i56,
    Value.int IntKind.u64 i57]),
    Value.slice o31 n32 n33]
    fun v58 =>
    T.asU v58 fun l59 =>
    T.req (List.length l59 = 2)
    (T.asT (List.headD l59 (Value.tuple (Array.mk []))) fun s60 =>
    T.asI IntKind.i64
    (List.headD (List.tail l59) (Value.tuple (Array.mk [])))
    fun i61 =>
    T.ite (i61 != 0) (T.ret (Value.bool false))
    (T.ite (!ByteArray.toList s60 == ByteArray.toList s8)
    (T.ret (Value.bool false))
    (T.ite (i34 != 0) (T.ret (Value.bool false))
    (T.next 0 []
    ([Value.string s8] = [Value.string s8] ∧ ([] : List Deferred) = []))))))
    (T.next 0 [] ([Value.string s8] = [Value.string s8] ∧ ([] : List Deferred) = [])))))))))))
    fun v62 => T.pan v62)
    (T.ite (i18 == 0)
    (T.call2 5 [Value.string s17]
    (fun v63 =>
    T.asU v63 fun l64 =>
    T.req (List.length l64 = 4)
    (T.asA (List.headD l64 (Value.tuple (Array.mk []))) fun l65 =>
    T.req (List.length l65 = 5)
    (T.asI IntKind.i64 (List.headD l65 (Value.tuple (Array.mk []))) fun i66 =>
    T.asI IntKind.i64 (List.headD (List.tail l65) (Value.tuple (Array.mk []))) fun i67 =>
    T.asI IntKind.i64 (List.headD (List.tail (List.tail l65)) (Value.tuple (Array.mk []))) fun i68 =>
    T.asI IntKind.i64 (List.headD (List.tail (List.tail (List.tail l65))) (Value.tuple (Array.mk []))) fun i69 =>
    T.asI IntKind.u64 (List.headD (List.tail (List.tail (List.tail (List.tail l65)))) (Value.tuple (Array.mk [])))
    fun i70 =>
    T.asS (List.headD (List.tail l64) (Value.tuple (Array.mk []))) fun o71 n72 n73 =>
    T.asI IntKind.i64 (List.headD (List.tail (List.tail l64)) (Value.tuple (Array.mk []))) fun i74 =>
    T.asI IntKind.i64 (List.headD (List.tail (List.tail (List.tail l64))) (Value.tuple (Array.mk [])))
    fun i75 =>
    T.new
    (Obj.cells
    (Array.mk
    [Value.int IntKind.i64 0, Value.int IntKind.i64 0, Value.int IntKind.i64 0,
    Value.int IntKind.i64 0, Value.int IntKind.u64 0])
    24)
    fun n76 =>
    T.st n76 0 (Value.int IntKind.i64 i66)
    (T.st n76 1 (Value.int IntKind.i64 i67)
    (T.st n76 2 (Value.int IntKind.i64 i68)
    (T.st n76 3 (Value.int IntKind.i64 i69)
    (T.st n76 4 (Value.int IntKind.u64 i70)
    (T.ite (i75 != 0) (T.ret (Value.bool false))
    (T.ldI IntKind.i64 n9 0 fun i77 =>
    T.ldI IntKind.i64 n9 1 fun i78 =>
    T.ldI IntKind.i64 n9 2 fun i79 =>
    T.ldI IntKind.i64 n9 3 fun i80 =>
    T.ldI IntKind.u64 n9 4 fun i81 =>
    T.ldI IntKind.i64 n76 0 fun i82 =>
    T.ldI IntKind.i64 n76 1 fun i83 =>
    T.ldI IntKind.i64 n76 2 fun i84 =>
    T.ldI IntKind.i64 n76 3 fun i85 =>
    T.ldI IntKind.u64 n76 4 fun i86 =>
    T.call 8
    [Value.agg
    (Array.mk
    [Value.int IntKind.i64 i77, Value.int IntKind.i64 i78,
    Value.int IntKind.i64 i79, Value.int IntKind.i64 i80,
    Value.int IntKind.u64 i81]),
    Value.agg
    (Array.mk
    [Value.int IntKind.i64 i82, Value.int IntKind.i64 i83,
    Value.int IntKind.i64 i84, Value.int IntKind.i64 i85,
    Value.int IntKind.u64 i86]),
    Value.slice o5 n6 n7, Value.slice o71 n72 n73]
    fun v87 =>
    T.asB v87 fun b88 =>
    T.ite (!b88) (T.ret (Value.bool false))
    (T.next 0 []
    ([Value.string s8] = [Value.string s8] ∧ ([] : List Deferred) = [])))))))))))
    fun v89 => T.pan v89)
    (T.next 0 [] ([Value.string s8] = [Value.string s8] ∧ ([] : List Deferred) = []))))
    (T.ldI IntKind.i64 n9 0 fun i90 =>
    T.ldI IntKind.i64 n9 1 fun i91 =>
    T.ldI IntKind.i64 n9 2 fun i92 =>
    T.ldI IntKind.i64 n9 3 fun i93 =>
    T.ldI IntKind.u64 n9 4 fun i94 =>
    T.call 10
    [Value.agg
    (Array.mk
    [Value.int IntKind.i64 i90, Value.int IntKind.i64 i91, Value.int IntKind.i64 i92, Value.int IntKind.i64 i93,
    Value.int IntKind.u64 i94]),
    Value.slice o5 n6 n7]
    fun v95 =>
    T.asU v95 fun l96 =>
    T.req (List.length l96 = 2)
    (T.asT (List.headD l96 (Value.tuple (Array.mk []))) fun s97 =>
    T.asI IntKind.i64 (List.headD (List.tail l96) (Value.tuple (Array.mk []))) fun i98 =>
    T.ite (i18 != i98) (T.ret (Value.bool false))
    (T.call 7 [] fun v99 =>
    T.asB v99 fun b100 =>
    T.ite (!b100) (T.ret (Value.bool false))
    (T.next 0 []
    ([Value.slice o5 n6 n7, Value.string s8, Value.pointer (some (Addr.mk n9 0 none)), Value.string s17,
    Value.int IntKind.i64 i18] =
    [Value.slice o5 n6 n7, Value.string s8, Value.pointer (some (Addr.mk n9 0 none)), Value.string s17,
    Value.int IntKind.i64 i18] ∧ ([] : List Deferred) = []))))))
theorem e4 (i0 : Int) (i1 : Int) (i2 : Int) (i3 : Int) (i4 : Int) (o5 : Option Addr) (n6 n7 : Nat) (s8 : ByteArray) : treeOf Tryz.prog Tryz.f4 (codeOf Tryz.f4) (.s .n (.s .n (.c [] [1, 2, 3, 7, 8] .n (.c [] [2] .n (.s .n (.c [] [2] .n .n)))))) [.v (.agg #[.int .i64 i0, .int .i64 i1, .int .i64 i2, .int .i64 i3, .int .u64 i4]), .v (.slice o5 n6 n7), .v (.string s8)] = (t4 i0 i1 i2 i3 i4 o5 n6 n7 s8) := by kernel_rfl
theorem c4 (i0 : Int) (i1 : Int) (i2 : Int) (i3 : Int) (i4 : Int) (o5 : Option Addr) (n6 n7 : Nat) (s8 : ByteArray) {w : World} {R : Ending → World → Prop} (h : (t4 i0 i1 i2 i3 i4 o5 n6 n7 s8).sem Tryz.prog R ρ0 w) : Calls Tryz.prog 4 #[.agg #[.int .i64 i0, .int .i64 i1, .int .i64 i2, .int .i64 i3, .int .u64 i4], .slice o5 n6 n7, .string s8] w R :=
  calls_of mixed Tryz.func4 rfl rfl (e4 i0 i1 i2 i3 i4 o5 n6 n7 s8) h
def t38 (o0 : Option Addr) (n1 n2 : Nat) (n3 n4 : Nat) : T :=
  T.loop 0 [Value.int IntKind.i64 0] fun l5 j6 =>
  T.asI IntKind.i64 (List.headD l5 (Value.tuple (Array.mk []))) fun i7 =>
    T.ite (decide (i7 < (↑n1 : Int)))
    (T.req (0 ≤ i7 ∧ i7 < (↑n1 : Int))
    (T.sm o0 fun n8 n9 =>
    T.ldT n8 (n9 + Int.toNat i7 * 2) fun s10 =>
    T.ldS n8 (n9 + Int.toNat i7 * 2 + 1) fun o11 n12 n13 =>
    T.call 39 [Value.agg (Array.mk [Value.string s10, Value.slice o11 n12 n13]), Value.pointer (some (Addr.mk n3 n4 none))] fun v14 =>
    T.asB v14 fun b15 =>
    T.ite b15 (T.ret (Value.int IntKind.i64 i7))
    (T.next 0 [Value.int IntKind.i64 (IntKind.wrap IntKind.i64 (i7 + 1))]
    ([Value.slice o0 n1 n2, Value.func (Fn.func 39) (Array.mk []) (Array.mk [Value.pointer (some (Addr.mk n3 n4 none))]),
    Value.int IntKind.i64 (↑n1 : Int)] =
    [Value.slice o0 n1 n2, Value.func (Fn.func 39) (Array.mk []) (Array.mk [Value.pointer (some (Addr.mk n3 n4 none))]),
    Value.int IntKind.i64 (↑n1 : Int)] ∧ ([] : List Deferred) = []))))
    (T.ret (Value.int IntKind.i64 (-1)))
theorem e38 (o0 : Option Addr) (n1 n2 : Nat) (n3 n4 : Nat) : treeOf Tryz.prog Tryz.f38 (codeOf Tryz.f38) (.s .n (.s (.s .n (.u (.l [(8, .int .i64)] [0, 1, 7] .n))) .n)) [.v (.slice o0 n1 n2), .v (.func (.func 39) #[] #[.pointer (some ⟨n3, n4, none⟩)])] = (t38 o0 n1 n2 n3 n4) := by kernel_rfl
theorem c38 (o0 : Option Addr) (n1 n2 : Nat) (n3 n4 : Nat) {w : World} {R : Ending → World → Prop} (h : (t38 o0 n1 n2 n3 n4).sem Tryz.prog R ρ0 w) : Calls Tryz.prog 38 #[.slice o0 n1 n2, .func (.func 39) #[] #[.pointer (some ⟨n3, n4, none⟩)]] w R :=
  calls_of mixed Tryz.func38 rfl rfl (e38 o0 n1 n2 n3 n4) h
def t39 (s0 : ByteArray) (o1 : Option Addr) (n2 n3 : Nat) (n4 n5 : Nat) : T :=
  T.new (Obj.cells (Array.mk [Value.string s0, Value.slice o1 n2 n3]) 89) fun n6 =>
  T.ldT n6 0 fun s7 => T.ldT n4 n5 fun s8 => T.ret (Value.bool (ByteArray.toList s7 == ByteArray.toList s8))
theorem e39 (s0 : ByteArray) (o1 : Option Addr) (n2 n3 : Nat) (n4 n5 : Nat) : treeOf Tryz.prog Tryz.f39 (codeOf Tryz.f39) .n [.v (.agg #[.string s0, .slice o1 n2 n3]), .p n4 n5] = (t39 s0 o1 n2 n3 n4 n5) := by kernel_rfl
theorem c39 (s0 : ByteArray) (o1 : Option Addr) (n2 n3 : Nat) (n4 n5 : Nat) {w : World} {R : Ending → World → Prop} (h : (t39 s0 o1 n2 n3 n4 n5).sem Tryz.prog R ρ0 w) : Calls Tryz.prog 39 #[.agg #[.string s0, .slice o1 n2 n3], .pointer (some ⟨n4, n5, none⟩)] w R :=
  calls_of mixed Tryz.func39 rfl rfl (e39 s0 o1 n2 n3 n4 n5) h
end Go.Proofs.YtihipcofjpnfbaaGreatDoor
