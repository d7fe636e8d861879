/- The functions' trees, printed by a program (wip/tools/Emit.lean) and checked by the kernel against the model's own code. -/
import Derived.Test.YtpjcfnnnciknmaaTreesA
import Derived.Test.YtpjcfnnnciknmaaProg
namespace Go.Proofs.Ytpjcfnnnciknmaa
open Go hiding Expr
open Go.Proofs.Ytpjcfnnnciknmaa.Tr
set_option linter.unusedVariables false
set_option maxRecDepth 100000
def t23o (o0 : Option Addr) : T :=
  T.ite (Option.isNone o0) (T.ret (Value.bool true)) (T.sm o0 fun n1 n2 => T.ldM n1 (n2 + 1) fun o3 => T.ret (Value.bool (Option.isNone o3)))
theorem e23o (o0 : Option Addr) : treeOf Try.prog Try.f23 (codeOf Try.f23) .n [.v (.pointer o0)] = (t23o o0) := by kernel_rfl
theorem c23o (o0 : Option Addr) {w : World} {R : Ending → World → Prop} (h : (t23o o0).sem Try.prog R ρ0 w) : Calls Try.prog 23 #[.pointer o0] w R :=
  calls_of mixed Try.func23 rfl rfl (e23o o0) h
def t21o (o0 : Option Addr) : T :=
  T.call 23 [Value.pointer o0] fun v1 =>
  T.asB v1 fun b2 =>
    T.ite (!b2)
    (T.call 33 [Value.pointer o0] fun v3 =>
    T.asS v3 fun o4 n5 n6 =>
    T.call 36 [Value.slice o4 n5 n6] fun v7 =>
    T.asC 51 v7 fun l8 =>
    T.req (List.length l8 = 1)
    (T.asP (List.headD l8 (Value.tuple (Array.mk []))) fun o9 => T.ret (Value.func (Fn.func 51) (Array.mk []) (Array.mk [Value.pointer o9]))))
    (T.call 36 [Value.slice none 0 0] fun v10 =>
    T.asC 51 v10 fun l11 =>
    T.req (List.length l11 = 1)
    (T.asP (List.headD l11 (Value.tuple (Array.mk []))) fun o12 => T.ret (Value.func (Fn.func 51) (Array.mk []) (Array.mk [Value.pointer o12]))))
theorem e21o (o0 : Option Addr) : treeOf Try.prog Try.f21 (codeOf Try.f21) .n [.v (.pointer o0)] = (t21o o0) := by kernel_rfl
theorem c21o (o0 : Option Addr) {w : World} {R : Ending → World → Prop} (h : (t21o o0).sem Try.prog R ρ0 w) : Calls Try.prog 21 #[.pointer o0] w R :=
  calls_of mixed Try.func21 rfl rfl (e21o o0) h
def t18o (o0 : Option Addr) : T :=
  T.call 23 [Value.pointer o0] fun v1 =>
  T.asB v1 fun b2 =>
    T.ite b2 (T.ret (Value.int IntKind.i64 0)) (T.call 33 [Value.pointer o0] fun v3 => T.asS v3 fun o4 n5 n6 => T.ret (Value.int IntKind.i64 (↑n5 : Int)))
theorem e18o (o0 : Option Addr) : treeOf Try.prog Try.f18 (codeOf Try.f18) .n [.v (.pointer o0)] = (t18o o0) := by kernel_rfl
theorem c18o (o0 : Option Addr) {w : World} {R : Ending → World → Prop} (h : (t18o o0).sem Try.prog R ρ0 w) : Calls Try.prog 18 #[.pointer o0] w R :=
  calls_of mixed Try.func18 rfl rfl (e18o o0) h
def t22o (o0 : Option Addr) : T :=
  T.call 23 [Value.pointer o0] fun v1 =>
  T.asB v1 fun b2 =>
    T.ite b2 (T.ret (Value.pointer none))
    (T.drew
    (T.sm o0 fun n3 n4 =>
    T.ldI IntKind.i64 n3 n4 fun i5 =>
    T.sm o0 fun n6 n7 =>
    T.ldM n6 (n7 + 1) fun o8 =>
    T.sm o0 fun n9 n10 =>
    T.ldM n9 (n10 + 2) fun o11 =>
    T.call 37 [Value.map o8] fun v12 =>
    T.asM v12 fun o13 =>
    T.chk [(Addr.mk n9 (n10 + 2) none, Value.map o11), (Addr.mk n3 n4 none, Value.int IntKind.i64 i5)]
    (T.call 38 [Value.map o11] fun v14 =>
    T.asM v14 fun o15 =>
    T.chk [(Addr.mk n3 n4 none, Value.int IntKind.i64 i5)]
    (T.new (Obj.cells (Array.mk [Value.int IntKind.i64 i5, Value.map o13, Value.map o15]) 57) fun n16 =>
    T.chk [(Addr.mk n3 n4 none, Value.int IntKind.i64 i5)] (T.ret (Value.pointer (some (Addr.mk n16 0 none))))))))
theorem e22o (o0 : Option Addr) : treeOf Try.prog Try.f22 (codeOf Try.f22) (.s .n (.s .n (.s (.p [0, 1, 2, 3, 4, 5, 6, 7, 9, 10, 11, 12, 8, 13, 14, 15, 16]) .n))) [.v (.pointer o0)] = (t22o o0) := by kernel_rfl
theorem c22o (o0 : Option Addr) {w : World} {R : Ending → World → Prop} (h : (t22o o0).sem Try.prog R ρ0 w) : Calls Try.prog 22 #[.pointer o0] w R :=
  calls_of mixed Try.func22 rfl rfl (e22o o0) h
def t8o (o0 : Option Addr) (i1 : Int) (i2 : Int) (i3 : Int) (o4 : Option Addr) (n5 n6 : Nat) : T :=
  T.new (Obj.cells (Array.mk [Value.int IntKind.i64 i1, Value.int IntKind.i64 i2]) 28) fun n7 =>
  T.call 23 [Value.pointer o0] fun v8 =>
    T.asB v8 fun b9 =>
    T.ite b9 (T.ret (Value.tuple (Array.mk [Value.bool false, Value.int IntKind.i64 2])))
    (T.call 24 [Value.pointer o0, Value.int IntKind.i64 i3] fun v10 =>
    T.asB v10 fun b11 =>
    T.ite (!b11) (T.ret (Value.tuple (Array.mk [Value.bool false, Value.int IntKind.i64 1])))
    (T.drew
    (T.ldI IntKind.i64 n7 0 fun i12 =>
    T.ldI IntKind.i64 n7 1 fun i13 =>
    T.both
    (T.call 25 [Value.slice o4 n5 n6] fun v14 =>
    T.asS v14 fun o15 n16 n17 =>
    T.chk [(Addr.mk n7 0 none, Value.int IntKind.i64 i12), (Addr.mk n7 1 none, Value.int IntKind.i64 i13)]
    (T.new (Obj.cells (Array.mk [Value.int IntKind.i64 0, Value.int IntKind.i64 0, Value.int IntKind.i64 0]) 68) fun n18 =>
    T.chk [(Addr.mk n7 0 none, Value.int IntKind.i64 i12), (Addr.mk n7 1 none, Value.int IntKind.i64 i13)]
    (T.st n18 0 (Value.int IntKind.i64 i12)
    (T.st n18 1 (Value.int IntKind.i64 i13)
    (T.st n18 2 (Value.int IntKind.i64 i3)
    (T.chk []
    (T.blk 0
    (fun l19 j20 =>
    T.drew
    (T.sm o0 fun n21 n22 =>
    T.ldM n21 (n22 + 2) fun o23 =>
    T.ldI IntKind.i64 n18 0 fun i24 =>
    T.ldI IntKind.i64 n18 1 fun i25 =>
    T.ldI IntKind.i64 n18 2 fun i26 =>
    T.run
    (muV 55 (Value.map o23)
    (Value.agg
    (Array.mk [Value.int IntKind.i64 i24, Value.int IntKind.i64 i25, Value.int IntKind.i64 i26]))
    (Value.slice o15 n16 n17))
    fun v27 =>
    T.chk []
    (T.ldI IntKind.i64 n7 0 fun i28 =>
    T.ldI IntKind.i64 n7 1 fun i29 =>
    T.call 15
    [Value.pointer o0,
    Value.agg (Array.mk [Value.int IntKind.i64 i28, Value.int IntKind.i64 i29])]
    fun v30 =>
    T.asB v30 fun b31 =>
    T.ret (Value.tuple (Array.mk [Value.bool b31, Value.int IntKind.i64 0])))))
    (T.drew
    (T.sm o0 fun n32 n33 =>
    T.ldM n32 (n33 + 2) fun o34 =>
    T.ldI IntKind.i64 n18 0 fun i35 =>
    T.ldI IntKind.i64 n18 1 fun i36 =>
    T.ldI IntKind.i64 n18 2 fun i37 =>
    T.run
    (Instr.lookup 55 (Value.map o34)
    (Value.agg
    (Array.mk [Value.int IntKind.i64 i35, Value.int IntKind.i64 i36, Value.int IntKind.i64 i37]))
    true)
    fun v38 =>
    T.asU v38 fun l39 =>
    T.req (List.length l39 = 2)
    (T.asS (List.headD l39 (Value.tuple (Array.mk []))) fun o40 n41 n42 =>
    T.asB (List.headD (List.tail l39) (Value.tuple (Array.mk []))) fun b43 =>
    T.chk []
    (T.ite b43
    (T.call 16 [Value.slice o40 n41 n42, Value.slice o15 n16 n17] fun v44 =>
    T.asB v44 fun b45 =>
    T.ite (!b45)
    (T.ret (Value.tuple (Array.mk [Value.bool false, Value.int IntKind.i64 180])))
    (T.next 0 []
    ([Value.pointer o0, Value.pointer (some (Addr.mk n7 0 none)),
    Value.pointer (some (Addr.mk n18 0 none)), Value.slice o15 n16 n17] =
    [Value.pointer o0, Value.pointer (some (Addr.mk n7 0 none)),
    Value.pointer (some (Addr.mk n18 0 none)), Value.slice o15 n16 n17] ∧ ([] : List Deferred) = [])))
    (T.next 0 []
    ([Value.pointer o0, Value.pointer (some (Addr.mk n7 0 none)),
    Value.pointer (some (Addr.mk n18 0 none)), Value.slice o15 n16 n17] =
    [Value.pointer o0, Value.pointer (some (Addr.mk n7 0 none)),
    Value.pointer (some (Addr.mk n18 0 none)), Value.slice o15 n16 n17] ∧ ([] : List Deferred) = [])))))))))))))
    (T.new (Obj.cells (Array.mk [Value.int IntKind.i64 0, Value.int IntKind.i64 0, Value.int IntKind.i64 0]) 68) fun n46 =>
    T.chk [(Addr.mk n7 0 none, Value.int IntKind.i64 i12), (Addr.mk n7 1 none, Value.int IntKind.i64 i13)]
    (T.call 25 [Value.slice o4 n5 n6] fun v47 =>
    T.asS v47 fun o48 n49 n50 =>
    T.chk [(Addr.mk n7 0 none, Value.int IntKind.i64 i12), (Addr.mk n7 1 none, Value.int IntKind.i64 i13)]
    (T.st n46 0 (Value.int IntKind.i64 i12)
    (T.st n46 1 (Value.int IntKind.i64 i13)
    (T.st n46 2 (Value.int IntKind.i64 i3)
    (T.chk []
    (T.blk 0
    (fun l51 j52 =>
    T.drew
    (T.sm o0 fun n53 n54 =>
    T.ldM n53 (n54 + 2) fun o55 =>
    T.ldI IntKind.i64 n46 0 fun i56 =>
    T.ldI IntKind.i64 n46 1 fun i57 =>
    T.ldI IntKind.i64 n46 2 fun i58 =>
    T.run
    (muV 55 (Value.map o55)
    (Value.agg
    (Array.mk [Value.int IntKind.i64 i56, Value.int IntKind.i64 i57, Value.int IntKind.i64 i58]))
    (Value.slice o48 n49 n50))
    fun v59 =>
    T.chk []
    (T.ldI IntKind.i64 n7 0 fun i60 =>
    T.ldI IntKind.i64 n7 1 fun i61 =>
    T.call 15
    [Value.pointer o0,
    Value.agg (Array.mk [Value.int IntKind.i64 i60, Value.int IntKind.i64 i61])]
    fun v62 =>
    T.asB v62 fun b63 =>
    T.ret (Value.tuple (Array.mk [Value.bool b63, Value.int IntKind.i64 0])))))
    (T.drew
    (T.sm o0 fun n64 n65 =>
    T.ldM n64 (n65 + 2) fun o66 =>
    T.ldI IntKind.i64 n46 0 fun i67 =>
    T.ldI IntKind.i64 n46 1 fun i68 =>
    T.ldI IntKind.i64 n46 2 fun i69 =>
    T.run
    (Instr.lookup 55 (Value.map o66)
    (Value.agg
    (Array.mk [Value.int IntKind.i64 i67, Value.int IntKind.i64 i68, Value.int IntKind.i64 i69]))
    true)
    fun v70 =>
    T.asU v70 fun l71 =>
    T.req (List.length l71 = 2)
    (T.asS (List.headD l71 (Value.tuple (Array.mk []))) fun o72 n73 n74 =>
    T.asB (List.headD (List.tail l71) (Value.tuple (Array.mk []))) fun b75 =>
    T.chk []
    (T.ite b75
    (T.call 16 [Value.slice o72 n73 n74, Value.slice o48 n49 n50] fun v76 =>
    T.asB v76 fun b77 =>
    T.ite (!b77)
    (T.ret (Value.tuple (Array.mk [Value.bool false, Value.int IntKind.i64 180])))
    (T.next 0 []
    ([Value.pointer o0, Value.pointer (some (Addr.mk n7 0 none)),
    Value.pointer (some (Addr.mk n46 0 none)), Value.slice o48 n49 n50] =
    [Value.pointer o0, Value.pointer (some (Addr.mk n7 0 none)),
    Value.pointer (some (Addr.mk n46 0 none)), Value.slice o48 n49 n50] ∧ ([] : List Deferred) = [])))
    (T.next 0 []
    ([Value.pointer o0, Value.pointer (some (Addr.mk n7 0 none)),
    Value.pointer (some (Addr.mk n46 0 none)), Value.slice o48 n49 n50] =
    [Value.pointer o0, Value.pointer (some (Addr.mk n7 0 none)),
    Value.pointer (some (Addr.mk n46 0 none)), Value.slice o48 n49 n50] ∧ ([] : List Deferred) = []))))))))))))))))
theorem e8o (o0 : Option Addr) (i1 : Int) (i2 : Int) (i3 : Int) (o4 : Option Addr) (n5 n6 : Nat) : treeOf Try.prog Try.f8 (codeOf Try.f8) (.s .n (.s .n (.s .n (.s (.p [0, 1, 2, 3, 4, 5, 6, 7]) (.c [] [0, 5, 10, 11] (.s (.p [0, 1, 2, 3, 4, 5, 6, 7, 8, 9, 10]) .n) (.s (.p [0, 1, 2, 3, 4, 5, 6]) .n)))))) [.v (.pointer o0), .v (.agg #[.int .i64 i1, .int .i64 i2]), .v (.int .i64 i3), .v (.slice o4 n5 n6)] = (t8o o0 i1 i2 i3 o4 n5 n6) := by kernel_rfl
theorem c8o (o0 : Option Addr) (i1 : Int) (i2 : Int) (i3 : Int) (o4 : Option Addr) (n5 n6 : Nat) {w : World} {R : Ending → World → Prop} (h : (t8o o0 i1 i2 i3 o4 n5 n6).sem Try.prog R ρ0 w) : Calls Try.prog 8 #[.pointer o0, .agg #[.int .i64 i1, .int .i64 i2], .int .i64 i3, .slice o4 n5 n6] w R :=
  calls_of mixed Try.func8 rfl rfl (e8o o0 i1 i2 i3 o4 n5 n6) h
def t12o (o0 : Option Addr) (i1 : Int) (i2 : Int) : T :=
  T.new (Obj.cells (Array.mk [Value.int IntKind.i64 i1, Value.int IntKind.i64 i2]) 28) fun n3 =>
  T.call 23 [Value.pointer o0] fun v4 =>
    T.asB v4 fun b5 =>
    T.ite b5 (T.ret (Value.tuple (Array.mk [Value.slice none 0 0, Value.int IntKind.i64 2])))
    (T.ldI IntKind.i64 n3 0 fun i6 =>
    T.ldI IntKind.i64 n3 1 fun i7 =>
    T.call 15 [Value.pointer o0, Value.agg (Array.mk [Value.int IntKind.i64 i6, Value.int IntKind.i64 i7])] fun v8 =>
    T.asB v8 fun b9 =>
    T.ite (!b9) (T.ret (Value.tuple (Array.mk [Value.slice none 0 0, Value.int IntKind.i64 4])))
    (T.drew
    (T.sm o0 fun n10 n11 =>
    T.ldM n10 (n11 + 1) fun o12 =>
    T.ldI IntKind.i64 n3 0 fun i13 =>
    T.ldI IntKind.i64 n3 1 fun i14 =>
    T.run (Instr.lookup 54 (Value.map o12) (Value.agg (Array.mk [Value.int IntKind.i64 i13, Value.int IntKind.i64 i14])) false)
    fun v15 =>
    T.asS v15 fun o16 n17 n18 =>
    T.chk []
    (T.loop 0 [Value.slice none 0 0, Value.int IntKind.i64 0] fun l19 j20 =>
    T.asS (List.headD l19 (Value.tuple (Array.mk []))) fun o21 n22 n23 =>
    T.asI IntKind.i64 (List.headD (List.tail l19) (Value.tuple (Array.mk []))) fun i24 =>
    T.ite (decide (i24 < (↑n17 : Int)))
    (T.req (0 ≤ i24 ∧ i24 < (↑n17 : Int))
    (T.sm o16 fun n25 n26 =>
    T.ldI IntKind.i64 n25 (n26 + Int.toNat i24 * 1) fun i27 =>
    T.drew
    (T.sm o0 fun n28 n29 =>
    T.ldM n28 (n29 + 2) fun o30 =>
    T.ldI IntKind.i64 n3 0 fun i31 =>
    T.ldI IntKind.i64 n3 1 fun i32 =>
    T.run
    (Instr.lookup 55 (Value.map o30)
    (Value.agg
    (Array.mk [Value.int IntKind.i64 i31, Value.int IntKind.i64 i32, Value.int IntKind.i64 i27]))
    false)
    fun v33 =>
    T.asS v33 fun o34 n35 n36 =>
    T.chk
    [(Addr.mk n3 0 none, Value.int IntKind.i64 i31), (Addr.mk n3 1 none, Value.int IntKind.i64 i32)]
    (T.new (Obj.cells (Array.mk [Value.slice o34 n35 n36]) 22) fun n37 =>
    T.chk
    [(Addr.mk n3 0 none, Value.int IntKind.i64 i31),
    (Addr.mk n3 1 none, Value.int IntKind.i64 i32)]
    (T.run
    (biV Builtin.append (Array.mk [41, 41]) 41
    (Array.mk [Value.slice o21 n22 n23, Value.slice (some (Addr.mk n37 0 none)) 1 1]))
    fun v38 =>
    T.asS v38 fun o39 n40 n41 =>
    T.chk
    [(Addr.mk n3 0 none, Value.int IntKind.i64 i31),
    (Addr.mk n3 1 none, Value.int IntKind.i64 i32)]
    (T.next 0
    [Value.slice o39 n40 n41,
    Value.int IntKind.i64 (IntKind.wrap IntKind.i64 (i24 + 1))]
    ([Value.pointer o0, Value.pointer (some (Addr.mk n3 0 none)),
    Value.slice o16 n17 n18, Value.int IntKind.i64 (↑n17 : Int)] =
    [Value.pointer o0, Value.pointer (some (Addr.mk n3 0 none)),
    Value.slice o16 n17 n18, Value.int IntKind.i64 (↑n17 : Int)] ∧ ([] : List Deferred) = [])))))))
    (T.call 30 [Value.slice o21 n22 n23] fun v42 =>
    T.asS v42 fun o43 n44 n45 => T.ret (Value.tuple (Array.mk [Value.slice o43 n44 n45, Value.int IntKind.i64 0])))))))
theorem e12o (o0 : Option Addr) (i1 : Int) (i2 : Int) : treeOf Try.prog Try.f12 (codeOf Try.f12) (.s .n (.s .n (.s .n (.s .n (.s (.s (.p [0, 1, 2, 3, 4, 7, 5, 6]) (.u (.l [(6, .slice), (22, .int .i64)] [0, 3, 20, 21] (.s .n (.s .n (.s (.u (.s .n (.p [0, 1, 2, 3, 4, 5, 6, 7, 8, 9, 10, 11]))) .n)))))) .n))))) [.v (.pointer o0), .v (.agg #[.int .i64 i1, .int .i64 i2])] = (t12o o0 i1 i2) := by kernel_rfl
theorem c12o (o0 : Option Addr) (i1 : Int) (i2 : Int) {w : World} {R : Ending → World → Prop} (h : (t12o o0 i1 i2).sem Try.prog R ρ0 w) : Calls Try.prog 12 #[.pointer o0, .agg #[.int .i64 i1, .int .i64 i2]] w R :=
  calls_of mixed Try.func12 rfl rfl (e12o o0 i1 i2) h
def t11o (o0 : Option Addr) (i1 : Int) (i2 : Int) (o3 : Option Addr) (n4 n5 : Nat) : T :=
  T.new (Obj.cells (Array.mk [Value.int IntKind.i64 i1, Value.int IntKind.i64 i2]) 28) fun n6 =>
  T.call 23 [Value.pointer o0] fun v7 =>
    T.asB v7 fun b8 =>
    T.ite b8 (T.ret (Value.int IntKind.i64 2))
    (T.loop 0 [Value.int IntKind.i64 0] fun l9 j10 =>
    T.asI IntKind.i64 (List.headD l9 (Value.tuple (Array.mk []))) fun i11 =>
    T.ite (decide (i11 < (↑n4 : Int)))
    (T.req (0 ≤ i11 ∧ i11 < (↑n4 : Int))
    (T.sm o3 fun n12 n13 =>
    T.ldI IntKind.i64 n12 (n13 + Int.toNat i11 * 1) fun i14 =>
    T.call 24 [Value.pointer o0, Value.int IntKind.i64 i14] fun v15 =>
    T.asB v15 fun b16 =>
    T.ite (!b16) (T.ret (Value.int IntKind.i64 1))
    (T.next 0 [Value.int IntKind.i64 (IntKind.wrap IntKind.i64 (i11 + 1))]
    ([Value.pointer o0, Value.slice o3 n4 n5, Value.pointer (some (Addr.mk n6 0 none)), Value.slice o3 n4 n5,
    Value.int IntKind.i64 (↑n4 : Int)] =
    [Value.pointer o0, Value.slice o3 n4 n5, Value.pointer (some (Addr.mk n6 0 none)), Value.slice o3 n4 n5,
    Value.int IntKind.i64 (↑n4 : Int)] ∧ ([] : List Deferred) = []))))
    (T.drew
    (T.sm o0 fun n17 n18 =>
    T.ldM n17 (n18 + 1) fun o19 =>
    T.ldI IntKind.i64 n6 0 fun i20 =>
    T.ldI IntKind.i64 n6 1 fun i21 =>
    T.run (Instr.lookup 54 (Value.map o19) (Value.agg (Array.mk [Value.int IntKind.i64 i20, Value.int IntKind.i64 i21])) true) fun v22 =>
    T.asU v22 fun l23 =>
    T.req (List.length l23 = 2)
    (T.asS (List.headD l23 (Value.tuple (Array.mk []))) fun o24 n25 n26 =>
    T.asB (List.headD (List.tail l23) (Value.tuple (Array.mk []))) fun b27 =>
    T.chk []
    (T.ite b27 (T.ret (Value.int IntKind.i64 5))
    (T.call 27 [Value.slice o3 n4 n5] fun v28 =>
    T.asS v28 fun o29 n30 n31 =>
    T.call 28 [Value.slice o29 n30 n31] fun v32 =>
    T.drew
    (T.sm o0 fun n33 n34 =>
    T.ldM n33 (n34 + 1) fun o35 =>
    T.ldI IntKind.i64 n6 0 fun i36 =>
    T.ldI IntKind.i64 n6 1 fun i37 =>
    T.call 29 [Value.slice o29 n30 n31] fun v38 =>
    T.asS v38 fun o39 n40 n41 =>
    T.chk
    [(Addr.mk n6 0 none, Value.int IntKind.i64 i36), (Addr.mk n6 1 none, Value.int IntKind.i64 i37),
    (Addr.mk n33 (n34 + 1) none, Value.map o35)]
    (T.run
    (muV 54 (Value.map o35)
    (Value.agg (Array.mk [Value.int IntKind.i64 i36, Value.int IntKind.i64 i37]))
    (Value.slice o39 n40 n41))
    fun v42 => T.chk [] (T.ret (Value.int IntKind.i64 0))))))))))
theorem e11o (o0 : Option Addr) (i1 : Int) (i2 : Int) (o3 : Option Addr) (n4 n5 : Nat) : treeOf Try.prog Try.f11 (codeOf Try.f11) (.s .n (.s .n (.s (.s .n (.u (.l [(16, .int .i64)] [0, 2, 4, 14, 15] .n))) (.s (.s (.p [0, 1, 2, 3, 4, 5, 6, 7, 8, 9, 10]) .n) (.s .n (.s .n (.s (.p [0, 1, 2, 3, 4, 5, 6, 7]) .n))))))) [.v (.pointer o0), .v (.agg #[.int .i64 i1, .int .i64 i2]), .v (.slice o3 n4 n5)] = (t11o o0 i1 i2 o3 n4 n5) := by kernel_rfl
theorem c11o (o0 : Option Addr) (i1 : Int) (i2 : Int) (o3 : Option Addr) (n4 n5 : Nat) {w : World} {R : Ending → World → Prop} (h : (t11o o0 i1 i2 o3 n4 n5).sem Try.prog R ρ0 w) : Calls Try.prog 11 #[.pointer o0, .agg #[.int .i64 i1, .int .i64 i2], .slice o3 n4 n5] w R :=
  calls_of mixed Try.func11 rfl rfl (e11o o0 i1 i2 o3 n4 n5) h
def t15o (o0 : Option Addr) (i1 : Int) (i2 : Int) : T :=
  T.new (Obj.cells (Array.mk [Value.int IntKind.i64 i1, Value.int IntKind.i64 i2]) 28) fun n3 =>
  T.call 23 [Value.pointer o0] fun v4 =>
    T.asB v4 fun b5 =>
    T.ite b5 (T.ret (Value.bool false))
    (T.drew
    (T.sm o0 fun n6 n7 =>
    T.ldM n6 (n7 + 1) fun o8 =>
    T.ldI IntKind.i64 n3 0 fun i9 =>
    T.ldI IntKind.i64 n3 1 fun i10 =>
    T.run (Instr.lookup 54 (Value.map o8) (Value.agg (Array.mk [Value.int IntKind.i64 i9, Value.int IntKind.i64 i10])) true) fun v11 =>
    T.asU v11 fun l12 =>
    T.req (List.length l12 = 2)
    (T.asS (List.headD l12 (Value.tuple (Array.mk []))) fun o13 n14 n15 =>
    T.asB (List.headD (List.tail l12) (Value.tuple (Array.mk []))) fun b16 =>
    T.chk []
    (T.ite b16
    (T.ldI IntKind.i64 n3 0 fun i17 =>
    T.ldI IntKind.i64 n3 1 fun i18 =>
    T.call 19 [Value.pointer o0, Value.agg (Array.mk [Value.int IntKind.i64 i17, Value.int IntKind.i64 i18])] fun v19 =>
    T.asS v19 fun o20 n21 n22 => T.ret (Value.bool ((↑n21 : Int) == 0)))
    (T.ret (Value.bool false))))))
theorem e15o (o0 : Option Addr) (i1 : Int) (i2 : Int) : treeOf Try.prog Try.f15 (codeOf Try.f15) (.s .n (.s .n (.s (.p [0, 1, 2, 3, 4, 5, 6, 7, 8, 9, 10]) .n))) [.v (.pointer o0), .v (.agg #[.int .i64 i1, .int .i64 i2])] = (t15o o0 i1 i2) := by kernel_rfl
theorem c15o (o0 : Option Addr) (i1 : Int) (i2 : Int) {w : World} {R : Ending → World → Prop} (h : (t15o o0 i1 i2).sem Try.prog R ρ0 w) : Calls Try.prog 15 #[.pointer o0, .agg #[.int .i64 i1, .int .i64 i2]] w R :=
  calls_of mixed Try.func15 rfl rfl (e15o o0 i1 i2) h
def t19o (o0 : Option Addr) (i1 : Int) (i2 : Int) : T :=
  T.new (Obj.cells (Array.mk [Value.int IntKind.i64 i1, Value.int IntKind.i64 i2]) 28) fun n3 =>
  T.call 23 [Value.pointer o0] fun v4 =>
    T.asB v4 fun b5 =>
    T.ite b5 (T.ret (Value.slice none 0 0))
    (T.drew
    (T.sm o0 fun n6 n7 =>
    T.ldM n6 (n7 + 1) fun o8 =>
    T.ldI IntKind.i64 n3 0 fun i9 =>
    T.ldI IntKind.i64 n3 1 fun i10 =>
    T.run (Instr.lookup 54 (Value.map o8) (Value.agg (Array.mk [Value.int IntKind.i64 i9, Value.int IntKind.i64 i10])) false) fun v11 =>
    T.asS v11 fun o12 n13 n14 =>
    T.chk []
    (T.loop 0 [Value.slice none 0 0, Value.int IntKind.i64 0] fun l15 j16 =>
    T.asS (List.headD l15 (Value.tuple (Array.mk []))) fun o17 n18 n19 =>
    T.asI IntKind.i64 (List.headD (List.tail l15) (Value.tuple (Array.mk []))) fun i20 =>
    T.ite (decide (i20 < (↑n13 : Int)))
    (T.req (0 ≤ i20 ∧ i20 < (↑n13 : Int))
    (T.sm o12 fun n21 n22 =>
    T.ldI IntKind.i64 n21 (n22 + Int.toNat i20 * 1) fun i23 =>
    T.drew
    (T.sm o0 fun n24 n25 =>
    T.ldM n24 (n25 + 2) fun o26 =>
    T.ldI IntKind.i64 n3 0 fun i27 =>
    T.ldI IntKind.i64 n3 1 fun i28 =>
    T.run
    (Instr.lookup 55 (Value.map o26)
    (Value.agg (Array.mk [Value.int IntKind.i64 i27, Value.int IntKind.i64 i28, Value.int IntKind.i64 i23]))
    true)
    fun v29 =>
    T.asU v29 fun l30 =>
    T.req (List.length l30 = 2)
    (T.asS (List.headD l30 (Value.tuple (Array.mk []))) fun o31 n32 n33 =>
    T.asB (List.headD (List.tail l30) (Value.tuple (Array.mk []))) fun b34 =>
    T.chk [(Addr.mk n3 0 none, Value.int IntKind.i64 i27), (Addr.mk n3 1 none, Value.int IntKind.i64 i28)]
    (T.ite (!b34)
    (T.new (Obj.cells (Array.mk [Value.int IntKind.i64 i23]) 3) fun n35 =>
    T.run
    (biV Builtin.append (Array.mk [43, 43]) 43
    (Array.mk [Value.slice o17 n18 n19, Value.slice (some (Addr.mk n35 0 none)) 1 1]))
    fun v36 =>
    T.asS v36 fun o37 n38 n39 =>
    T.next 0
    [Value.slice o37 n38 n39, Value.int IntKind.i64 (IntKind.wrap IntKind.i64 (i20 + 1))]
    ([Value.pointer o0, Value.pointer (some (Addr.mk n3 0 none)), Value.slice o12 n13 n14,
    Value.int IntKind.i64 (↑n13 : Int)] =
    [Value.pointer o0, Value.pointer (some (Addr.mk n3 0 none)), Value.slice o12 n13 n14,
    Value.int IntKind.i64 (↑n13 : Int)] ∧ ([] : List Deferred) = []))
    (T.next 0 [Value.slice o17 n18 n19, Value.int IntKind.i64 (IntKind.wrap IntKind.i64 (i20 + 1))]
    ([Value.pointer o0, Value.pointer (some (Addr.mk n3 0 none)), Value.slice o12 n13 n14,
    Value.int IntKind.i64 (↑n13 : Int)] =
    [Value.pointer o0, Value.pointer (some (Addr.mk n3 0 none)), Value.slice o12 n13 n14,
    Value.int IntKind.i64 (↑n13 : Int)] ∧ ([] : List Deferred) = [])))))))
    (T.ret (Value.slice o17 n18 n19)))))
theorem e19o (o0 : Option Addr) (i1 : Int) (i2 : Int) : treeOf Try.prog Try.f19 (codeOf Try.f19) (.s .n (.s .n (.s .n (.s (.s (.p [0, 1, 2, 3, 4, 7, 5, 6]) (.u (.l [(5, .slice), (19, .int .i64)] [0, 3, 17, 18] (.s .n (.s .n (.s (.u (.s .n (.s (.p [0, 1, 2, 3, 4, 5, 6, 7, 8, 9, 10, 11, 12]) .n))) .n)))))) .n)))) [.v (.pointer o0), .v (.agg #[.int .i64 i1, .int .i64 i2])] = (t19o o0 i1 i2) := by kernel_rfl
theorem c19o (o0 : Option Addr) (i1 : Int) (i2 : Int) {w : World} {R : Ending → World → Prop} (h : (t19o o0 i1 i2).sem Try.prog R ρ0 w) : Calls Try.prog 19 #[.pointer o0, .agg #[.int .i64 i1, .int .i64 i2]] w R :=
  calls_of mixed Try.func19 rfl rfl (e19o o0 i1 i2) h
def t17o (o0 : Option Addr) (i1 : Int) (i2 : Int) : T :=
  T.new (Obj.cells (Array.mk [Value.int IntKind.i64 i1, Value.int IntKind.i64 i2]) 28) fun n3 =>
  T.call 23 [Value.pointer o0] fun v4 =>
    T.asB v4 fun b5 =>
    T.ite b5 (T.ret (Value.int IntKind.i64 2))
    (T.drew
    (T.ldI IntKind.i64 n3 0 fun i6 =>
    T.ldI IntKind.i64 n3 1 fun i7 =>
    T.call 33 [Value.pointer o0] fun v8 =>
    T.asS v8 fun o9 n10 n11 =>
    T.chk [(Addr.mk n3 0 none, Value.int IntKind.i64 i6), (Addr.mk n3 1 none, Value.int IntKind.i64 i7)]
    (T.call 32 [Value.slice o9 n10 n11, Value.agg (Array.mk [Value.int IntKind.i64 i6, Value.int IntKind.i64 i7])] fun v12 =>
    T.asB v12 fun b13 =>
    T.chk []
    (T.ite (!b13) (T.ret (Value.int IntKind.i64 4))
    (T.drew
    (T.sm o0 fun n14 n15 =>
    T.ldM n14 (n15 + 1) fun o16 =>
    T.ldI IntKind.i64 n3 0 fun i17 =>
    T.ldI IntKind.i64 n3 1 fun i18 =>
    T.run
    (biV Builtin.delete (Array.mk [54, 28]) 0
    (Array.mk [Value.map o16, Value.agg (Array.mk [Value.int IntKind.i64 i17, Value.int IntKind.i64 i18])]))
    fun v19 =>
    T.chk []
    (T.sm o0 fun n20 n21 =>
    T.ldM n20 (n21 + 2) fun o22 =>
    T.call 34
    [Value.map o22, Value.func (Fn.func 35) (Array.mk []) (Array.mk [Value.pointer (some (Addr.mk n3 0 none))])]
    fun v23 => T.ret (Value.int IntKind.i64 0))))))))
theorem e17o (o0 : Option Addr) (i1 : Int) (i2 : Int) : treeOf Try.prog Try.f17 (codeOf Try.f17) (.s .n (.s .n (.s (.s (.p [0, 2, 1, 3, 4]) .n) (.s (.p [0, 1, 2, 3, 4, 5]) .n)))) [.v (.pointer o0), .v (.agg #[.int .i64 i1, .int .i64 i2])] = (t17o o0 i1 i2) := by kernel_rfl
theorem c17o (o0 : Option Addr) (i1 : Int) (i2 : Int) {w : World} {R : Ending → World → Prop} (h : (t17o o0 i1 i2).sem Try.prog R ρ0 w) : Calls Try.prog 17 #[.pointer o0, .agg #[.int .i64 i1, .int .i64 i2]] w R :=
  calls_of mixed Try.func17 rfl rfl (e17o o0 i1 i2) h
def t20 (n0 n1 : Nat) (o2 : Option Addr) (n3 n4 : Nat) : T :=
  T.new (Obj.cells (Array.mk [Value.slice o2 n3 n4]) 82) fun n5 =>
  T.new (Obj.cells (Array.mk [Value.bool false]) 4) fun n6 =>
    T.new (Obj.cells (Array.mk [Value.int IntKind.i64 0]) 3) fun n7 =>
    T.st n7 0 (Value.int IntKind.i64 0)
    (T.rf none 0 51 [Value.pointer (some (Addr.mk n0 n1 none))]
    (fun n8 l9 =>
    T.req (List.length l9 = 1)
    (T.asA (List.headD l9 (Value.tuple (Array.mk []))) fun l10 =>
    T.req (List.length l10 = 2)
    (T.asI IntKind.i64 (List.headD l10 (Value.tuple (Array.mk []))) fun i11 =>
    T.asI IntKind.i64 (List.headD (List.tail l10) (Value.tuple (Array.mk []))) fun i12 =>
    T.new (Obj.cells (Array.mk [Value.int IntKind.i64 0, Value.int IntKind.i64 0]) 28) fun n13 =>
    T.st n13 0 (Value.int IntKind.i64 i11)
    (T.st n13 1 (Value.int IntKind.i64 i12)
    (T.beg n8
    (T.drew
    (T.ldI IntKind.i64 n7 0 fun i14 =>
    T.ldS n5 0 fun o15 n16 n17 =>
    T.ite (decide (i14 ≥ (↑n16 : Int)))
    (T.st n6 0 (Value.bool false) (T.run (Instr.endRound n8 (some Code.ret)) fun v18 => T.next 0 [v18] True))
    (T.ldI IntKind.i64 n13 0 fun i19 =>
    T.ldI IntKind.i64 n13 1 fun i20 =>
    T.ldS n5 0 fun o21 n22 n23 =>
    T.ldI IntKind.i64 n7 0 fun i24 =>
    T.req (0 ≤ i24 ∧ i24 < (↑n22 : Int))
    (T.sm o21 fun n25 n26 =>
    T.ldI IntKind.i64 n25 (n26 + Int.toNat i24 * 27) fun i27 =>
    T.ldI IntKind.i64 n25 (n26 + Int.toNat i24 * 27 + 1) fun i28 =>
    T.ite (!(i19 == i27 && (i20 == i28 && true)))
    (T.st n6 0 (Value.bool false)
    (T.run (Instr.endRound n8 (some Code.ret)) fun v29 => T.next 0 [v29] True))
    (T.ldI IntKind.i64 n7 0 fun i30 =>
    T.st n7 0 (Value.int IntKind.i64 (IntKind.wrap IntKind.i64 (i30 + 1)))
    (T.run (Instr.endRound n8 none) fun v31 => T.next 0 [v31] True)))))))))))
    (fun n32 =>
    T.ldI IntKind.i64 n7 0 fun i33 =>
    T.ldS n5 0 fun o34 n35 n36 => T.st n6 0 (Value.bool (i33 == (↑n35 : Int))) (T.col n32 (T.ldB n6 0 fun b37 => T.ret (Value.bool b37))))
    (fun n38 => T.col n38 (T.ldB n6 0 fun b39 => T.ret (Value.bool b39))) [])
theorem e20 (n0 n1 : Nat) (o2 : Option Addr) (n3 n4 : Nat) : treeOf Try.prog Try.f20 (codeOf Try.f20) (.s .n (.s .n (.s (.s .n (.u (.f [.agg [.int .i64, .int .i64]] .n (.u (.s (.s (.p [0, 1, 2, 3, 4, 5, 6, 7, 8, 9, 10, 11, 12]) .n) .n))))) .n))) [.v (.func (.func 51) #[] #[.pointer (some ⟨n0, n1, none⟩)]), .v (.slice o2 n3 n4)] = (t20 n0 n1 o2 n3 n4) := by kernel_rfl
theorem c20 (n0 n1 : Nat) (o2 : Option Addr) (n3 n4 : Nat) {w : World} {R : Ending → World → Prop} (h : (t20 n0 n1 o2 n3 n4).sem Try.prog R ρ0 w) : Calls Try.prog 20 #[.func (.func 51) #[] #[.pointer (some ⟨n0, n1, none⟩)], .slice o2 n3 n4] w R :=
  calls_of mixed Try.func20 rfl rfl (e20 n0 n1 o2 n3 n4) h
def t51 (n0 : Nat) (n1 n2 : Nat) : T :=
  T.ldS n1 n2 fun o3 n4 n5 =>
  T.loop 0 [Value.int IntKind.i64 0] fun l6 j7 =>
    T.asI IntKind.i64 (List.headD l6 (Value.tuple (Array.mk []))) fun i8 =>
    T.ite (decide (i8 < (↑n4 : Int)))
    (T.req (0 ≤ i8 ∧ i8 < (↑n4 : Int))
    (T.sm o3 fun n9 n10 =>
    T.ldI IntKind.i64 n9 (n10 + Int.toNat i8 * 2) fun i11 =>
    T.ldI IntKind.i64 n9 (n10 + Int.toNat i8 * 2 + 1) fun i12 =>
    T.new (Obj.cells (Array.mk [Value.int IntKind.i64 0, Value.int IntKind.i64 0]) 28) fun n13 =>
    T.st n13 0 (Value.int IntKind.i64 i11)
    (T.st n13 1 (Value.int IntKind.i64 i12)
    (T.ldI IntKind.i64 n13 0 fun i14 =>
    T.ldI IntKind.i64 n13 1 fun i15 =>
    T.yl n0 [Value.agg (Array.mk [Value.int IntKind.i64 i14, Value.int IntKind.i64 i15])] fun v16 =>
    T.asB v16 fun b17 =>
    T.ite (!b17) (T.ret (Value.tuple (Array.mk [])))
    (T.next 0 [Value.int IntKind.i64 (IntKind.wrap IntKind.i64 (i8 + 1))]
    ([Value.func (Fn.yield n0) (Array.mk []) (Array.mk []), Value.slice o3 n4 n5, Value.int IntKind.i64 (↑n4 : Int)] =
    [Value.func (Fn.yield n0) (Array.mk []) (Array.mk []), Value.slice o3 n4 n5, Value.int IntKind.i64 (↑n4 : Int)] ∧ ([] : List Deferred) = []))))))
    (T.ret (Value.tuple (Array.mk [])))
theorem e51 (n0 : Nat) (n1 n2 : Nat) : treeOf Try.prog Try.f51 (codeOf Try.f51) (.s .n (.u (.l [(7, .int .i64)] [0, 5, 6] .n))) [.v (.func (.yield n0) #[] #[]), .p n1 n2] = (t51 n0 n1 n2) := by kernel_rfl
theorem c51 (n0 : Nat) (n1 n2 : Nat) {w : World} {R : Ending → World → Prop} (h : (t51 n0 n1 n2).sem Try.prog R ρ0 w) : Calls Try.prog 51 #[.func (.yield n0) #[] #[], .pointer (some ⟨n1, n2, none⟩)] w R :=
  calls_of mixed Try.func51 rfl rfl (e51 n0 n1 n2) h
def t36 (o0 : Option Addr) (n1 n2 : Nat) : T :=
  T.new (Obj.cells (Array.mk [Value.slice o0 n1 n2]) 78) fun n3 =>
  T.ret (Value.func (Fn.func 51) (Array.mk []) (Array.mk [Value.pointer (some (Addr.mk n3 0 none))]))
theorem e36 (o0 : Option Addr) (n1 n2 : Nat) : treeOf Try.prog Try.f36 (codeOf Try.f36) .n [.v (.slice o0 n1 n2)] = (t36 o0 n1 n2) := by kernel_rfl
theorem c36 (o0 : Option Addr) (n1 n2 : Nat) {w : World} {R : Ending → World → Prop} (h : (t36 o0 n1 n2).sem Try.prog R ρ0 w) : Calls Try.prog 36 #[.slice o0 n1 n2] w R :=
  calls_of mixed Try.func36 rfl rfl (e36 o0 n1 n2) h
def t5 (i0 : Int) (i1 : Int) (i2 : Int) (i3 : Int) (o4 : Option Addr) (n5 n6 : Nat) (o7 : Option Addr) (n8 n9 : Nat) : T :=
  T.new
  (Obj.cells
    (Array.mk
    [Value.int IntKind.i64 i0, Value.int IntKind.i64 i1, Value.int IntKind.i64 i2, Value.int IntKind.i64 i3, Value.slice o4 n5 n6, Value.slice o7 n8 n9])
    53)
  fun n10 =>
  T.call 7 [] fun v11 =>
    T.asB v11 fun b12 =>
    T.ite (!b12) (T.ret (Value.bool false))
    (T.new (Obj.cells (Array.mk [Value.int IntKind.i64 0, Value.map none, Value.map none]) 57) fun n13 =>
    T.new (Obj.cells (Array.mk [Value.pointer none, Value.pointer (some (Addr.mk n13 0 none))]) 23) fun n14 =>
    T.loop 0 [Value.int IntKind.i64 0] fun l15 j16 =>
    T.asI IntKind.i64 (List.headD l15 (Value.tuple (Array.mk []))) fun i17 =>
    T.ite (decide (i17 < 2))
    (T.req (0 ≤ i17 ∧ i17 < 2)
    (T.sm (some (Addr.mk n14 0 none)) fun n18 n19 =>
    T.ldP n18 (n19 + Int.toNat i17 * 1) fun o20 =>
    T.ldI IntKind.i64 n10 1 fun i21 =>
    T.ldI IntKind.i64 n10 2 fun i22 =>
    T.ldI IntKind.i64 n10 3 fun i23 =>
    T.ldS n10 5 fun o24 n25 n26 =>
    T.call 8
    [Value.pointer o20, Value.agg (Array.mk [Value.int IntKind.i64 i21, Value.int IntKind.i64 i22]), Value.int IntKind.i64 i23,
    Value.slice o24 n25 n26]
    fun v27 =>
    T.asU v27 fun l28 =>
    T.req (List.length l28 = 2)
    (T.asB (List.headD l28 (Value.tuple (Array.mk []))) fun b29 =>
    T.asI IntKind.i64 (List.headD (List.tail l28) (Value.tuple (Array.mk []))) fun i30 =>
    T.ldI IntKind.i64 n10 1 fun i31 =>
    T.ldI IntKind.i64 n10 2 fun i32 =>
    T.call 12 [Value.pointer o20, Value.agg (Array.mk [Value.int IntKind.i64 i31, Value.int IntKind.i64 i32])]
    fun v33 =>
    T.asU v33 fun l34 =>
    T.req (List.length l34 = 2)
    (T.asS (List.headD l34 (Value.tuple (Array.mk []))) fun o35 n36 n37 =>
    T.asI IntKind.i64 (List.headD (List.tail l34) (Value.tuple (Array.mk []))) fun i38 =>
    T.ite b29 (T.ret (Value.bool false))
    (T.ite (i30 != 2) (T.ret (Value.bool false))
    (T.ite ((↑n36 : Int) != 0) (T.ret (Value.bool false))
    (T.ite (i38 != 2) (T.ret (Value.bool false))
    (T.ldI IntKind.i64 n10 1 fun i39 =>
    T.ldI IntKind.i64 n10 2 fun i40 =>
    T.ldS n10 4 fun o41 n42 n43 =>
    T.call 11
    [Value.pointer o20,
    Value.agg (Array.mk [Value.int IntKind.i64 i39, Value.int IntKind.i64 i40]),
    Value.slice o41 n42 n43]
    fun v44 =>
    T.asI IntKind.i64 v44 fun i45 =>
    T.ite (i45 != 2) (T.ret (Value.bool false))
    (T.ldI IntKind.i64 n10 1 fun i46 =>
    T.ldI IntKind.i64 n10 2 fun i47 =>
    T.call 15
    [Value.pointer o20,
    Value.agg (Array.mk [Value.int IntKind.i64 i46, Value.int IntKind.i64 i47])]
    fun v48 =>
    T.asB v48 fun b49 =>
    T.ite b49 (T.ret (Value.bool false))
    (T.ldI IntKind.i64 n10 1 fun i50 =>
    T.ldI IntKind.i64 n10 2 fun i51 =>
    T.call 19
    [Value.pointer o20,
    Value.agg
    (Array.mk
    [Value.int IntKind.i64 i50, Value.int IntKind.i64 i51])]
    fun v52 =>
    T.asS v52 fun o53 n54 n55 =>
    T.ite ((↑n54 : Int) != 0) (T.ret (Value.bool false))
    (T.ldI IntKind.i64 n10 1 fun i56 =>
    T.ldI IntKind.i64 n10 2 fun i57 =>
    T.call 17
    [Value.pointer o20,
    Value.agg
    (Array.mk
    [Value.int IntKind.i64 i56,
    Value.int IntKind.i64 i57])]
    fun v58 =>
    T.asI IntKind.i64 v58 fun i59 =>
    T.ite (i59 != 2) (T.ret (Value.bool false))
    (T.call 21 [Value.pointer o20] fun v60 =>
    T.call 20 [v60, Value.slice none 0 0] fun v61 =>
    T.asB v61 fun b62 =>
    T.ite (!b62) (T.ret (Value.bool false))
    (T.call 18 [Value.pointer o20] fun v63 =>
    T.asI IntKind.i64 v63 fun i64 =>
    T.ite (i64 != 0)
    (T.ret (Value.bool false))
    (T.call 22 [Value.pointer o20]
    fun v65 =>
    T.asP v65 fun o66 =>
    T.ite (!Option.isNone o66)
    (T.ret (Value.bool false))
    (T.next 0
    [Value.int IntKind.i64
    (IntKind.wrap IntKind.i64
    (i17 + 1))]
    ([Value.pointer
    (some
    (Addr.mk n10 0 none)),
    Value.slice
    (some
    (Addr.mk n14 0 none))
    2 2,
    Value.int IntKind.i64 2] =
    [Value.pointer
    (some
    (Addr.mk n10 0 none)),
    Value.slice
    (some
    (Addr.mk n14 0 none))
    2 2,
    Value.int IntKind.i64 2] ∧ ([] : List Deferred) = []))))))))))))))))
    (T.ret (Value.bool true)))
theorem e5 (i0 : Int) (i1 : Int) (i2 : Int) (i3 : Int) (o4 : Option Addr) (n5 n6 : Nat) (o7 : Option Addr) (n8 n9 : Nat) : treeOf Try.prog Try.f5 (codeOf Try.f5) (.s .n (.s .n (.s (.s .n (.u (.l [(15, .int .i64)] [1, 13, 14] .n))) .n))) [.v (.agg #[.int .i64 i0, .int .i64 i1, .int .i64 i2, .int .i64 i3, .slice o4 n5 n6, .slice o7 n8 n9])] = (t5 i0 i1 i2 i3 o4 n5 n6 o7 n8 n9) := by kernel_rfl
theorem c5 (i0 : Int) (i1 : Int) (i2 : Int) (i3 : Int) (o4 : Option Addr) (n5 n6 : Nat) (o7 : Option Addr) (n8 n9 : Nat) {w : World} {R : Ending → World → Prop} (h : (t5 i0 i1 i2 i3 o4 n5 n6 o7 n8 n9).sem Try.prog R ρ0 w) : Calls Try.prog 5 #[.agg #[.int .i64 i0, .int .i64 i1, .int .i64 i2, .int .i64 i3, .slice o4 n5 n6, .slice o7 n8 n9]] w R :=
  calls_of mixed Try.func5 rfl rfl (e5 i0 i1 i2 i3 o4 n5 n6 o7 n8 n9) h
end Go.Proofs.Ytpjcfnnnciknmaa
