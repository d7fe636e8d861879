/- The functions' trees, printed by a program (wip/tools/Emit.lean) and checked by the kernel against the model's own code. -/
import Derived.Test.YteebkalajidehaaCode
import Derived.Test.YteebkalajidehaaProg
namespace Go.Proofs.Yteebkalajidehaa
open Go hiding Expr
open Go.Proofs.Yteebkalajidehaa.Tr
set_option linter.unusedVariables false
set_option maxRecDepth 100000
theorem mixed : Try.prog.follows .mixedOrders = true := by kernel_rfl
def t6 (i0 : Int) (i1 : Int) (i2 : Int) (i3 : Int) : T :=
  T.new (Obj.cells (Array.mk [Value.int IntKind.i64 i0, Value.int IntKind.i64 i1]) 29) fun n4 =>
  T.ldI IntKind.i64 n4 0 fun i5 =>
    T.ite (decide (i5 < 1)) (T.ret (Value.tuple (Array.mk [Value.pointer none, Value.int IntKind.i64 1])))
      (T.ldI IntKind.i64 n4 0 fun i6 =>
        T.ite (decide (i6 > 5)) (T.ret (Value.tuple (Array.mk [Value.pointer none, Value.int IntKind.i64 1])))
          (T.ldI IntKind.i64 n4 1 fun i7 =>
            T.ite (decide (i7 < 0)) (T.ret (Value.tuple (Array.mk [Value.pointer none, Value.int IntKind.i64 1])))
              (T.ldI IntKind.i64 n4 1 fun i8 =>
                T.ldI IntKind.i64 n4 0 fun i9 =>
                  T.ite (decide (i8 ≥ i9)) (T.ret (Value.tuple (Array.mk [Value.pointer none, Value.int IntKind.i64 1])))
                    (T.ite (decide (i2 < 0)) (T.ret (Value.tuple (Array.mk [Value.pointer none, Value.int IntKind.i64 1])))
                      (T.ite (decide (i2 > 1099511627776)) (T.ret (Value.tuple (Array.mk [Value.pointer none, Value.int IntKind.i64 1])))
                        (T.ite (decide (i3 < -1)) (T.ret (Value.tuple (Array.mk [Value.pointer none, Value.int IntKind.i64 1])))
                          (T.ldI IntKind.i64 n4 0 fun i10 =>
                            T.ite (decide (i3 ≥ i10)) (T.ret (Value.tuple (Array.mk [Value.pointer none, Value.int IntKind.i64 1])))
                              (T.ldI IntKind.i64 n4 0 fun i11 =>
                                T.ldI IntKind.i64 n4 1 fun i12 =>
                                  T.new
                                    (Obj.cells
                                      (Array.mk
                                        [Value.int IntKind.i64 i11, Value.int IntKind.i64 i12, Value.int IntKind.i64 i2, Value.int IntKind.i64 i3,
                                          Value.int IntKind.u8 0])
                                      57)
                                    fun n13 => T.ret (Value.tuple (Array.mk [Value.pointer (some (Addr.mk n13 0 none)), Value.int IntKind.i64 0]))))))))))
theorem e6 (i0 : Int) (i1 : Int) (i2 : Int) (i3 : Int) : treeOf Try.prog Try.f6 (codeOf Try.f6) .n [.v (.agg #[.int .i64 i0, .int .i64 i1]), .v (.int .i64 i2), .v (.int .i64 i3)] = (t6 i0 i1 i2 i3) := by kernel_rfl
theorem c6 (i0 : Int) (i1 : Int) (i2 : Int) (i3 : Int) {w : World} {R : Ending → World → Prop} (h : (t6 i0 i1 i2 i3).sem Try.prog R ρ0 w) : Calls Try.prog 6 #[.agg #[.int .i64 i0, .int .i64 i1], .int .i64 i2, .int .i64 i3] w R :=
  calls_of mixed Try.func6 rfl rfl (e6 i0 i1 i2 i3) h
def t7 (n0 n1 : Nat) : T :=
  T.call 25 [Value.pointer (some (Addr.mk n0 n1 none))] fun v2 =>
  T.asB v2 fun b3 => T.ite b3 (T.ret (Value.int IntKind.i64 0)) (T.ldI IntKind.i64 n0 (n1 + 2) fun i4 => T.ret (Value.int IntKind.i64 i4))
theorem e7 (n0 n1 : Nat) : treeOf Try.prog Try.f7 (codeOf Try.f7) .n [.p n0 n1] = (t7 n0 n1) := by kernel_rfl
theorem c7 (n0 n1 : Nat) {w : World} {R : Ending → World → Prop} (h : (t7 n0 n1).sem Try.prog R ρ0 w) : Calls Try.prog 7 #[.pointer (some ⟨n0, n1, none⟩)] w R :=
  calls_of mixed Try.func7 rfl rfl (e7 n0 n1) h
def t8 (n0 n1 : Nat) : T :=
  T.call 25 [Value.pointer (some (Addr.mk n0 n1 none))] fun v2 =>
  T.asB v2 fun b3 =>
    T.ite b3 (T.ret (Value.int IntKind.i64 2))
      (T.ldI IntKind.i64 n0 (n1 + 2) fun i4 =>
        T.ite (i4 == 1099511627776) (T.ret (Value.int IntKind.i64 3))
          (T.ldI IntKind.i64 n0 (n1 + 2) fun i5 =>
            T.st n0 (n1 + 2) (Value.int IntKind.i64 (IntKind.wrap IntKind.i64 (i5 + 1)))
              (T.drew
                (T.ldI IntKind.i64 n0 (n1 + 1) fun i6 =>
                  T.ldI IntKind.i64 n0 (n1 + 1) fun i7 =>
                    T.req (0 ≤ i7)
                      (T.st n0 (n1 + 3) (Value.int IntKind.i64 i6)
                        (T.chk [] (T.st n0 (n1 + 4) (Value.int IntKind.u8 (shlI IntKind.u8 1 i7)) (T.chk [] (T.ret (Value.int IntKind.i64 0))))))))))
theorem e8 (n0 n1 : Nat) : treeOf Try.prog Try.f8 (codeOf Try.f8) (.s .n (.s .n (.s .n (.s .n (.s (.p [0, 1, 2, 3, 4, 5, 6, 7, 8, 9, 10, 11, 12, 13, 14, 15, 16, 17, 18]) .n))))) [.p n0 n1] = (t8 n0 n1) := by kernel_rfl
theorem c8 (n0 n1 : Nat) {w : World} {R : Ending → World → Prop} (h : (t8 n0 n1).sem Try.prog R ρ0 w) : Calls Try.prog 8 #[.pointer (some ⟨n0, n1, none⟩)] w R :=
  calls_of mixed Try.func8 rfl rfl (e8 n0 n1) h
def t9 (n0 n1 : Nat) : T :=
  T.call 25 [Value.pointer (some (Addr.mk n0 n1 none))] fun v2 =>
  T.asB v2 fun b3 => T.ite (!b3) (T.ldI IntKind.u8 n0 (n1 + 4) fun i4 => T.ret (Value.bool (i4 != 0))) (T.ret (Value.bool false))
theorem e9 (n0 n1 : Nat) : treeOf Try.prog Try.f9 (codeOf Try.f9) .n [.p n0 n1] = (t9 n0 n1) := by kernel_rfl
theorem c9 (n0 n1 : Nat) {w : World} {R : Ending → World → Prop} (h : (t9 n0 n1).sem Try.prog R ρ0 w) : Calls Try.prog 9 #[.pointer (some ⟨n0, n1, none⟩)] w R :=
  calls_of mixed Try.func9 rfl rfl (e9 n0 n1) h
def t10 (n0 n1 : Nat) (i2 : Int) (i3 : Int) (i4 : Int) (i5 : Int) (i6 : Int) (i7 : Int) : T :=
  T.new (Obj.cells (Array.mk [Value.int IntKind.i64 i2, Value.int IntKind.i64 i3, Value.int IntKind.i64 i4, Value.int IntKind.i64 i5]) 39) fun n8 =>
  T.call 25 [Value.pointer (some (Addr.mk n0 n1 none))] fun v9 =>
    T.asB v9 fun b10 =>
      T.ite b10 (T.ret (Value.bool false))
        (T.ldI IntKind.i64 n8 0 fun i11 =>
          T.call 26 [Value.pointer (some (Addr.mk n0 n1 none)), Value.int IntKind.i64 i11] fun v12 =>
            T.asB v12 fun b13 =>
              T.ite (!b13) (T.ret (Value.bool false))
                (T.ldI IntKind.i64 n8 1 fun i14 =>
                  T.ite (decide (i14 < 0)) (T.ret (Value.bool false))
                    (T.ldI IntKind.i64 n8 1 fun i15 =>
                      T.ite (decide (i15 > 1099511627776)) (T.ret (Value.bool false))
                        (T.ldI IntKind.i64 n8 1 fun i16 =>
                          T.call 20 [Value.pointer (some (Addr.mk n0 n1 none)), Value.int IntKind.i64 i16] fun v17 =>
                            T.asB v17 fun b18 =>
                              T.drew
                                (T.ldI IntKind.i64 n8 1 fun i19 =>
                                  T.ldI IntKind.i64 n0 (n1 + 2) fun i20 =>
                                    T.ite (decide (i19 < i20))
                                      (T.chk [(Addr.mk n0 (n1 + 2) none, Value.int IntKind.i64 i20), (Addr.mk n8 1 none, Value.int IntKind.i64 i19)]
                                        (T.ret (Value.bool false)))
                                      (T.ldI IntKind.i64 n0 (n1 + 3) fun i21 =>
                                        T.ite (decide (i21 ≥ 0))
                                          (T.ldI IntKind.i64 n0 (n1 + 3) fun i22 =>
                                            T.ldI IntKind.i64 n8 0 fun i23 =>
                                              T.ite (i22 != i23)
                                                (T.chk
                                                  [(Addr.mk n8 0 none, Value.int IntKind.i64 i23), (Addr.mk n0 (n1 + 3) none, Value.int IntKind.i64 i22),
                                                    (Addr.mk n0 (n1 + 3) none, Value.int IntKind.i64 i21),
                                                    (Addr.mk n0 (n1 + 2) none, Value.int IntKind.i64 i20), (Addr.mk n8 1 none, Value.int IntKind.i64 i19)]
                                                  (T.ret (Value.bool false)))
                                                (T.ldI IntKind.i64 n8 0 fun i24 =>
                                                  T.ldI IntKind.i64 n8 1 fun i25 =>
                                                    T.ldI IntKind.i64 n8 2 fun i26 =>
                                                      T.ldI IntKind.i64 n8 3 fun i27 =>
                                                        T.call 11
                                                          [Value.agg
                                                              (Array.mk
                                                                [Value.int IntKind.i64 0, Value.int IntKind.i64 0, Value.int IntKind.i64 i6,
                                                                  Value.int IntKind.i64 i7]),
                                                            Value.agg
                                                              (Array.mk
                                                                [Value.int IntKind.i64 i24, Value.int IntKind.i64 i25, Value.int IntKind.i64 i26,
                                                                  Value.int IntKind.i64 i27])]
                                                          fun v28 =>
                                                          T.asB v28 fun b29 =>
                                                            T.chk
                                                              [(Addr.mk n8 0 none, Value.int IntKind.i64 i23),
                                                                (Addr.mk n0 (n1 + 3) none, Value.int IntKind.i64 i22),
                                                                (Addr.mk n0 (n1 + 3) none, Value.int IntKind.i64 i21),
                                                                (Addr.mk n0 (n1 + 2) none, Value.int IntKind.i64 i20),
                                                                (Addr.mk n8 1 none, Value.int IntKind.i64 i19)]
                                                              (T.ite b29 (T.ret (Value.bool false))
                                                                (T.ldI IntKind.i64 n8 0 fun i30 =>
                                                                  T.st n0 (n1 + 3) (Value.int IntKind.i64 i30) (T.ret (Value.bool true))))))
                                          (T.ldI IntKind.i64 n8 0 fun i31 =>
                                            T.ldI IntKind.i64 n8 1 fun i32 =>
                                              T.ldI IntKind.i64 n8 2 fun i33 =>
                                                T.ldI IntKind.i64 n8 3 fun i34 =>
                                                  T.call 11
                                                    [Value.agg
                                                        (Array.mk
                                                          [Value.int IntKind.i64 0, Value.int IntKind.i64 0, Value.int IntKind.i64 i6,
                                                            Value.int IntKind.i64 i7]),
                                                      Value.agg
                                                        (Array.mk
                                                          [Value.int IntKind.i64 i31, Value.int IntKind.i64 i32, Value.int IntKind.i64 i33,
                                                            Value.int IntKind.i64 i34])]
                                                    fun v35 =>
                                                    T.asB v35 fun b36 =>
                                                      T.chk
                                                        [(Addr.mk n0 (n1 + 3) none, Value.int IntKind.i64 i21),
                                                          (Addr.mk n0 (n1 + 2) none, Value.int IntKind.i64 i20), (Addr.mk n8 1 none, Value.int IntKind.i64 i19)]
                                                        (T.ite b36 (T.ret (Value.bool false))
                                                          (T.ldI IntKind.i64 n8 0 fun i37 =>
                                                            T.st n0 (n1 + 3) (Value.int IntKind.i64 i37) (T.ret (Value.bool true)))))))))))
theorem e10 (n0 n1 : Nat) (i2 : Int) (i3 : Int) (i4 : Int) (i5 : Int) (i6 : Int) (i7 : Int) : treeOf Try.prog Try.f10 (codeOf Try.f10) (.s .n (.s .n (.s .n (.s (.s (.p [0, 1, 2, 3, 4, 5, 6, 7, 8, 9, 10, 11, 12, 13, 14, 15, 16, 17, 18, 19, 20, 21, 22, 23, 24, 25, 26, 27, 28, 29]) .n) .n)))) [.p n0 n1, .v (.agg #[.int .i64 i2, .int .i64 i3, .int .i64 i4, .int .i64 i5]), .v (.int .i64 i6), .v (.int .i64 i7)] = (t10 n0 n1 i2 i3 i4 i5 i6 i7) := by kernel_rfl
theorem c10 (n0 n1 : Nat) (i2 : Int) (i3 : Int) (i4 : Int) (i5 : Int) (i6 : Int) (i7 : Int) {w : World} {R : Ending → World → Prop} (h : (t10 n0 n1 i2 i3 i4 i5 i6 i7).sem Try.prog R ρ0 w) : Calls Try.prog 10 #[.pointer (some ⟨n0, n1, none⟩), .agg #[.int .i64 i2, .int .i64 i3, .int .i64 i4, .int .i64 i5], .int .i64 i6, .int .i64 i7] w R :=
  calls_of mixed Try.func10 rfl rfl (e10 n0 n1 i2 i3 i4 i5 i6 i7) h
def t11 (i0 : Int) (i1 : Int) (i2 : Int) (i3 : Int) (i4 : Int) (i5 : Int) (i6 : Int) (i7 : Int) : T :=
  T.new (Obj.cells (Array.mk [Value.int IntKind.i64 i0, Value.int IntKind.i64 i1, Value.int IntKind.i64 i2, Value.int IntKind.i64 i3]) 39) fun n8 =>
  T.new (Obj.cells (Array.mk [Value.int IntKind.i64 i4, Value.int IntKind.i64 i5, Value.int IntKind.i64 i6, Value.int IntKind.i64 i7]) 39) fun n9 =>
    T.ldI IntKind.i64 n8 3 fun i10 =>
      T.ldI IntKind.i64 n9 3 fun i11 =>
        T.ite (decide (i10 > i11)) (T.ret (Value.bool true))
          (T.ldI IntKind.i64 n8 3 fun i12 =>
            T.ldI IntKind.i64 n9 3 fun i13 =>
              T.ite (i12 == i13) (T.ldI IntKind.i64 n8 2 fun i14 => T.ldI IntKind.i64 n9 2 fun i15 => T.ret (Value.bool (decide (i14 > i15))))
                (T.ret (Value.bool false)))
theorem e11 (i0 : Int) (i1 : Int) (i2 : Int) (i3 : Int) (i4 : Int) (i5 : Int) (i6 : Int) (i7 : Int) : treeOf Try.prog Try.f11 (codeOf Try.f11) .n [.v (.agg #[.int .i64 i0, .int .i64 i1, .int .i64 i2, .int .i64 i3]), .v (.agg #[.int .i64 i4, .int .i64 i5, .int .i64 i6, .int .i64 i7])] = (t11 i0 i1 i2 i3 i4 i5 i6 i7) := by kernel_rfl
theorem c11 (i0 : Int) (i1 : Int) (i2 : Int) (i3 : Int) (i4 : Int) (i5 : Int) (i6 : Int) (i7 : Int) {w : World} {R : Ending → World → Prop} (h : (t11 i0 i1 i2 i3 i4 i5 i6 i7).sem Try.prog R ρ0 w) : Calls Try.prog 11 #[.agg #[.int .i64 i0, .int .i64 i1, .int .i64 i2, .int .i64 i3], .agg #[.int .i64 i4, .int .i64 i5, .int .i64 i6, .int .i64 i7]] w R :=
  calls_of mixed Try.func11 rfl rfl (e11 i0 i1 i2 i3 i4 i5 i6 i7) h
def t12 (n0 n1 : Nat) (i2 : Int) (i3 : Int) (b4 : Bool) : T :=
  T.call 9 [Value.pointer (some (Addr.mk n0 n1 none))] fun v5 =>
  T.asB v5 fun b6 =>
    T.ite (!b6) (T.ret (Value.bool false))
      (T.ldI IntKind.i64 n0 (n1 + 2) fun i7 =>
        T.ite (i3 != i7) (T.ret (Value.bool false))
          (T.ite (!b4) (T.ret (Value.bool false))
            (T.call 26 [Value.pointer (some (Addr.mk n0 n1 none)), Value.int IntKind.i64 i2] fun v8 =>
              T.asB v8 fun b9 =>
                T.ite (!b9) (T.ret (Value.bool false))
                  (T.ldI IntKind.u8 n0 (n1 + 4) fun i10 =>
                    T.req (0 ≤ i2)
                      (T.ite (bitsI BinOp.and IntKind.u8 (shrI IntKind.u8 i10 i2) 1 == 1) (T.ret (Value.bool false))
                        (T.call 13 [Value.pointer (some (Addr.mk n0 n1 none))] fun v11 =>
                          T.asB v11 fun b12 =>
                            T.drew
                              (T.ldI IntKind.u8 n0 (n1 + 4) fun i13 =>
                                T.req (0 ≤ i2)
                                  (T.st n0 (n1 + 4) (Value.int IntKind.u8 (bitsI BinOp.or IntKind.u8 i13 (shlI IntKind.u8 1 i2)))
                                    (T.chk []
                                      (T.call 13 [Value.pointer (some (Addr.mk n0 n1 none))] fun v14 =>
                                        T.asB v14 fun b15 => T.ite b15 (T.ret (Value.bool !b12)) (T.ret (Value.bool false))))))))))))
theorem e12 (n0 n1 : Nat) (i2 : Int) (i3 : Int) (b4 : Bool) : treeOf Try.prog Try.f12 (codeOf Try.f12) (.s .n (.s .n (.s .n (.s (.p [0, 1, 2, 3, 4, 5, 6, 7, 8, 9]) .n)))) [.p n0 n1, .v (.int .i64 i2), .v (.int .i64 i3), .v (.bool b4)] = (t12 n0 n1 i2 i3 b4) := by kernel_rfl
theorem c12 (n0 n1 : Nat) (i2 : Int) (i3 : Int) (b4 : Bool) {w : World} {R : Ending → World → Prop} (h : (t12 n0 n1 i2 i3 b4).sem Try.prog R ρ0 w) : Calls Try.prog 12 #[.pointer (some ⟨n0, n1, none⟩), .int .i64 i2, .int .i64 i3, .bool b4] w R :=
  calls_of mixed Try.func12 rfl rfl (e12 n0 n1 i2 i3 b4) h
def t13 (n0 n1 : Nat) : T :=
  T.drew
  (T.call 9 [Value.pointer (some (Addr.mk n0 n1 none))] fun v2 =>
    T.asB v2 fun b3 =>
      T.chk []
        (T.ite b3
          (T.ldI IntKind.u8 n0 (n1 + 4) fun i4 =>
            T.ldI IntKind.i64 n0 n1 fun i5 =>
              T.call 27 [Value.int IntKind.u8 i4] fun v6 =>
                T.asI IntKind.i64 v6 fun i7 =>
                  T.chk [(Addr.mk n0 n1 none, Value.int IntKind.i64 i5)] (T.ret (Value.bool (decide (IntKind.wrap IntKind.i64 (2 * i7) > i5)))))
          (T.chk [] (T.ret (Value.bool false)))))
theorem e13 (n0 n1 : Nat) : treeOf Try.prog Try.f13 (codeOf Try.f13) (.s .n (.s (.p [0, 1, 2, 3, 4, 5, 6, 9, 10, 11, 12, 13, 7, 8, 14, 15, 16]) .n)) [.p n0 n1] = (t13 n0 n1) := by kernel_rfl
theorem c13 (n0 n1 : Nat) {w : World} {R : Ending → World → Prop} (h : (t13 n0 n1).sem Try.prog R ρ0 w) : Calls Try.prog 13 #[.pointer (some ⟨n0, n1, none⟩)] w R :=
  calls_of mixed Try.func13 rfl rfl (e13 n0 n1) h
def t14  : T :=
  T.call 6 [Value.agg (Array.mk [Value.int IntKind.i64 3, Value.int IntKind.i64 0]), Value.int IntKind.i64 4, Value.int IntKind.i64 (-1)] fun v0 =>
  T.asU v0 fun l1 =>
    T.req (List.length l1 = 2)
      (T.asP (List.headD l1 (Value.tuple (Array.mk []))) fun o2 =>
        T.asI IntKind.i64 (List.headD (List.tail l1) (Value.tuple (Array.mk []))) fun i3 =>
          T.ite (i3 != 0) (T.ret (Value.bool false))
            (T.ite (Option.isNone o2) (T.ret (Value.bool false))
              (T.call 8 [Value.pointer o2] fun v4 =>
                T.asI IntKind.i64 v4 fun i5 =>
                  T.ite (i5 != 0) (T.ret (Value.bool false))
                    (T.call 7 [Value.pointer o2] fun v6 =>
                      T.asI IntKind.i64 v6 fun i7 =>
                        T.ite (i7 != 5) (T.ret (Value.bool false))
                          (T.call 12 [Value.pointer o2, Value.int IntKind.i64 1, Value.int IntKind.i64 5, Value.bool true] fun v8 =>
                            T.asB v8 fun b9 =>
                              T.ite b9
                                (T.call 13 [Value.pointer o2] fun v10 =>
                                  T.asB v10 fun b11 =>
                                    T.ite b11
                                      (T.call 10
                                        [Value.pointer o2,
                                          Value.agg
                                            (Array.mk [Value.int IntKind.i64 2, Value.int IntKind.i64 5, Value.int IntKind.i64 0, Value.int IntKind.i64 0]),
                                          Value.int IntKind.i64 0, Value.int IntKind.i64 0]
                                        fun v12 =>
                                        T.asB v12 fun b13 =>
                                          T.ite (!b13)
                                            (T.call 10
                                              [Value.pointer o2,
                                                Value.agg
                                                  (Array.mk
                                                    [Value.int IntKind.i64 2, Value.int IntKind.i64 6, Value.int IntKind.i64 9, Value.int IntKind.i64 5]),
                                                Value.int IntKind.i64 9, Value.int IntKind.i64 5]
                                              fun v14 => T.asB v14 fun b15 => T.ret (Value.bool b15))
                                            (T.ret (Value.bool false)))
                                      (T.ret (Value.bool false)))
                                (T.ret (Value.bool false)))))))
theorem e14  : treeOf Try.prog Try.f14 (codeOf Try.f14) .n [] = t14 := by kernel_rfl
theorem c14  {w : World} {R : Ending → World → Prop} (h : t14.sem Try.prog R ρ0 w) : Calls Try.prog 14 #[] w R :=
  calls_of mixed Try.func14 rfl rfl (e14 ) h
def t15 (i0 : Int) (i1 : Int) (i2 : Int) (i3 : Int) : T :=
  T.new (Obj.cells (Array.mk [Value.int IntKind.i64 i0, Value.int IntKind.i64 i1]) 29) fun n4 =>
  T.ldI IntKind.i64 n4 0 fun i5 =>
    T.ite (decide (i5 < 1)) (T.ret (Value.tuple (Array.mk [Value.pointer none, Value.int IntKind.i64 1])))
      (T.ldI IntKind.i64 n4 0 fun i6 =>
        T.ite (decide (i6 > 5)) (T.ret (Value.tuple (Array.mk [Value.pointer none, Value.int IntKind.i64 1])))
          (T.ldI IntKind.i64 n4 1 fun i7 =>
            T.ite (decide (i7 < 0)) (T.ret (Value.tuple (Array.mk [Value.pointer none, Value.int IntKind.i64 1])))
              (T.ldI IntKind.i64 n4 1 fun i8 =>
                T.ldI IntKind.i64 n4 0 fun i9 =>
                  T.ite (decide (i8 ≥ i9)) (T.ret (Value.tuple (Array.mk [Value.pointer none, Value.int IntKind.i64 1])))
                    (T.ite (decide (i2 < 0)) (T.ret (Value.tuple (Array.mk [Value.pointer none, Value.int IntKind.i64 1])))
                      (T.ite (decide (i2 > 1099511627776)) (T.ret (Value.tuple (Array.mk [Value.pointer none, Value.int IntKind.i64 1])))
                        (T.ite (decide (i3 < -1)) (T.ret (Value.tuple (Array.mk [Value.pointer none, Value.int IntKind.i64 1])))
                          (T.ldI IntKind.i64 n4 0 fun i10 =>
                            T.ite (decide (i3 ≥ i10)) (T.ret (Value.tuple (Array.mk [Value.pointer none, Value.int IntKind.i64 1])))
                              (T.drew
                                (T.ldI IntKind.i64 n4 0 fun i11 =>
                                  T.ldI IntKind.i64 n4 1 fun i12 =>
                                    T.ldI IntKind.i64 n4 0 fun i13 =>
                                      T.run (Instr.makeSlice 68 (Value.int IntKind.i64 i13) (Value.int IntKind.i64 i13)) fun v14 =>
                                        T.asS v14 fun o15 n16 n17 =>
                                          T.chk [(Addr.mk n4 0 none, Value.int IntKind.i64 i11), (Addr.mk n4 1 none, Value.int IntKind.i64 i12)]
                                            (T.new
                                              (Obj.cells
                                                (Array.mk
                                                  [Value.int IntKind.i64 i11, Value.int IntKind.i64 i12, Value.int IntKind.i64 i2, Value.int IntKind.i64 i3,
                                                    Value.bool false, Value.slice o15 n16 n17])
                                                70)
                                              fun n18 =>
                                              T.chk [(Addr.mk n4 0 none, Value.int IntKind.i64 i11), (Addr.mk n4 1 none, Value.int IntKind.i64 i12)]
                                                (T.ret (Value.tuple (Array.mk [Value.pointer (some (Addr.mk n18 0 none)), Value.int IntKind.i64 0])))))))))))))
theorem e15 (i0 : Int) (i1 : Int) (i2 : Int) (i3 : Int) : treeOf Try.prog Try.f15 (codeOf Try.f15) (.s .n (.s .n (.s (.p [0, 1, 2, 3, 4, 5, 6, 7, 8, 9]) .n))) [.v (.agg #[.int .i64 i0, .int .i64 i1]), .v (.int .i64 i2), .v (.int .i64 i3)] = (t15 i0 i1 i2 i3) := by kernel_rfl
theorem c15 (i0 : Int) (i1 : Int) (i2 : Int) (i3 : Int) {w : World} {R : Ending → World → Prop} (h : (t15 i0 i1 i2 i3).sem Try.prog R ρ0 w) : Calls Try.prog 15 #[.agg #[.int .i64 i0, .int .i64 i1], .int .i64 i2, .int .i64 i3] w R :=
  calls_of mixed Try.func15 rfl rfl (e15 i0 i1 i2 i3) h
def t16 (n0 n1 : Nat) (n2 n3 : Nat) (i4 : Int) (i5 : Int) (i6 : Int) (i7 : Int) (i8 : Int) (i9 : Int) (i10 : Int) (i11 : Int) (i12 : Int) (b13 : Bool) : T :=
  T.new
  (Obj.cells
    (Array.mk
      [Value.int IntKind.i64 i4, Value.int IntKind.i64 i5, Value.int IntKind.i64 i6, Value.int IntKind.i64 i7, Value.int IntKind.i64 i8,
        Value.int IntKind.i64 i9, Value.int IntKind.i64 i10, Value.int IntKind.i64 i11, Value.int IntKind.i64 i12, Value.bool b13])
    52)
  fun n14 =>
  T.ldI IntKind.i64 n14 0 fun i15 =>
    T.ite (i15 == 0)
      (T.drew
        (T.ldI IntKind.i64 n14 1 fun i16 =>
          T.ldI IntKind.i64 n14 1 fun i17 =>
            T.call 20 [Value.pointer (some (Addr.mk n0 n1 none)), Value.int IntKind.i64 i16] fun v18 =>
              T.asB v18 fun b19 =>
                T.chk [(Addr.mk n14 1 none, Value.int IntKind.i64 i17)]
                  (T.call 28 [Value.pointer (some (Addr.mk n2 n3 none)), Value.int IntKind.i64 i17] fun v20 =>
                    T.asB v20 fun b21 => T.chk [] (T.ret (Value.bool (b19 == b21))))))
      (T.ite (i15 == 1)
        (T.drew
          (T.ldI IntKind.i64 n14 2 fun i22 =>
            T.ldI IntKind.i64 n14 3 fun i23 =>
              T.ldI IntKind.i64 n14 4 fun i24 =>
                T.ldI IntKind.i64 n14 5 fun i25 =>
                  T.ldI IntKind.i64 n14 6 fun i26 =>
                    T.ldI IntKind.i64 n14 7 fun i27 =>
                      T.ldI IntKind.i64 n14 2 fun i28 =>
                        T.ldI IntKind.i64 n14 3 fun i29 =>
                          T.ldI IntKind.i64 n14 4 fun i30 =>
                            T.ldI IntKind.i64 n14 5 fun i31 =>
                              T.ldI IntKind.i64 n14 6 fun i32 =>
                                T.ldI IntKind.i64 n14 7 fun i33 =>
                                  T.call 10
                                    [Value.pointer (some (Addr.mk n0 n1 none)),
                                      Value.agg
                                        (Array.mk [Value.int IntKind.i64 i22, Value.int IntKind.i64 i23, Value.int IntKind.i64 i24, Value.int IntKind.i64 i25]),
                                      Value.int IntKind.i64 i26, Value.int IntKind.i64 i27]
                                    fun v34 =>
                                    T.asB v34 fun b35 =>
                                      T.chk
                                        [(Addr.mk n14 7 none, Value.int IntKind.i64 i33), (Addr.mk n14 6 none, Value.int IntKind.i64 i32),
                                          (Addr.mk n14 2 none, Value.int IntKind.i64 i28), (Addr.mk n14 3 none, Value.int IntKind.i64 i29),
                                          (Addr.mk n14 4 none, Value.int IntKind.i64 i30), (Addr.mk n14 5 none, Value.int IntKind.i64 i31)]
                                        (T.call 29
                                          [Value.pointer (some (Addr.mk n2 n3 none)),
                                            Value.agg
                                              (Array.mk
                                                [Value.int IntKind.i64 i28, Value.int IntKind.i64 i29, Value.int IntKind.i64 i30, Value.int IntKind.i64 i31]),
                                            Value.int IntKind.i64 i32, Value.int IntKind.i64 i33]
                                          fun v36 => T.asB v36 fun b37 => T.chk [] (T.ret (Value.bool (b35 == b37))))))
        (T.ite (i15 == 2)
          (T.call 8 [Value.pointer (some (Addr.mk n0 n1 none))] fun v38 =>
            T.asI IntKind.i64 v38 fun i39 =>
              T.call 30 [Value.pointer (some (Addr.mk n2 n3 none))] fun v40 => T.asI IntKind.i64 v40 fun i41 => T.ret (Value.bool (i39 == i41)))
          (T.ite (i15 == 3)
            (T.drew
              (T.ldI IntKind.i64 n14 8 fun i42 =>
                T.ldI IntKind.i64 n14 1 fun i43 =>
                  T.ldB n14 9 fun b44 =>
                    T.ldI IntKind.i64 n14 8 fun i45 =>
                      T.ldI IntKind.i64 n14 1 fun i46 =>
                        T.ldB n14 9 fun b47 =>
                          T.call 12 [Value.pointer (some (Addr.mk n0 n1 none)), Value.int IntKind.i64 i42, Value.int IntKind.i64 i43, Value.bool b44] fun v48 =>
                            T.asB v48 fun b49 =>
                              T.chk
                                [(Addr.mk n14 9 none, Value.bool b47), (Addr.mk n14 1 none, Value.int IntKind.i64 i46),
                                  (Addr.mk n14 8 none, Value.int IntKind.i64 i45)]
                                (T.call 31 [Value.pointer (some (Addr.mk n2 n3 none)), Value.int IntKind.i64 i45, Value.int IntKind.i64 i46, Value.bool b47]
                                  fun v50 => T.asB v50 fun b51 => T.chk [] (T.ret (Value.bool (b49 == b51))))))
            (T.ret (Value.bool true)))))
theorem e16 (n0 n1 : Nat) (n2 n3 : Nat) (i4 : Int) (i5 : Int) (i6 : Int) (i7 : Int) (i8 : Int) (i9 : Int) (i10 : Int) (i11 : Int) (i12 : Int) (b13 : Bool) : treeOf Try.prog Try.f16 (codeOf Try.f16) (.s .n (.s (.s .n (.u (.s .n (.s (.s (.p [0, 1, 2, 4, 5, 6, 3, 7, 8, 9]) .n) (.s .n (.s (.s (.p [0, 1, 2, 3, 4, 5, 6, 8, 9, 10, 11, 12, 13, 14, 7, 15, 16, 17]) .n) (.s .n (.s .n (.s .n (.s (.s (.p [0, 1, 2, 3, 4, 5, 6, 8, 9, 10, 11, 12, 13, 14, 7, 15, 16, 17]) .n) .n)))))))))) .n)) [.p n0 n1, .p n2 n3, .v (.agg #[.int .i64 i4, .int .i64 i5, .int .i64 i6, .int .i64 i7, .int .i64 i8, .int .i64 i9, .int .i64 i10, .int .i64 i11, .int .i64 i12, .bool b13])] = (t16 n0 n1 n2 n3 i4 i5 i6 i7 i8 i9 i10 i11 i12 b13) := by kernel_rfl
theorem c16 (n0 n1 : Nat) (n2 n3 : Nat) (i4 : Int) (i5 : Int) (i6 : Int) (i7 : Int) (i8 : Int) (i9 : Int) (i10 : Int) (i11 : Int) (i12 : Int) (b13 : Bool) {w : World} {R : Ending → World → Prop} (h : (t16 n0 n1 n2 n3 i4 i5 i6 i7 i8 i9 i10 i11 i12 b13).sem Try.prog R ρ0 w) : Calls Try.prog 16 #[.pointer (some ⟨n0, n1, none⟩), .pointer (some ⟨n2, n3, none⟩), .agg #[.int .i64 i4, .int .i64 i5, .int .i64 i6, .int .i64 i7, .int .i64 i8, .int .i64 i9, .int .i64 i10, .int .i64 i11, .int .i64 i12, .bool b13]] w R :=
  calls_of mixed Try.func16 rfl rfl (e16 n0 n1 n2 n3 i4 i5 i6 i7 i8 i9 i10 i11 i12 b13) h
def t18 (i0 : Int) (i1 : Int) (i2 : Int) (i3 : Int) (i4 : Int) (i5 : Int) (i6 : Int) (i7 : Int) : T :=
  T.new (Obj.cells (Array.mk [Value.int IntKind.i64 i0, Value.int IntKind.i64 i1, Value.int IntKind.i64 i2, Value.int IntKind.i64 i3]) 39) fun n8 =>
  T.new (Obj.cells (Array.mk [Value.int IntKind.i64 i4, Value.int IntKind.i64 i5, Value.int IntKind.i64 i6, Value.int IntKind.i64 i7]) 39) fun n9 =>
    T.ldI IntKind.i64 n8 3 fun i10 =>
      T.ldI IntKind.i64 n9 3 fun i11 =>
        T.ite (decide (i10 > i11)) (T.ret (Value.bool true))
          (T.ldI IntKind.i64 n8 3 fun i12 =>
            T.ldI IntKind.i64 n9 3 fun i13 =>
              T.ite (i12 == i13) (T.ldI IntKind.i64 n8 2 fun i14 => T.ldI IntKind.i64 n9 2 fun i15 => T.ret (Value.bool (decide (i14 > i15))))
                (T.ret (Value.bool false)))
theorem e18 (i0 : Int) (i1 : Int) (i2 : Int) (i3 : Int) (i4 : Int) (i5 : Int) (i6 : Int) (i7 : Int) : treeOf Try.prog Try.f18 (codeOf Try.f18) .n [.v (.agg #[.int .i64 i0, .int .i64 i1, .int .i64 i2, .int .i64 i3]), .v (.agg #[.int .i64 i4, .int .i64 i5, .int .i64 i6, .int .i64 i7])] = (t18 i0 i1 i2 i3 i4 i5 i6 i7) := by kernel_rfl
theorem c18 (i0 : Int) (i1 : Int) (i2 : Int) (i3 : Int) (i4 : Int) (i5 : Int) (i6 : Int) (i7 : Int) {w : World} {R : Ending → World → Prop} (h : (t18 i0 i1 i2 i3 i4 i5 i6 i7).sem Try.prog R ρ0 w) : Calls Try.prog 18 #[.agg #[.int .i64 i0, .int .i64 i1, .int .i64 i2, .int .i64 i3], .agg #[.int .i64 i4, .int .i64 i5, .int .i64 i6, .int .i64 i7]] w R :=
  calls_of mixed Try.func18 rfl rfl (e18 i0 i1 i2 i3 i4 i5 i6 i7) h
def t19 (n0 n1 : Nat) : T :=
  T.call 25 [Value.pointer (some (Addr.mk n0 n1 none))] fun v2 =>
  T.asB v2 fun b3 =>
    T.ite b3 (T.ret (Value.tuple (Array.mk [Value.int IntKind.i64 0, Value.bool false])))
      (T.drew
        (T.ldI IntKind.i64 n0 (n1 + 3) fun i4 =>
          T.ldI IntKind.i64 n0 (n1 + 3) fun i5 => T.ret (Value.tuple (Array.mk [Value.int IntKind.i64 i4, Value.bool (decide (i5 ≥ 0))]))))
theorem e19 (n0 n1 : Nat) : treeOf Try.prog Try.f19 (codeOf Try.f19) (.s .n (.s .n (.s (.p [0, 1, 2, 3, 4, 5, 6, 7, 8, 9, 10]) .n))) [.p n0 n1] = (t19 n0 n1) := by kernel_rfl
theorem c19 (n0 n1 : Nat) {w : World} {R : Ending → World → Prop} (h : (t19 n0 n1).sem Try.prog R ρ0 w) : Calls Try.prog 19 #[.pointer (some ⟨n0, n1, none⟩)] w R :=
  calls_of mixed Try.func19 rfl rfl (e19 n0 n1) h
def t20 (n0 n1 : Nat) (i2 : Int) : T :=
  T.call 25 [Value.pointer (some (Addr.mk n0 n1 none))] fun v3 =>
  T.asB v3 fun b4 =>
    T.ite b4 (T.ret (Value.bool false))
      (T.ldI IntKind.i64 n0 (n1 + 2) fun i5 =>
        T.ite (decide (i2 ≤ i5)) (T.ret (Value.bool false))
          (T.ite (decide (i2 > 1099511627776)) (T.ret (Value.bool false))
            (T.st n0 (n1 + 2) (Value.int IntKind.i64 i2)
              (T.st n0 (n1 + 3) (Value.int IntKind.i64 (-1)) (T.st n0 (n1 + 4) (Value.int IntKind.u8 0) (T.ret (Value.bool true)))))))
theorem e20 (n0 n1 : Nat) (i2 : Int) : treeOf Try.prog Try.f20 (codeOf Try.f20) .n [.p n0 n1, .v (.int .i64 i2)] = (t20 n0 n1 i2) := by kernel_rfl
theorem c20 (n0 n1 : Nat) (i2 : Int) {w : World} {R : Ending → World → Prop} (h : (t20 n0 n1 i2).sem Try.prog R ρ0 w) : Calls Try.prog 20 #[.pointer (some ⟨n0, n1, none⟩), .int .i64 i2] w R :=
  calls_of mixed Try.func20 rfl rfl (e20 n0 n1 i2) h
def t22 (n0 n1 : Nat) : T :=
  T.new (Obj.cells (Array.mk [Value.pointer (some (Addr.mk n0 n1 none))]) 24) fun n2 =>
  T.ret (Value.func (Fn.func 34) (Array.mk []) (Array.mk [Value.pointer (some (Addr.mk n2 0 none))]))
theorem e22 (n0 n1 : Nat) : treeOf Try.prog Try.f22 (codeOf Try.f22) .n [.p n0 n1] = (t22 n0 n1) := by kernel_rfl
theorem c22 (n0 n1 : Nat) {w : World} {R : Ending → World → Prop} (h : (t22 n0 n1).sem Try.prog R ρ0 w) : Calls Try.prog 22 #[.pointer (some ⟨n0, n1, none⟩)] w R :=
  calls_of mixed Try.func22 rfl rfl (e22 n0 n1) h
def t23 (n0 n1 : Nat) : T :=
  T.call 25 [Value.pointer (some (Addr.mk n0 n1 none))] fun v2 =>
  T.asB v2 fun b3 =>
    T.ite b3 (T.ret (Value.pointer none))
      (T.ldI IntKind.i64 n0 n1 fun i4 =>
        T.ldI IntKind.i64 n0 (n1 + 1) fun i5 =>
          T.ldI IntKind.i64 n0 (n1 + 2) fun i6 =>
            T.ldI IntKind.i64 n0 (n1 + 3) fun i7 =>
              T.ldI IntKind.u8 n0 (n1 + 4) fun i8 =>
                T.new
                  (Obj.cells
                    (Array.mk [Value.int IntKind.i64 0, Value.int IntKind.i64 0, Value.int IntKind.i64 0, Value.int IntKind.i64 0, Value.int IntKind.u8 0]) 57)
                  fun n9 =>
                  T.st n9 0 (Value.int IntKind.i64 i4)
                    (T.st n9 1 (Value.int IntKind.i64 i5)
                      (T.st n9 2 (Value.int IntKind.i64 i6)
                        (T.st n9 3 (Value.int IntKind.i64 i7) (T.st n9 4 (Value.int IntKind.u8 i8) (T.ret (Value.pointer (some (Addr.mk n9 0 none)))))))))
theorem e23 (n0 n1 : Nat) : treeOf Try.prog Try.f23 (codeOf Try.f23) .n [.p n0 n1] = (t23 n0 n1) := by kernel_rfl
theorem c23 (n0 n1 : Nat) {w : World} {R : Ending → World → Prop} (h : (t23 n0 n1).sem Try.prog R ρ0 w) : Calls Try.prog 23 #[.pointer (some ⟨n0, n1, none⟩)] w R :=
  calls_of mixed Try.func23 rfl rfl (e23 n0 n1) h
def t24 (n0 n1 : Nat) : T :=
  T.ldI IntKind.i64 n0 n1 fun i2 =>
  T.ldI IntKind.i64 n0 (n1 + 1) fun i3 =>
    T.ldI IntKind.i64 n0 (n1 + 2) fun i4 =>
      T.ldI IntKind.i64 n0 (n1 + 3) fun i5 =>
        T.ldB n0 (n1 + 4) fun b6 =>
          T.ldS n0 (n1 + 5) fun o7 n8 n9 =>
            T.new
              (Obj.cells
                (Array.mk
                  [Value.int IntKind.i64 0, Value.int IntKind.i64 0, Value.int IntKind.i64 0, Value.int IntKind.i64 0, Value.bool false, Value.slice none 0 0])
                70)
              fun n10 =>
              T.st n10 0 (Value.int IntKind.i64 i2)
                (T.st n10 1 (Value.int IntKind.i64 i3)
                  (T.st n10 2 (Value.int IntKind.i64 i4)
                    (T.st n10 3 (Value.int IntKind.i64 i5)
                      (T.st n10 4 (Value.bool b6)
                        (T.st n10 5 (Value.slice o7 n8 n9)
                          (T.ldS n0 (n1 + 5) fun o11 n12 n13 =>
                            T.run (biV Builtin.append (Array.mk [68, 68]) 68 (Array.mk [Value.slice none 0 0, Value.slice o11 n12 n13])) fun v14 =>
                              T.asS v14 fun o15 n16 n17 => T.st n10 5 (Value.slice o15 n16 n17) (T.ret (Value.pointer (some (Addr.mk n10 0 none))))))))))
theorem e24 (n0 n1 : Nat) : treeOf Try.prog Try.f24 (codeOf Try.f24) .n [.p n0 n1] = (t24 n0 n1) := by kernel_rfl
theorem c24 (n0 n1 : Nat) {w : World} {R : Ending → World → Prop} (h : (t24 n0 n1).sem Try.prog R ρ0 w) : Calls Try.prog 24 #[.pointer (some ⟨n0, n1, none⟩)] w R :=
  calls_of mixed Try.func24 rfl rfl (e24 n0 n1) h
def t25 (n0 n1 : Nat) : T :=
  T.ldI IntKind.i64 n0 n1 fun i2 => T.ret (Value.bool (i2 == 0))
theorem e25 (n0 n1 : Nat) : treeOf Try.prog Try.f25 (codeOf Try.f25) .n [.p n0 n1] = (t25 n0 n1) := by kernel_rfl
theorem c25 (n0 n1 : Nat) {w : World} {R : Ending → World → Prop} (h : (t25 n0 n1).sem Try.prog R ρ0 w) : Calls Try.prog 25 #[.pointer (some ⟨n0, n1, none⟩)] w R :=
  calls_of mixed Try.func25 rfl rfl (e25 n0 n1) h
def t26 (n0 n1 : Nat) (i2 : Int) : T :=
  T.ite (decide (i2 ≥ 0))
  (T.ldI IntKind.i64 n0 n1 fun i3 =>
    T.ite (decide (i2 < i3)) (T.ldI IntKind.i64 n0 (n1 + 1) fun i4 => T.ret (Value.bool (i2 != i4))) (T.ret (Value.bool false)))
  (T.ret (Value.bool false))
theorem e26 (n0 n1 : Nat) (i2 : Int) : treeOf Try.prog Try.f26 (codeOf Try.f26) .n [.p n0 n1, .v (.int .i64 i2)] = (t26 n0 n1 i2) := by kernel_rfl
theorem c26 (n0 n1 : Nat) (i2 : Int) {w : World} {R : Ending → World → Prop} (h : (t26 n0 n1 i2).sem Try.prog R ρ0 w) : Calls Try.prog 26 #[.pointer (some ⟨n0, n1, none⟩), .int .i64 i2] w R :=
  calls_of mixed Try.func26 rfl rfl (e26 n0 n1 i2) h
def t27 (i0 : Int) : T :=
  T.req (0 ≤ i0 ∧ i0 < 256)
  (T.ret
    (Value.int IntKind.i64
      (IntKind.wrap IntKind.i64
        (↑(UInt8.toNat
              (Array.getD
                (Array.mk
                  [OfNat.ofNat 0, OfNat.ofNat 1, OfNat.ofNat 1, OfNat.ofNat 2, OfNat.ofNat 1, OfNat.ofNat 2, OfNat.ofNat 2, OfNat.ofNat 3, OfNat.ofNat 1,
                    OfNat.ofNat 2, OfNat.ofNat 2, OfNat.ofNat 3, OfNat.ofNat 2, OfNat.ofNat 3, OfNat.ofNat 3, OfNat.ofNat 4, OfNat.ofNat 1, OfNat.ofNat 2,
                    OfNat.ofNat 2, OfNat.ofNat 3, OfNat.ofNat 2, OfNat.ofNat 3, OfNat.ofNat 3, OfNat.ofNat 4, OfNat.ofNat 2, OfNat.ofNat 3, OfNat.ofNat 3,
                    OfNat.ofNat 4, OfNat.ofNat 3, OfNat.ofNat 4, OfNat.ofNat 4, OfNat.ofNat 5, OfNat.ofNat 1, OfNat.ofNat 2, OfNat.ofNat 2, OfNat.ofNat 3,
                    OfNat.ofNat 2, OfNat.ofNat 3, OfNat.ofNat 3, OfNat.ofNat 4, OfNat.ofNat 2, OfNat.ofNat 3, OfNat.ofNat 3, OfNat.ofNat 4, OfNat.ofNat 3,
                    OfNat.ofNat 4, OfNat.ofNat 4, OfNat.ofNat 5, OfNat.ofNat 2, OfNat.ofNat 3, OfNat.ofNat 3, OfNat.ofNat 4, OfNat.ofNat 3, OfNat.ofNat 4,
                    OfNat.ofNat 4, OfNat.ofNat 5, OfNat.ofNat 3, OfNat.ofNat 4, OfNat.ofNat 4, OfNat.ofNat 5, OfNat.ofNat 4, OfNat.ofNat 5, OfNat.ofNat 5,
                    OfNat.ofNat 6, OfNat.ofNat 1, OfNat.ofNat 2, OfNat.ofNat 2, OfNat.ofNat 3, OfNat.ofNat 2, OfNat.ofNat 3, OfNat.ofNat 3, OfNat.ofNat 4,
                    OfNat.ofNat 2, OfNat.ofNat 3, OfNat.ofNat 3, OfNat.ofNat 4, OfNat.ofNat 3, OfNat.ofNat 4, OfNat.ofNat 4, OfNat.ofNat 5, OfNat.ofNat 2,
                    OfNat.ofNat 3, OfNat.ofNat 3, OfNat.ofNat 4, OfNat.ofNat 3, OfNat.ofNat 4, OfNat.ofNat 4, OfNat.ofNat 5, OfNat.ofNat 3, OfNat.ofNat 4,
                    OfNat.ofNat 4, OfNat.ofNat 5, OfNat.ofNat 4, OfNat.ofNat 5, OfNat.ofNat 5, OfNat.ofNat 6, OfNat.ofNat 2, OfNat.ofNat 3, OfNat.ofNat 3,
                    OfNat.ofNat 4, OfNat.ofNat 3, OfNat.ofNat 4, OfNat.ofNat 4, OfNat.ofNat 5, OfNat.ofNat 3, OfNat.ofNat 4, OfNat.ofNat 4, OfNat.ofNat 5,
                    OfNat.ofNat 4, OfNat.ofNat 5, OfNat.ofNat 5, OfNat.ofNat 6, OfNat.ofNat 3, OfNat.ofNat 4, OfNat.ofNat 4, OfNat.ofNat 5, OfNat.ofNat 4,
                    OfNat.ofNat 5, OfNat.ofNat 5, OfNat.ofNat 6, OfNat.ofNat 4, OfNat.ofNat 5, OfNat.ofNat 5, OfNat.ofNat 6, OfNat.ofNat 5, OfNat.ofNat 6,
                    OfNat.ofNat 6, OfNat.ofNat 7, OfNat.ofNat 1, OfNat.ofNat 2, OfNat.ofNat 2, OfNat.ofNat 3, OfNat.ofNat 2, OfNat.ofNat 3, OfNat.ofNat 3,
                    OfNat.ofNat 4, OfNat.ofNat 2, OfNat.ofNat 3, OfNat.ofNat 3, OfNat.ofNat 4, OfNat.ofNat 3, OfNat.ofNat 4, OfNat.ofNat 4, OfNat.ofNat 5,
                    OfNat.ofNat 2, OfNat.ofNat 3, OfNat.ofNat 3, OfNat.ofNat 4, OfNat.ofNat 3, OfNat.ofNat 4, OfNat.ofNat 4, OfNat.ofNat 5, OfNat.ofNat 3,
                    OfNat.ofNat 4, OfNat.ofNat 4, OfNat.ofNat 5, OfNat.ofNat 4, OfNat.ofNat 5, OfNat.ofNat 5, OfNat.ofNat 6, OfNat.ofNat 2, OfNat.ofNat 3,
                    OfNat.ofNat 3, OfNat.ofNat 4, OfNat.ofNat 3, OfNat.ofNat 4, OfNat.ofNat 4, OfNat.ofNat 5, OfNat.ofNat 3, OfNat.ofNat 4, OfNat.ofNat 4,
                    OfNat.ofNat 5, OfNat.ofNat 4, OfNat.ofNat 5, OfNat.ofNat 5, OfNat.ofNat 6, OfNat.ofNat 3, OfNat.ofNat 4, OfNat.ofNat 4, OfNat.ofNat 5,
                    OfNat.ofNat 4, OfNat.ofNat 5, OfNat.ofNat 5, OfNat.ofNat 6, OfNat.ofNat 4, OfNat.ofNat 5, OfNat.ofNat 5, OfNat.ofNat 6, OfNat.ofNat 5,
                    OfNat.ofNat 6, OfNat.ofNat 6, OfNat.ofNat 7, OfNat.ofNat 2, OfNat.ofNat 3, OfNat.ofNat 3, OfNat.ofNat 4, OfNat.ofNat 3, OfNat.ofNat 4,
                    OfNat.ofNat 4, OfNat.ofNat 5, OfNat.ofNat 3, OfNat.ofNat 4, OfNat.ofNat 4, OfNat.ofNat 5, OfNat.ofNat 4, OfNat.ofNat 5, OfNat.ofNat 5,
                    OfNat.ofNat 6, OfNat.ofNat 3, OfNat.ofNat 4, OfNat.ofNat 4, OfNat.ofNat 5, OfNat.ofNat 4, OfNat.ofNat 5, OfNat.ofNat 5, OfNat.ofNat 6,
                    OfNat.ofNat 4, OfNat.ofNat 5, OfNat.ofNat 5, OfNat.ofNat 6, OfNat.ofNat 5, OfNat.ofNat 6, OfNat.ofNat 6, OfNat.ofNat 7, OfNat.ofNat 3,
                    OfNat.ofNat 4, OfNat.ofNat 4, OfNat.ofNat 5, OfNat.ofNat 4, OfNat.ofNat 5, OfNat.ofNat 5, OfNat.ofNat 6, OfNat.ofNat 4, OfNat.ofNat 5,
                    OfNat.ofNat 5, OfNat.ofNat 6, OfNat.ofNat 5, OfNat.ofNat 6, OfNat.ofNat 6, OfNat.ofNat 7, OfNat.ofNat 4, OfNat.ofNat 5, OfNat.ofNat 5,
                    OfNat.ofNat 6, OfNat.ofNat 5, OfNat.ofNat 6, OfNat.ofNat 6, OfNat.ofNat 7, OfNat.ofNat 5, OfNat.ofNat 6, OfNat.ofNat 6, OfNat.ofNat 7,
                    OfNat.ofNat 6, OfNat.ofNat 7, OfNat.ofNat 7, OfNat.ofNat 8])
                (Int.toNat i0) (OfNat.ofNat 0))) :
          Int))))
theorem e27 (i0 : Int) : treeOf Try.prog Try.f27 (codeOf Try.f27) .n [.v (.int .u8 i0)] = (t27 i0) := by kernel_rfl
theorem c27 (i0 : Int) {w : World} {R : Ending → World → Prop} (h : (t27 i0).sem Try.prog R ρ0 w) : Calls Try.prog 27 #[.int .u8 i0] w R :=
  calls_of mixed Try.func27 rfl rfl (e27 i0) h
def t28 (n0 n1 : Nat) (i2 : Int) : T :=
  T.ldI IntKind.i64 n0 (n1 + 2) fun i3 =>
  T.ite (decide (i2 ≤ i3)) (T.ret (Value.bool false))
    (T.ite (decide (i2 > 1099511627776)) (T.ret (Value.bool false))
      (T.st n0 (n1 + 2) (Value.int IntKind.i64 i2)
        (T.st n0 (n1 + 3) (Value.int IntKind.i64 (-1))
          (T.st n0 (n1 + 4) (Value.bool false)
            (T.ldI IntKind.i64 n0 n1 fun i4 =>
              T.run (Instr.makeSlice 68 (Value.int IntKind.i64 i4) (Value.int IntKind.i64 i4)) fun v5 =>
                T.asS v5 fun o6 n7 n8 => T.st n0 (n1 + 5) (Value.slice o6 n7 n8) (T.ret (Value.bool true)))))))
theorem e28 (n0 n1 : Nat) (i2 : Int) : treeOf Try.prog Try.f28 (codeOf Try.f28) .n [.p n0 n1, .v (.int .i64 i2)] = (t28 n0 n1 i2) := by kernel_rfl
theorem c28 (n0 n1 : Nat) (i2 : Int) {w : World} {R : Ending → World → Prop} (h : (t28 n0 n1 i2).sem Try.prog R ρ0 w) : Calls Try.prog 28 #[.pointer (some ⟨n0, n1, none⟩), .int .i64 i2] w R :=
  calls_of mixed Try.func28 rfl rfl (e28 n0 n1 i2) h
def t29 (n0 n1 : Nat) (i2 : Int) (i3 : Int) (i4 : Int) (i5 : Int) (i6 : Int) (i7 : Int) : T :=
  T.new (Obj.cells (Array.mk [Value.int IntKind.i64 i2, Value.int IntKind.i64 i3, Value.int IntKind.i64 i4, Value.int IntKind.i64 i5]) 39) fun n8 =>
  T.ldI IntKind.i64 n8 0 fun i9 =>
    T.call 35 [Value.pointer (some (Addr.mk n0 n1 none)), Value.int IntKind.i64 i9] fun v10 =>
      T.asB v10 fun b11 =>
        T.ite (!b11) (T.ret (Value.bool false))
          (T.ldI IntKind.i64 n8 1 fun i12 =>
            T.ite (decide (i12 < 0)) (T.ret (Value.bool false))
              (T.ldI IntKind.i64 n8 1 fun i13 =>
                T.ite (decide (i13 > 1099511627776)) (T.ret (Value.bool false))
                  (T.ldI IntKind.i64 n8 1 fun i14 =>
                    T.call 28 [Value.pointer (some (Addr.mk n0 n1 none)), Value.int IntKind.i64 i14] fun v15 =>
                      T.asB v15 fun b16 =>
                        T.drew
                          (T.ldI IntKind.i64 n8 1 fun i17 =>
                            T.ldI IntKind.i64 n0 (n1 + 2) fun i18 =>
                              T.ite (decide (i17 < i18))
                                (T.chk [(Addr.mk n0 (n1 + 2) none, Value.int IntKind.i64 i18), (Addr.mk n8 1 none, Value.int IntKind.i64 i17)]
                                  (T.ret (Value.bool false)))
                                (T.ldI IntKind.i64 n0 (n1 + 3) fun i19 =>
                                  T.ite (decide (i19 ≥ 0))
                                    (T.ldI IntKind.i64 n0 (n1 + 3) fun i20 =>
                                      T.ldI IntKind.i64 n8 0 fun i21 =>
                                        T.ite (i20 != i21)
                                          (T.chk
                                            [(Addr.mk n8 0 none, Value.int IntKind.i64 i21), (Addr.mk n0 (n1 + 3) none, Value.int IntKind.i64 i20),
                                              (Addr.mk n0 (n1 + 3) none, Value.int IntKind.i64 i19), (Addr.mk n0 (n1 + 2) none, Value.int IntKind.i64 i18),
                                              (Addr.mk n8 1 none, Value.int IntKind.i64 i17)]
                                            (T.ret (Value.bool false)))
                                          (T.ldI IntKind.i64 n8 0 fun i22 =>
                                            T.ldI IntKind.i64 n8 1 fun i23 =>
                                              T.ldI IntKind.i64 n8 2 fun i24 =>
                                                T.ldI IntKind.i64 n8 3 fun i25 =>
                                                  T.call 18
                                                    [Value.agg
                                                        (Array.mk
                                                          [Value.int IntKind.i64 0, Value.int IntKind.i64 0, Value.int IntKind.i64 i6,
                                                            Value.int IntKind.i64 i7]),
                                                      Value.agg
                                                        (Array.mk
                                                          [Value.int IntKind.i64 i22, Value.int IntKind.i64 i23, Value.int IntKind.i64 i24,
                                                            Value.int IntKind.i64 i25])]
                                                    fun v26 =>
                                                    T.asB v26 fun b27 =>
                                                      T.chk
                                                        [(Addr.mk n8 0 none, Value.int IntKind.i64 i21), (Addr.mk n0 (n1 + 3) none, Value.int IntKind.i64 i20),
                                                          (Addr.mk n0 (n1 + 3) none, Value.int IntKind.i64 i19),
                                                          (Addr.mk n0 (n1 + 2) none, Value.int IntKind.i64 i18), (Addr.mk n8 1 none, Value.int IntKind.i64 i17)]
                                                        (T.ite b27 (T.ret (Value.bool false))
                                                          (T.ldI IntKind.i64 n8 0 fun i28 =>
                                                            T.st n0 (n1 + 3) (Value.int IntKind.i64 i28) (T.ret (Value.bool true))))))
                                    (T.ldI IntKind.i64 n8 0 fun i29 =>
                                      T.ldI IntKind.i64 n8 1 fun i30 =>
                                        T.ldI IntKind.i64 n8 2 fun i31 =>
                                          T.ldI IntKind.i64 n8 3 fun i32 =>
                                            T.call 18
                                              [Value.agg
                                                  (Array.mk
                                                    [Value.int IntKind.i64 0, Value.int IntKind.i64 0, Value.int IntKind.i64 i6, Value.int IntKind.i64 i7]),
                                                Value.agg
                                                  (Array.mk
                                                    [Value.int IntKind.i64 i29, Value.int IntKind.i64 i30, Value.int IntKind.i64 i31,
                                                      Value.int IntKind.i64 i32])]
                                              fun v33 =>
                                              T.asB v33 fun b34 =>
                                                T.chk
                                                  [(Addr.mk n0 (n1 + 3) none, Value.int IntKind.i64 i19), (Addr.mk n0 (n1 + 2) none, Value.int IntKind.i64 i18),
                                                    (Addr.mk n8 1 none, Value.int IntKind.i64 i17)]
                                                  (T.ite b34 (T.ret (Value.bool false))
                                                    (T.ldI IntKind.i64 n8 0 fun i35 =>
                                                      T.st n0 (n1 + 3) (Value.int IntKind.i64 i35) (T.ret (Value.bool true))))))))))
theorem e29 (n0 n1 : Nat) (i2 : Int) (i3 : Int) (i4 : Int) (i5 : Int) (i6 : Int) (i7 : Int) : treeOf Try.prog Try.f29 (codeOf Try.f29) (.s .n (.s .n (.s .n (.s (.s (.p [0, 1, 2, 3, 4, 5, 6, 7, 8, 9, 10, 11, 12, 13, 14, 15, 16, 17, 18, 19, 20, 21, 22, 23, 24, 25, 26, 27, 28, 29]) .n) .n)))) [.p n0 n1, .v (.agg #[.int .i64 i2, .int .i64 i3, .int .i64 i4, .int .i64 i5]), .v (.int .i64 i6), .v (.int .i64 i7)] = (t29 n0 n1 i2 i3 i4 i5 i6 i7) := by kernel_rfl
theorem c29 (n0 n1 : Nat) (i2 : Int) (i3 : Int) (i4 : Int) (i5 : Int) (i6 : Int) (i7 : Int) {w : World} {R : Ending → World → Prop} (h : (t29 n0 n1 i2 i3 i4 i5 i6 i7).sem Try.prog R ρ0 w) : Calls Try.prog 29 #[.pointer (some ⟨n0, n1, none⟩), .agg #[.int .i64 i2, .int .i64 i3, .int .i64 i4, .int .i64 i5], .int .i64 i6, .int .i64 i7] w R :=
  calls_of mixed Try.func29 rfl rfl (e29 n0 n1 i2 i3 i4 i5 i6 i7) h
def t30 (n0 n1 : Nat) : T :=
  T.ldI IntKind.i64 n0 (n1 + 2) fun i2 =>
  T.ite (i2 == 1099511627776) (T.ret (Value.int IntKind.i64 3))
    (T.ldI IntKind.i64 n0 (n1 + 2) fun i3 =>
      T.call 28 [Value.pointer (some (Addr.mk n0 n1 none)), Value.int IntKind.i64 (IntKind.wrap IntKind.i64 (i3 + 1))] fun v4 =>
        T.asB v4 fun b5 =>
          T.ldI IntKind.i64 n0 (n1 + 1) fun i6 =>
            T.st n0 (n1 + 3) (Value.int IntKind.i64 i6)
              (T.st n0 (n1 + 4) (Value.bool true)
                (T.drew
                  (T.ldS n0 (n1 + 5) fun o7 n8 n9 =>
                    T.ldI IntKind.i64 n0 (n1 + 1) fun i10 =>
                      T.req (0 ≤ i10 ∧ i10 < (↑n8 : Int))
                        (T.sm o7 fun n11 n12 => T.st n11 (n12 + Int.toNat i10 * 1) (Value.bool true) (T.chk [] (T.ret (Value.int IntKind.i64 0))))))))
theorem e30 (n0 n1 : Nat) : treeOf Try.prog Try.f30 (codeOf Try.f30) (.s .n (.s .n (.s .n (.s .n (.s (.p [0, 1, 2, 3, 4, 5, 6, 7, 8, 9, 10]) .n))))) [.p n0 n1] = (t30 n0 n1) := by kernel_rfl
theorem c30 (n0 n1 : Nat) {w : World} {R : Ending → World → Prop} (h : (t30 n0 n1).sem Try.prog R ρ0 w) : Calls Try.prog 30 #[.pointer (some ⟨n0, n1, none⟩)] w R :=
  calls_of mixed Try.func30 rfl rfl (e30 n0 n1) h
def t31 (n0 n1 : Nat) (i2 : Int) (i3 : Int) (b4 : Bool) : T :=
  T.ldB n0 (n1 + 4) fun b5 =>
  T.ite (!b5) (T.ret (Value.bool false))
    (T.ldI IntKind.i64 n0 (n1 + 2) fun i6 =>
      T.ite (i3 != i6) (T.ret (Value.bool false))
        (T.ite (!b4) (T.ret (Value.bool false))
          (T.call 35 [Value.pointer (some (Addr.mk n0 n1 none)), Value.int IntKind.i64 i2] fun v7 =>
            T.asB v7 fun b8 =>
              T.ite (!b8) (T.ret (Value.bool false))
                (T.ldS n0 (n1 + 5) fun o9 n10 n11 =>
                  T.req (0 ≤ i2 ∧ i2 < (↑n10 : Int))
                    (T.sm o9 fun n12 n13 =>
                      T.ldB n12 (n13 + Int.toNat i2 * 1) fun b14 =>
                        T.ite b14 (T.ret (Value.bool false))
                          (T.call 32 [Value.pointer (some (Addr.mk n0 n1 none))] fun v15 =>
                            T.asB v15 fun b16 =>
                              T.ldS n0 (n1 + 5) fun o17 n18 n19 =>
                                T.req (0 ≤ i2 ∧ i2 < (↑n18 : Int))
                                  (T.sm o17 fun n20 n21 =>
                                    T.st n20 (n21 + Int.toNat i2 * 1) (Value.bool true)
                                      (T.ite (!b16)
                                        (T.call 32 [Value.pointer (some (Addr.mk n0 n1 none))] fun v22 => T.asB v22 fun b23 => T.ret (Value.bool b23))
                                        (T.ret (Value.bool false))))))))))
theorem e31 (n0 n1 : Nat) (i2 : Int) (i3 : Int) (b4 : Bool) : treeOf Try.prog Try.f31 (codeOf Try.f31) .n [.p n0 n1, .v (.int .i64 i2), .v (.int .i64 i3), .v (.bool b4)] = (t31 n0 n1 i2 i3 b4) := by kernel_rfl
theorem c31 (n0 n1 : Nat) (i2 : Int) (i3 : Int) (b4 : Bool) {w : World} {R : Ending → World → Prop} (h : (t31 n0 n1 i2 i3 b4).sem Try.prog R ρ0 w) : Calls Try.prog 31 #[.pointer (some ⟨n0, n1, none⟩), .int .i64 i2, .int .i64 i3, .bool b4] w R :=
  calls_of mixed Try.func31 rfl rfl (e31 n0 n1 i2 i3 b4) h
def t32 (n0 n1 : Nat) : T :=
  T.drew
  (T.ldB n0 (n1 + 4) fun b2 =>
    T.ite b2
      (T.ldI IntKind.i64 n0 n1 fun i3 =>
        T.call 36 [Value.pointer (some (Addr.mk n0 n1 none))] fun v4 =>
          T.asI IntKind.i64 v4 fun i5 =>
            T.chk [(Addr.mk n0 n1 none, Value.int IntKind.i64 i3), (Addr.mk n0 (n1 + 4) none, Value.bool b2)]
              (T.ret (Value.bool (decide (IntKind.wrap IntKind.i64 (2 * i5) > i3)))))
      (T.chk [(Addr.mk n0 (n1 + 4) none, Value.bool b2)] (T.ret (Value.bool false))))
theorem e32 (n0 n1 : Nat) : treeOf Try.prog Try.f32 (codeOf Try.f32) (.s .n (.s (.p [0, 1, 2, 3, 4, 5, 8, 9, 10, 11, 12, 6, 7, 13, 14, 15]) .n)) [.p n0 n1] = (t32 n0 n1) := by kernel_rfl
theorem c32 (n0 n1 : Nat) {w : World} {R : Ending → World → Prop} (h : (t32 n0 n1).sem Try.prog R ρ0 w) : Calls Try.prog 32 #[.pointer (some ⟨n0, n1, none⟩)] w R :=
  calls_of mixed Try.func32 rfl rfl (e32 n0 n1) h
def t33 (n0 n1 : Nat) : T :=
  T.loop 0 [Value.slice none 0 0, Value.int IntKind.i64 0] fun l2 j3 =>
  T.asS (List.headD l2 (Value.tuple (Array.mk []))) fun o4 n5 n6 =>
    T.asI IntKind.i64 (List.headD (List.tail l2) (Value.tuple (Array.mk []))) fun i7 =>
      T.ldS n0 (n1 + 5) fun o8 n9 n10 =>
        T.ite (decide (i7 < (↑n9 : Int)))
          (T.ldS n0 (n1 + 5) fun o11 n12 n13 =>
            T.req (0 ≤ i7 ∧ i7 < (↑n12 : Int))
              (T.sm o11 fun n14 n15 =>
                T.ldB n14 (n15 + Int.toNat i7 * 1) fun b16 =>
                  T.ite b16
                    (T.new (Obj.cells (Array.mk [Value.int IntKind.i64 i7]) 3) fun n17 =>
                      T.run (biV Builtin.append (Array.mk [71, 71]) 71 (Array.mk [Value.slice o4 n5 n6, Value.slice (some (Addr.mk n17 0 none)) 1 1]))
                        fun v18 =>
                        T.asS v18 fun o19 n20 n21 =>
                          T.next 0 [Value.slice o19 n20 n21, Value.int IntKind.i64 (IntKind.wrap IntKind.i64 (i7 + 1))]
                            ([Value.pointer (some (Addr.mk n0 n1 none))] = [Value.pointer (some (Addr.mk n0 n1 none))] ∧ ([] : List Deferred) = []))
                    (T.next 0 [Value.slice o4 n5 n6, Value.int IntKind.i64 (IntKind.wrap IntKind.i64 (i7 + 1))]
                      ([Value.pointer (some (Addr.mk n0 n1 none))] = [Value.pointer (some (Addr.mk n0 n1 none))] ∧ ([] : List Deferred) = []))))
          (T.ret (Value.slice o4 n5 n6))
theorem e33 (n0 n1 : Nat) : treeOf Try.prog Try.f33 (codeOf Try.f33) (.s .n (.s .n (.s (.s .n (.u (.l [(3, .slice), (4, .int .i64)] [0] .n))) .n))) [.p n0 n1] = (t33 n0 n1) := by kernel_rfl
theorem c33 (n0 n1 : Nat) {w : World} {R : Ending → World → Prop} (h : (t33 n0 n1).sem Try.prog R ρ0 w) : Calls Try.prog 33 #[.pointer (some ⟨n0, n1, none⟩)] w R :=
  calls_of mixed Try.func33 rfl rfl (e33 n0 n1) h
def t35 (n0 n1 : Nat) (i2 : Int) : T :=
  T.ite (decide (i2 ≥ 0))
  (T.ldI IntKind.i64 n0 n1 fun i3 =>
    T.ite (decide (i2 < i3)) (T.ldI IntKind.i64 n0 (n1 + 1) fun i4 => T.ret (Value.bool (i2 != i4))) (T.ret (Value.bool false)))
  (T.ret (Value.bool false))
theorem e35 (n0 n1 : Nat) (i2 : Int) : treeOf Try.prog Try.f35 (codeOf Try.f35) .n [.p n0 n1, .v (.int .i64 i2)] = (t35 n0 n1 i2) := by kernel_rfl
theorem c35 (n0 n1 : Nat) (i2 : Int) {w : World} {R : Ending → World → Prop} (h : (t35 n0 n1 i2).sem Try.prog R ρ0 w) : Calls Try.prog 35 #[.pointer (some ⟨n0, n1, none⟩), .int .i64 i2] w R :=
  calls_of mixed Try.func35 rfl rfl (e35 n0 n1 i2) h
def t36 (n0 n1 : Nat) : T :=
  T.loop 0 [Value.int IntKind.i64 0, Value.int IntKind.i64 0] fun l2 j3 =>
  T.asI IntKind.i64 (List.headD l2 (Value.tuple (Array.mk []))) fun i4 =>
    T.asI IntKind.i64 (List.headD (List.tail l2) (Value.tuple (Array.mk []))) fun i5 =>
      T.ldS n0 (n1 + 5) fun o6 n7 n8 =>
        T.ite (decide (i5 < (↑n7 : Int)))
          (T.ldS n0 (n1 + 5) fun o9 n10 n11 =>
            T.req (0 ≤ i5 ∧ i5 < (↑n10 : Int))
              (T.sm o9 fun n12 n13 =>
                T.ldB n12 (n13 + Int.toNat i5 * 1) fun b14 =>
                  T.ite b14
                    (T.next 0 [Value.int IntKind.i64 (IntKind.wrap IntKind.i64 (i4 + 1)), Value.int IntKind.i64 (IntKind.wrap IntKind.i64 (i5 + 1))]
                      ([Value.pointer (some (Addr.mk n0 n1 none))] = [Value.pointer (some (Addr.mk n0 n1 none))] ∧ ([] : List Deferred) = []))
                    (T.next 0 [Value.int IntKind.i64 i4, Value.int IntKind.i64 (IntKind.wrap IntKind.i64 (i5 + 1))]
                      ([Value.pointer (some (Addr.mk n0 n1 none))] = [Value.pointer (some (Addr.mk n0 n1 none))] ∧ ([] : List Deferred) = []))))
          (T.ret (Value.int IntKind.i64 i4))
theorem e36 (n0 n1 : Nat) : treeOf Try.prog Try.f36 (codeOf Try.f36) (.s .n (.s .n (.s (.s .n (.u (.l [(3, .int .i64), (4, .int .i64)] [0] .n))) .n))) [.p n0 n1] = (t36 n0 n1) := by kernel_rfl
theorem c36 (n0 n1 : Nat) {w : World} {R : Ending → World → Prop} (h : (t36 n0 n1).sem Try.prog R ρ0 w) : Calls Try.prog 36 #[.pointer (some ⟨n0, n1, none⟩)] w R :=
  calls_of mixed Try.func36 rfl rfl (e36 n0 n1) h
def t21 (n0 n1 : Nat) (o2 : Option Addr) (n3 n4 : Nat) (i5 : Int) : T :=
  T.new (Obj.cells (Array.mk [Value.slice o2 n3 n4]) 71) fun n6 =>
  T.new (Obj.cells (Array.mk [Value.int IntKind.i64 i5]) 3) fun n7 =>
    T.new (Obj.cells (Array.mk [Value.bool false]) 4) fun n8 =>
      T.new (Obj.cells (Array.mk [Value.int IntKind.i64 0]) 3) fun n9 =>
        T.st n9 0 (Value.int IntKind.i64 0)
          (T.rf none 0 34 [Value.pointer (some (Addr.mk n0 n1 none))]
            (fun n10 l11 =>
              T.req (List.length l11 = 1)
                (T.asI IntKind.i64 (List.headD l11 (Value.tuple (Array.mk []))) fun i12 =>
                  T.beg n10
                    (T.ldI IntKind.i64 n9 0 fun i13 =>
                      T.ldS n6 0 fun o14 n15 n16 =>
                        T.ite (decide (i13 ≥ (↑n15 : Int)))
                          (T.st n8 0 (Value.bool false) (T.run (Instr.endRound n10 (some Code.ret)) fun v17 => T.next 0 [v17] True))
                          (T.ldS n6 0 fun o18 n19 n20 =>
                            T.ldI IntKind.i64 n9 0 fun i21 =>
                              T.req (0 ≤ i21 ∧ i21 < (↑n19 : Int))
                                (T.sm o18 fun n22 n23 =>
                                  T.ldI IntKind.i64 n22 (n23 + Int.toNat i21 * 1) fun i24 =>
                                    T.ite (i12 != i24)
                                      (T.st n8 0 (Value.bool false) (T.run (Instr.endRound n10 (some Code.ret)) fun v25 => T.next 0 [v25] True))
                                      (T.ldI IntKind.i64 n9 0 fun i26 =>
                                        T.st n9 0 (Value.int IntKind.i64 (IntKind.wrap IntKind.i64 (i26 + 1)))
                                          (T.ldI IntKind.i64 n9 0 fun i27 =>
                                            T.ldI IntKind.i64 n7 0 fun i28 =>
                                              T.ite (i27 == i28)
                                                (T.st n8 0 (Value.bool true) (T.run (Instr.endRound n10 (some Code.ret)) fun v29 => T.next 0 [v29] True))
                                                (T.run (Instr.endRound n10 none) fun v30 => T.next 0 [v30] True))))))))
            (fun n31 =>
              T.ldI IntKind.i64 n9 0 fun i32 =>
                T.ldS n6 0 fun o33 n34 n35 => T.st n8 0 (Value.bool (i32 == (↑n34 : Int))) (T.col n31 (T.ldB n8 0 fun b36 => T.ret (Value.bool b36))))
            (fun n37 => T.col n37 (T.ldB n8 0 fun b38 => T.ret (Value.bool b38))) [])
theorem e21 (n0 n1 : Nat) (o2 : Option Addr) (n3 n4 : Nat) (i5 : Int) : treeOf Try.prog Try.f21 (codeOf Try.f21) (.s .n (.s .n (.s (.s .n (.u (.f [.int .i64] .n .n))) .n))) [.v (.func (.func 34) #[] #[.pointer (some ⟨n0, n1, none⟩)]), .v (.slice o2 n3 n4), .v (.int .i64 i5)] = (t21 n0 n1 o2 n3 n4 i5) := by kernel_rfl
theorem c21 (n0 n1 : Nat) (o2 : Option Addr) (n3 n4 : Nat) (i5 : Int) {w : World} {R : Ending → World → Prop} (h : (t21 n0 n1 o2 n3 n4 i5).sem Try.prog R ρ0 w) : Calls Try.prog 21 #[.func (.func 34) #[] #[.pointer (some ⟨n0, n1, none⟩)], .slice o2 n3 n4, .int .i64 i5] w R :=
  calls_of mixed Try.func21 rfl rfl (e21 n0 n1 o2 n3 n4 i5) h
def t34 (n0 : Nat) (n1 n2 : Nat) : T :=
  T.ldP n1 n2 fun o3 =>
  T.call 25 [Value.pointer o3] fun v4 =>
    T.asB v4 fun b5 =>
      T.ite b5 (T.ret (Value.tuple (Array.mk [])))
        (T.ldP n1 n2 fun o6 =>
          T.sm o6 fun n7 n8 =>
            T.ldI IntKind.i64 n7 n8 fun i9 =>
              T.loop 0 [Value.int IntKind.i64 0] fun l10 j11 =>
                T.asI IntKind.i64 (List.headD l10 (Value.tuple (Array.mk []))) fun i12 =>
                  T.ite (decide (i12 < i9))
                    (T.ldP n1 n2 fun o13 =>
                      T.sm o13 fun n14 n15 =>
                        T.ldI IntKind.u8 n14 (n15 + 4) fun i16 =>
                          T.req (0 ≤ i12)
                            (T.ite (bitsI BinOp.and IntKind.u8 (shrI IntKind.u8 i16 i12) 1 == 1)
                              (T.yl n0 [Value.int IntKind.i64 i12] fun v17 =>
                                T.asB v17 fun b18 =>
                                  T.ite (!b18) (T.ret (Value.tuple (Array.mk [])))
                                    (T.next 0 [Value.int IntKind.i64 (IntKind.wrap IntKind.i64 (i12 + 1))]
                                      ([Value.func (Fn.yield n0) (Array.mk []) (Array.mk []), Value.pointer (some (Addr.mk n1 n2 none)),
                                            Value.int IntKind.i64 i9] =
                                          [Value.func (Fn.yield n0) (Array.mk []) (Array.mk []), Value.pointer (some (Addr.mk n1 n2 none)),
                                            Value.int IntKind.i64 i9] ∧ ([] : List Deferred) = [])))
                              (T.next 0 [Value.int IntKind.i64 (IntKind.wrap IntKind.i64 (i12 + 1))]
                                ([Value.func (Fn.yield n0) (Array.mk []) (Array.mk []), Value.pointer (some (Addr.mk n1 n2 none)), Value.int IntKind.i64 i9] =
                                    [Value.func (Fn.yield n0) (Array.mk []) (Array.mk []), Value.pointer (some (Addr.mk n1 n2 none)),
                                      Value.int IntKind.i64 i9] ∧ ([] : List Deferred) = []))))
                    (T.ret (Value.tuple (Array.mk []))))
theorem e34 (n0 : Nat) (n1 n2 : Nat) : treeOf Try.prog Try.f34 (codeOf Try.f34) (.s .n (.s .n (.u (.l [(11, .int .i64)] [0, 1, 10] .n)))) [.v (.func (.yield n0) #[] #[]), .p n1 n2] = (t34 n0 n1 n2) := by kernel_rfl
theorem c34 (n0 : Nat) (n1 n2 : Nat) {w : World} {R : Ending → World → Prop} (h : (t34 n0 n1 n2).sem Try.prog R ρ0 w) : Calls Try.prog 34 #[.func (.yield n0) #[] #[], .pointer (some ⟨n1, n2, none⟩)] w R :=
  calls_of mixed Try.func34 rfl rfl (e34 n0 n1 n2) h
def t17 (n0 n1 : Nat) (n2 n3 : Nat) : T :=
  T.call 19 [Value.pointer (some (Addr.mk n0 n1 none))] fun v4 =>
  T.asU v4 fun l5 =>
    T.req (List.length l5 = 2)
      (T.asI IntKind.i64 (List.headD l5 (Value.tuple (Array.mk []))) fun i6 =>
        T.asB (List.headD (List.tail l5) (Value.tuple (Array.mk []))) fun b7 =>
          T.drew
            (T.ldI IntKind.i64 n2 (n3 + 2) fun i8 =>
              T.call 7 [Value.pointer (some (Addr.mk n0 n1 none))] fun v9 =>
                T.asI IntKind.i64 v9 fun i10 =>
                  T.chk [(Addr.mk n2 (n3 + 2) none, Value.int IntKind.i64 i8)]
                    (T.ite (i10 == i8)
                      (T.ldI IntKind.i64 n2 (n3 + 3) fun i11 =>
                        T.ite (b7 == decide (i11 ≥ 0))
                          (T.ite (!b7)
                            (T.ldB n2 (n3 + 4) fun b12 =>
                              T.call 9 [Value.pointer (some (Addr.mk n0 n1 none))] fun v13 =>
                                T.asB v13 fun b14 =>
                                  T.chk
                                    [(Addr.mk n2 (n3 + 4) none, Value.bool b12), (Addr.mk n2 (n3 + 3) none, Value.int IntKind.i64 i11),
                                      (Addr.mk n2 (n3 + 2) none, Value.int IntKind.i64 i8)]
                                    (T.ite (b14 == b12)
                                      (T.call 13 [Value.pointer (some (Addr.mk n0 n1 none))] fun v15 =>
                                        T.asB v15 fun b16 =>
                                          T.chk
                                            [(Addr.mk n2 (n3 + 4) none, Value.bool b12), (Addr.mk n2 (n3 + 3) none, Value.int IntKind.i64 i11),
                                              (Addr.mk n2 (n3 + 2) none, Value.int IntKind.i64 i8)]
                                            (T.call 32 [Value.pointer (some (Addr.mk n2 n3 none))] fun v17 =>
                                              T.asB v17 fun b18 =>
                                                T.chk
                                                  [(Addr.mk n2 (n3 + 4) none, Value.bool b12), (Addr.mk n2 (n3 + 3) none, Value.int IntKind.i64 i11),
                                                    (Addr.mk n2 (n3 + 2) none, Value.int IntKind.i64 i8)]
                                                  (T.ite (b16 == b18)
                                                    (T.call 22 [Value.pointer (some (Addr.mk n0 n1 none))] fun v19 =>
                                                      T.chk
                                                        [(Addr.mk n2 (n3 + 4) none, Value.bool b12), (Addr.mk n2 (n3 + 3) none, Value.int IntKind.i64 i11),
                                                          (Addr.mk n2 (n3 + 2) none, Value.int IntKind.i64 i8)]
                                                        (T.call 33 [Value.pointer (some (Addr.mk n2 n3 none))] fun v20 =>
                                                          T.asS v20 fun o21 n22 n23 =>
                                                            T.chk
                                                              [(Addr.mk n2 (n3 + 4) none, Value.bool b12),
                                                                (Addr.mk n2 (n3 + 3) none, Value.int IntKind.i64 i11),
                                                                (Addr.mk n2 (n3 + 2) none, Value.int IntKind.i64 i8)]
                                                              (T.call 21 [v19, Value.slice o21 n22 n23, Value.int IntKind.i64 0] fun v24 =>
                                                                T.asB v24 fun b25 =>
                                                                  T.chk
                                                                    [(Addr.mk n2 (n3 + 4) none, Value.bool b12),
                                                                      (Addr.mk n2 (n3 + 3) none, Value.int IntKind.i64 i11),
                                                                      (Addr.mk n2 (n3 + 2) none, Value.int IntKind.i64 i8)]
                                                                    (T.ite b25
                                                                      (T.call 22 [Value.pointer (some (Addr.mk n0 n1 none))] fun v26 =>
                                                                        T.chk
                                                                          [(Addr.mk n2 (n3 + 4) none, Value.bool b12),
                                                                            (Addr.mk n2 (n3 + 3) none, Value.int IntKind.i64 i11),
                                                                            (Addr.mk n2 (n3 + 2) none, Value.int IntKind.i64 i8)]
                                                                          (T.call 33 [Value.pointer (some (Addr.mk n2 n3 none))] fun v27 =>
                                                                            T.asS v27 fun o28 n29 n30 =>
                                                                              T.chk
                                                                                [(Addr.mk n2 (n3 + 4) none, Value.bool b12),
                                                                                  (Addr.mk n2 (n3 + 3) none, Value.int IntKind.i64 i11),
                                                                                  (Addr.mk n2 (n3 + 2) none, Value.int IntKind.i64 i8)]
                                                                                (T.call 21 [v26, Value.slice o28 n29 n30, Value.int IntKind.i64 1] fun v31 =>
                                                                                  T.asB v31 fun b32 =>
                                                                                    T.chk
                                                                                      [(Addr.mk n2 (n3 + 4) none, Value.bool b12),
                                                                                        (Addr.mk n2 (n3 + 3) none, Value.int IntKind.i64 i11),
                                                                                        (Addr.mk n2 (n3 + 2) none, Value.int IntKind.i64 i8)]
                                                                                      (T.ret (Value.bool b32)))))
                                                                      (T.chk
                                                                        [(Addr.mk n2 (n3 + 4) none, Value.bool b12),
                                                                          (Addr.mk n2 (n3 + 3) none, Value.int IntKind.i64 i11),
                                                                          (Addr.mk n2 (n3 + 2) none, Value.int IntKind.i64 i8)]
                                                                        (T.chk
                                                                          [(Addr.mk n2 (n3 + 4) none, Value.bool b12),
                                                                            (Addr.mk n2 (n3 + 3) none, Value.int IntKind.i64 i11),
                                                                            (Addr.mk n2 (n3 + 2) none, Value.int IntKind.i64 i8)]
                                                                          (T.chk
                                                                            [(Addr.mk n2 (n3 + 4) none, Value.bool b12),
                                                                              (Addr.mk n2 (n3 + 3) none, Value.int IntKind.i64 i11),
                                                                              (Addr.mk n2 (n3 + 2) none, Value.int IntKind.i64 i8)]
                                                                            (T.ret (Value.bool false)))))))))
                                                    (T.chk
                                                      [(Addr.mk n2 (n3 + 4) none, Value.bool b12), (Addr.mk n2 (n3 + 3) none, Value.int IntKind.i64 i11),
                                                        (Addr.mk n2 (n3 + 2) none, Value.int IntKind.i64 i8)]
                                                      (T.chk
                                                        [(Addr.mk n2 (n3 + 4) none, Value.bool b12), (Addr.mk n2 (n3 + 3) none, Value.int IntKind.i64 i11),
                                                          (Addr.mk n2 (n3 + 2) none, Value.int IntKind.i64 i8)]
                                                        (T.chk
                                                          [(Addr.mk n2 (n3 + 4) none, Value.bool b12), (Addr.mk n2 (n3 + 3) none, Value.int IntKind.i64 i11),
                                                            (Addr.mk n2 (n3 + 2) none, Value.int IntKind.i64 i8)]
                                                          (T.chk
                                                            [(Addr.mk n2 (n3 + 4) none, Value.bool b12), (Addr.mk n2 (n3 + 3) none, Value.int IntKind.i64 i11),
                                                              (Addr.mk n2 (n3 + 2) none, Value.int IntKind.i64 i8)]
                                                            (T.chk
                                                              [(Addr.mk n2 (n3 + 4) none, Value.bool b12),
                                                                (Addr.mk n2 (n3 + 3) none, Value.int IntKind.i64 i11),
                                                                (Addr.mk n2 (n3 + 2) none, Value.int IntKind.i64 i8)]
                                                              (T.chk
                                                                [(Addr.mk n2 (n3 + 4) none, Value.bool b12),
                                                                  (Addr.mk n2 (n3 + 3) none, Value.int IntKind.i64 i11),
                                                                  (Addr.mk n2 (n3 + 2) none, Value.int IntKind.i64 i8)]
                                                                (T.ret (Value.bool false)))))))))))
                                      (T.chk
                                        [(Addr.mk n2 (n3 + 4) none, Value.bool b12), (Addr.mk n2 (n3 + 3) none, Value.int IntKind.i64 i11),
                                          (Addr.mk n2 (n3 + 2) none, Value.int IntKind.i64 i8)]
                                        (T.chk
                                          [(Addr.mk n2 (n3 + 4) none, Value.bool b12), (Addr.mk n2 (n3 + 3) none, Value.int IntKind.i64 i11),
                                            (Addr.mk n2 (n3 + 2) none, Value.int IntKind.i64 i8)]
                                          (T.chk
                                            [(Addr.mk n2 (n3 + 4) none, Value.bool b12), (Addr.mk n2 (n3 + 3) none, Value.int IntKind.i64 i11),
                                              (Addr.mk n2 (n3 + 2) none, Value.int IntKind.i64 i8)]
                                            (T.chk
                                              [(Addr.mk n2 (n3 + 4) none, Value.bool b12), (Addr.mk n2 (n3 + 3) none, Value.int IntKind.i64 i11),
                                                (Addr.mk n2 (n3 + 2) none, Value.int IntKind.i64 i8)]
                                              (T.chk
                                                [(Addr.mk n2 (n3 + 4) none, Value.bool b12), (Addr.mk n2 (n3 + 3) none, Value.int IntKind.i64 i11),
                                                  (Addr.mk n2 (n3 + 2) none, Value.int IntKind.i64 i8)]
                                                (T.chk
                                                  [(Addr.mk n2 (n3 + 4) none, Value.bool b12), (Addr.mk n2 (n3 + 3) none, Value.int IntKind.i64 i11),
                                                    (Addr.mk n2 (n3 + 2) none, Value.int IntKind.i64 i8)]
                                                  (T.chk
                                                    [(Addr.mk n2 (n3 + 4) none, Value.bool b12), (Addr.mk n2 (n3 + 3) none, Value.int IntKind.i64 i11),
                                                      (Addr.mk n2 (n3 + 2) none, Value.int IntKind.i64 i8)]
                                                    (T.chk
                                                      [(Addr.mk n2 (n3 + 4) none, Value.bool b12), (Addr.mk n2 (n3 + 3) none, Value.int IntKind.i64 i11),
                                                        (Addr.mk n2 (n3 + 2) none, Value.int IntKind.i64 i8)]
                                                      (T.ret (Value.bool false))))))))))))
                            (T.ldI IntKind.i64 n2 (n3 + 3) fun i33 =>
                              T.ite (i6 == i33)
                                (T.ldB n2 (n3 + 4) fun b34 =>
                                  T.call 9 [Value.pointer (some (Addr.mk n0 n1 none))] fun v35 =>
                                    T.asB v35 fun b36 =>
                                      T.chk
                                        [(Addr.mk n2 (n3 + 4) none, Value.bool b34), (Addr.mk n2 (n3 + 3) none, Value.int IntKind.i64 i33),
                                          (Addr.mk n2 (n3 + 3) none, Value.int IntKind.i64 i11), (Addr.mk n2 (n3 + 2) none, Value.int IntKind.i64 i8)]
                                        (T.ite (b36 == b34)
                                          (T.call 13 [Value.pointer (some (Addr.mk n0 n1 none))] fun v37 =>
                                            T.asB v37 fun b38 =>
                                              T.chk
                                                [(Addr.mk n2 (n3 + 4) none, Value.bool b34), (Addr.mk n2 (n3 + 3) none, Value.int IntKind.i64 i33),
                                                  (Addr.mk n2 (n3 + 3) none, Value.int IntKind.i64 i11), (Addr.mk n2 (n3 + 2) none, Value.int IntKind.i64 i8)]
                                                (T.call 32 [Value.pointer (some (Addr.mk n2 n3 none))] fun v39 =>
                                                  T.asB v39 fun b40 =>
                                                    T.chk
                                                      [(Addr.mk n2 (n3 + 4) none, Value.bool b34), (Addr.mk n2 (n3 + 3) none, Value.int IntKind.i64 i33),
                                                        (Addr.mk n2 (n3 + 3) none, Value.int IntKind.i64 i11),
                                                        (Addr.mk n2 (n3 + 2) none, Value.int IntKind.i64 i8)]
                                                      (T.ite (b38 == b40)
                                                        (T.call 22 [Value.pointer (some (Addr.mk n0 n1 none))] fun v41 =>
                                                          T.chk
                                                            [(Addr.mk n2 (n3 + 4) none, Value.bool b34), (Addr.mk n2 (n3 + 3) none, Value.int IntKind.i64 i33),
                                                              (Addr.mk n2 (n3 + 3) none, Value.int IntKind.i64 i11),
                                                              (Addr.mk n2 (n3 + 2) none, Value.int IntKind.i64 i8)]
                                                            (T.call 33 [Value.pointer (some (Addr.mk n2 n3 none))] fun v42 =>
                                                              T.asS v42 fun o43 n44 n45 =>
                                                                T.chk
                                                                  [(Addr.mk n2 (n3 + 4) none, Value.bool b34),
                                                                    (Addr.mk n2 (n3 + 3) none, Value.int IntKind.i64 i33),
                                                                    (Addr.mk n2 (n3 + 3) none, Value.int IntKind.i64 i11),
                                                                    (Addr.mk n2 (n3 + 2) none, Value.int IntKind.i64 i8)]
                                                                  (T.call 21 [v41, Value.slice o43 n44 n45, Value.int IntKind.i64 0] fun v46 =>
                                                                    T.asB v46 fun b47 =>
                                                                      T.chk
                                                                        [(Addr.mk n2 (n3 + 4) none, Value.bool b34),
                                                                          (Addr.mk n2 (n3 + 3) none, Value.int IntKind.i64 i33),
                                                                          (Addr.mk n2 (n3 + 3) none, Value.int IntKind.i64 i11),
                                                                          (Addr.mk n2 (n3 + 2) none, Value.int IntKind.i64 i8)]
                                                                        (T.ite b47
                                                                          (T.call 22 [Value.pointer (some (Addr.mk n0 n1 none))] fun v48 =>
                                                                            T.chk
                                                                              [(Addr.mk n2 (n3 + 4) none, Value.bool b34),
                                                                                (Addr.mk n2 (n3 + 3) none, Value.int IntKind.i64 i33),
                                                                                (Addr.mk n2 (n3 + 3) none, Value.int IntKind.i64 i11),
                                                                                (Addr.mk n2 (n3 + 2) none, Value.int IntKind.i64 i8)]
                                                                              (T.call 33 [Value.pointer (some (Addr.mk n2 n3 none))] fun v49 =>
                                                                                T.asS v49 fun o50 n51 n52 =>
                                                                                  T.chk
                                                                                    [(Addr.mk n2 (n3 + 4) none, Value.bool b34),
                                                                                      (Addr.mk n2 (n3 + 3) none, Value.int IntKind.i64 i33),
                                                                                      (Addr.mk n2 (n3 + 3) none, Value.int IntKind.i64 i11),
                                                                                      (Addr.mk n2 (n3 + 2) none, Value.int IntKind.i64 i8)]
                                                                                    (T.call 21 [v48, Value.slice o50 n51 n52, Value.int IntKind.i64 1]
                                                                                      fun v53 =>
                                                                                      T.asB v53 fun b54 =>
                                                                                        T.chk
                                                                                          [(Addr.mk n2 (n3 + 4) none, Value.bool b34),
                                                                                            (Addr.mk n2 (n3 + 3) none, Value.int IntKind.i64 i33),
                                                                                            (Addr.mk n2 (n3 + 3) none, Value.int IntKind.i64 i11),
                                                                                            (Addr.mk n2 (n3 + 2) none, Value.int IntKind.i64 i8)]
                                                                                          (T.ret (Value.bool b54)))))
                                                                          (T.chk
                                                                            [(Addr.mk n2 (n3 + 4) none, Value.bool b34),
                                                                              (Addr.mk n2 (n3 + 3) none, Value.int IntKind.i64 i33),
                                                                              (Addr.mk n2 (n3 + 3) none, Value.int IntKind.i64 i11),
                                                                              (Addr.mk n2 (n3 + 2) none, Value.int IntKind.i64 i8)]
                                                                            (T.chk
                                                                              [(Addr.mk n2 (n3 + 4) none, Value.bool b34),
                                                                                (Addr.mk n2 (n3 + 3) none, Value.int IntKind.i64 i33),
                                                                                (Addr.mk n2 (n3 + 3) none, Value.int IntKind.i64 i11),
                                                                                (Addr.mk n2 (n3 + 2) none, Value.int IntKind.i64 i8)]
                                                                              (T.chk
                                                                                [(Addr.mk n2 (n3 + 4) none, Value.bool b34),
                                                                                  (Addr.mk n2 (n3 + 3) none, Value.int IntKind.i64 i33),
                                                                                  (Addr.mk n2 (n3 + 3) none, Value.int IntKind.i64 i11),
                                                                                  (Addr.mk n2 (n3 + 2) none, Value.int IntKind.i64 i8)]
                                                                                (T.ret (Value.bool false)))))))))
                                                        (T.chk
                                                          [(Addr.mk n2 (n3 + 4) none, Value.bool b34), (Addr.mk n2 (n3 + 3) none, Value.int IntKind.i64 i33),
                                                            (Addr.mk n2 (n3 + 3) none, Value.int IntKind.i64 i11),
                                                            (Addr.mk n2 (n3 + 2) none, Value.int IntKind.i64 i8)]
                                                          (T.chk
                                                            [(Addr.mk n2 (n3 + 4) none, Value.bool b34), (Addr.mk n2 (n3 + 3) none, Value.int IntKind.i64 i33),
                                                              (Addr.mk n2 (n3 + 3) none, Value.int IntKind.i64 i11),
                                                              (Addr.mk n2 (n3 + 2) none, Value.int IntKind.i64 i8)]
                                                            (T.chk
                                                              [(Addr.mk n2 (n3 + 4) none, Value.bool b34),
                                                                (Addr.mk n2 (n3 + 3) none, Value.int IntKind.i64 i33),
                                                                (Addr.mk n2 (n3 + 3) none, Value.int IntKind.i64 i11),
                                                                (Addr.mk n2 (n3 + 2) none, Value.int IntKind.i64 i8)]
                                                              (T.chk
                                                                [(Addr.mk n2 (n3 + 4) none, Value.bool b34),
                                                                  (Addr.mk n2 (n3 + 3) none, Value.int IntKind.i64 i33),
                                                                  (Addr.mk n2 (n3 + 3) none, Value.int IntKind.i64 i11),
                                                                  (Addr.mk n2 (n3 + 2) none, Value.int IntKind.i64 i8)]
                                                                (T.chk
                                                                  [(Addr.mk n2 (n3 + 4) none, Value.bool b34),
                                                                    (Addr.mk n2 (n3 + 3) none, Value.int IntKind.i64 i33),
                                                                    (Addr.mk n2 (n3 + 3) none, Value.int IntKind.i64 i11),
                                                                    (Addr.mk n2 (n3 + 2) none, Value.int IntKind.i64 i8)]
                                                                  (T.chk
                                                                    [(Addr.mk n2 (n3 + 4) none, Value.bool b34),
                                                                      (Addr.mk n2 (n3 + 3) none, Value.int IntKind.i64 i33),
                                                                      (Addr.mk n2 (n3 + 3) none, Value.int IntKind.i64 i11),
                                                                      (Addr.mk n2 (n3 + 2) none, Value.int IntKind.i64 i8)]
                                                                    (T.ret (Value.bool false)))))))))))
                                          (T.chk
                                            [(Addr.mk n2 (n3 + 4) none, Value.bool b34), (Addr.mk n2 (n3 + 3) none, Value.int IntKind.i64 i33),
                                              (Addr.mk n2 (n3 + 3) none, Value.int IntKind.i64 i11), (Addr.mk n2 (n3 + 2) none, Value.int IntKind.i64 i8)]
                                            (T.chk
                                              [(Addr.mk n2 (n3 + 4) none, Value.bool b34), (Addr.mk n2 (n3 + 3) none, Value.int IntKind.i64 i33),
                                                (Addr.mk n2 (n3 + 3) none, Value.int IntKind.i64 i11), (Addr.mk n2 (n3 + 2) none, Value.int IntKind.i64 i8)]
                                              (T.chk
                                                [(Addr.mk n2 (n3 + 4) none, Value.bool b34), (Addr.mk n2 (n3 + 3) none, Value.int IntKind.i64 i33),
                                                  (Addr.mk n2 (n3 + 3) none, Value.int IntKind.i64 i11), (Addr.mk n2 (n3 + 2) none, Value.int IntKind.i64 i8)]
                                                (T.chk
                                                  [(Addr.mk n2 (n3 + 4) none, Value.bool b34), (Addr.mk n2 (n3 + 3) none, Value.int IntKind.i64 i33),
                                                    (Addr.mk n2 (n3 + 3) none, Value.int IntKind.i64 i11), (Addr.mk n2 (n3 + 2) none, Value.int IntKind.i64 i8)]
                                                  (T.chk
                                                    [(Addr.mk n2 (n3 + 4) none, Value.bool b34), (Addr.mk n2 (n3 + 3) none, Value.int IntKind.i64 i33),
                                                      (Addr.mk n2 (n3 + 3) none, Value.int IntKind.i64 i11),
                                                      (Addr.mk n2 (n3 + 2) none, Value.int IntKind.i64 i8)]
                                                    (T.chk
                                                      [(Addr.mk n2 (n3 + 4) none, Value.bool b34), (Addr.mk n2 (n3 + 3) none, Value.int IntKind.i64 i33),
                                                        (Addr.mk n2 (n3 + 3) none, Value.int IntKind.i64 i11),
                                                        (Addr.mk n2 (n3 + 2) none, Value.int IntKind.i64 i8)]
                                                      (T.chk
                                                        [(Addr.mk n2 (n3 + 4) none, Value.bool b34), (Addr.mk n2 (n3 + 3) none, Value.int IntKind.i64 i33),
                                                          (Addr.mk n2 (n3 + 3) none, Value.int IntKind.i64 i11),
                                                          (Addr.mk n2 (n3 + 2) none, Value.int IntKind.i64 i8)]
                                                        (T.chk
                                                          [(Addr.mk n2 (n3 + 4) none, Value.bool b34), (Addr.mk n2 (n3 + 3) none, Value.int IntKind.i64 i33),
                                                            (Addr.mk n2 (n3 + 3) none, Value.int IntKind.i64 i11),
                                                            (Addr.mk n2 (n3 + 2) none, Value.int IntKind.i64 i8)]
                                                          (T.ret (Value.bool false))))))))))))
                                (T.chk
                                  [(Addr.mk n2 (n3 + 3) none, Value.int IntKind.i64 i33), (Addr.mk n2 (n3 + 3) none, Value.int IntKind.i64 i11),
                                    (Addr.mk n2 (n3 + 2) none, Value.int IntKind.i64 i8)]
                                  (T.chk
                                    [(Addr.mk n2 (n3 + 3) none, Value.int IntKind.i64 i33), (Addr.mk n2 (n3 + 3) none, Value.int IntKind.i64 i11),
                                      (Addr.mk n2 (n3 + 2) none, Value.int IntKind.i64 i8)]
                                    (T.chk
                                      [(Addr.mk n2 (n3 + 3) none, Value.int IntKind.i64 i33), (Addr.mk n2 (n3 + 3) none, Value.int IntKind.i64 i11),
                                        (Addr.mk n2 (n3 + 2) none, Value.int IntKind.i64 i8)]
                                      (T.chk
                                        [(Addr.mk n2 (n3 + 3) none, Value.int IntKind.i64 i33), (Addr.mk n2 (n3 + 3) none, Value.int IntKind.i64 i11),
                                          (Addr.mk n2 (n3 + 2) none, Value.int IntKind.i64 i8)]
                                        (T.chk
                                          [(Addr.mk n2 (n3 + 3) none, Value.int IntKind.i64 i33), (Addr.mk n2 (n3 + 3) none, Value.int IntKind.i64 i11),
                                            (Addr.mk n2 (n3 + 2) none, Value.int IntKind.i64 i8)]
                                          (T.chk
                                            [(Addr.mk n2 (n3 + 3) none, Value.int IntKind.i64 i33), (Addr.mk n2 (n3 + 3) none, Value.int IntKind.i64 i11),
                                              (Addr.mk n2 (n3 + 2) none, Value.int IntKind.i64 i8)]
                                            (T.chk
                                              [(Addr.mk n2 (n3 + 3) none, Value.int IntKind.i64 i33), (Addr.mk n2 (n3 + 3) none, Value.int IntKind.i64 i11),
                                                (Addr.mk n2 (n3 + 2) none, Value.int IntKind.i64 i8)]
                                              (T.chk
                                                [(Addr.mk n2 (n3 + 3) none, Value.int IntKind.i64 i33), (Addr.mk n2 (n3 + 3) none, Value.int IntKind.i64 i11),
                                                  (Addr.mk n2 (n3 + 2) none, Value.int IntKind.i64 i8)]
                                                (T.chk
                                                  [(Addr.mk n2 (n3 + 3) none, Value.int IntKind.i64 i33), (Addr.mk n2 (n3 + 3) none, Value.int IntKind.i64 i11),
                                                    (Addr.mk n2 (n3 + 2) none, Value.int IntKind.i64 i8)]
                                                  (T.ret (Value.bool false)))))))))))))
                          (T.chk [(Addr.mk n2 (n3 + 3) none, Value.int IntKind.i64 i11), (Addr.mk n2 (n3 + 2) none, Value.int IntKind.i64 i8)]
                            (T.chk [(Addr.mk n2 (n3 + 3) none, Value.int IntKind.i64 i11), (Addr.mk n2 (n3 + 2) none, Value.int IntKind.i64 i8)]
                              (T.chk [(Addr.mk n2 (n3 + 3) none, Value.int IntKind.i64 i11), (Addr.mk n2 (n3 + 2) none, Value.int IntKind.i64 i8)]
                                (T.chk [(Addr.mk n2 (n3 + 3) none, Value.int IntKind.i64 i11), (Addr.mk n2 (n3 + 2) none, Value.int IntKind.i64 i8)]
                                  (T.chk [(Addr.mk n2 (n3 + 3) none, Value.int IntKind.i64 i11), (Addr.mk n2 (n3 + 2) none, Value.int IntKind.i64 i8)]
                                    (T.chk [(Addr.mk n2 (n3 + 3) none, Value.int IntKind.i64 i11), (Addr.mk n2 (n3 + 2) none, Value.int IntKind.i64 i8)]
                                      (T.chk [(Addr.mk n2 (n3 + 3) none, Value.int IntKind.i64 i11), (Addr.mk n2 (n3 + 2) none, Value.int IntKind.i64 i8)]
                                        (T.chk [(Addr.mk n2 (n3 + 3) none, Value.int IntKind.i64 i11), (Addr.mk n2 (n3 + 2) none, Value.int IntKind.i64 i8)]
                                          (T.chk [(Addr.mk n2 (n3 + 3) none, Value.int IntKind.i64 i11), (Addr.mk n2 (n3 + 2) none, Value.int IntKind.i64 i8)]
                                            (T.ret (Value.bool false))))))))))))
                      (T.chk [(Addr.mk n2 (n3 + 2) none, Value.int IntKind.i64 i8)]
                        (T.chk [(Addr.mk n2 (n3 + 2) none, Value.int IntKind.i64 i8)]
                          (T.chk [(Addr.mk n2 (n3 + 2) none, Value.int IntKind.i64 i8)]
                            (T.chk [(Addr.mk n2 (n3 + 2) none, Value.int IntKind.i64 i8)]
                              (T.chk [(Addr.mk n2 (n3 + 2) none, Value.int IntKind.i64 i8)]
                                (T.chk [(Addr.mk n2 (n3 + 2) none, Value.int IntKind.i64 i8)]
                                  (T.chk [(Addr.mk n2 (n3 + 2) none, Value.int IntKind.i64 i8)]
                                    (T.chk [(Addr.mk n2 (n3 + 2) none, Value.int IntKind.i64 i8)]
                                      (T.chk [(Addr.mk n2 (n3 + 2) none, Value.int IntKind.i64 i8)] (T.ret (Value.bool false))))))))))))))
theorem e17 (n0 n1 : Nat) (n2 n3 : Nat) : treeOf Try.prog Try.f17 (codeOf Try.f17) (.s .n (.s .n (.s (.p [0, 2, 3, 4, 5, 1, 6, 7, 8, 9, 10, 11, 12, 13, 14, 15, 16, 17, 18, 19, 20, 21, 22, 23, 24, 25, 26, 27, 28, 29, 31, 32, 33, 34, 30, 35, 36, 37, 38, 40, 39, 41, 42, 43, 44, 45, 47, 46, 48, 49, 50, 51, 52, 54, 53, 55, 56, 57, 58]) .n))) [.p n0 n1, .p n2 n3] = (t17 n0 n1 n2 n3) := by kernel_rfl
theorem c17 (n0 n1 : Nat) (n2 n3 : Nat) {w : World} {R : Ending → World → Prop} (h : (t17 n0 n1 n2 n3).sem Try.prog R ρ0 w) : Calls Try.prog 17 #[.pointer (some ⟨n0, n1, none⟩), .pointer (some ⟨n2, n3, none⟩)] w R :=
  calls_of mixed Try.func17 rfl rfl (e17 n0 n1 n2 n3) h
end Go.Proofs.Yteebkalajidehaa
