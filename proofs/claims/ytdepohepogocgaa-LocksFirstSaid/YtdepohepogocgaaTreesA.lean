/- The functions' trees, printed by a program (wip/tools/Emit.lean) and checked by the kernel against the model's own code. -/
import Derived.Test.YtdepohepogocgaaTreesS
import Derived.Test.YtdepohepogocgaaProg
namespace Go.Proofs.Ytdepohepogocgaa
open Go hiding Expr
open Go.Proofs.Ytdepohepogocgaa.Tr
set_option linter.unusedVariables false
set_option maxRecDepth 100000
def t8  : T :=
  T.new (Obj.map (Array.mk []) 0) fun n0 =>
  T.new (Obj.map (Array.mk []) 0) fun n1 =>
    T.new (Obj.cells (Array.mk [Value.map (some n0), Value.map (some n1), Value.slice none 0 0]) 71) fun n2 => T.ret (Value.pointer (some (Addr.mk n2 0 none)))
theorem e8  : treeOf Try.prog Try.f8 (codeOf Try.f8) .n [] = t8 := by kernel_rfl
theorem c8  {w : World} {R : Ending → World → Prop} (h : t8.sem Try.prog R ρ0 w) : Calls Try.prog 8 #[] w R :=
  calls_of mixed Try.func8 rfl rfl (e8 ) h
def t9  : T :=
  T.call 8 [] fun v0 =>
  T.asP v0 fun o1 =>
    T.new (Obj.cells (Array.mk [Value.int IntKind.i32 0, Value.int IntKind.i64 0]) 39) fun n2 =>
    T.st n2 0 (Value.int IntKind.i32 0)
    (T.st n2 1 (Value.int IntKind.i64 1)
    (T.blk 0
    (fun l3 j4 =>
    T.call 14 [Value.int IntKind.i64 1] fun v5 =>
    T.asA v5 fun l6 =>
    T.req (List.length l6 = 2)
    (T.asI IntKind.i64 (List.headD l6 (Value.tuple (Array.mk []))) fun i7 =>
    T.asI IntKind.i64 (List.headD (List.tail l6) (Value.tuple (Array.mk []))) fun i8 =>
    T.call 11 [Value.pointer o1, Value.agg (Array.mk [Value.int IntKind.i64 i7, Value.int IntKind.i64 i8])] fun v9 =>
    T.asU v9 fun l10 =>
    T.req (List.length l10 = 2)
    (T.asS (List.headD l10 (Value.tuple (Array.mk []))) fun o11 n12 n13 =>
    T.asI IntKind.i64 (List.headD (List.tail l10) (Value.tuple (Array.mk []))) fun i14 =>
    T.call 14 [Value.int IntKind.i64 2] fun v15 =>
    T.asA v15 fun l16 =>
    T.req (List.length l16 = 2)
    (T.asI IntKind.i64 (List.headD l16 (Value.tuple (Array.mk []))) fun i17 =>
    T.asI IntKind.i64 (List.headD (List.tail l16) (Value.tuple (Array.mk []))) fun i18 =>
    T.call 11 [Value.pointer o1, Value.agg (Array.mk [Value.int IntKind.i64 i17, Value.int IntKind.i64 i18])] fun v19 =>
    T.asU v19 fun l20 =>
    T.req (List.length l20 = 2)
    (T.asS (List.headD l20 (Value.tuple (Array.mk []))) fun o21 n22 n23 =>
    T.asI IntKind.i64 (List.headD (List.tail l20) (Value.tuple (Array.mk []))) fun i24 =>
    T.ite ((↑n12 : Int) == 0)
    (T.ite (i14 == 0)
    (T.call 14 [Value.int IntKind.i64 3] fun v25 =>
    T.asA v25 fun l26 =>
    T.req (List.length l26 = 2)
    (T.asI IntKind.i64 (List.headD l26 (Value.tuple (Array.mk []))) fun i27 =>
    T.asI IntKind.i64 (List.headD (List.tail l26) (Value.tuple (Array.mk []))) fun i28 =>
    T.new (Obj.cells (Array.mk [Value.int IntKind.i64 i27, Value.int IntKind.i64 i28]) 27)
    fun n29 =>
    T.call 32 [Value.slice o21 n22 n23, Value.slice (some (Addr.mk n29 0 none)) 1 1]
    fun v30 =>
    T.asB v30 fun b31 =>
    T.ite b31 (T.ret (Value.bool (i24 == 0))) (T.ret (Value.bool false))))
    (T.ret (Value.bool false)))
    (T.ret (Value.bool false)))))))
    (T.drew
    (T.ite (Option.isNone o1) (T.ret (Value.bool false))
    (T.ldI IntKind.i32 n2 0 fun i32 =>
    T.ldI IntKind.i64 n2 1 fun i33 =>
    T.both
    (T.call 14 [Value.int IntKind.i64 1] fun v34 =>
    T.asA v34 fun l35 =>
    T.req (List.length l35 = 2)
    (T.asI IntKind.i64 (List.headD l35 (Value.tuple (Array.mk []))) fun i36 =>
    T.asI IntKind.i64 (List.headD (List.tail l35) (Value.tuple (Array.mk []))) fun i37 =>
    T.chk [(Addr.mk n2 0 none, Value.int IntKind.i32 i32), (Addr.mk n2 1 none, Value.int IntKind.i64 i33)]
    (T.new (Obj.cells (Array.mk [Value.int IntKind.i32 i32, Value.int IntKind.i64 i33, Value.bool false]) 63) fun n38 =>
    T.chk [(Addr.mk n2 0 none, Value.int IntKind.i32 i32), (Addr.mk n2 1 none, Value.int IntKind.i64 i33)]
    (T.call 10
    [Value.pointer o1, Value.agg (Array.mk [Value.int IntKind.i64 i36, Value.int IntKind.i64 i37]),
    Value.slice (some (Addr.mk n38 0 none)) 1 1]
    fun v39 =>
    T.asI IntKind.i64 v39 fun i40 =>
    T.chk [(Addr.mk n2 0 none, Value.int IntKind.i32 i32), (Addr.mk n2 1 none, Value.int IntKind.i64 i33)]
    (T.ite (i40 != 0) (T.ret (Value.bool false))
    (T.ldI IntKind.i32 n2 0 fun i41 =>
    T.ldI IntKind.i64 n2 1 fun i42 =>
    T.both
    (T.call 14 [Value.int IntKind.i64 2] fun v43 =>
    T.asA v43 fun l44 =>
    T.req (List.length l44 = 2)
    (T.asI IntKind.i64 (List.headD l44 (Value.tuple (Array.mk []))) fun i45 =>
    T.asI IntKind.i64 (List.headD (List.tail l44) (Value.tuple (Array.mk []))) fun i46 =>
    T.chk
    [(Addr.mk n2 0 none, Value.int IntKind.i32 i41), (Addr.mk n2 1 none, Value.int IntKind.i64 i42),
    (Addr.mk n2 0 none, Value.int IntKind.i32 i32),
    (Addr.mk n2 1 none, Value.int IntKind.i64 i33)]
    (T.new
    (Obj.cells (Array.mk [Value.int IntKind.i32 i41, Value.int IntKind.i64 i42, Value.bool false])
    63)
    fun n47 =>
    T.chk
    [(Addr.mk n2 0 none, Value.int IntKind.i32 i41),
    (Addr.mk n2 1 none, Value.int IntKind.i64 i42),
    (Addr.mk n2 0 none, Value.int IntKind.i32 i32),
    (Addr.mk n2 1 none, Value.int IntKind.i64 i33)]
    (T.call 10
    [Value.pointer o1,
    Value.agg (Array.mk [Value.int IntKind.i64 i45, Value.int IntKind.i64 i46]),
    Value.slice (some (Addr.mk n47 0 none)) 1 1]
    fun v48 =>
    T.asI IntKind.i64 v48 fun i49 =>
    T.chk
    [(Addr.mk n2 0 none, Value.int IntKind.i32 i41),
    (Addr.mk n2 1 none, Value.int IntKind.i64 i42),
    (Addr.mk n2 0 none, Value.int IntKind.i32 i32),
    (Addr.mk n2 1 none, Value.int IntKind.i64 i33)]
    (T.ite (i49 != 0) (T.ret (Value.bool false))
    (T.ldI IntKind.i32 n2 0 fun i50 =>
    T.ldI IntKind.i64 n2 1 fun i51 =>
    T.both
    (T.call 14 [Value.int IntKind.i64 3] fun v52 =>
    T.asA v52 fun l53 =>
    T.req (List.length l53 = 2)
    (T.asI IntKind.i64 (List.headD l53 (Value.tuple (Array.mk [])))
    fun i54 =>
    T.asI IntKind.i64
    (List.headD (List.tail l53) (Value.tuple (Array.mk []))) fun i55 =>
    T.chk
    [(Addr.mk n2 0 none, Value.int IntKind.i32 i50),
    (Addr.mk n2 1 none, Value.int IntKind.i64 i51),
    (Addr.mk n2 0 none, Value.int IntKind.i32 i41),
    (Addr.mk n2 1 none, Value.int IntKind.i64 i42),
    (Addr.mk n2 0 none, Value.int IntKind.i32 i32),
    (Addr.mk n2 1 none, Value.int IntKind.i64 i33)]
    (T.new
    (Obj.cells
    (Array.mk
    [Value.int IntKind.i32 i50, Value.int IntKind.i64 i51,
    Value.bool true])
    63)
    fun n56 =>
    T.chk
    [(Addr.mk n2 0 none, Value.int IntKind.i32 i50),
    (Addr.mk n2 1 none, Value.int IntKind.i64 i51),
    (Addr.mk n2 0 none, Value.int IntKind.i32 i41),
    (Addr.mk n2 1 none, Value.int IntKind.i64 i42),
    (Addr.mk n2 0 none, Value.int IntKind.i32 i32),
    (Addr.mk n2 1 none, Value.int IntKind.i64 i33)]
    (T.call 10
    [Value.pointer o1,
    Value.agg
    (Array.mk
    [Value.int IntKind.i64 i54,
    Value.int IntKind.i64 i55]),
    Value.slice (some (Addr.mk n56 0 none)) 1 1]
    fun v57 =>
    T.asI IntKind.i64 v57 fun i58 =>
    T.chk
    [(Addr.mk n2 0 none, Value.int IntKind.i32 i50),
    (Addr.mk n2 1 none, Value.int IntKind.i64 i51),
    (Addr.mk n2 0 none, Value.int IntKind.i32 i41),
    (Addr.mk n2 1 none, Value.int IntKind.i64 i42),
    (Addr.mk n2 0 none, Value.int IntKind.i32 i32),
    (Addr.mk n2 1 none, Value.int IntKind.i64 i33)]
    (T.ite (i58 != 0) (T.ret (Value.bool false))
    (T.call 14 [Value.int IntKind.i64 3] fun v59 =>
    T.asA v59 fun l60 =>
    T.req (List.length l60 = 2)
    (T.asI IntKind.i64
    (List.headD l60 (Value.tuple (Array.mk [])))
    fun i61 =>
    T.asI IntKind.i64
    (List.headD (List.tail l60)
    (Value.tuple (Array.mk [])))
    fun i62 =>
    T.chk
    [(Addr.mk n2 0 none,
    Value.int IntKind.i32 i50),
    (Addr.mk n2 1 none,
    Value.int IntKind.i64 i51),
    (Addr.mk n2 0 none,
    Value.int IntKind.i32 i41),
    (Addr.mk n2 1 none,
    Value.int IntKind.i64 i42),
    (Addr.mk n2 0 none,
    Value.int IntKind.i32 i32),
    (Addr.mk n2 1 none,
    Value.int IntKind.i64 i33)]
    (T.call 18
    [Value.pointer o1,
    Value.agg
    (Array.mk
    [Value.int IntKind.i64 i61,
    Value.int IntKind.i64 i62])]
    fun v63 =>
    T.asB v63 fun b64 =>
    T.chk
    [(Addr.mk n2 0 none,
    Value.int IntKind.i32 i50),
    (Addr.mk n2 1 none,
    Value.int IntKind.i64 i51),
    (Addr.mk n2 0 none,
    Value.int IntKind.i32 i41),
    (Addr.mk n2 1 none,
    Value.int IntKind.i64 i42),
    (Addr.mk n2 0 none,
    Value.int IntKind.i32 i32),
    (Addr.mk n2 1 none,
    Value.int IntKind.i64 i33)]
    (T.ite b64
    (T.ret (Value.bool false))
    (T.call 14
    [Value.int IntKind.i64 2]
    fun v65 =>
    T.asA v65 fun l66 =>
    T.req (List.length l66 = 2)
    (T.asI IntKind.i64
    (List.headD l66
    (Value.tuple
    (Array.mk [])))
    fun i67 =>
    T.asI IntKind.i64
    (List.headD
    (List.tail l66)
    (Value.tuple
    (Array.mk [])))
    fun i68 =>
    T.chk
    [(Addr.mk n2 0 none,
    Value.int
    IntKind.i32
    i50),
    (Addr.mk n2 1 none,
    Value.int
    IntKind.i64
    i51),
    (Addr.mk n2 0 none,
    Value.int
    IntKind.i32
    i41),
    (Addr.mk n2 1 none,
    Value.int
    IntKind.i64
    i42),
    (Addr.mk n2 0 none,
    Value.int
    IntKind.i32
    i32),
    (Addr.mk n2 1 none,
    Value.int
    IntKind.i64
    i33)]
    (T.call 18
    [Value.pointer o1,
    Value.agg
    (Array.mk
    [Value.int
    IntKind.i64
    i67,
    Value.int
    IntKind.i64
    i68])]
    fun v69 =>
    T.asB v69 fun b70 =>
    T.chk
    [(Addr.mk n2 0
    none,
    Value.int
    IntKind.i32
    i50),
    (Addr.mk n2 1
    none,
    Value.int
    IntKind.i64
    i51),
    (Addr.mk n2 0
    none,
    Value.int
    IntKind.i32
    i41),
    (Addr.mk n2 1
    none,
    Value.int
    IntKind.i64
    i42),
    (Addr.mk n2 0
    none,
    Value.int
    IntKind.i32
    i32),
    (Addr.mk n2 1
    none,
    Value.int
    IntKind.i64
    i33)]
    (T.ite (!b70)
    (T.ret
    (Value.bool
    false))
    (T.next 0 []
    ([Value.pointer
    o1] =
    [Value.pointer
    o1] ∧ ([] : List Deferred) = [])))))))))))))))
    (T.new
    (Obj.cells
    (Array.mk
    [Value.int IntKind.i32 i50, Value.int IntKind.i64 i51, Value.bool true])
    63)
    fun n71 =>
    T.chk
    [(Addr.mk n2 0 none, Value.int IntKind.i32 i50),
    (Addr.mk n2 1 none, Value.int IntKind.i64 i51),
    (Addr.mk n2 0 none, Value.int IntKind.i32 i41),
    (Addr.mk n2 1 none, Value.int IntKind.i64 i42),
    (Addr.mk n2 0 none, Value.int IntKind.i32 i32),
    (Addr.mk n2 1 none, Value.int IntKind.i64 i33)]
    (T.call 14 [Value.int IntKind.i64 3] fun v72 =>
    T.asA v72 fun l73 =>
    T.req (List.length l73 = 2)
    (T.asI IntKind.i64 (List.headD l73 (Value.tuple (Array.mk [])))
    fun i74 =>
    T.asI IntKind.i64
    (List.headD (List.tail l73) (Value.tuple (Array.mk [])))
    fun i75 =>
    T.chk
    [(Addr.mk n2 0 none, Value.int IntKind.i32 i50),
    (Addr.mk n2 1 none, Value.int IntKind.i64 i51),
    (Addr.mk n2 0 none, Value.int IntKind.i32 i41),
    (Addr.mk n2 1 none, Value.int IntKind.i64 i42),
    (Addr.mk n2 0 none, Value.int IntKind.i32 i32),
    (Addr.mk n2 1 none, Value.int IntKind.i64 i33)]
    (T.call 10
    [Value.pointer o1,
    Value.agg
    (Array.mk
    [Value.int IntKind.i64 i74,
    Value.int IntKind.i64 i75]),
    Value.slice (some (Addr.mk n71 0 none)) 1 1]
    fun v76 =>
    T.asI IntKind.i64 v76 fun i77 =>
    T.chk
    [(Addr.mk n2 0 none, Value.int IntKind.i32 i50),
    (Addr.mk n2 1 none, Value.int IntKind.i64 i51),
    (Addr.mk n2 0 none, Value.int IntKind.i32 i41),
    (Addr.mk n2 1 none, Value.int IntKind.i64 i42),
    (Addr.mk n2 0 none, Value.int IntKind.i32 i32),
    (Addr.mk n2 1 none, Value.int IntKind.i64 i33)]
    (T.ite (i77 != 0) (T.ret (Value.bool false))
    (T.call 14 [Value.int IntKind.i64 3] fun v78 =>
    T.asA v78 fun l79 =>
    T.req (List.length l79 = 2)
    (T.asI IntKind.i64
    (List.headD l79 (Value.tuple (Array.mk [])))
    fun i80 =>
    T.asI IntKind.i64
    (List.headD (List.tail l79)
    (Value.tuple (Array.mk [])))
    fun i81 =>
    T.chk
    [(Addr.mk n2 0 none,
    Value.int IntKind.i32 i50),
    (Addr.mk n2 1 none,
    Value.int IntKind.i64 i51),
    (Addr.mk n2 0 none,
    Value.int IntKind.i32 i41),
    (Addr.mk n2 1 none,
    Value.int IntKind.i64 i42),
    (Addr.mk n2 0 none,
    Value.int IntKind.i32 i32),
    (Addr.mk n2 1 none,
    Value.int IntKind.i64 i33)]
    (T.call 18
    [Value.pointer o1,
    Value.agg
    (Array.mk
    [Value.int IntKind.i64 i80,
    Value.int IntKind.i64 i81])]
    fun v82 =>
    T.asB v82 fun b83 =>
    T.chk
    [(Addr.mk n2 0 none,
    Value.int IntKind.i32 i50),
    (Addr.mk n2 1 none,
    Value.int IntKind.i64 i51),
    (Addr.mk n2 0 none,
    Value.int IntKind.i32 i41),
    (Addr.mk n2 1 none,
    Value.int IntKind.i64 i42),
    (Addr.mk n2 0 none,
    Value.int IntKind.i32 i32),
    (Addr.mk n2 1 none,
    Value.int IntKind.i64 i33)]
    (T.ite b83
    (T.ret (Value.bool false))
    (T.call 14
    [Value.int IntKind.i64 2]
    fun v84 =>
    T.asA v84 fun l85 =>
    T.req (List.length l85 = 2)
    (T.asI IntKind.i64
    (List.headD l85
    (Value.tuple
    (Array.mk [])))
    fun i86 =>
    T.asI IntKind.i64
    (List.headD
    (List.tail l85)
    (Value.tuple
    (Array.mk [])))
    fun i87 =>
    T.chk
    [(Addr.mk n2 0 none,
    Value.int
    IntKind.i32
    i50),
    (Addr.mk n2 1 none,
    Value.int
    IntKind.i64
    i51),
    (Addr.mk n2 0 none,
    Value.int
    IntKind.i32
    i41),
    (Addr.mk n2 1 none,
    Value.int
    IntKind.i64
    i42),
    (Addr.mk n2 0 none,
    Value.int
    IntKind.i32
    i32),
    (Addr.mk n2 1 none,
    Value.int
    IntKind.i64
    i33)]
    (T.call 18
    [Value.pointer o1,
    Value.agg
    (Array.mk
    [Value.int
    IntKind.i64
    i86,
    Value.int
    IntKind.i64
    i87])]
    fun v88 =>
    T.asB v88 fun b89 =>
    T.chk
    [(Addr.mk n2 0
    none,
    Value.int
    IntKind.i32
    i50),
    (Addr.mk n2 1
    none,
    Value.int
    IntKind.i64
    i51),
    (Addr.mk n2 0
    none,
    Value.int
    IntKind.i32
    i41),
    (Addr.mk n2 1
    none,
    Value.int
    IntKind.i64
    i42),
    (Addr.mk n2 0
    none,
    Value.int
    IntKind.i32
    i32),
    (Addr.mk n2 1
    none,
    Value.int
    IntKind.i64
    i33)]
    (T.ite (!b89)
    (T.ret
    (Value.bool
    false))
    (T.next 0 []
    ([Value.pointer
    o1] =
    [Value.pointer
    o1] ∧ ([] : List Deferred) = [])))))))))))))))))))))
    (T.new (Obj.cells (Array.mk [Value.int IntKind.i32 i41, Value.int IntKind.i64 i42, Value.bool false]) 63)
    fun n90 =>
    T.chk
    [(Addr.mk n2 0 none, Value.int IntKind.i32 i41), (Addr.mk n2 1 none, Value.int IntKind.i64 i42),
    (Addr.mk n2 0 none, Value.int IntKind.i32 i32), (Addr.mk n2 1 none, Value.int IntKind.i64 i33)]
    (T.call 14 [Value.int IntKind.i64 2] fun v91 =>
    T.asA v91 fun l92 =>
    T.req (List.length l92 = 2)
    (T.asI IntKind.i64 (List.headD l92 (Value.tuple (Array.mk []))) fun i93 =>
    T.asI IntKind.i64 (List.headD (List.tail l92) (Value.tuple (Array.mk []))) fun i94 =>
    T.chk
    [(Addr.mk n2 0 none, Value.int IntKind.i32 i41),
    (Addr.mk n2 1 none, Value.int IntKind.i64 i42),
    (Addr.mk n2 0 none, Value.int IntKind.i32 i32),
    (Addr.mk n2 1 none, Value.int IntKind.i64 i33)]
    (T.call 10
    [Value.pointer o1,
    Value.agg (Array.mk [Value.int IntKind.i64 i93, Value.int IntKind.i64 i94]),
    Value.slice (some (Addr.mk n90 0 none)) 1 1]
    fun v95 =>
    T.asI IntKind.i64 v95 fun i96 =>
    T.chk
    [(Addr.mk n2 0 none, Value.int IntKind.i32 i41),
    (Addr.mk n2 1 none, Value.int IntKind.i64 i42),
    (Addr.mk n2 0 none, Value.int IntKind.i32 i32),
    (Addr.mk n2 1 none, Value.int IntKind.i64 i33)]
    (T.ite (i96 != 0) (T.ret (Value.bool false))
    (T.ldI IntKind.i32 n2 0 fun i97 =>
    T.ldI IntKind.i64 n2 1 fun i98 =>
    T.both
    (T.call 14 [Value.int IntKind.i64 3] fun v99 =>
    T.asA v99 fun l100 =>
    T.req (List.length l100 = 2)
    (T.asI IntKind.i64 (List.headD l100 (Value.tuple (Array.mk [])))
    fun i101 =>
    T.asI IntKind.i64
    (List.headD (List.tail l100) (Value.tuple (Array.mk [])))
    fun i102 =>
    T.chk
    [(Addr.mk n2 0 none, Value.int IntKind.i32 i97),
    (Addr.mk n2 1 none, Value.int IntKind.i64 i98),
    (Addr.mk n2 0 none, Value.int IntKind.i32 i41),
    (Addr.mk n2 1 none, Value.int IntKind.i64 i42),
    (Addr.mk n2 0 none, Value.int IntKind.i32 i32),
    (Addr.mk n2 1 none, Value.int IntKind.i64 i33)]
    (T.new
    (Obj.cells
    (Array.mk
    [Value.int IntKind.i32 i97, Value.int IntKind.i64 i98,
    Value.bool true])
    63)
    fun n103 =>
    T.chk
    [(Addr.mk n2 0 none, Value.int IntKind.i32 i97),
    (Addr.mk n2 1 none, Value.int IntKind.i64 i98),
    (Addr.mk n2 0 none, Value.int IntKind.i32 i41),
    (Addr.mk n2 1 none, Value.int IntKind.i64 i42),
    (Addr.mk n2 0 none, Value.int IntKind.i32 i32),
    (Addr.mk n2 1 none, Value.int IntKind.i64 i33)]
    (T.call 10
    [Value.pointer o1,
    Value.agg
    (Array.mk
    [Value.int IntKind.i64 i101,
    Value.int IntKind.i64 i102]),
    Value.slice (some (Addr.mk n103 0 none)) 1 1]
    fun v104 =>
    T.asI IntKind.i64 v104 fun i105 =>
    T.chk
    [(Addr.mk n2 0 none, Value.int IntKind.i32 i97),
    (Addr.mk n2 1 none, Value.int IntKind.i64 i98),
    (Addr.mk n2 0 none, Value.int IntKind.i32 i41),
    (Addr.mk n2 1 none, Value.int IntKind.i64 i42),
    (Addr.mk n2 0 none, Value.int IntKind.i32 i32),
    (Addr.mk n2 1 none, Value.int IntKind.i64 i33)]
    (T.ite (i105 != 0) (T.ret (Value.bool false))
    (T.call 14 [Value.int IntKind.i64 3] fun v106 =>
    T.asA v106 fun l107 =>
    T.req (List.length l107 = 2)
    (T.asI IntKind.i64
    (List.headD l107 (Value.tuple (Array.mk [])))
    fun i108 =>
    T.asI IntKind.i64
    (List.headD (List.tail l107)
    (Value.tuple (Array.mk [])))
    fun i109 =>
    T.chk
    [(Addr.mk n2 0 none,
    Value.int IntKind.i32 i97),
    (Addr.mk n2 1 none,
    Value.int IntKind.i64 i98),
    (Addr.mk n2 0 none,
    Value.int IntKind.i32 i41),
    (Addr.mk n2 1 none,
    Value.int IntKind.i64 i42),
    (Addr.mk n2 0 none,
    Value.int IntKind.i32 i32),
    (Addr.mk n2 1 none,
    Value.int IntKind.i64 i33)]
    (T.call 18
    [Value.pointer o1,
    Value.agg
    (Array.mk
    [Value.int IntKind.i64 i108,
    Value.int IntKind.i64 i109])]
    fun v110 =>
    T.asB v110 fun b111 =>
    T.chk
    [(Addr.mk n2 0 none,
    Value.int IntKind.i32 i97),
    (Addr.mk n2 1 none,
    Value.int IntKind.i64 i98),
    (Addr.mk n2 0 none,
    Value.int IntKind.i32 i41),
    (Addr.mk n2 1 none,
    Value.int IntKind.i64 i42),
    (Addr.mk n2 0 none,
    Value.int IntKind.i32 i32),
    (Addr.mk n2 1 none,
    Value.int IntKind.i64 i33)]
    (T.ite b111
    (T.ret (Value.bool false))
    (T.call 14
    [Value.int IntKind.i64 2]
    fun v112 =>
    T.asA v112 fun l113 =>
    T.req (List.length l113 = 2)
    (T.asI IntKind.i64
    (List.headD l113
    (Value.tuple
    (Array.mk [])))
    fun i114 =>
    T.asI IntKind.i64
    (List.headD
    (List.tail l113)
    (Value.tuple
    (Array.mk [])))
    fun i115 =>
    T.chk
    [(Addr.mk n2 0 none,
    Value.int
    IntKind.i32
    i97),
    (Addr.mk n2 1 none,
    Value.int
    IntKind.i64
    i98),
    (Addr.mk n2 0 none,
    Value.int
    IntKind.i32
    i41),
    (Addr.mk n2 1 none,
    Value.int
    IntKind.i64
    i42),
    (Addr.mk n2 0 none,
    Value.int
    IntKind.i32
    i32),
    (Addr.mk n2 1 none,
    Value.int
    IntKind.i64
    i33)]
    (T.call 18
    [Value.pointer o1,
    Value.agg
    (Array.mk
    [Value.int
    IntKind.i64
    i114,
    Value.int
    IntKind.i64
    i115])]
    fun v116 =>
    T.asB v116
    fun b117 =>
    T.chk
    [(Addr.mk n2 0
    none,
    Value.int
    IntKind.i32
    i97),
    (Addr.mk n2 1
    none,
    Value.int
    IntKind.i64
    i98),
    (Addr.mk n2 0
    none,
    Value.int
    IntKind.i32
    i41),
    (Addr.mk n2 1
    none,
    Value.int
    IntKind.i64
    i42),
    (Addr.mk n2 0
    none,
    Value.int
    IntKind.i32
    i32),
    (Addr.mk n2 1
    none,
    Value.int
    IntKind.i64
    i33)]
    (T.ite (!b117)
    (T.ret
    (Value.bool
    false))
    (T.next 0 []
    ([Value.pointer
    o1] =
    [Value.pointer
    o1] ∧ ([] : List Deferred) = [])))))))))))))))
    (T.new
    (Obj.cells
    (Array.mk
    [Value.int IntKind.i32 i97, Value.int IntKind.i64 i98, Value.bool true])
    63)
    fun n118 =>
    T.chk
    [(Addr.mk n2 0 none, Value.int IntKind.i32 i97),
    (Addr.mk n2 1 none, Value.int IntKind.i64 i98),
    (Addr.mk n2 0 none, Value.int IntKind.i32 i41),
    (Addr.mk n2 1 none, Value.int IntKind.i64 i42),
    (Addr.mk n2 0 none, Value.int IntKind.i32 i32),
    (Addr.mk n2 1 none, Value.int IntKind.i64 i33)]
    (T.call 14 [Value.int IntKind.i64 3] fun v119 =>
    T.asA v119 fun l120 =>
    T.req (List.length l120 = 2)
    (T.asI IntKind.i64 (List.headD l120 (Value.tuple (Array.mk [])))
    fun i121 =>
    T.asI IntKind.i64
    (List.headD (List.tail l120) (Value.tuple (Array.mk [])))
    fun i122 =>
    T.chk
    [(Addr.mk n2 0 none, Value.int IntKind.i32 i97),
    (Addr.mk n2 1 none, Value.int IntKind.i64 i98),
    (Addr.mk n2 0 none, Value.int IntKind.i32 i41),
    (Addr.mk n2 1 none, Value.int IntKind.i64 i42),
    (Addr.mk n2 0 none, Value.int IntKind.i32 i32),
    (Addr.mk n2 1 none, Value.int IntKind.i64 i33)]
    (T.call 10
    [Value.pointer o1,
    Value.agg
    (Array.mk
    [Value.int IntKind.i64 i121,
    Value.int IntKind.i64 i122]),
    Value.slice (some (Addr.mk n118 0 none)) 1 1]
    fun v123 =>
    T.asI IntKind.i64 v123 fun i124 =>
    T.chk
    [(Addr.mk n2 0 none, Value.int IntKind.i32 i97),
    (Addr.mk n2 1 none, Value.int IntKind.i64 i98),
    (Addr.mk n2 0 none, Value.int IntKind.i32 i41),
    (Addr.mk n2 1 none, Value.int IntKind.i64 i42),
    (Addr.mk n2 0 none, Value.int IntKind.i32 i32),
    (Addr.mk n2 1 none, Value.int IntKind.i64 i33)]
    (T.ite (i124 != 0) (T.ret (Value.bool false))
    (T.call 14 [Value.int IntKind.i64 3] fun v125 =>
    T.asA v125 fun l126 =>
    T.req (List.length l126 = 2)
    (T.asI IntKind.i64
    (List.headD l126 (Value.tuple (Array.mk [])))
    fun i127 =>
    T.asI IntKind.i64
    (List.headD (List.tail l126)
    (Value.tuple (Array.mk [])))
    fun i128 =>
    T.chk
    [(Addr.mk n2 0 none,
    Value.int IntKind.i32 i97),
    (Addr.mk n2 1 none,
    Value.int IntKind.i64 i98),
    (Addr.mk n2 0 none,
    Value.int IntKind.i32 i41),
    (Addr.mk n2 1 none,
    Value.int IntKind.i64 i42),
    (Addr.mk n2 0 none,
    Value.int IntKind.i32 i32),
    (Addr.mk n2 1 none,
    Value.int IntKind.i64 i33)]
    (T.call 18
    [Value.pointer o1,
    Value.agg
    (Array.mk
    [Value.int IntKind.i64 i127,
    Value.int IntKind.i64 i128])]
    fun v129 =>
    T.asB v129 fun b130 =>
    T.chk
    [(Addr.mk n2 0 none,
    Value.int IntKind.i32 i97),
    (Addr.mk n2 1 none,
    Value.int IntKind.i64 i98),
    (Addr.mk n2 0 none,
    Value.int IntKind.i32 i41),
    (Addr.mk n2 1 none,
    Value.int IntKind.i64 i42),
    (Addr.mk n2 0 none,
    Value.int IntKind.i32 i32),
    (Addr.mk n2 1 none,
    Value.int IntKind.i64 i33)]
    (T.ite b130
    (T.ret (Value.bool false))
    (T.call 14
    [Value.int IntKind.i64 2]
    fun v131 =>
    T.asA v131 fun l132 =>
    T.req (List.length l132 = 2)
    (T.asI IntKind.i64
    (List.headD l132
    (Value.tuple
    (Array.mk [])))
    fun i133 =>
    T.asI IntKind.i64
    (List.headD
    (List.tail l132)
    (Value.tuple
    (Array.mk [])))
    fun i134 =>
    T.chk
    [(Addr.mk n2 0 none,
    Value.int
    IntKind.i32
    i97),
    (Addr.mk n2 1 none,
    Value.int
    IntKind.i64
    i98),
    (Addr.mk n2 0 none,
    Value.int
    IntKind.i32
    i41),
    (Addr.mk n2 1 none,
    Value.int
    IntKind.i64
    i42),
    (Addr.mk n2 0 none,
    Value.int
    IntKind.i32
    i32),
    (Addr.mk n2 1 none,
    Value.int
    IntKind.i64
    i33)]
    (T.call 18
    [Value.pointer o1,
    Value.agg
    (Array.mk
    [Value.int
    IntKind.i64
    i133,
    Value.int
    IntKind.i64
    i134])]
    fun v135 =>
    T.asB v135
    fun b136 =>
    T.chk
    [(Addr.mk n2 0
    none,
    Value.int
    IntKind.i32
    i97),
    (Addr.mk n2 1
    none,
    Value.int
    IntKind.i64
    i98),
    (Addr.mk n2 0
    none,
    Value.int
    IntKind.i32
    i41),
    (Addr.mk n2 1
    none,
    Value.int
    IntKind.i64
    i42),
    (Addr.mk n2 0
    none,
    Value.int
    IntKind.i32
    i32),
    (Addr.mk n2 1
    none,
    Value.int
    IntKind.i64
    i33)]
    (T.ite (!b136)
    (T.ret
    (Value.bool
    false))
    (T.next 0 []
    ([Value.pointer
    o1] =
    [Value.pointer
    o1] ∧ ([] : List Deferred) = [])))))))))))))))))))))))))))
    (T.new (Obj.cells (Array.mk [Value.int IntKind.i32 i32, Value.int IntKind.i64 i33, Value.bool false]) 63) fun n137 =>
    T.chk [(Addr.mk n2 0 none, Value.int IntKind.i32 i32), (Addr.mk n2 1 none, Value.int IntKind.i64 i33)]
    (T.call 14 [Value.int IntKind.i64 1] fun v138 =>
    T.asA v138 fun l139 =>
    T.req (List.length l139 = 2)
    (T.asI IntKind.i64 (List.headD l139 (Value.tuple (Array.mk []))) fun i140 =>
    T.asI IntKind.i64 (List.headD (List.tail l139) (Value.tuple (Array.mk []))) fun i141 =>
    T.chk [(Addr.mk n2 0 none, Value.int IntKind.i32 i32), (Addr.mk n2 1 none, Value.int IntKind.i64 i33)]
    (T.call 10
    [Value.pointer o1, Value.agg (Array.mk [Value.int IntKind.i64 i140, Value.int IntKind.i64 i141]),
    Value.slice (some (Addr.mk n137 0 none)) 1 1]
    fun v142 =>
    T.asI IntKind.i64 v142 fun i143 =>
    T.chk [(Addr.mk n2 0 none, Value.int IntKind.i32 i32), (Addr.mk n2 1 none, Value.int IntKind.i64 i33)]
    (T.ite (i143 != 0) (T.ret (Value.bool false))
    (T.ldI IntKind.i32 n2 0 fun i144 =>
    T.ldI IntKind.i64 n2 1 fun i145 =>
    T.both
    (T.call 14 [Value.int IntKind.i64 2] fun v146 =>
    T.asA v146 fun l147 =>
    T.req (List.length l147 = 2)
    (T.asI IntKind.i64 (List.headD l147 (Value.tuple (Array.mk []))) fun i148 =>
    T.asI IntKind.i64 (List.headD (List.tail l147) (Value.tuple (Array.mk []))) fun i149 =>
    T.chk
    [(Addr.mk n2 0 none, Value.int IntKind.i32 i144),
    (Addr.mk n2 1 none, Value.int IntKind.i64 i145),
    (Addr.mk n2 0 none, Value.int IntKind.i32 i32),
    (Addr.mk n2 1 none, Value.int IntKind.i64 i33)]
    (T.new
    (Obj.cells
    (Array.mk [Value.int IntKind.i32 i144, Value.int IntKind.i64 i145, Value.bool false]) 63)
    fun n150 =>
    T.chk
    [(Addr.mk n2 0 none, Value.int IntKind.i32 i144),
    (Addr.mk n2 1 none, Value.int IntKind.i64 i145),
    (Addr.mk n2 0 none, Value.int IntKind.i32 i32),
    (Addr.mk n2 1 none, Value.int IntKind.i64 i33)]
    (T.call 10
    [Value.pointer o1,
    Value.agg (Array.mk [Value.int IntKind.i64 i148, Value.int IntKind.i64 i149]),
    Value.slice (some (Addr.mk n150 0 none)) 1 1]
    fun v151 =>
    T.asI IntKind.i64 v151 fun i152 =>
    T.chk
    [(Addr.mk n2 0 none, Value.int IntKind.i32 i144),
    (Addr.mk n2 1 none, Value.int IntKind.i64 i145),
    (Addr.mk n2 0 none, Value.int IntKind.i32 i32),
    (Addr.mk n2 1 none, Value.int IntKind.i64 i33)]
    (T.ite (i152 != 0) (T.ret (Value.bool false))
    (T.ldI IntKind.i32 n2 0 fun i153 =>
    T.ldI IntKind.i64 n2 1 fun i154 =>
    T.both
    (T.call 14 [Value.int IntKind.i64 3] fun v155 =>
    T.asA v155 fun l156 =>
    T.req (List.length l156 = 2)
    (T.asI IntKind.i64 (List.headD l156 (Value.tuple (Array.mk [])))
    fun i157 =>
    T.asI IntKind.i64
    (List.headD (List.tail l156) (Value.tuple (Array.mk [])))
    fun i158 =>
    T.chk
    [(Addr.mk n2 0 none, Value.int IntKind.i32 i153),
    (Addr.mk n2 1 none, Value.int IntKind.i64 i154),
    (Addr.mk n2 0 none, Value.int IntKind.i32 i144),
    (Addr.mk n2 1 none, Value.int IntKind.i64 i145),
    (Addr.mk n2 0 none, Value.int IntKind.i32 i32),
    (Addr.mk n2 1 none, Value.int IntKind.i64 i33)]
    (T.new
    (Obj.cells
    (Array.mk
    [Value.int IntKind.i32 i153, Value.int IntKind.i64 i154,
    Value.bool true])
    63)
    fun n159 =>
    T.chk
    [(Addr.mk n2 0 none, Value.int IntKind.i32 i153),
    (Addr.mk n2 1 none, Value.int IntKind.i64 i154),
    (Addr.mk n2 0 none, Value.int IntKind.i32 i144),
    (Addr.mk n2 1 none, Value.int IntKind.i64 i145),
    (Addr.mk n2 0 none, Value.int IntKind.i32 i32),
    (Addr.mk n2 1 none, Value.int IntKind.i64 i33)]
    (T.call 10
    [Value.pointer o1,
    Value.agg
    (Array.mk
    [Value.int IntKind.i64 i157,
    Value.int IntKind.i64 i158]),
    Value.slice (some (Addr.mk n159 0 none)) 1 1]
    fun v160 =>
    T.asI IntKind.i64 v160 fun i161 =>
    T.chk
    [(Addr.mk n2 0 none, Value.int IntKind.i32 i153),
    (Addr.mk n2 1 none, Value.int IntKind.i64 i154),
    (Addr.mk n2 0 none, Value.int IntKind.i32 i144),
    (Addr.mk n2 1 none, Value.int IntKind.i64 i145),
    (Addr.mk n2 0 none, Value.int IntKind.i32 i32),
    (Addr.mk n2 1 none, Value.int IntKind.i64 i33)]
    (T.ite (i161 != 0) (T.ret (Value.bool false))
    (T.call 14 [Value.int IntKind.i64 3] fun v162 =>
    T.asA v162 fun l163 =>
    T.req (List.length l163 = 2)
    (T.asI IntKind.i64
    (List.headD l163 (Value.tuple (Array.mk [])))
    fun i164 =>
    T.asI IntKind.i64
    (List.headD (List.tail l163)
    (Value.tuple (Array.mk [])))
    fun i165 =>
    T.chk
    [(Addr.mk n2 0 none,
    Value.int IntKind.i32 i153),
    (Addr.mk n2 1 none,
    Value.int IntKind.i64 i154),
    (Addr.mk n2 0 none,
    Value.int IntKind.i32 i144),
    (Addr.mk n2 1 none,
    Value.int IntKind.i64 i145),
    (Addr.mk n2 0 none,
    Value.int IntKind.i32 i32),
    (Addr.mk n2 1 none,
    Value.int IntKind.i64 i33)]
    (T.call 18
    [Value.pointer o1,
    Value.agg
    (Array.mk
    [Value.int IntKind.i64 i164,
    Value.int IntKind.i64 i165])]
    fun v166 =>
    T.asB v166 fun b167 =>
    T.chk
    [(Addr.mk n2 0 none,
    Value.int IntKind.i32 i153),
    (Addr.mk n2 1 none,
    Value.int IntKind.i64 i154),
    (Addr.mk n2 0 none,
    Value.int IntKind.i32 i144),
    (Addr.mk n2 1 none,
    Value.int IntKind.i64 i145),
    (Addr.mk n2 0 none,
    Value.int IntKind.i32 i32),
    (Addr.mk n2 1 none,
    Value.int IntKind.i64 i33)]
    (T.ite b167
    (T.ret (Value.bool false))
    (T.call 14
    [Value.int IntKind.i64 2]
    fun v168 =>
    T.asA v168 fun l169 =>
    T.req (List.length l169 = 2)
    (T.asI IntKind.i64
    (List.headD l169
    (Value.tuple
    (Array.mk [])))
    fun i170 =>
    T.asI IntKind.i64
    (List.headD
    (List.tail l169)
    (Value.tuple
    (Array.mk [])))
    fun i171 =>
    T.chk
    [(Addr.mk n2 0 none,
    Value.int
    IntKind.i32
    i153),
    (Addr.mk n2 1 none,
    Value.int
    IntKind.i64
    i154),
    (Addr.mk n2 0 none,
    Value.int
    IntKind.i32
    i144),
    (Addr.mk n2 1 none,
    Value.int
    IntKind.i64
    i145),
    (Addr.mk n2 0 none,
    Value.int
    IntKind.i32
    i32),
    (Addr.mk n2 1 none,
    Value.int
    IntKind.i64
    i33)]
    (T.call 18
    [Value.pointer o1,
    Value.agg
    (Array.mk
    [Value.int
    IntKind.i64
    i170,
    Value.int
    IntKind.i64
    i171])]
    fun v172 =>
    T.asB v172
    fun b173 =>
    T.chk
    [(Addr.mk n2 0
    none,
    Value.int
    IntKind.i32
    i153),
    (Addr.mk n2 1
    none,
    Value.int
    IntKind.i64
    i154),
    (Addr.mk n2 0
    none,
    Value.int
    IntKind.i32
    i144),
    (Addr.mk n2 1
    none,
    Value.int
    IntKind.i64
    i145),
    (Addr.mk n2 0
    none,
    Value.int
    IntKind.i32
    i32),
    (Addr.mk n2 1
    none,
    Value.int
    IntKind.i64
    i33)]
    (T.ite (!b173)
    (T.ret
    (Value.bool
    false))
    (T.next 0 []
    ([Value.pointer
    o1] =
    [Value.pointer
    o1] ∧ ([] : List Deferred) = [])))))))))))))))
    (T.new
    (Obj.cells
    (Array.mk
    [Value.int IntKind.i32 i153, Value.int IntKind.i64 i154,
    Value.bool true])
    63)
    fun n174 =>
    T.chk
    [(Addr.mk n2 0 none, Value.int IntKind.i32 i153),
    (Addr.mk n2 1 none, Value.int IntKind.i64 i154),
    (Addr.mk n2 0 none, Value.int IntKind.i32 i144),
    (Addr.mk n2 1 none, Value.int IntKind.i64 i145),
    (Addr.mk n2 0 none, Value.int IntKind.i32 i32),
    (Addr.mk n2 1 none, Value.int IntKind.i64 i33)]
    (T.call 14 [Value.int IntKind.i64 3] fun v175 =>
    T.asA v175 fun l176 =>
    T.req (List.length l176 = 2)
    (T.asI IntKind.i64 (List.headD l176 (Value.tuple (Array.mk [])))
    fun i177 =>
    T.asI IntKind.i64
    (List.headD (List.tail l176) (Value.tuple (Array.mk [])))
    fun i178 =>
    T.chk
    [(Addr.mk n2 0 none, Value.int IntKind.i32 i153),
    (Addr.mk n2 1 none, Value.int IntKind.i64 i154),
    (Addr.mk n2 0 none, Value.int IntKind.i32 i144),
    (Addr.mk n2 1 none, Value.int IntKind.i64 i145),
    (Addr.mk n2 0 none, Value.int IntKind.i32 i32),
    (Addr.mk n2 1 none, Value.int IntKind.i64 i33)]
    (T.call 10
    [Value.pointer o1,
    Value.agg
    (Array.mk
    [Value.int IntKind.i64 i177,
    Value.int IntKind.i64 i178]),
    Value.slice (some (Addr.mk n174 0 none)) 1 1]
    fun v179 =>
    T.asI IntKind.i64 v179 fun i180 =>
    T.chk
    [(Addr.mk n2 0 none, Value.int IntKind.i32 i153),
    (Addr.mk n2 1 none, Value.int IntKind.i64 i154),
    (Addr.mk n2 0 none, Value.int IntKind.i32 i144),
    (Addr.mk n2 1 none, Value.int IntKind.i64 i145),
    (Addr.mk n2 0 none, Value.int IntKind.i32 i32),
    (Addr.mk n2 1 none, Value.int IntKind.i64 i33)]
    (T.ite (i180 != 0) (T.ret (Value.bool false))
    (T.call 14 [Value.int IntKind.i64 3] fun v181 =>
    T.asA v181 fun l182 =>
    T.req (List.length l182 = 2)
    (T.asI IntKind.i64
    (List.headD l182 (Value.tuple (Array.mk [])))
    fun i183 =>
    T.asI IntKind.i64
    (List.headD (List.tail l182)
    (Value.tuple (Array.mk [])))
    fun i184 =>
    T.chk
    [(Addr.mk n2 0 none,
    Value.int IntKind.i32 i153),
    (Addr.mk n2 1 none,
    Value.int IntKind.i64 i154),
    (Addr.mk n2 0 none,
    Value.int IntKind.i32 i144),
    (Addr.mk n2 1 none,
    Value.int IntKind.i64 i145),
    (Addr.mk n2 0 none,
    Value.int IntKind.i32 i32),
    (Addr.mk n2 1 none,
    Value.int IntKind.i64 i33)]
    (T.call 18
    [Value.pointer o1,
    Value.agg
    (Array.mk
    [Value.int IntKind.i64 i183,
    Value.int IntKind.i64 i184])]
    fun v185 =>
    T.asB v185 fun b186 =>
    T.chk
    [(Addr.mk n2 0 none,
    Value.int IntKind.i32 i153),
    (Addr.mk n2 1 none,
    Value.int IntKind.i64 i154),
    (Addr.mk n2 0 none,
    Value.int IntKind.i32 i144),
    (Addr.mk n2 1 none,
    Value.int IntKind.i64 i145),
    (Addr.mk n2 0 none,
    Value.int IntKind.i32 i32),
    (Addr.mk n2 1 none,
    Value.int IntKind.i64 i33)]
    (T.ite b186
    (T.ret (Value.bool false))
    (T.call 14
    [Value.int IntKind.i64 2]
    fun v187 =>
    T.asA v187 fun l188 =>
    T.req (List.length l188 = 2)
    (T.asI IntKind.i64
    (List.headD l188
    (Value.tuple
    (Array.mk [])))
    fun i189 =>
    T.asI IntKind.i64
    (List.headD
    (List.tail l188)
    (Value.tuple
    (Array.mk [])))
    fun i190 =>
    T.chk
    [(Addr.mk n2 0 none,
    Value.int
    IntKind.i32
    i153),
    (Addr.mk n2 1 none,
    Value.int
    IntKind.i64
    i154),
    (Addr.mk n2 0 none,
    Value.int
    IntKind.i32
    i144),
    (Addr.mk n2 1 none,
    Value.int
    IntKind.i64
    i145),
    (Addr.mk n2 0 none,
    Value.int
    IntKind.i32
    i32),
    (Addr.mk n2 1 none,
    Value.int
    IntKind.i64
    i33)]
    (T.call 18
    [Value.pointer o1,
    Value.agg
    (Array.mk
    [Value.int
    IntKind.i64
    i189,
    Value.int
    IntKind.i64
    i190])]
    fun v191 =>
    T.asB v191
    fun b192 =>
    T.chk
    [(Addr.mk n2 0
    none,
    Value.int
    IntKind.i32
    i153),
    (Addr.mk n2 1
    none,
    Value.int
    IntKind.i64
    i154),
    (Addr.mk n2 0
    none,
    Value.int
    IntKind.i32
    i144),
    (Addr.mk n2 1
    none,
    Value.int
    IntKind.i64
    i145),
    (Addr.mk n2 0
    none,
    Value.int
    IntKind.i32
    i32),
    (Addr.mk n2 1
    none,
    Value.int
    IntKind.i64
    i33)]
    (T.ite (!b192)
    (T.ret
    (Value.bool
    false))
    (T.next 0 []
    ([Value.pointer
    o1] =
    [Value.pointer
    o1] ∧ ([] : List Deferred) = [])))))))))))))))))))))
    (T.new (Obj.cells (Array.mk [Value.int IntKind.i32 i144, Value.int IntKind.i64 i145, Value.bool false]) 63)
    fun n193 =>
    T.chk
    [(Addr.mk n2 0 none, Value.int IntKind.i32 i144), (Addr.mk n2 1 none, Value.int IntKind.i64 i145),
    (Addr.mk n2 0 none, Value.int IntKind.i32 i32), (Addr.mk n2 1 none, Value.int IntKind.i64 i33)]
    (T.call 14 [Value.int IntKind.i64 2] fun v194 =>
    T.asA v194 fun l195 =>
    T.req (List.length l195 = 2)
    (T.asI IntKind.i64 (List.headD l195 (Value.tuple (Array.mk []))) fun i196 =>
    T.asI IntKind.i64 (List.headD (List.tail l195) (Value.tuple (Array.mk []))) fun i197 =>
    T.chk
    [(Addr.mk n2 0 none, Value.int IntKind.i32 i144),
    (Addr.mk n2 1 none, Value.int IntKind.i64 i145),
    (Addr.mk n2 0 none, Value.int IntKind.i32 i32),
    (Addr.mk n2 1 none, Value.int IntKind.i64 i33)]
    (T.call 10
    [Value.pointer o1,
    Value.agg (Array.mk [Value.int IntKind.i64 i196, Value.int IntKind.i64 i197]),
    Value.slice (some (Addr.mk n193 0 none)) 1 1]
    fun v198 =>
    T.asI IntKind.i64 v198 fun i199 =>
    T.chk
    [(Addr.mk n2 0 none, Value.int IntKind.i32 i144),
    (Addr.mk n2 1 none, Value.int IntKind.i64 i145),
    (Addr.mk n2 0 none, Value.int IntKind.i32 i32),
    (Addr.mk n2 1 none, Value.int IntKind.i64 i33)]
    (T.ite (i199 != 0) (T.ret (Value.bool false))
    (T.ldI IntKind.i32 n2 0 fun i200 =>
    T.ldI IntKind.i64 n2 1 fun i201 =>
    T.both
    (T.call 14 [Value.int IntKind.i64 3] fun v202 =>
    T.asA v202 fun l203 =>
    T.req (List.length l203 = 2)
    (T.asI IntKind.i64 (List.headD l203 (Value.tuple (Array.mk [])))
    fun i204 =>
    T.asI IntKind.i64
    (List.headD (List.tail l203) (Value.tuple (Array.mk [])))
    fun i205 =>
    T.chk
    [(Addr.mk n2 0 none, Value.int IntKind.i32 i200),
    (Addr.mk n2 1 none, Value.int IntKind.i64 i201),
    (Addr.mk n2 0 none, Value.int IntKind.i32 i144),
    (Addr.mk n2 1 none, Value.int IntKind.i64 i145),
    (Addr.mk n2 0 none, Value.int IntKind.i32 i32),
    (Addr.mk n2 1 none, Value.int IntKind.i64 i33)]
    (T.new
    (Obj.cells
    (Array.mk
    [Value.int IntKind.i32 i200, Value.int IntKind.i64 i201,
    Value.bool true])
    63)
    fun n206 =>
    T.chk
    [(Addr.mk n2 0 none, Value.int IntKind.i32 i200),
    (Addr.mk n2 1 none, Value.int IntKind.i64 i201),
    (Addr.mk n2 0 none, Value.int IntKind.i32 i144),
    (Addr.mk n2 1 none, Value.int IntKind.i64 i145),
    (Addr.mk n2 0 none, Value.int IntKind.i32 i32),
    (Addr.mk n2 1 none, Value.int IntKind.i64 i33)]
    (T.call 10
    [Value.pointer o1,
    Value.agg
    (Array.mk
    [Value.int IntKind.i64 i204,
    Value.int IntKind.i64 i205]),
    Value.slice (some (Addr.mk n206 0 none)) 1 1]
    fun v207 =>
    T.asI IntKind.i64 v207 fun i208 =>
    T.chk
    [(Addr.mk n2 0 none, Value.int IntKind.i32 i200),
    (Addr.mk n2 1 none, Value.int IntKind.i64 i201),
    (Addr.mk n2 0 none, Value.int IntKind.i32 i144),
    (Addr.mk n2 1 none, Value.int IntKind.i64 i145),
    (Addr.mk n2 0 none, Value.int IntKind.i32 i32),
    (Addr.mk n2 1 none, Value.int IntKind.i64 i33)]
    (T.ite (i208 != 0) (T.ret (Value.bool false))
    (T.call 14 [Value.int IntKind.i64 3] fun v209 =>
    T.asA v209 fun l210 =>
    T.req (List.length l210 = 2)
    (T.asI IntKind.i64
    (List.headD l210 (Value.tuple (Array.mk [])))
    fun i211 =>
    T.asI IntKind.i64
    (List.headD (List.tail l210)
    (Value.tuple (Array.mk [])))
    fun i212 =>
    T.chk
    [(Addr.mk n2 0 none,
    Value.int IntKind.i32 i200),
    (Addr.mk n2 1 none,
    Value.int IntKind.i64 i201),
    (Addr.mk n2 0 none,
    Value.int IntKind.i32 i144),
    (Addr.mk n2 1 none,
    Value.int IntKind.i64 i145),
    (Addr.mk n2 0 none,
    Value.int IntKind.i32 i32),
    (Addr.mk n2 1 none,
    Value.int IntKind.i64 i33)]
    (T.call 18
    [Value.pointer o1,
    Value.agg
    (Array.mk
    [Value.int IntKind.i64 i211,
    Value.int IntKind.i64 i212])]
    fun v213 =>
    T.asB v213 fun b214 =>
    T.chk
    [(Addr.mk n2 0 none,
    Value.int IntKind.i32 i200),
    (Addr.mk n2 1 none,
    Value.int IntKind.i64 i201),
    (Addr.mk n2 0 none,
    Value.int IntKind.i32 i144),
    (Addr.mk n2 1 none,
    Value.int IntKind.i64 i145),
    (Addr.mk n2 0 none,
    Value.int IntKind.i32 i32),
    (Addr.mk n2 1 none,
    Value.int IntKind.i64 i33)]
    (T.ite b214
    (T.ret (Value.bool false))
    (T.call 14
    [Value.int IntKind.i64 2]
    fun v215 =>
    T.asA v215 fun l216 =>
    T.req (List.length l216 = 2)
    (T.asI IntKind.i64
    (List.headD l216
    (Value.tuple
    (Array.mk [])))
    fun i217 =>
    T.asI IntKind.i64
    (List.headD
    (List.tail l216)
    (Value.tuple
    (Array.mk [])))
    fun i218 =>
    T.chk
    [(Addr.mk n2 0 none,
    Value.int
    IntKind.i32
    i200),
    (Addr.mk n2 1 none,
    Value.int
    IntKind.i64
    i201),
    (Addr.mk n2 0 none,
    Value.int
    IntKind.i32
    i144),
    (Addr.mk n2 1 none,
    Value.int
    IntKind.i64
    i145),
    (Addr.mk n2 0 none,
    Value.int
    IntKind.i32
    i32),
    (Addr.mk n2 1 none,
    Value.int
    IntKind.i64
    i33)]
    (T.call 18
    [Value.pointer o1,
    Value.agg
    (Array.mk
    [Value.int
    IntKind.i64
    i217,
    Value.int
    IntKind.i64
    i218])]
    fun v219 =>
    T.asB v219
    fun b220 =>
    T.chk
    [(Addr.mk n2 0
    none,
    Value.int
    IntKind.i32
    i200),
    (Addr.mk n2 1
    none,
    Value.int
    IntKind.i64
    i201),
    (Addr.mk n2 0
    none,
    Value.int
    IntKind.i32
    i144),
    (Addr.mk n2 1
    none,
    Value.int
    IntKind.i64
    i145),
    (Addr.mk n2 0
    none,
    Value.int
    IntKind.i32
    i32),
    (Addr.mk n2 1
    none,
    Value.int
    IntKind.i64
    i33)]
    (T.ite (!b220)
    (T.ret
    (Value.bool
    false))
    (T.next 0 []
    ([Value.pointer
    o1] =
    [Value.pointer
    o1] ∧ ([] : List Deferred) = [])))))))))))))))
    (T.new
    (Obj.cells
    (Array.mk
    [Value.int IntKind.i32 i200, Value.int IntKind.i64 i201,
    Value.bool true])
    63)
    fun n221 =>
    T.chk
    [(Addr.mk n2 0 none, Value.int IntKind.i32 i200),
    (Addr.mk n2 1 none, Value.int IntKind.i64 i201),
    (Addr.mk n2 0 none, Value.int IntKind.i32 i144),
    (Addr.mk n2 1 none, Value.int IntKind.i64 i145),
    (Addr.mk n2 0 none, Value.int IntKind.i32 i32),
    (Addr.mk n2 1 none, Value.int IntKind.i64 i33)]
    (T.call 14 [Value.int IntKind.i64 3] fun v222 =>
    T.asA v222 fun l223 =>
    T.req (List.length l223 = 2)
    (T.asI IntKind.i64 (List.headD l223 (Value.tuple (Array.mk [])))
    fun i224 =>
    T.asI IntKind.i64
    (List.headD (List.tail l223) (Value.tuple (Array.mk [])))
    fun i225 =>
    T.chk
    [(Addr.mk n2 0 none, Value.int IntKind.i32 i200),
    (Addr.mk n2 1 none, Value.int IntKind.i64 i201),
    (Addr.mk n2 0 none, Value.int IntKind.i32 i144),
    (Addr.mk n2 1 none, Value.int IntKind.i64 i145),
    (Addr.mk n2 0 none, Value.int IntKind.i32 i32),
    (Addr.mk n2 1 none, Value.int IntKind.i64 i33)]
    (T.call 10
    [Value.pointer o1,
    Value.agg
    (Array.mk
    [Value.int IntKind.i64 i224,
    Value.int IntKind.i64 i225]),
    Value.slice (some (Addr.mk n221 0 none)) 1 1]
    fun v226 =>
    T.asI IntKind.i64 v226 fun i227 =>
    T.chk
    [(Addr.mk n2 0 none, Value.int IntKind.i32 i200),
    (Addr.mk n2 1 none, Value.int IntKind.i64 i201),
    (Addr.mk n2 0 none, Value.int IntKind.i32 i144),
    (Addr.mk n2 1 none, Value.int IntKind.i64 i145),
    (Addr.mk n2 0 none, Value.int IntKind.i32 i32),
    (Addr.mk n2 1 none, Value.int IntKind.i64 i33)]
    (T.ite (i227 != 0) (T.ret (Value.bool false))
    (T.call 14 [Value.int IntKind.i64 3] fun v228 =>
    T.asA v228 fun l229 =>
    T.req (List.length l229 = 2)
    (T.asI IntKind.i64
    (List.headD l229 (Value.tuple (Array.mk [])))
    fun i230 =>
    T.asI IntKind.i64
    (List.headD (List.tail l229)
    (Value.tuple (Array.mk [])))
    fun i231 =>
    T.chk
    [(Addr.mk n2 0 none,
    Value.int IntKind.i32 i200),
    (Addr.mk n2 1 none,
    Value.int IntKind.i64 i201),
    (Addr.mk n2 0 none,
    Value.int IntKind.i32 i144),
    (Addr.mk n2 1 none,
    Value.int IntKind.i64 i145),
    (Addr.mk n2 0 none,
    Value.int IntKind.i32 i32),
    (Addr.mk n2 1 none,
    Value.int IntKind.i64 i33)]
    (T.call 18
    [Value.pointer o1,
    Value.agg
    (Array.mk
    [Value.int IntKind.i64 i230,
    Value.int IntKind.i64 i231])]
    fun v232 =>
    T.asB v232 fun b233 =>
    T.chk
    [(Addr.mk n2 0 none,
    Value.int IntKind.i32 i200),
    (Addr.mk n2 1 none,
    Value.int IntKind.i64 i201),
    (Addr.mk n2 0 none,
    Value.int IntKind.i32 i144),
    (Addr.mk n2 1 none,
    Value.int IntKind.i64 i145),
    (Addr.mk n2 0 none,
    Value.int IntKind.i32 i32),
    (Addr.mk n2 1 none,
    Value.int IntKind.i64 i33)]
    (T.ite b233
    (T.ret (Value.bool false))
    (T.call 14
    [Value.int IntKind.i64 2]
    fun v234 =>
    T.asA v234 fun l235 =>
    T.req (List.length l235 = 2)
    (T.asI IntKind.i64
    (List.headD l235
    (Value.tuple
    (Array.mk [])))
    fun i236 =>
    T.asI IntKind.i64
    (List.headD
    (List.tail l235)
    (Value.tuple
    (Array.mk [])))
    fun i237 =>
    T.chk
    [(Addr.mk n2 0 none,
    Value.int
    IntKind.i32
    i200),
    (Addr.mk n2 1 none,
    Value.int
    IntKind.i64
    i201),
    (Addr.mk n2 0 none,
    Value.int
    IntKind.i32
    i144),
    (Addr.mk n2 1 none,
    Value.int
    IntKind.i64
    i145),
    (Addr.mk n2 0 none,
    Value.int
    IntKind.i32
    i32),
    (Addr.mk n2 1 none,
    Value.int
    IntKind.i64
    i33)]
    (T.call 18
    [Value.pointer o1,
    Value.agg
    (Array.mk
    [Value.int
    IntKind.i64
    i236,
    Value.int
    IntKind.i64
    i237])]
    fun v238 =>
    T.asB v238
    fun b239 =>
    T.chk
    [(Addr.mk n2 0
    none,
    Value.int
    IntKind.i32
    i200),
    (Addr.mk n2 1
    none,
    Value.int
    IntKind.i64
    i201),
    (Addr.mk n2 0
    none,
    Value.int
    IntKind.i32
    i144),
    (Addr.mk n2 1
    none,
    Value.int
    IntKind.i64
    i145),
    (Addr.mk n2 0
    none,
    Value.int
    IntKind.i32
    i32),
    (Addr.mk n2 1
    none,
    Value.int
    IntKind.i64
    i33)]
    (T.ite (!b239)
    (T.ret
    (Value.bool
    false))
    (T.next 0 []
    ([Value.pointer
    o1] =
    [Value.pointer
    o1] ∧ ([] : List Deferred) = []))))))))))))))))))))))))))))))))
theorem e9  : treeOf Try.prog Try.f9 (codeOf Try.f9) (.s .n (.s .n (.s .n (.c [] [1] (.s (.p [0, 1, 2, 3, 5, 6, 4, 7, 8, 9, 10, 11, 12, 14, 15, 13, 16, 17, 18, 19, 20, 21, 23, 24, 22, 25, 26, 27, 28, 29, 30, 31, 32, 33, 34, 35, 36, 37, 38, 39]) .n) .n)))) [] = t9 := by kernel_rfl
theorem c9  {w : World} {R : Ending → World → Prop} (h : t9.sem Try.prog R ρ0 w) : Calls Try.prog 9 #[] w R :=
  calls_of mixed Try.func9 rfl rfl (e9 ) h
def t10 (n0 n1 : Nat) (i2 : Int) (i3 : Int) (o4 : Option Addr) (n5 n6 : Nat) : T :=
  T.new (Obj.cells (Array.mk [Value.int IntKind.i64 i2, Value.int IntKind.i64 i3]) 27) fun n7 =>
  T.call 33 [Value.pointer (some (Addr.mk n0 n1 none))] fun v8 =>
    T.asB v8 fun b9 =>
    T.ite b9 (T.ret (Value.int IntKind.i64 2))
    (T.loop 0 [Value.int IntKind.i64 1] fun l10 j11 =>
    T.asI IntKind.i64 (List.headD l10 (Value.tuple (Array.mk []))) fun i12 =>
    T.ite (decide (i12 < (↑n5 : Int)))
    (T.drew
    (T.req (0 ≤ IntKind.wrap IntKind.i64 (i12 - 1) ∧ IntKind.wrap IntKind.i64 (i12 - 1) < (↑n5 : Int))
    (T.sm o4 fun n13 n14 =>
    T.ldI IntKind.i32 n13 (n14 + Int.toNat (IntKind.wrap IntKind.i64 (i12 - 1)) * 3) fun i15 =>
    T.ldI IntKind.i64 n13 (n14 + Int.toNat (IntKind.wrap IntKind.i64 (i12 - 1)) * 3 + 1) fun i16 =>
    T.req (0 ≤ i12 ∧ i12 < (↑n5 : Int))
    (T.sm o4 fun n17 n18 =>
    T.ldI IntKind.i32 n17 (n18 + Int.toNat i12 * 3) fun i19 =>
    T.ldI IntKind.i64 n17 (n18 + Int.toNat i12 * 3 + 1) fun i20 =>
    T.call 34
    [Value.agg (Array.mk [Value.int IntKind.i32 i15, Value.int IntKind.i64 i16]),
    Value.agg (Array.mk [Value.int IntKind.i32 i19, Value.int IntKind.i64 i20])]
    fun v21 =>
    T.asI IntKind.i64 v21 fun i22 =>
    T.chk []
    (T.ite (decide (i22 ≥ 0)) (T.ret (Value.int IntKind.i64 1))
    (T.next 0 [Value.int IntKind.i64 (IntKind.wrap IntKind.i64 (i12 + 1))]
    ([Value.pointer (some (Addr.mk n0 n1 none)), Value.slice o4 n5 n6, Value.pointer (some (Addr.mk n7 0 none))] =
    [Value.pointer (some (Addr.mk n0 n1 none)), Value.slice o4 n5 n6, Value.pointer (some (Addr.mk n7 0 none))] ∧ ([] : List Deferred) = [])))))))
    (T.drew
    (T.ldM n0 (n1 + 1) fun o23 =>
    T.ldI IntKind.i64 n7 0 fun i24 =>
    T.ldI IntKind.i64 n7 1 fun i25 =>
    T.run (Instr.lookup 69 (Value.map o23) (Value.agg (Array.mk [Value.int IntKind.i64 i24, Value.int IntKind.i64 i25])) true) fun v26 =>
    T.asU v26 fun l27 =>
    T.req (List.length l27 = 2)
    (T.asS (List.headD l27 (Value.tuple (Array.mk []))) fun o28 n29 n30 =>
    T.asB (List.headD (List.tail l27) (Value.tuple (Array.mk []))) fun b31 =>
    T.chk []
    (T.ite b31 (T.ret (Value.int IntKind.i64 5))
    (T.drew
    (T.ldM n0 (n1 + 1) fun o32 =>
    T.ldI IntKind.i64 n7 0 fun i33 =>
    T.ldI IntKind.i64 n7 1 fun i34 =>
    T.call 25 [Value.slice o4 n5 n6] fun v35 =>
    T.asS v35 fun o36 n37 n38 =>
    T.chk
    [(Addr.mk n7 0 none, Value.int IntKind.i64 i33), (Addr.mk n7 1 none, Value.int IntKind.i64 i34),
    (Addr.mk n0 (n1 + 1) none, Value.map o32)]
    (T.run
    (muV 69 (Value.map o32) (Value.agg (Array.mk [Value.int IntKind.i64 i33, Value.int IntKind.i64 i34]))
    (Value.slice o36 n37 n38))
    fun v39 =>
    T.chk []
    (T.drew
    (T.ldS n0 (n1 + 2) fun o40 n41 n42 =>
    T.ldI IntKind.i64 n7 0 fun i43 =>
    T.ldI IntKind.i64 n7 1 fun i44 =>
    T.new (Obj.cells (Array.mk [Value.int IntKind.i64 i43, Value.int IntKind.i64 i44]) 27) fun n45 =>
    T.chk [(Addr.mk n0 (n1 + 2) none, Value.slice o40 n41 n42)]
    (T.run
    (biV Builtin.append (Array.mk [33, 33]) 33
    (Array.mk [Value.slice o40 n41 n42, Value.slice (some (Addr.mk n45 0 none)) 1 1]))
    fun v46 =>
    T.asS v46 fun o47 n48 n49 =>
    T.chk []
    (T.st n0 (n1 + 2) (Value.slice o47 n48 n49)
    (T.chk []
    (T.loop 0 [Value.int IntKind.i64 0] fun l50 j51 =>
    T.asI IntKind.i64 (List.headD l50 (Value.tuple (Array.mk []))) fun i52 =>
    T.ite (decide (i52 < (↑n5 : Int)))
    (T.req (0 ≤ i52 ∧ i52 < (↑n5 : Int))
    (T.sm o4 fun n53 n54 =>
    T.ldI IntKind.i32 n53 (n54 + Int.toNat i52 * 3) fun i55 =>
    T.ldI IntKind.i64 n53 (n54 + Int.toNat i52 * 3 + 1) fun i56 =>
    T.ldB n53 (n54 + Int.toNat i52 * 3 + 2) fun b57 =>
    T.new
    (Obj.cells
    (Array.mk
    [Value.int IntKind.i32 0, Value.int IntKind.i64 0,
    Value.bool false])
    63)
    fun n58 =>
    T.st n58 0 (Value.int IntKind.i32 i55)
    (T.st n58 1 (Value.int IntKind.i64 i56)
    (T.st n58 2 (Value.bool b57)
    (T.drew
    (T.ldM n0 n1 fun o59 =>
    T.ldI IntKind.i32 n58 0 fun i60 =>
    T.ldI IntKind.i64 n58 1 fun i61 =>
    T.ldI IntKind.i64 n7 0 fun i62 =>
    T.ldI IntKind.i64 n7 1 fun i63 =>
    T.ldB n58 2 fun b64 =>
    T.new
    (Obj.cells
    (Array.mk
    [Value.int IntKind.i64 i62,
    Value.int IntKind.i64 i63,
    Value.bool b64, Value.bool false])
    43)
    fun n65 =>
    T.chk
    [(Addr.mk n58 2 none, Value.bool b64),
    (Addr.mk n7 0 none,
    Value.int IntKind.i64 i62),
    (Addr.mk n7 1 none,
    Value.int IntKind.i64 i63),
    (Addr.mk n58 0 none,
    Value.int IntKind.i32 i60),
    (Addr.mk n58 1 none,
    Value.int IntKind.i64 i61),
    (Addr.mk n0 n1 none, Value.map o59)]
    (T.run
    (Instr.mapEntry 68 (Value.map o59)
    (Value.agg
    (Array.mk
    [Value.int IntKind.i32 i60,
    Value.int IntKind.i64 i61])))
    fun v66 =>
    T.asU v66 fun l67 =>
    T.req (List.length l67 = 2)
    (T.asS
    (List.getD l67 0
    (Value.tuple (Array.mk [])))
    fun o68 n69 n70 =>
    T.asI IntKind.i64
    (List.getD l67 1
    (Value.tuple (Array.mk [])))
    fun i71 =>
    T.chk []
    (T.run
    (biV Builtin.append
    (Array.mk [40, 40]) 40
    (Array.mk
    [Value.slice o68 n69
    n70,
    Value.slice
    (some
    (Addr.mk n65 0
    none))
    1 1]))
    fun v72 =>
    T.asS v72 fun o73 n74 n75 =>
    T.chk []
    (T.run
    (esV 68
    (Value.map o59)
    (Value.int
    IntKind.i64 i71)
    (Value.slice o73 n74
    n75))
    fun v76 =>
    T.chk []
    (T.next 0
    [Value.int
    IntKind.i64
    (IntKind.wrap
    IntKind.i64
    (i52 + 1))]
    ([Value.pointer
    (some
    (Addr.mk
    n0 n1
    none)),
    Value.pointer
    (some
    (Addr.mk
    n7 0
    none)),
    Value.slice
    o4 n5 n6,
    Value.int
    IntKind.i64
    (↑n5 :
    Int)] =
    [Value.pointer
    (some
    (Addr.mk
    n0 n1
    none)),
    Value.pointer
    (some
    (Addr.mk
    n7 0
    none)),
    Value.slice
    o4 n5 n6,
    Value.int
    IntKind.i64
    (↑n5 :
    Int)] ∧ ([] : List Deferred) = []))))))))))))
    (T.ret (Value.int IntKind.i64 0))))))))))))))))
theorem e10 (n0 n1 : Nat) (i2 : Int) (i3 : Int) (o4 : Option Addr) (n5 n6 : Nat) : treeOf Try.prog Try.f10 (codeOf Try.f10) (.s .n (.s .n (.s (.s .n (.u (.l [(7, .int .i64)] [0, 2, 4] (.s .n (.s (.u (.s (.p [0, 1, 2, 3, 4, 5, 6, 7, 8, 9, 10, 11, 12]) .n)) .n))))) (.s (.s (.p [0, 1, 2, 3, 4, 5, 6, 7, 8, 9, 10]) .n) (.s (.p [0, 1, 2, 3, 4, 5, 6, 7]) (.s (.p [0, 1, 2, 3, 4, 5, 6, 7, 8, 9, 10]) (.s (.s .n (.u (.l [(62, .int .i64)] [0, 4, 60, 61] (.s .n (.s .n (.s (.u (.s .n (.p [0, 1, 2, 3, 4, 5, 6, 7, 8, 9, 10, 11, 12, 14, 13, 15]))) .n)))))) .n))))))) [.p n0 n1, .v (.agg #[.int .i64 i2, .int .i64 i3]), .v (.slice o4 n5 n6)] = (t10 n0 n1 i2 i3 o4 n5 n6) := by kernel_rfl
theorem c10 (n0 n1 : Nat) (i2 : Int) (i3 : Int) (o4 : Option Addr) (n5 n6 : Nat) {w : World} {R : Ending → World → Prop} (h : (t10 n0 n1 i2 i3 o4 n5 n6).sem Try.prog R ρ0 w) : Calls Try.prog 10 #[.pointer (some ⟨n0, n1, none⟩), .agg #[.int .i64 i2, .int .i64 i3], .slice o4 n5 n6] w R :=
  calls_of mixed Try.func10 rfl rfl (e10 n0 n1 i2 i3 o4 n5 n6) h
def t12 (n0 n1 : Nat) : T :=
  T.call 33 [Value.pointer (some (Addr.mk n0 n1 none))] fun v2 =>
  T.asB v2 fun b3 =>
    T.ite b3 (T.ret (Value.slice none 0 0))
    (T.ldM n0 n1 fun o4 =>
    T.call 43 [Value.map o4] fun v5 =>
    T.asC 69 v5 fun l6 =>
    T.req (List.length l6 = 1)
    (T.asP (List.headD l6 (Value.tuple (Array.mk []))) fun o7 =>
    T.call 42 [Value.func (Fn.func 69) (Array.mk []) (Array.mk [Value.pointer o7])] fun v8 =>
    T.asS v8 fun o9 n10 n11 => T.call 41 [Value.slice o9 n10 n11] fun v12 => T.asS v12 fun o13 n14 n15 => T.ret (Value.slice o13 n14 n15)))
theorem e12 (n0 n1 : Nat) : treeOf Try.prog Try.f12 (codeOf Try.f12) .n [.p n0 n1] = (t12 n0 n1) := by kernel_rfl
theorem c12 (n0 n1 : Nat) {w : World} {R : Ending → World → Prop} (h : (t12 n0 n1).sem Try.prog R ρ0 w) : Calls Try.prog 12 #[.pointer (some ⟨n0, n1, none⟩)] w R :=
  calls_of mixed Try.func12 rfl rfl (e12 n0 n1) h
def t13 (n0 n1 : Nat) (i2 : Int) (i3 : Int) : T :=
  T.new (Obj.cells (Array.mk [Value.int IntKind.i32 i2, Value.int IntKind.i64 i3]) 39) fun n4 =>
  T.call 33 [Value.pointer (some (Addr.mk n0 n1 none))] fun v5 =>
    T.asB v5 fun b6 =>
    T.ite b6 (T.ret (Value.slice none 0 0))
    (T.drew
    (T.ldM n0 n1 fun o7 =>
    T.ldI IntKind.i32 n4 0 fun i8 =>
    T.ldI IntKind.i64 n4 1 fun i9 =>
    T.run (Instr.lookup 68 (Value.map o7) (Value.agg (Array.mk [Value.int IntKind.i32 i8, Value.int IntKind.i64 i9])) false) fun v10 =>
    T.asS v10 fun o11 n12 n13 =>
    T.chk []
    (T.call 37 [Value.slice o11 n12 n13] fun v14 =>
    T.asS v14 fun o15 n16 n17 =>
    T.chk []
    (T.loop 0 [Value.bool true, Value.int IntKind.i64 0] fun l18 j19 =>
    T.asB (List.headD l18 (Value.tuple (Array.mk []))) fun b20 =>
    T.asI IntKind.i64 (List.headD (List.tail l18) (Value.tuple (Array.mk []))) fun i21 =>
    T.ite (decide (i21 < (↑n16 : Int)))
    (T.blk 1
    (fun l22 j23 =>
    T.asB (List.headD l22 (Value.tuple (Array.mk []))) fun b24 =>
    T.ite (i21 == 0)
    (T.req (0 ≤ i21 ∧ i21 < (↑n16 : Int))
    (T.sm o15 fun n25 n26 =>
    T.st n25 (n26 + Int.toNat i21 * 4 + 3) (Value.bool true)
    (T.next 0 [Value.bool b24, Value.int IntKind.i64 (IntKind.wrap IntKind.i64 (i21 + 1))]
    ([Value.slice o15 n16 n17, Value.int IntKind.i64 (↑n16 : Int)] =
    [Value.slice o15 n16 n17, Value.int IntKind.i64 (↑n16 : Int)] ∧ ([] : List Deferred) = []))))
    (T.req (0 ≤ i21 ∧ i21 < (↑n16 : Int))
    (T.sm o15 fun n27 n28 =>
    T.st n27 (n28 + Int.toNat i21 * 4 + 3) (Value.bool b24)
    (T.next 0 [Value.bool b24, Value.int IntKind.i64 (IntKind.wrap IntKind.i64 (i21 + 1))]
    ([Value.slice o15 n16 n17, Value.int IntKind.i64 (↑n16 : Int)] =
    [Value.slice o15 n16 n17, Value.int IntKind.i64 (↑n16 : Int)] ∧ ([] : List Deferred) = [])))))
    (T.ite b20
    (T.req (0 ≤ i21 ∧ i21 < (↑n16 : Int))
    (T.sm o15 fun n29 n30 =>
    T.ldB n29 (n30 + Int.toNat i21 * 4 + 2) fun b31 =>
    T.next 1 [Value.bool !b31]
    ([Value.slice o15 n16 n17, Value.int IntKind.i64 i21, Value.int IntKind.i64 (↑n16 : Int),
    Value.int IntKind.i64 i21] =
    [Value.slice o15 n16 n17, Value.int IntKind.i64 i21, Value.int IntKind.i64 (↑n16 : Int),
    Value.int IntKind.i64 i21] ∧ ([] : List Deferred) = [])))
    (T.next 1 [Value.bool false]
    ([Value.slice o15 n16 n17, Value.int IntKind.i64 i21, Value.int IntKind.i64 (↑n16 : Int), Value.int IntKind.i64 i21] =
    [Value.slice o15 n16 n17, Value.int IntKind.i64 i21, Value.int IntKind.i64 (↑n16 : Int),
    Value.int IntKind.i64 i21] ∧ ([] : List Deferred) = []))))
    (T.ret (Value.slice o15 n16 n17))))))
theorem e13 (n0 n1 : Nat) (i2 : Int) (i3 : Int) : treeOf Try.prog Try.f13 (codeOf Try.f13) (.s .n (.s .n (.s (.p [0, 1, 2, 3, 4, 5, 6, 7]) (.s .n (.s (.s .n (.u (.l [(6, .bool), (19, .int .i64)] [5, 18] (.s .n (.s .n (.s (.u (.s .n (.c [(6, .bool)] [5, 7, 18, 19] .n .n))) .n)))))) .n))))) [.p n0 n1, .v (.agg #[.int .i32 i2, .int .i64 i3])] = (t13 n0 n1 i2 i3) := by kernel_rfl
theorem c13 (n0 n1 : Nat) (i2 : Int) (i3 : Int) {w : World} {R : Ending → World → Prop} (h : (t13 n0 n1 i2 i3).sem Try.prog R ρ0 w) : Calls Try.prog 13 #[.pointer (some ⟨n0, n1, none⟩), .agg #[.int .i32 i2, .int .i64 i3]] w R :=
  calls_of mixed Try.func13 rfl rfl (e13 n0 n1 i2 i3) h
def t14 (i0 : Int) : T :=
  T.new (Obj.cells (Array.mk [Value.int IntKind.i64 0, Value.int IntKind.i64 0]) 27) fun n1 =>
  T.st n1 0 (Value.int IntKind.i64 i0)
    (T.st n1 1 (Value.int IntKind.i64 0)
    (T.ldI IntKind.i64 n1 0 fun i2 => T.ldI IntKind.i64 n1 1 fun i3 => T.ret (Value.agg (Array.mk [Value.int IntKind.i64 i2, Value.int IntKind.i64 i3]))))
theorem e14 (i0 : Int) : treeOf Try.prog Try.f14 (codeOf Try.f14) .n [.v (.int .i64 i0)] = (t14 i0) := by kernel_rfl
theorem c14 (i0 : Int) {w : World} {R : Ending → World → Prop} (h : (t14 i0).sem Try.prog R ρ0 w) : Calls Try.prog 14 #[.int .i64 i0] w R :=
  calls_of mixed Try.func14 rfl rfl (e14 i0) h
def t15 (o0 : Option Addr) (n1 n2 : Nat) : T :=
  T.loop 0 [Value.int IntKind.i64 0] fun l3 j4 =>
  T.asI IntKind.i64 (List.headD l3 (Value.tuple (Array.mk []))) fun i5 =>
    T.ite (decide (i5 < (↑n1 : Int)))
    (T.drew
    (T.ite (decide (i5 > 0))
    (T.req (0 ≤ IntKind.wrap IntKind.i64 (i5 - 1) ∧ IntKind.wrap IntKind.i64 (i5 - 1) < (↑n1 : Int))
    (T.sm o0 fun n6 n7 =>
    T.ldI IntKind.i32 n6 (n7 + Int.toNat (IntKind.wrap IntKind.i64 (i5 - 1)) * 3) fun i8 =>
    T.ldI IntKind.i64 n6 (n7 + Int.toNat (IntKind.wrap IntKind.i64 (i5 - 1)) * 3 + 1) fun i9 =>
    T.req (0 ≤ i5 ∧ i5 < (↑n1 : Int))
    (T.sm o0 fun n10 n11 =>
    T.ldI IntKind.i32 n10 (n11 + Int.toNat i5 * 3) fun i12 =>
    T.ldI IntKind.i64 n10 (n11 + Int.toNat i5 * 3 + 1) fun i13 =>
    T.call 44
    [Value.agg (Array.mk [Value.int IntKind.i32 i8, Value.int IntKind.i64 i9]),
    Value.agg (Array.mk [Value.int IntKind.i32 i12, Value.int IntKind.i64 i13])]
    fun v14 =>
    T.asB v14 fun b15 =>
    T.chk []
    (T.ite (!b15) (T.ret (Value.bool false))
    (T.next 0 [Value.int IntKind.i64 (IntKind.wrap IntKind.i64 (i5 + 1))]
    ([Value.slice o0 n1 n2, Value.int IntKind.i64 (↑n1 : Int)] = [Value.slice o0 n1 n2, Value.int IntKind.i64 (↑n1 : Int)] ∧ ([] : List Deferred) = []))))))
    (T.chk []
    (T.next 0 [Value.int IntKind.i64 (IntKind.wrap IntKind.i64 (i5 + 1))]
    ([Value.slice o0 n1 n2, Value.int IntKind.i64 (↑n1 : Int)] = [Value.slice o0 n1 n2, Value.int IntKind.i64 (↑n1 : Int)] ∧ ([] : List Deferred) = [])))))
    (T.ret (Value.bool true))
theorem e15 (o0 : Option Addr) (n1 n2 : Nat) : treeOf Try.prog Try.f15 (codeOf Try.f15) (.s .n (.s (.s .n (.u (.l [(6, .int .i64)] [0, 5] (.s .n (.s .n (.s (.u (.s .n (.s (.p [0, 1, 2, 3, 4, 5, 6, 7, 8, 9, 10, 11, 12, 13, 14, 15, 16]) .n))) .n)))))) .n)) [.v (.slice o0 n1 n2)] = (t15 o0 n1 n2) := by kernel_rfl
theorem c15 (o0 : Option Addr) (n1 n2 : Nat) {w : World} {R : Ending → World → Prop} (h : (t15 o0 n1 n2).sem Try.prog R ρ0 w) : Calls Try.prog 15 #[.slice o0 n1 n2] w R :=
  calls_of mixed Try.func15 rfl rfl (e15 o0 n1 n2) h
def t17 (n0 n1 : Nat) : T :=
  T.new (Obj.cells (Array.mk [Value.slice none 0 0]) 33) fun n2 =>
  T.call 33 [Value.pointer (some (Addr.mk n0 n1 none))] fun v3 =>
    T.asB v3 fun b4 =>
    T.ite (!b4)
    (T.call 35 [Value.pointer (some (Addr.mk n0 n1 none))] fun v5 =>
    T.asS v5 fun o6 n7 n8 =>
    T.st n2 0 (Value.slice o6 n7 n8) (T.ret (Value.func (Fn.func 46) (Array.mk []) (Array.mk [Value.pointer (some (Addr.mk n2 0 none))]))))
    (T.ret (Value.func (Fn.func 46) (Array.mk []) (Array.mk [Value.pointer (some (Addr.mk n2 0 none))])))
theorem e17 (n0 n1 : Nat) : treeOf Try.prog Try.f17 (codeOf Try.f17) .n [.p n0 n1] = (t17 n0 n1) := by kernel_rfl
theorem c17 (n0 n1 : Nat) {w : World} {R : Ending → World → Prop} (h : (t17 n0 n1).sem Try.prog R ρ0 w) : Calls Try.prog 17 #[.pointer (some ⟨n0, n1, none⟩)] w R :=
  calls_of mixed Try.func17 rfl rfl (e17 n0 n1) h
def t18 (n0 n1 : Nat) (i2 : Int) (i3 : Int) : T :=
  T.new (Obj.cells (Array.mk [Value.pointer (some (Addr.mk n0 n1 none))]) 23) fun n4 =>
  T.new (Obj.cells (Array.mk [Value.int IntKind.i64 i2, Value.int IntKind.i64 i3]) 27) fun n5 =>
    T.ldP n4 0 fun o6 =>
    T.call 33 [Value.pointer o6] fun v7 =>
    T.asB v7 fun b8 =>
    T.ite b8 (T.ret (Value.bool false))
    (T.drew
    (T.ldP n4 0 fun o9 =>
    T.sm o9 fun n10 n11 =>
    T.ldM n10 (n11 + 1) fun o12 =>
    T.ldI IntKind.i64 n5 0 fun i13 =>
    T.ldI IntKind.i64 n5 1 fun i14 =>
    T.run (Instr.lookup 69 (Value.map o12) (Value.agg (Array.mk [Value.int IntKind.i64 i13, Value.int IntKind.i64 i14])) true) fun v15 =>
    T.asU v15 fun l16 =>
    T.req (List.length l16 = 2)
    (T.asS (List.headD l16 (Value.tuple (Array.mk []))) fun o17 n18 n19 =>
    T.asB (List.headD (List.tail l16) (Value.tuple (Array.mk []))) fun b20 =>
    T.chk [(Addr.mk n4 0 none, Value.pointer o9)]
    (T.ite b20
    (T.call 47
    [Value.slice o17 n18 n19,
    Value.func (Fn.func 48) (Array.mk [])
    (Array.mk [Value.pointer (some (Addr.mk n4 0 none)), Value.pointer (some (Addr.mk n5 0 none))])]
    fun v21 => T.asB v21 fun b22 => T.ret (Value.bool !b22))
    (T.ret (Value.bool false))))))
theorem e18 (n0 n1 : Nat) (i2 : Int) (i3 : Int) : treeOf Try.prog Try.f18 (codeOf Try.f18) (.s .n (.s .n (.s (.p [0, 1, 2, 3, 4, 5, 6, 7, 8, 9, 10]) .n))) [.p n0 n1, .v (.agg #[.int .i64 i2, .int .i64 i3])] = (t18 n0 n1 i2 i3) := by kernel_rfl
theorem c18 (n0 n1 : Nat) (i2 : Int) (i3 : Int) {w : World} {R : Ending → World → Prop} (h : (t18 n0 n1 i2 i3).sem Try.prog R ρ0 w) : Calls Try.prog 18 #[.pointer (some ⟨n0, n1, none⟩), .agg #[.int .i64 i2, .int .i64 i3]] w R :=
  calls_of mixed Try.func18 rfl rfl (e18 n0 n1 i2 i3) h
def t19 (o0 : Option Addr) (n1 n2 : Nat) (i3 : Int) (i4 : Int) : T :=
  T.new (Obj.cells (Array.mk [Value.int IntKind.i64 i3, Value.int IntKind.i64 i4]) 27) fun n5 =>
  T.ldI IntKind.i64 n5 0 fun i6 =>
    T.ldI IntKind.i64 n5 1 fun i7 =>
    T.call 50 [Value.slice o0 n1 n2, Value.agg (Array.mk [Value.int IntKind.i64 i6, Value.int IntKind.i64 i7])] fun v8 =>
    T.asI IntKind.i64 v8 fun i9 => T.ret (Value.bool (decide (i9 ≥ 0)))
theorem e19 (o0 : Option Addr) (n1 n2 : Nat) (i3 : Int) (i4 : Int) : treeOf Try.prog Try.f19 (codeOf Try.f19) .n [.v (.slice o0 n1 n2), .v (.agg #[.int .i64 i3, .int .i64 i4])] = (t19 o0 n1 n2 i3 i4) := by kernel_rfl
theorem c19 (o0 : Option Addr) (n1 n2 : Nat) (i3 : Int) (i4 : Int) {w : World} {R : Ending → World → Prop} (h : (t19 o0 n1 n2 i3 i4).sem Try.prog R ρ0 w) : Calls Try.prog 19 #[.slice o0 n1 n2, .agg #[.int .i64 i3, .int .i64 i4]] w R :=
  calls_of mixed Try.func19 rfl rfl (e19 o0 n1 n2 i3 i4) h
def t22 (o0 : Option Addr) (n1 n2 : Nat) (i3 : Int) (i4 : Int) : T :=
  T.req (0 ≤ (↑n1 : Int) ∧ (↑n1 : Int) ≤ (↑n2 : Int) ∧ 0 ≤ i4 ∧ i4 ≤ (↑(Int.toNat (↑n1 : Int)) : Int) ∧ 0 ≤ i3 ∧ i3 ≤ (↑(Int.toNat i4) : Int))
  (T.ite (i3 == i4) (T.ret (Value.slice o0 n1 n2))
    (T.drew
      (T.req (0 ≤ i3 ∧ i3 ≤ (↑n2 : Int))
        (T.req (0 ≤ i4 ∧ i4 ≤ (↑n1 : Int))
          (T.run
            (biV Builtin.append (Array.mk [33, 33]) 33
              (Array.mk
                [Value.slice (sliceBase o0 0 n2 2) (Int.toNat i3) n2, Value.slice (sliceBase o0 (Int.toNat i4) n2 2) (n1 - Int.toNat i4) (n2 - Int.toNat i4)]))
            fun v5 =>
            T.asS v5 fun o6 n7 n8 =>
              T.chk []
                (T.req (0 ≤ (↑n1 : Int) ∧ (↑n1 : Int) ≤ (↑n8 : Int) ∧ 0 ≤ (↑n7 : Int) ∧ (↑n7 : Int) ≤ (↑n1 : Int))
                  (T.run
                    (biV Builtin.clear (Array.mk [33]) 0
                      (Array.mk
                        [Value.slice (sliceBase o6 (Int.toNat (↑n7 : Int)) n8 2) (Int.toNat (↑n1 : Int) - Int.toNat (↑n7 : Int)) (n8 - Int.toNat (↑n7 : Int))]))
                    fun v9 => T.ret (Value.slice o6 n7 n8))))))))
theorem e22 (o0 : Option Addr) (n1 n2 : Nat) (i3 : Int) (i4 : Int) : treeOf Try.prog Try.f22 (codeOf Try.f22) (.s .n (.s .n (.s .n (.s .n (.s (.p [0, 1, 2, 3, 4, 5, 6, 7]) .n))))) [.v (.slice o0 n1 n2), .v (.int .i64 i3), .v (.int .i64 i4)] = (t22 o0 n1 n2 i3 i4) := by kernel_rfl
theorem c22 (o0 : Option Addr) (n1 n2 : Nat) (i3 : Int) (i4 : Int) {w : World} {R : Ending → World → Prop} (h : (t22 o0 n1 n2 i3 i4).sem Try.prog R ρ0 w) : Calls Try.prog 22 #[.slice o0 n1 n2, .int .i64 i3, .int .i64 i4] w R :=
  calls_of mixed Try.func22 rfl rfl (e22 o0 n1 n2 i3 i4) h
def t23 (n0 n1 : Nat) : T :=
  T.call 33 [Value.pointer (some (Addr.mk n0 n1 none))] fun v2 =>
  T.asB v2 fun b3 => T.ite b3 (T.ret (Value.int IntKind.i64 0)) (T.ldS n0 (n1 + 2) fun o4 n5 n6 => T.ret (Value.int IntKind.i64 (↑n5 : Int)))
theorem e23 (n0 n1 : Nat) : treeOf Try.prog Try.f23 (codeOf Try.f23) .n [.p n0 n1] = (t23 n0 n1) := by kernel_rfl
theorem c23 (n0 n1 : Nat) {w : World} {R : Ending → World → Prop} (h : (t23 n0 n1).sem Try.prog R ρ0 w) : Calls Try.prog 23 #[.pointer (some ⟨n0, n1, none⟩)] w R :=
  calls_of mixed Try.func23 rfl rfl (e23 n0 n1) h
def t24  : T :=
  T.new (Obj.cells (Array.mk [Value.slice none 0 0]) 98) fun n0 => T.ret (Value.pointer (some (Addr.mk n0 0 none)))
theorem e24  : treeOf Try.prog Try.f24 (codeOf Try.f24) .n [] = t24 := by kernel_rfl
theorem c24  {w : World} {R : Ending → World → Prop} (h : t24.sem Try.prog R ρ0 w) : Calls Try.prog 24 #[] w R :=
  calls_of mixed Try.func24 rfl rfl (e24 ) h
def t25 (o0 : Option Addr) (n1 n2 : Nat) : T :=
  T.ite (Option.isNone o0) (T.ret (Value.slice none 0 0))
  (T.new (Obj.cells (Array.mk []) 63) fun n3 =>
    T.run (biV Builtin.append (Array.mk [28, 28]) 28 (Array.mk [Value.slice (some (Addr.mk n3 0 none)) 0 0, Value.slice o0 n1 n2])) fun v4 =>
    T.asS v4 fun o5 n6 n7 => T.ret (Value.slice o5 n6 n7))
theorem e25 (o0 : Option Addr) (n1 n2 : Nat) : treeOf Try.prog Try.f25 (codeOf Try.f25) .n [.v (.slice o0 n1 n2)] = (t25 o0 n1 n2) := by kernel_rfl
theorem c25 (o0 : Option Addr) (n1 n2 : Nat) {w : World} {R : Ending → World → Prop} (h : (t25 o0 n1 n2).sem Try.prog R ρ0 w) : Calls Try.prog 25 #[.slice o0 n1 n2] w R :=
  calls_of mixed Try.func25 rfl rfl (e25 o0 n1 n2) h
def t26 (n0 n1 : Nat) (i2 : Int) (i3 : Int) (o4 : Option Addr) (n5 n6 : Nat) : T :=
  T.new (Obj.cells (Array.mk [Value.int IntKind.i64 i2, Value.int IntKind.i64 i3]) 27) fun n7 =>
  T.loop 0 [Value.int IntKind.i64 1] fun l8 j9 =>
    T.asI IntKind.i64 (List.headD l8 (Value.tuple (Array.mk []))) fun i10 =>
    T.ite (decide (i10 < (↑n5 : Int)))
    (T.drew
    (T.req (0 ≤ IntKind.wrap IntKind.i64 (i10 - 1) ∧ IntKind.wrap IntKind.i64 (i10 - 1) < (↑n5 : Int))
    (T.sm o4 fun n11 n12 =>
    T.ldI IntKind.i32 n11 (n12 + Int.toNat (IntKind.wrap IntKind.i64 (i10 - 1)) * 3) fun i13 =>
    T.ldI IntKind.i64 n11 (n12 + Int.toNat (IntKind.wrap IntKind.i64 (i10 - 1)) * 3 + 1) fun i14 =>
    T.req (0 ≤ i10 ∧ i10 < (↑n5 : Int))
    (T.sm o4 fun n15 n16 =>
    T.ldI IntKind.i32 n15 (n16 + Int.toNat i10 * 3) fun i17 =>
    T.ldI IntKind.i64 n15 (n16 + Int.toNat i10 * 3 + 1) fun i18 =>
    T.call 44
    [Value.agg (Array.mk [Value.int IntKind.i32 i13, Value.int IntKind.i64 i14]),
    Value.agg (Array.mk [Value.int IntKind.i32 i17, Value.int IntKind.i64 i18])]
    fun v19 =>
    T.asB v19 fun b20 =>
    T.chk []
    (T.ite (!b20) (T.ret (Value.int IntKind.i64 1))
    (T.next 0 [Value.int IntKind.i64 (IntKind.wrap IntKind.i64 (i10 + 1))]
    ([Value.pointer (some (Addr.mk n0 n1 none)), Value.slice o4 n5 n6, Value.pointer (some (Addr.mk n7 0 none))] =
    [Value.pointer (some (Addr.mk n0 n1 none)), Value.slice o4 n5 n6, Value.pointer (some (Addr.mk n7 0 none))] ∧ ([] : List Deferred) = [])))))))
    (T.ldI IntKind.i64 n7 0 fun i21 =>
    T.ldI IntKind.i64 n7 1 fun i22 =>
    T.call 52 [Value.pointer (some (Addr.mk n0 n1 none)), Value.agg (Array.mk [Value.int IntKind.i64 i21, Value.int IntKind.i64 i22])] fun v23 =>
    T.asI IntKind.i64 v23 fun i24 =>
    T.ite (decide (i24 ≥ 0)) (T.ret (Value.int IntKind.i64 5))
    (T.drew
    (T.ldS n0 n1 fun o25 n26 n27 =>
    T.ldI IntKind.i64 n7 0 fun i28 =>
    T.ldI IntKind.i64 n7 1 fun i29 =>
    T.run (biV Builtin.append (Array.mk [28, 28]) 28 (Array.mk [Value.slice none 0 0, Value.slice o4 n5 n6])) fun v30 =>
    T.asS v30 fun o31 n32 n33 =>
    T.chk
    [(Addr.mk n7 0 none, Value.int IntKind.i64 i28), (Addr.mk n7 1 none, Value.int IntKind.i64 i29),
    (Addr.mk n0 n1 none, Value.slice o25 n26 n27)]
    (T.new (Obj.cells (Array.mk [Value.int IntKind.i64 i28, Value.int IntKind.i64 i29, Value.slice o31 n32 n33]) 101) fun n34 =>
    T.chk
    [(Addr.mk n7 0 none, Value.int IntKind.i64 i28), (Addr.mk n7 1 none, Value.int IntKind.i64 i29),
    (Addr.mk n0 n1 none, Value.slice o25 n26 n27)]
    (T.run
    (biV Builtin.append (Array.mk [96, 96]) 96
    (Array.mk [Value.slice o25 n26 n27, Value.slice (some (Addr.mk n34 0 none)) 1 1]))
    fun v35 =>
    T.asS v35 fun o36 n37 n38 =>
    T.chk [(Addr.mk n7 0 none, Value.int IntKind.i64 i28), (Addr.mk n7 1 none, Value.int IntKind.i64 i29)]
    (T.st n0 n1 (Value.slice o36 n37 n38) (T.chk [] (T.ret (Value.int IntKind.i64 0)))))))))
theorem e26 (n0 n1 : Nat) (i2 : Int) (i3 : Int) (o4 : Option Addr) (n5 n6 : Nat) : treeOf Try.prog Try.f26 (codeOf Try.f26) (.s .n (.s (.s .n (.u (.l [(7, .int .i64)] [0, 2, 4] (.s .n (.s (.u (.s (.p [0, 1, 2, 3, 4, 5, 6, 7, 8, 9, 10, 11, 12]) .n)) .n))))) (.s .n (.s (.p [0, 1, 2, 3, 4, 5, 6, 7, 8, 9, 10, 11, 12, 13]) .n)))) [.p n0 n1, .v (.agg #[.int .i64 i2, .int .i64 i3]), .v (.slice o4 n5 n6)] = (t26 n0 n1 i2 i3 o4 n5 n6) := by kernel_rfl
theorem c26 (n0 n1 : Nat) (i2 : Int) (i3 : Int) (o4 : Option Addr) (n5 n6 : Nat) {w : World} {R : Ending → World → Prop} (h : (t26 n0 n1 i2 i3 o4 n5 n6).sem Try.prog R ρ0 w) : Calls Try.prog 26 #[.pointer (some ⟨n0, n1, none⟩), .agg #[.int .i64 i2, .int .i64 i3], .slice o4 n5 n6] w R :=
  calls_of mixed Try.func26 rfl rfl (e26 n0 n1 i2 i3 o4 n5 n6) h
def t28 (n0 n1 : Nat) (n2 n3 : Nat) (i4 : Int) (i5 : Int) (i6 : Int) (o7 : Option Addr) (n8 n9 : Nat) : T :=
  T.new (Obj.cells (Array.mk [Value.int IntKind.i64 i4, Value.int IntKind.i64 i5, Value.int IntKind.i64 i6, Value.slice o7 n8 n9]) 30) fun n10 =>
  T.ldI IntKind.i64 n10 0 fun i11 =>
    T.ite (i11 == 0)
    (T.drew
    (T.ldI IntKind.i64 n10 1 fun i12 =>
    T.ldI IntKind.i64 n10 2 fun i13 =>
    T.ldS n10 3 fun o14 n15 n16 =>
    T.ldI IntKind.i64 n10 1 fun i17 =>
    T.ldI IntKind.i64 n10 2 fun i18 =>
    T.ldS n10 3 fun o19 n20 n21 =>
    T.call 10
    [Value.pointer (some (Addr.mk n0 n1 none)), Value.agg (Array.mk [Value.int IntKind.i64 i12, Value.int IntKind.i64 i13]),
    Value.slice o14 n15 n16]
    fun v22 =>
    T.asI IntKind.i64 v22 fun i23 =>
    T.chk
    [(Addr.mk n10 3 none, Value.slice o19 n20 n21), (Addr.mk n10 1 none, Value.int IntKind.i64 i17),
    (Addr.mk n10 2 none, Value.int IntKind.i64 i18)]
    (T.call 26
    [Value.pointer (some (Addr.mk n2 n3 none)), Value.agg (Array.mk [Value.int IntKind.i64 i17, Value.int IntKind.i64 i18]),
    Value.slice o19 n20 n21]
    fun v24 =>
    T.asI IntKind.i64 v24 fun i25 =>
    T.chk [] (T.ret (Value.tuple (Array.mk [Value.pointer (some (Addr.mk n0 n1 none)), Value.bool (i23 == i25)]))))))
    (T.ite (i11 == 1)
    (T.ldI IntKind.i64 n10 1 fun i26 =>
    T.ldI IntKind.i64 n10 2 fun i27 =>
    T.call 11 [Value.pointer (some (Addr.mk n0 n1 none)), Value.agg (Array.mk [Value.int IntKind.i64 i26, Value.int IntKind.i64 i27])] fun v28 =>
    T.asU v28 fun l29 =>
    T.req (List.length l29 = 2)
    (T.asS (List.headD l29 (Value.tuple (Array.mk []))) fun o30 n31 n32 =>
    T.asI IntKind.i64 (List.headD (List.tail l29) (Value.tuple (Array.mk []))) fun i33 =>
    T.ldI IntKind.i64 n10 1 fun i34 =>
    T.ldI IntKind.i64 n10 2 fun i35 =>
    T.call 60 [Value.pointer (some (Addr.mk n2 n3 none)), Value.agg (Array.mk [Value.int IntKind.i64 i34, Value.int IntKind.i64 i35])]
    fun v36 =>
    T.asU v36 fun l37 =>
    T.req (List.length l37 = 2)
    (T.asS (List.headD l37 (Value.tuple (Array.mk []))) fun o38 n39 n40 =>
    T.asI IntKind.i64 (List.headD (List.tail l37) (Value.tuple (Array.mk []))) fun i41 =>
    T.call 32 [Value.slice o30 n31 n32, Value.slice o38 n39 n40] fun v42 =>
    T.asB v42 fun b43 =>
    T.ite b43 (T.ret (Value.tuple (Array.mk [Value.pointer (some (Addr.mk n0 n1 none)), Value.bool (i33 == i41)])))
    (T.ret (Value.tuple (Array.mk [Value.pointer (some (Addr.mk n0 n1 none)), Value.bool false]))))))
    (T.call 31 [Value.pointer (some (Addr.mk n0 n1 none))] fun v44 =>
    T.asP v44 fun o45 =>
    T.ite (Option.isNone o45) (T.ret (Value.tuple (Array.mk [Value.pointer (some (Addr.mk n0 n1 none)), Value.bool false])))
    (T.ldS n10 3 fun o46 n47 n48 =>
    T.call 10
    [Value.pointer (some (Addr.mk n0 n1 none)), Value.agg (Array.mk [Value.int IntKind.i64 (-7), Value.int IntKind.i64 0]),
    Value.slice o46 n47 n48]
    fun v49 =>
    T.asI IntKind.i64 v49 fun i50 =>
    T.ldI IntKind.i64 n10 1 fun i51 =>
    T.ldI IntKind.i64 n10 2 fun i52 =>
    T.call 11 [Value.pointer (some (Addr.mk n0 n1 none)), Value.agg (Array.mk [Value.int IntKind.i64 i51, Value.int IntKind.i64 i52])]
    fun v53 =>
    T.asU v53 fun l54 =>
    T.req (List.length l54 = 2)
    (T.asS (List.headD l54 (Value.tuple (Array.mk []))) fun o55 n56 n57 =>
    T.asI IntKind.i64 (List.headD (List.tail l54) (Value.tuple (Array.mk []))) fun i58 =>
    T.ret (Value.tuple (Array.mk [Value.pointer o45, Value.bool true]))))))
theorem e28 (n0 n1 : Nat) (n2 n3 : Nat) (i4 : Int) (i5 : Int) (i6 : Int) (o7 : Option Addr) (n8 n9 : Nat) : treeOf Try.prog Try.f28 (codeOf Try.f28) (.s .n (.s (.s .n (.u (.s .n (.s (.s (.p [0, 1, 2, 3, 4, 5, 7, 8, 9, 10, 11, 6, 12, 13, 14, 15]) .n) .n)))) .n)) [.p n0 n1, .p n2 n3, .v (.agg #[.int .i64 i4, .int .i64 i5, .int .i64 i6, .slice o7 n8 n9])] = (t28 n0 n1 n2 n3 i4 i5 i6 o7 n8 n9) := by kernel_rfl
theorem c28 (n0 n1 : Nat) (n2 n3 : Nat) (i4 : Int) (i5 : Int) (i6 : Int) (o7 : Option Addr) (n8 n9 : Nat) {w : World} {R : Ending → World → Prop} (h : (t28 n0 n1 n2 n3 i4 i5 i6 o7 n8 n9).sem Try.prog R ρ0 w) : Calls Try.prog 28 #[.pointer (some ⟨n0, n1, none⟩), .pointer (some ⟨n2, n3, none⟩), .agg #[.int .i64 i4, .int .i64 i5, .int .i64 i6, .slice o7 n8 n9]] w R :=
  calls_of mixed Try.func28 rfl rfl (e28 n0 n1 n2 n3 i4 i5 i6 o7 n8 n9) h
def t30 (n0 n1 : Nat) (i2 : Int) (i3 : Int) : T :=
  T.new (Obj.cells (Array.mk [Value.int IntKind.i64 i2, Value.int IntKind.i64 i3]) 27) fun n4 =>
  T.call 33 [Value.pointer (some (Addr.mk n0 n1 none))] fun v5 =>
    T.asB v5 fun b6 =>
    T.ite b6 (T.ret (Value.slice none 0 0))
    (T.drew
    (T.ldM n0 (n1 + 1) fun o7 =>
    T.ldI IntKind.i64 n4 0 fun i8 =>
    T.ldI IntKind.i64 n4 1 fun i9 =>
    T.run (Instr.lookup 69 (Value.map o7) (Value.agg (Array.mk [Value.int IntKind.i64 i8, Value.int IntKind.i64 i9])) false) fun v10 =>
    T.asS v10 fun o11 n12 n13 =>
    T.chk []
    (T.loop 0 [Value.slice none 0 0, Value.int IntKind.i64 0] fun l14 j15 =>
    T.asS (List.headD l14 (Value.tuple (Array.mk []))) fun o16 n17 n18 =>
    T.asI IntKind.i64 (List.headD (List.tail l14) (Value.tuple (Array.mk []))) fun i19 =>
    T.ite (decide (i19 < (↑n12 : Int)))
    (T.req (0 ≤ i19 ∧ i19 < (↑n12 : Int))
    (T.sm o11 fun n20 n21 =>
    T.ldI IntKind.i32 n20 (n21 + Int.toNat i19 * 3) fun i22 =>
    T.ldI IntKind.i64 n20 (n21 + Int.toNat i19 * 3 + 1) fun i23 =>
    T.ldB n20 (n21 + Int.toNat i19 * 3 + 2) fun b24 =>
    T.new (Obj.cells (Array.mk [Value.int IntKind.i32 0, Value.int IntKind.i64 0, Value.bool false]) 63) fun n25 =>
    T.st n25 0 (Value.int IntKind.i32 i22)
    (T.st n25 1 (Value.int IntKind.i64 i23)
    (T.st n25 2 (Value.bool b24)
    (T.ldI IntKind.i64 n4 0 fun i26 =>
    T.ldI IntKind.i64 n4 1 fun i27 =>
    T.ldI IntKind.i32 n25 0 fun i28 =>
    T.ldI IntKind.i64 n25 1 fun i29 =>
    T.call 49
    [Value.pointer (some (Addr.mk n0 n1 none)),
    Value.agg (Array.mk [Value.int IntKind.i64 i26, Value.int IntKind.i64 i27]),
    Value.agg (Array.mk [Value.int IntKind.i32 i28, Value.int IntKind.i64 i29])]
    fun v30 =>
    T.asB v30 fun b31 =>
    T.ite (!b31)
    (T.ldI IntKind.i32 n25 0 fun i32 =>
    T.ldI IntKind.i64 n25 1 fun i33 =>
    T.new (Obj.cells (Array.mk [Value.int IntKind.i32 i32, Value.int IntKind.i64 i33]) 39)
    fun n34 =>
    T.run
    (biV Builtin.append (Array.mk [36, 36]) 36
    (Array.mk [Value.slice o16 n17 n18, Value.slice (some (Addr.mk n34 0 none)) 1 1]))
    fun v35 =>
    T.asS v35 fun o36 n37 n38 =>
    T.next 0
    [Value.slice o36 n37 n38, Value.int IntKind.i64 (IntKind.wrap IntKind.i64 (i19 + 1))]
    ([Value.pointer (some (Addr.mk n0 n1 none)), Value.pointer (some (Addr.mk n4 0 none)),
    Value.slice o11 n12 n13, Value.int IntKind.i64 (↑n12 : Int)] =
    [Value.pointer (some (Addr.mk n0 n1 none)),
    Value.pointer (some (Addr.mk n4 0 none)), Value.slice o11 n12 n13,
    Value.int IntKind.i64 (↑n12 : Int)] ∧ ([] : List Deferred) = []))
    (T.next 0 [Value.slice o16 n17 n18, Value.int IntKind.i64 (IntKind.wrap IntKind.i64 (i19 + 1))]
    ([Value.pointer (some (Addr.mk n0 n1 none)), Value.pointer (some (Addr.mk n4 0 none)),
    Value.slice o11 n12 n13, Value.int IntKind.i64 (↑n12 : Int)] =
    [Value.pointer (some (Addr.mk n0 n1 none)), Value.pointer (some (Addr.mk n4 0 none)),
    Value.slice o11 n12 n13, Value.int IntKind.i64 (↑n12 : Int)] ∧ ([] : List Deferred) = [])))))))
    (T.ret (Value.slice o16 n17 n18)))))
theorem e30 (n0 n1 : Nat) (i2 : Int) (i3 : Int) : treeOf Try.prog Try.f30 (codeOf Try.f30) (.s .n (.s .n (.s .n (.s (.s (.p [0, 1, 2, 3, 4, 7, 5, 6]) (.u (.l [(5, .slice), (17, .int .i64)] [0, 3, 15, 16] .n))) .n)))) [.p n0 n1, .v (.agg #[.int .i64 i2, .int .i64 i3])] = (t30 n0 n1 i2 i3) := by kernel_rfl
theorem c30 (n0 n1 : Nat) (i2 : Int) (i3 : Int) {w : World} {R : Ending → World → Prop} (h : (t30 n0 n1 i2 i3).sem Try.prog R ρ0 w) : Calls Try.prog 30 #[.pointer (some ⟨n0, n1, none⟩), .agg #[.int .i64 i2, .int .i64 i3]] w R :=
  calls_of mixed Try.func30 rfl rfl (e30 n0 n1 i2 i3) h
def t31 (n0 n1 : Nat) : T :=
  T.call 33 [Value.pointer (some (Addr.mk n0 n1 none))] fun v2 =>
  T.asB v2 fun b3 =>
    T.ite b3 (T.ret (Value.pointer none))
    (T.call 8 [] fun v4 =>
    T.asP v4 fun o5 =>
    T.ldS n0 (n1 + 2) fun o6 n7 n8 =>
    T.loop 0 [Value.int IntKind.i64 0] fun l9 j10 =>
    T.asI IntKind.i64 (List.headD l9 (Value.tuple (Array.mk []))) fun i11 =>
    T.ite (decide (i11 < (↑n7 : Int)))
    (T.req (0 ≤ i11 ∧ i11 < (↑n7 : Int))
    (T.sm o6 fun n12 n13 =>
    T.ldI IntKind.i64 n12 (n13 + Int.toNat i11 * 2) fun i14 =>
    T.ldI IntKind.i64 n12 (n13 + Int.toNat i11 * 2 + 1) fun i15 =>
    T.new (Obj.cells (Array.mk [Value.int IntKind.i64 0, Value.int IntKind.i64 0]) 27) fun n16 =>
    T.st n16 0 (Value.int IntKind.i64 i14)
    (T.st n16 1 (Value.int IntKind.i64 i15)
    (T.drew
    (T.ldI IntKind.i64 n16 0 fun i17 =>
    T.ldI IntKind.i64 n16 1 fun i18 =>
    T.ldM n0 (n1 + 1) fun o19 =>
    T.ldI IntKind.i64 n16 0 fun i20 =>
    T.ldI IntKind.i64 n16 1 fun i21 =>
    T.run
    (Instr.lookup 69 (Value.map o19) (Value.agg (Array.mk [Value.int IntKind.i64 i20, Value.int IntKind.i64 i21]))
    false)
    fun v22 =>
    T.asS v22 fun o23 n24 n25 =>
    T.chk [(Addr.mk n16 0 none, Value.int IntKind.i64 i17), (Addr.mk n16 1 none, Value.int IntKind.i64 i18)]
    (T.call 10
    [Value.pointer o5, Value.agg (Array.mk [Value.int IntKind.i64 i17, Value.int IntKind.i64 i18]),
    Value.slice o23 n24 n25]
    fun v26 =>
    T.asI IntKind.i64 v26 fun i27 =>
    T.chk []
    (T.next 0 [Value.int IntKind.i64 (IntKind.wrap IntKind.i64 (i11 + 1))]
    ([Value.pointer (some (Addr.mk n0 n1 none)), Value.pointer o5, Value.slice o6 n7 n8,
    Value.int IntKind.i64 (↑n7 : Int)] =
    [Value.pointer (some (Addr.mk n0 n1 none)), Value.pointer o5, Value.slice o6 n7 n8,
    Value.int IntKind.i64 (↑n7 : Int)] ∧ ([] : List Deferred) = []))))))))
    (T.ret (Value.pointer o5)))
theorem e31 (n0 n1 : Nat) : treeOf Try.prog Try.f31 (codeOf Try.f31) (.s .n (.s .n (.s .n (.s (.s .n (.u (.l [(14, .int .i64)] [0, 3, 12, 13] (.s .n (.s .n (.s (.u (.s .n (.p [0, 1, 2, 3, 4, 5, 6, 7, 8]))) .n)))))) .n)))) [.p n0 n1] = (t31 n0 n1) := by kernel_rfl
theorem c31 (n0 n1 : Nat) {w : World} {R : Ending → World → Prop} (h : (t31 n0 n1).sem Try.prog R ρ0 w) : Calls Try.prog 31 #[.pointer (some ⟨n0, n1, none⟩)] w R :=
  calls_of mixed Try.func31 rfl rfl (e31 n0 n1) h
def t32 (o0 : Option Addr) (n1 n2 : Nat) (o3 : Option Addr) (n4 n5 : Nat) : T :=
  T.ite ((↑n1 : Int) != (↑n4 : Int)) (T.ret (Value.bool false))
  (T.loop 0 [Value.int IntKind.i64 0] fun l6 j7 =>
    T.asI IntKind.i64 (List.headD l6 (Value.tuple (Array.mk []))) fun i8 =>
    T.ite (decide (i8 < (↑n1 : Int)))
    (T.drew
    (T.req (0 ≤ i8 ∧ i8 < (↑n1 : Int))
    (T.sm o0 fun n9 n10 =>
    T.ldI IntKind.i64 n9 (n10 + Int.toNat i8 * 2) fun i11 =>
    T.ldI IntKind.i64 n9 (n10 + Int.toNat i8 * 2 + 1) fun i12 =>
    T.req (0 ≤ i8 ∧ i8 < (↑n4 : Int))
    (T.sm o3 fun n13 n14 =>
    T.ldI IntKind.i64 n13 (n14 + Int.toNat i8 * 2) fun i15 =>
    T.ldI IntKind.i64 n13 (n14 + Int.toNat i8 * 2 + 1) fun i16 =>
    T.ite (!(i11 == i15 && (i12 == i16 && true))) (T.ret (Value.bool false))
    (T.next 0 [Value.int IntKind.i64 (IntKind.wrap IntKind.i64 (i8 + 1))]
    ([Value.slice o0 n1 n2, Value.slice o3 n4 n5, Value.int IntKind.i64 (↑n1 : Int)] =
    [Value.slice o0 n1 n2, Value.slice o3 n4 n5, Value.int IntKind.i64 (↑n1 : Int)] ∧ ([] : List Deferred) = []))))))
    (T.ret (Value.bool true)))
theorem e32 (o0 : Option Addr) (n1 n2 : Nat) (o3 : Option Addr) (n4 n5 : Nat) : treeOf Try.prog Try.f32 (codeOf Try.f32) (.s .n (.s .n (.s (.s .n (.u (.l [(13, .int .i64)] [0, 1, 12] (.s .n (.s .n (.s (.u (.s .n (.s (.p [0, 1, 2, 3, 4, 5, 6, 7, 8]) .n))) .n)))))) .n))) [.v (.slice o0 n1 n2), .v (.slice o3 n4 n5)] = (t32 o0 n1 n2 o3 n4 n5) := by kernel_rfl
theorem c32 (o0 : Option Addr) (n1 n2 : Nat) (o3 : Option Addr) (n4 n5 : Nat) {w : World} {R : Ending → World → Prop} (h : (t32 o0 n1 n2 o3 n4 n5).sem Try.prog R ρ0 w) : Calls Try.prog 32 #[.slice o0 n1 n2, .slice o3 n4 n5] w R :=
  calls_of mixed Try.func32 rfl rfl (e32 o0 n1 n2 o3 n4 n5) h
def t33 (n0 n1 : Nat) : T :=
  T.ldM n0 n1 fun o2 => T.ret (Value.bool (Option.isNone o2))
theorem e33 (n0 n1 : Nat) : treeOf Try.prog Try.f33 (codeOf Try.f33) .n [.p n0 n1] = (t33 n0 n1) := by kernel_rfl
theorem c33 (n0 n1 : Nat) {w : World} {R : Ending → World → Prop} (h : (t33 n0 n1).sem Try.prog R ρ0 w) : Calls Try.prog 33 #[.pointer (some ⟨n0, n1, none⟩)] w R :=
  calls_of mixed Try.func33 rfl rfl (e33 n0 n1) h
def t35 (n0 n1 : Nat) : T :=
  T.ldS n0 (n1 + 2) fun o2 n3 n4 =>
  T.loop 0 [Value.slice none 0 0, Value.int IntKind.i64 0] fun l5 j6 =>
    T.asS (List.headD l5 (Value.tuple (Array.mk []))) fun o7 n8 n9 =>
    T.asI IntKind.i64 (List.headD (List.tail l5) (Value.tuple (Array.mk []))) fun i10 =>
    T.ite (decide (i10 < (↑n3 : Int)))
    (T.req (0 ≤ i10 ∧ i10 < (↑n3 : Int))
    (T.sm o2 fun n11 n12 =>
    T.ldI IntKind.i64 n11 (n12 + Int.toNat i10 * 2) fun i13 =>
    T.ldI IntKind.i64 n11 (n12 + Int.toNat i10 * 2 + 1) fun i14 =>
    T.new (Obj.cells (Array.mk [Value.int IntKind.i64 0, Value.int IntKind.i64 0]) 27) fun n15 =>
    T.st n15 0 (Value.int IntKind.i64 i13)
    (T.st n15 1 (Value.int IntKind.i64 i14)
    (T.ldI IntKind.i64 n15 0 fun i16 =>
    T.ldI IntKind.i64 n15 1 fun i17 =>
    T.call 18 [Value.pointer (some (Addr.mk n0 n1 none)), Value.agg (Array.mk [Value.int IntKind.i64 i16, Value.int IntKind.i64 i17])]
    fun v18 =>
    T.asB v18 fun b19 =>
    T.ite b19
    (T.ldI IntKind.i64 n15 0 fun i20 =>
    T.ldI IntKind.i64 n15 1 fun i21 =>
    T.new (Obj.cells (Array.mk [Value.int IntKind.i64 i20, Value.int IntKind.i64 i21]) 27) fun n22 =>
    T.run
    (biV Builtin.append (Array.mk [33, 33]) 33
    (Array.mk [Value.slice o7 n8 n9, Value.slice (some (Addr.mk n22 0 none)) 1 1]))
    fun v23 =>
    T.asS v23 fun o24 n25 n26 =>
    T.next 0 [Value.slice o24 n25 n26, Value.int IntKind.i64 (IntKind.wrap IntKind.i64 (i10 + 1))]
    ([Value.pointer (some (Addr.mk n0 n1 none)), Value.slice o2 n3 n4, Value.int IntKind.i64 (↑n3 : Int)] =
    [Value.pointer (some (Addr.mk n0 n1 none)), Value.slice o2 n3 n4, Value.int IntKind.i64 (↑n3 : Int)] ∧ ([] : List Deferred) = []))
    (T.next 0 [Value.slice o7 n8 n9, Value.int IntKind.i64 (IntKind.wrap IntKind.i64 (i10 + 1))]
    ([Value.pointer (some (Addr.mk n0 n1 none)), Value.slice o2 n3 n4, Value.int IntKind.i64 (↑n3 : Int)] =
    [Value.pointer (some (Addr.mk n0 n1 none)), Value.slice o2 n3 n4, Value.int IntKind.i64 (↑n3 : Int)] ∧ ([] : List Deferred) = []))))))
    (T.ret (Value.slice o7 n8 n9))
theorem e35 (n0 n1 : Nat) : treeOf Try.prog Try.f35 (codeOf Try.f35) (.s .n (.s .n (.s (.s .n (.u (.l [(3, .slice), (11, .int .i64)] [0, 9, 10] .n))) .n))) [.p n0 n1] = (t35 n0 n1) := by kernel_rfl
theorem c35 (n0 n1 : Nat) {w : World} {R : Ending → World → Prop} (h : (t35 n0 n1).sem Try.prog R ρ0 w) : Calls Try.prog 35 #[.pointer (some ⟨n0, n1, none⟩)] w R :=
  calls_of mixed Try.func35 rfl rfl (e35 n0 n1) h
def t37 (o0 : Option Addr) (n1 n2 : Nat) : T :=
  T.ite (Option.isNone o0) (T.ret (Value.slice none 0 0))
  (T.new (Obj.cells (Array.mk []) 43) fun n3 =>
    T.run (biV Builtin.append (Array.mk [40, 40]) 40 (Array.mk [Value.slice (some (Addr.mk n3 0 none)) 0 0, Value.slice o0 n1 n2])) fun v4 =>
    T.asS v4 fun o5 n6 n7 => T.ret (Value.slice o5 n6 n7))
theorem e37 (o0 : Option Addr) (n1 n2 : Nat) : treeOf Try.prog Try.f37 (codeOf Try.f37) .n [.v (.slice o0 n1 n2)] = (t37 o0 n1 n2) := by kernel_rfl
theorem c37 (o0 : Option Addr) (n1 n2 : Nat) {w : World} {R : Ending → World → Prop} (h : (t37 o0 n1 n2).sem Try.prog R ρ0 w) : Calls Try.prog 37 #[.slice o0 n1 n2] w R :=
  calls_of mixed Try.func37 rfl rfl (e37 o0 n1 n2) h
def t39 (o0 : Option Addr) (n1 n2 : Nat) : T :=
  T.ite (Option.isNone o0) (T.ret (Value.slice none 0 0))
  (T.new (Obj.cells (Array.mk []) 27) fun n3 =>
    T.run (biV Builtin.append (Array.mk [33, 33]) 33 (Array.mk [Value.slice (some (Addr.mk n3 0 none)) 0 0, Value.slice o0 n1 n2])) fun v4 =>
    T.asS v4 fun o5 n6 n7 => T.ret (Value.slice o5 n6 n7))
theorem e39 (o0 : Option Addr) (n1 n2 : Nat) : treeOf Try.prog Try.f39 (codeOf Try.f39) .n [.v (.slice o0 n1 n2)] = (t39 o0 n1 n2) := by kernel_rfl
theorem c39 (o0 : Option Addr) (n1 n2 : Nat) {w : World} {R : Ending → World → Prop} (h : (t39 o0 n1 n2).sem Try.prog R ρ0 w) : Calls Try.prog 39 #[.slice o0 n1 n2] w R :=
  calls_of mixed Try.func39 rfl rfl (e39 o0 n1 n2) h
def t41 (o0 : Option Addr) (n1 n2 : Nat) : T :=
  T.call 65 [Value.slice o0 n1 n2] fun v3 =>
  T.asS v3 fun o4 n5 n6 =>
    T.call 66 [Value.slice o4 n5 n6, Value.func (Fn.func 34) (Array.mk []) (Array.mk [])] fun v7 =>
    T.call 67 [Value.slice o4 n5 n6] fun v8 => T.asS v8 fun o9 n10 n11 => T.ret (Value.slice o9 n10 n11)
theorem e41 (o0 : Option Addr) (n1 n2 : Nat) : treeOf Try.prog Try.f41 (codeOf Try.f41) .n [.v (.slice o0 n1 n2)] = (t41 o0 n1 n2) := by kernel_rfl
theorem c41 (o0 : Option Addr) (n1 n2 : Nat) {w : World} {R : Ending → World → Prop} (h : (t41 o0 n1 n2).sem Try.prog R ρ0 w) : Calls Try.prog 41 #[.slice o0 n1 n2] w R :=
  calls_of mixed Try.func41 rfl rfl (e41 o0 n1 n2) h
def t42 (v0 : Value) : T :=
  T.call 68 [Value.slice none 0 0, v0] fun v1 => T.asS v1 fun o2 n3 n4 => T.ret (Value.slice o2 n3 n4)
theorem e42 (v0 : Value) : treeOf Try.prog Try.f42 (codeOf Try.f42) .n [.v v0] = (t42 v0) := by kernel_rfl
theorem c42 (v0 : Value) {w : World} {R : Ending → World → Prop} (h : (t42 v0).sem Try.prog R ρ0 w) : Calls Try.prog 42 #[v0] w R :=
  calls_of mixed Try.func42 rfl rfl (e42 v0) h
def t43 (o0 : Option Nat) : T :=
  T.new (Obj.cells (Array.mk [Value.map o0]) 68) fun n1 => T.ret (Value.func (Fn.func 69) (Array.mk []) (Array.mk [Value.pointer (some (Addr.mk n1 0 none))]))
theorem e43 (o0 : Option Nat) : treeOf Try.prog Try.f43 (codeOf Try.f43) .n [.v (.map o0)] = (t43 o0) := by kernel_rfl
theorem c43 (o0 : Option Nat) {w : World} {R : Ending → World → Prop} (h : (t43 o0).sem Try.prog R ρ0 w) : Calls Try.prog 43 #[.map o0] w R :=
  calls_of mixed Try.func43 rfl rfl (e43 o0) h
def t44 (i0 : Int) (i1 : Int) (i2 : Int) (i3 : Int) : T :=
  T.new (Obj.cells (Array.mk [Value.int IntKind.i32 i0, Value.int IntKind.i64 i1]) 39) fun n4 =>
  T.new (Obj.cells (Array.mk [Value.int IntKind.i32 i2, Value.int IntKind.i64 i3]) 39) fun n5 =>
    T.ldI IntKind.i32 n4 0 fun i6 =>
    T.ldI IntKind.i32 n5 0 fun i7 =>
    T.ite (decide (i6 < i7)) (T.ret (Value.bool true))
    (T.ldI IntKind.i32 n4 0 fun i8 =>
    T.ldI IntKind.i32 n5 0 fun i9 =>
    T.ite (i8 == i9) (T.ldI IntKind.i64 n4 1 fun i10 => T.ldI IntKind.i64 n5 1 fun i11 => T.ret (Value.bool (decide (i10 < i11))))
    (T.ret (Value.bool false)))
theorem e44 (i0 : Int) (i1 : Int) (i2 : Int) (i3 : Int) : treeOf Try.prog Try.f44 (codeOf Try.f44) .n [.v (.agg #[.int .i32 i0, .int .i64 i1]), .v (.agg #[.int .i32 i2, .int .i64 i3])] = (t44 i0 i1 i2 i3) := by kernel_rfl
theorem c44 (i0 : Int) (i1 : Int) (i2 : Int) (i3 : Int) {w : World} {R : Ending → World → Prop} (h : (t44 i0 i1 i2 i3).sem Try.prog R ρ0 w) : Calls Try.prog 44 #[.agg #[.int .i32 i0, .int .i64 i1], .agg #[.int .i32 i2, .int .i64 i3]] w R :=
  calls_of mixed Try.func44 rfl rfl (e44 i0 i1 i2 i3) h
def t49 (n0 n1 : Nat) (i2 : Int) (i3 : Int) (i4 : Int) (i5 : Int) : T :=
  T.new (Obj.cells (Array.mk [Value.int IntKind.i64 i2, Value.int IntKind.i64 i3]) 27) fun n6 =>
  T.new (Obj.cells (Array.mk [Value.int IntKind.i32 i4, Value.int IntKind.i64 i5]) 39) fun n7 =>
    T.drew
    (T.ldM n0 n1 fun o8 =>
    T.ldI IntKind.i32 n7 0 fun i9 =>
    T.ldI IntKind.i64 n7 1 fun i10 =>
    T.run (Instr.lookup 68 (Value.map o8) (Value.agg (Array.mk [Value.int IntKind.i32 i9, Value.int IntKind.i64 i10])) false) fun v11 =>
    T.asS v11 fun o12 n13 n14 =>
    T.chk []
    (T.loop 0 [Value.bool true, Value.int IntKind.i64 0] fun l15 j16 =>
    T.asB (List.headD l15 (Value.tuple (Array.mk []))) fun b17 =>
    T.asI IntKind.i64 (List.headD (List.tail l15) (Value.tuple (Array.mk []))) fun i18 =>
    T.ite (decide (i18 < (↑n13 : Int)))
    (T.req (0 ≤ i18 ∧ i18 < (↑n13 : Int))
    (T.sm o12 fun n19 n20 =>
    T.ldI IntKind.i64 n19 (n20 + Int.toNat i18 * 4) fun i21 =>
    T.ldI IntKind.i64 n19 (n20 + Int.toNat i18 * 4 + 1) fun i22 =>
    T.ldB n19 (n20 + Int.toNat i18 * 4 + 2) fun b23 =>
    T.ldB n19 (n20 + Int.toNat i18 * 4 + 3) fun b24 =>
    T.new (Obj.cells (Array.mk [Value.int IntKind.i64 0, Value.int IntKind.i64 0, Value.bool false, Value.bool false]) 43)
    fun n25 =>
    T.st n25 0 (Value.int IntKind.i64 i21)
    (T.st n25 1 (Value.int IntKind.i64 i22)
    (T.st n25 2 (Value.bool b23)
    (T.st n25 3 (Value.bool b24)
    (T.blk 1
    (fun l26 j27 =>
    T.asB (List.headD l26 (Value.tuple (Array.mk []))) fun b28 =>
    T.ldI IntKind.i64 n25 0 fun i29 =>
    T.ldI IntKind.i64 n25 1 fun i30 =>
    T.ldI IntKind.i64 n6 0 fun i31 =>
    T.ldI IntKind.i64 n6 1 fun i32 =>
    T.ite (i29 == i31 && (i30 == i32 && true))
    (T.ite (i18 == 0) (T.ret (Value.bool true)) (T.ret (Value.bool b28)))
    (T.ite (!b28) (T.ret (Value.bool false))
    (T.next 0 [Value.bool b28, Value.int IntKind.i64 (IntKind.wrap IntKind.i64 (i18 + 1))]
    ([Value.pointer (some (Addr.mk n6 0 none)), Value.slice o12 n13 n14,
    Value.int IntKind.i64 (↑n13 : Int)] =
    [Value.pointer (some (Addr.mk n6 0 none)), Value.slice o12 n13 n14,
    Value.int IntKind.i64 (↑n13 : Int)] ∧ ([] : List Deferred) = []))))
    (T.ite b17
    (T.ldB n25 2 fun b33 =>
    T.next 1 [Value.bool !b33]
    ([Value.pointer (some (Addr.mk n6 0 none)), Value.int IntKind.i64 i18,
    Value.pointer (some (Addr.mk n25 0 none)), Value.slice o12 n13 n14,
    Value.int IntKind.i64 (↑n13 : Int), Value.int IntKind.i64 i18] =
    [Value.pointer (some (Addr.mk n6 0 none)), Value.int IntKind.i64 i18,
    Value.pointer (some (Addr.mk n25 0 none)), Value.slice o12 n13 n14,
    Value.int IntKind.i64 (↑n13 : Int), Value.int IntKind.i64 i18] ∧ ([] : List Deferred) = []))
    (T.next 1 [Value.bool false]
    ([Value.pointer (some (Addr.mk n6 0 none)), Value.int IntKind.i64 i18,
    Value.pointer (some (Addr.mk n25 0 none)), Value.slice o12 n13 n14,
    Value.int IntKind.i64 (↑n13 : Int), Value.int IntKind.i64 i18] =
    [Value.pointer (some (Addr.mk n6 0 none)), Value.int IntKind.i64 i18,
    Value.pointer (some (Addr.mk n25 0 none)), Value.slice o12 n13 n14,
    Value.int IntKind.i64 (↑n13 : Int), Value.int IntKind.i64 i18] ∧ ([] : List Deferred) = [])))))))))
    (T.ret (Value.bool false))))
theorem e49 (n0 n1 : Nat) (i2 : Int) (i3 : Int) (i4 : Int) (i5 : Int) : treeOf Try.prog Try.f49 (codeOf Try.f49) (.s .n (.s .n (.s (.s (.p [0, 1, 2, 3, 4, 7, 5, 6]) (.u (.l [(7, .bool), (17, .int .i64)] [4, 15, 16] (.s .n (.s .n (.s (.u (.s .n (.c [(7, .bool)] [4, 8, 9, 15, 16, 17] .n .n))) .n)))))) .n))) [.p n0 n1, .v (.agg #[.int .i64 i2, .int .i64 i3]), .v (.agg #[.int .i32 i4, .int .i64 i5])] = (t49 n0 n1 i2 i3 i4 i5) := by kernel_rfl
theorem c49 (n0 n1 : Nat) (i2 : Int) (i3 : Int) (i4 : Int) (i5 : Int) {w : World} {R : Ending → World → Prop} (h : (t49 n0 n1 i2 i3 i4 i5).sem Try.prog R ρ0 w) : Calls Try.prog 49 #[.pointer (some ⟨n0, n1, none⟩), .agg #[.int .i64 i2, .int .i64 i3], .agg #[.int .i32 i4, .int .i64 i5]] w R :=
  calls_of mixed Try.func49 rfl rfl (e49 n0 n1 i2 i3 i4 i5) h
def t50 (o0 : Option Addr) (n1 n2 : Nat) (i3 : Int) (i4 : Int) : T :=
  T.new (Obj.cells (Array.mk [Value.int IntKind.i64 i3, Value.int IntKind.i64 i4]) 27) fun n5 =>
  T.loop 0 [Value.int IntKind.i64 0] fun l6 j7 =>
    T.asI IntKind.i64 (List.headD l6 (Value.tuple (Array.mk []))) fun i8 =>
    T.ite (decide (i8 < (↑n1 : Int)))
    (T.drew
    (T.ldI IntKind.i64 n5 0 fun i9 =>
    T.ldI IntKind.i64 n5 1 fun i10 =>
    T.req (0 ≤ i8 ∧ i8 < (↑n1 : Int))
    (T.sm o0 fun n11 n12 =>
    T.ldI IntKind.i64 n11 (n12 + Int.toNat i8 * 2) fun i13 =>
    T.ldI IntKind.i64 n11 (n12 + Int.toNat i8 * 2 + 1) fun i14 =>
    T.ite (i9 == i13 && (i10 == i14 && true)) (T.ret (Value.int IntKind.i64 i8))
    (T.next 0 [Value.int IntKind.i64 (IntKind.wrap IntKind.i64 (i8 + 1))]
    ([Value.slice o0 n1 n2, Value.pointer (some (Addr.mk n5 0 none)), Value.int IntKind.i64 (↑n1 : Int)] =
    [Value.slice o0 n1 n2, Value.pointer (some (Addr.mk n5 0 none)), Value.int IntKind.i64 (↑n1 : Int)] ∧ ([] : List Deferred) = [])))))
    (T.ret (Value.int IntKind.i64 (-1)))
theorem e50 (o0 : Option Addr) (n1 n2 : Nat) (i3 : Int) (i4 : Int) : treeOf Try.prog Try.f50 (codeOf Try.f50) (.s .n (.s (.s .n (.u (.l [(8, .int .i64)] [0, 3, 7] (.s .n (.s .n (.s (.u (.s .n (.s (.p [0, 1, 2, 3, 4, 5]) .n))) .n)))))) .n)) [.v (.slice o0 n1 n2), .v (.agg #[.int .i64 i3, .int .i64 i4])] = (t50 o0 n1 n2 i3 i4) := by kernel_rfl
theorem c50 (o0 : Option Addr) (n1 n2 : Nat) (i3 : Int) (i4 : Int) {w : World} {R : Ending → World → Prop} (h : (t50 o0 n1 n2 i3 i4).sem Try.prog R ρ0 w) : Calls Try.prog 50 #[.slice o0 n1 n2, .agg #[.int .i64 i3, .int .i64 i4]] w R :=
  calls_of mixed Try.func50 rfl rfl (e50 o0 n1 n2 i3 i4) h
def t52 (n0 n1 : Nat) (i2 : Int) (i3 : Int) : T :=
  T.new (Obj.cells (Array.mk [Value.int IntKind.i64 i2, Value.int IntKind.i64 i3]) 27) fun n4 =>
  T.loop 0 [Value.int IntKind.i64 0] fun l5 j6 =>
    T.asI IntKind.i64 (List.headD l5 (Value.tuple (Array.mk []))) fun i7 =>
    T.ldS n0 n1 fun o8 n9 n10 =>
    T.ite (decide (i7 < (↑n9 : Int)))
    (T.drew
    (T.ldS n0 n1 fun o11 n12 n13 =>
    T.req (0 ≤ i7 ∧ i7 < (↑n12 : Int))
    (T.sm o11 fun n14 n15 =>
    T.ldI IntKind.i64 n14 (n15 + Int.toNat i7 * 3) fun i16 =>
    T.ldI IntKind.i64 n14 (n15 + Int.toNat i7 * 3 + 1) fun i17 =>
    T.ldI IntKind.i64 n4 0 fun i18 =>
    T.ldI IntKind.i64 n4 1 fun i19 =>
    T.ite (i16 == i18 && (i17 == i19 && true)) (T.ret (Value.int IntKind.i64 i7))
    (T.next 0 [Value.int IntKind.i64 (IntKind.wrap IntKind.i64 (i7 + 1))]
    ([Value.pointer (some (Addr.mk n0 n1 none)), Value.pointer (some (Addr.mk n4 0 none))] =
    [Value.pointer (some (Addr.mk n0 n1 none)), Value.pointer (some (Addr.mk n4 0 none))] ∧ ([] : List Deferred) = [])))))
    (T.ret (Value.int IntKind.i64 (-1)))
theorem e52 (n0 n1 : Nat) (i2 : Int) (i3 : Int) : treeOf Try.prog Try.f52 (codeOf Try.f52) (.s .n (.s (.s .n (.u (.l [(5, .int .i64)] [0, 3] (.s .n (.s (.u (.s (.p [0, 1, 2, 3, 4, 5, 6, 7, 8, 9]) .n)) .n))))) .n)) [.p n0 n1, .v (.agg #[.int .i64 i2, .int .i64 i3])] = (t52 n0 n1 i2 i3) := by kernel_rfl
theorem c52 (n0 n1 : Nat) (i2 : Int) (i3 : Int) {w : World} {R : Ending → World → Prop} (h : (t52 n0 n1 i2 i3).sem Try.prog R ρ0 w) : Calls Try.prog 52 #[.pointer (some ⟨n0, n1, none⟩), .agg #[.int .i64 i2, .int .i64 i3]] w R :=
  calls_of mixed Try.func52 rfl rfl (e52 n0 n1 i2 i3) h
def t53 (n0 n1 : Nat) : T :=
  T.loop 0 [Value.slice none 0 0, Value.int IntKind.i64 0] fun l2 j3 =>
  T.asS (List.headD l2 (Value.tuple (Array.mk []))) fun o4 n5 n6 =>
    T.asI IntKind.i64 (List.headD (List.tail l2) (Value.tuple (Array.mk []))) fun i7 =>
    T.ldS n0 n1 fun o8 n9 n10 =>
    T.ite (decide (i7 < (↑n9 : Int)))
    (T.loop 1 [Value.slice o4 n5 n6, Value.int IntKind.i64 0] fun l11 j12 =>
    T.asS (List.headD l11 (Value.tuple (Array.mk []))) fun o13 n14 n15 =>
    T.asI IntKind.i64 (List.headD (List.tail l11) (Value.tuple (Array.mk []))) fun i16 =>
    T.ldS n0 n1 fun o17 n18 n19 =>
    T.req (0 ≤ i7 ∧ i7 < (↑n18 : Int))
    (T.sm o17 fun n20 n21 =>
    T.ldS n20 (n21 + Int.toNat i7 * 3 + 2) fun o22 n23 n24 =>
    T.ite (decide (i16 < (↑n23 : Int)))
    (T.ldS n0 n1 fun o25 n26 n27 =>
    T.req (0 ≤ i7 ∧ i7 < (↑n26 : Int))
    (T.sm o25 fun n28 n29 =>
    T.ldS n28 (n29 + Int.toNat i7 * 3 + 2) fun o30 n31 n32 =>
    T.req (0 ≤ i16 ∧ i16 < (↑n31 : Int))
    (T.sm o30 fun n33 n34 =>
    T.ldI IntKind.i32 n33 (n34 + Int.toNat i16 * 3) fun i35 =>
    T.ldI IntKind.i64 n33 (n34 + Int.toNat i16 * 3 + 1) fun i36 =>
    T.new (Obj.cells (Array.mk [Value.int IntKind.i32 0, Value.int IntKind.i64 0]) 39) fun n37 =>
    T.st n37 0 (Value.int IntKind.i32 i35)
    (T.st n37 1 (Value.int IntKind.i64 i36)
    (T.blk 2
    (fun l38 j39 =>
    T.asI IntKind.i64 (List.headD l38 (Value.tuple (Array.mk []))) fun i40 =>
    T.blk 2
    (fun l41 j42 =>
    T.asB (List.headD l41 (Value.tuple (Array.mk []))) fun b43 =>
    T.ite b43
    (T.req (0 ≤ i40 ∧ i40 ≤ (↑n15 : Int))
    (T.run
    (biV Builtin.append (Array.mk [36, 36]) 36
    (Array.mk [Value.slice none 0 0, Value.slice (sliceBase o13 0 n15 2) (Int.toNat i40) n15]))
    fun v44 =>
    T.asS v44 fun o45 n46 n47 =>
    T.drew
    (T.ldI IntKind.i32 n37 0 fun i48 =>
    T.ldI IntKind.i64 n37 1 fun i49 =>
    T.req (0 ≤ i40 ∧ i40 ≤ (↑n14 : Int))
    (T.new
    (Obj.cells (Array.mk [Value.int IntKind.i32 i48, Value.int IntKind.i64 i49]) 39)
    fun n50 =>
    T.chk []
    (T.run
    (biV Builtin.append (Array.mk [36, 36]) 36
    (Array.mk
    [Value.slice o45 n46 n47, Value.slice (some (Addr.mk n50 0 none)) 1 1]))
    fun v51 =>
    T.asS v51 fun o52 n53 n54 =>
    T.chk []
    (T.run
    (biV Builtin.append (Array.mk [36, 36]) 36
    (Array.mk
    [Value.slice o52 n53 n54,
    Value.slice (sliceBase o13 (Int.toNat i40) n15 2)
    (n14 - Int.toNat i40) (n15 - Int.toNat i40)]))
    fun v55 =>
    T.asS v55 fun o56 n57 n58 =>
    T.chk []
    (T.next 1
    [Value.slice o56 n57 n58,
    Value.int IntKind.i64 (IntKind.wrap IntKind.i64 (i16 + 1))]
    ([Value.pointer (some (Addr.mk n0 n1 none)),
    Value.int IntKind.i64 i7] =
    [Value.pointer (some (Addr.mk n0 n1 none)),
    Value.int IntKind.i64 i7] ∧ ([] : List Deferred) = []))))))))
    (T.next 1 [Value.slice o13 n14 n15, Value.int IntKind.i64 (IntKind.wrap IntKind.i64 (i16 + 1))]
    ([Value.pointer (some (Addr.mk n0 n1 none)), Value.int IntKind.i64 i7] =
    [Value.pointer (some (Addr.mk n0 n1 none)), Value.int IntKind.i64 i7] ∧ ([] : List Deferred) = [])))
    (T.drew
    (T.ite (i40 == (↑n14 : Int))
    (T.next 2 [Value.bool true]
    ([Value.pointer (some (Addr.mk n0 n1 none)), Value.slice o13 n14 n15, Value.int IntKind.i64 i7,
    Value.int IntKind.i64 i16, Value.pointer (some (Addr.mk n37 0 none)),
    Value.int IntKind.i64 i40] =
    [Value.pointer (some (Addr.mk n0 n1 none)), Value.slice o13 n14 n15, Value.int IntKind.i64 i7,
    Value.int IntKind.i64 i16, Value.pointer (some (Addr.mk n37 0 none)),
    Value.int IntKind.i64 i40] ∧ ([] : List Deferred) = []))
    (T.req (0 ≤ i40 ∧ i40 < (↑n14 : Int))
    (T.sm o13 fun n59 n60 =>
    T.ldI IntKind.i32 n59 (n60 + Int.toNat i40 * 2) fun i61 =>
    T.ldI IntKind.i64 n59 (n60 + Int.toNat i40 * 2 + 1) fun i62 =>
    T.ldI IntKind.i32 n37 0 fun i63 =>
    T.ldI IntKind.i64 n37 1 fun i64 =>
    T.next 2 [Value.bool !(i61 == i63 && (i62 == i64 && true))]
    ([Value.pointer (some (Addr.mk n0 n1 none)), Value.slice o13 n14 n15,
    Value.int IntKind.i64 i7, Value.int IntKind.i64 i16,
    Value.pointer (some (Addr.mk n37 0 none)), Value.int IntKind.i64 i40] =
    [Value.pointer (some (Addr.mk n0 n1 none)), Value.slice o13 n14 n15,
    Value.int IntKind.i64 i7, Value.int IntKind.i64 i16,
    Value.pointer (some (Addr.mk n37 0 none)), Value.int IntKind.i64 i40] ∧ ([] : List Deferred) = []))))))
    (T.loop 3 [Value.int IntKind.i64 0] fun l65 j66 =>
    T.asI IntKind.i64 (List.headD l65 (Value.tuple (Array.mk []))) fun i67 =>
    T.drew
    (T.ite (decide (i67 < (↑n14 : Int)))
    (T.req (0 ≤ i67 ∧ i67 < (↑n14 : Int))
    (T.sm o13 fun n68 n69 =>
    T.ldI IntKind.i32 n68 (n69 + Int.toNat i67 * 2) fun i70 =>
    T.ldI IntKind.i64 n68 (n69 + Int.toNat i67 * 2 + 1) fun i71 =>
    T.ldI IntKind.i32 n37 0 fun i72 =>
    T.ldI IntKind.i64 n37 1 fun i73 =>
    T.call 44
    [Value.agg (Array.mk [Value.int IntKind.i32 i70, Value.int IntKind.i64 i71]),
    Value.agg (Array.mk [Value.int IntKind.i32 i72, Value.int IntKind.i64 i73])]
    fun v74 =>
    T.asB v74 fun b75 =>
    T.chk []
    (T.ite b75
    (T.next 3 [Value.int IntKind.i64 (IntKind.wrap IntKind.i64 (i67 + 1))]
    ([Value.pointer (some (Addr.mk n0 n1 none)), Value.slice o13 n14 n15,
    Value.int IntKind.i64 i7, Value.int IntKind.i64 i16,
    Value.pointer (some (Addr.mk n37 0 none))] =
    [Value.pointer (some (Addr.mk n0 n1 none)), Value.slice o13 n14 n15,
    Value.int IntKind.i64 i7, Value.int IntKind.i64 i16,
    Value.pointer (some (Addr.mk n37 0 none))] ∧ ([] : List Deferred) = []))
    (T.next 2 [Value.int IntKind.i64 i67]
    ([Value.pointer (some (Addr.mk n0 n1 none)), Value.slice o13 n14 n15,
    Value.int IntKind.i64 i7, Value.int IntKind.i64 i16,
    Value.pointer (some (Addr.mk n37 0 none))] =
    [Value.pointer (some (Addr.mk n0 n1 none)), Value.slice o13 n14 n15,
    Value.int IntKind.i64 i7, Value.int IntKind.i64 i16,
    Value.pointer (some (Addr.mk n37 0 none))] ∧ ([] : List Deferred) = [])))))
    (T.chk []
    (T.next 2 [Value.int IntKind.i64 i67]
    ([Value.pointer (some (Addr.mk n0 n1 none)), Value.slice o13 n14 n15, Value.int IntKind.i64 i7,
    Value.int IntKind.i64 i16, Value.pointer (some (Addr.mk n37 0 none))] =
    [Value.pointer (some (Addr.mk n0 n1 none)), Value.slice o13 n14 n15, Value.int IntKind.i64 i7,
    Value.int IntKind.i64 i16, Value.pointer (some (Addr.mk n37 0 none))] ∧ ([] : List Deferred) = []))))))))))
    (T.next 0 [Value.slice o13 n14 n15, Value.int IntKind.i64 (IntKind.wrap IntKind.i64 (i7 + 1))]
    ([Value.pointer (some (Addr.mk n0 n1 none))] = [Value.pointer (some (Addr.mk n0 n1 none))] ∧ ([] : List Deferred) = []))))
    (T.ret (Value.slice o4 n5 n6))
theorem e53 (n0 n1 : Nat) : treeOf Try.prog Try.f53 (codeOf Try.f53) (.s .n (.s .n (.s (.s .n (.u (.l [(3, .slice), (4, .int .i64)] [0] (.s .n (.s (.u (.s .n (.u (.l [(3, .slice), (5, .int .i64)] [0, 4] (.s .n (.s (.u (.s .n (.s .n (.c [(7, .int .i64)] [0, 3, 4, 5, 6] (.u (.l [(7, .int .i64)] [0, 3, 4, 5, 6] (.s (.s (.p [0, 1, 2, 3, 4, 5, 6, 7, 8, 9, 10, 11]) .n) .n))) (.c [(68, .bool)] [0, 3, 4, 5, 6, 7] (.p [0, 1, 2, 3, 4, 5, 6, 7, 8, 9, 10, 11]) (.s (.s .n (.p [0, 1, 4, 5, 6, 2, 3, 7, 8])) .n)))))) .n)))))) .n))))) .n))) [.p n0 n1] = (t53 n0 n1) := by kernel_rfl
theorem c53 (n0 n1 : Nat) {w : World} {R : Ending → World → Prop} (h : (t53 n0 n1).sem Try.prog R ρ0 w) : Calls Try.prog 53 #[.pointer (some ⟨n0, n1, none⟩)] w R :=
  calls_of mixed Try.func53 rfl rfl (e53 n0 n1) h
def t54 (o0 : Option Addr) (n1 n2 : Nat) (o3 : Option Addr) (n4 n5 : Nat) : T :=
  T.ite ((↑n1 : Int) != (↑n4 : Int)) (T.ret (Value.bool false))
  (T.loop 0 [Value.int IntKind.i64 0] fun l6 j7 =>
    T.asI IntKind.i64 (List.headD l6 (Value.tuple (Array.mk []))) fun i8 =>
    T.ite (decide (i8 < (↑n1 : Int)))
    (T.drew
    (T.req (0 ≤ i8 ∧ i8 < (↑n1 : Int))
    (T.sm o0 fun n9 n10 =>
    T.ldI IntKind.i64 n9 (n10 + Int.toNat i8 * 4) fun i11 =>
    T.ldI IntKind.i64 n9 (n10 + Int.toNat i8 * 4 + 1) fun i12 =>
    T.ldB n9 (n10 + Int.toNat i8 * 4 + 2) fun b13 =>
    T.ldB n9 (n10 + Int.toNat i8 * 4 + 3) fun b14 =>
    T.req (0 ≤ i8 ∧ i8 < (↑n4 : Int))
    (T.sm o3 fun n15 n16 =>
    T.ldI IntKind.i64 n15 (n16 + Int.toNat i8 * 4) fun i17 =>
    T.ldI IntKind.i64 n15 (n16 + Int.toNat i8 * 4 + 1) fun i18 =>
    T.ldB n15 (n16 + Int.toNat i8 * 4 + 2) fun b19 =>
    T.ldB n15 (n16 + Int.toNat i8 * 4 + 3) fun b20 =>
    T.ite (!(i11 == i17 && (i12 == i18 && true) && (b13 == b19 && (b14 == b20 && true)))) (T.ret (Value.bool false))
    (T.next 0 [Value.int IntKind.i64 (IntKind.wrap IntKind.i64 (i8 + 1))]
    ([Value.slice o0 n1 n2, Value.slice o3 n4 n5, Value.int IntKind.i64 (↑n1 : Int)] =
    [Value.slice o0 n1 n2, Value.slice o3 n4 n5, Value.int IntKind.i64 (↑n1 : Int)] ∧ ([] : List Deferred) = []))))))
    (T.ret (Value.bool true)))
theorem e54 (o0 : Option Addr) (n1 n2 : Nat) (o3 : Option Addr) (n4 n5 : Nat) : treeOf Try.prog Try.f54 (codeOf Try.f54) (.s .n (.s .n (.s (.s .n (.u (.l [(13, .int .i64)] [0, 1, 12] (.s .n (.s .n (.s (.u (.s .n (.s (.p [0, 1, 2, 3, 4, 5, 6, 7, 8]) .n))) .n)))))) .n))) [.v (.slice o0 n1 n2), .v (.slice o3 n4 n5)] = (t54 o0 n1 n2 o3 n4 n5) := by kernel_rfl
theorem c54 (o0 : Option Addr) (n1 n2 : Nat) (o3 : Option Addr) (n4 n5 : Nat) {w : World} {R : Ending → World → Prop} (h : (t54 o0 n1 n2 o3 n4 n5).sem Try.prog R ρ0 w) : Calls Try.prog 54 #[.slice o0 n1 n2, .slice o3 n4 n5] w R :=
  calls_of mixed Try.func54 rfl rfl (e54 o0 n1 n2 o3 n4 n5) h
def t55 (n0 n1 : Nat) (i2 : Int) (i3 : Int) : T :=
  T.new (Obj.cells (Array.mk [Value.int IntKind.i32 i2, Value.int IntKind.i64 i3]) 39) fun n4 =>
  T.loop 0 [Value.slice none 0 0, Value.int IntKind.i64 0] fun l5 j6 =>
    T.asS (List.headD l5 (Value.tuple (Array.mk []))) fun o7 n8 n9 =>
    T.asI IntKind.i64 (List.headD (List.tail l5) (Value.tuple (Array.mk []))) fun i10 =>
    T.ldS n0 n1 fun o11 n12 n13 =>
    T.ite (decide (i10 < (↑n12 : Int)))
    (T.drew
    (T.ldS n0 n1 fun o14 n15 n16 =>
    T.req (0 ≤ i10 ∧ i10 < (↑n15 : Int))
    (T.sm o14 fun n17 n18 =>
    T.ldI IntKind.i64 n17 (n18 + Int.toNat i10 * 3) fun i19 =>
    T.ldI IntKind.i64 n17 (n18 + Int.toNat i10 * 3 + 1) fun i20 =>
    T.ldS n17 (n18 + Int.toNat i10 * 3 + 2) fun o21 n22 n23 =>
    T.ldI IntKind.i32 n4 0 fun i24 =>
    T.ldI IntKind.i64 n4 1 fun i25 =>
    T.both
    (T.call 71
    [Value.agg (Array.mk [Value.int IntKind.i64 i19, Value.int IntKind.i64 i20, Value.slice o21 n22 n23]),
    Value.agg (Array.mk [Value.int IntKind.i32 i24, Value.int IntKind.i64 i25])]
    fun v26 =>
    T.asU v26 fun l27 =>
    T.req (List.length l27 = 2)
    (T.asA (List.headD l27 (Value.tuple (Array.mk []))) fun l28 =>
    T.req (List.length l28 = 3)
    (T.asI IntKind.i32 (List.headD l28 (Value.tuple (Array.mk []))) fun i29 =>
    T.asI IntKind.i64 (List.headD (List.tail l28) (Value.tuple (Array.mk []))) fun i30 =>
    T.asB (List.headD (List.tail (List.tail l28)) (Value.tuple (Array.mk []))) fun b31 =>
    T.asB (List.headD (List.tail l27) (Value.tuple (Array.mk []))) fun b32 =>
    T.chk [(Addr.mk n0 n1 none, Value.slice o14 n15 n16)]
    (T.new (Obj.cells (Array.mk [Value.int IntKind.i32 0, Value.int IntKind.i64 0, Value.bool false]) 63)
    fun n33 =>
    T.chk [(Addr.mk n0 n1 none, Value.slice o14 n15 n16)]
    (T.st n33 0 (Value.int IntKind.i32 i29)
    (T.st n33 1 (Value.int IntKind.i64 i30)
    (T.st n33 2 (Value.bool b31)
    (T.chk []
    (T.ite b32
    (T.drew
    (T.ldS n0 n1 fun o34 n35 n36 =>
    T.req (0 ≤ i10 ∧ i10 < (↑n35 : Int))
    (T.sm o34 fun n37 n38 =>
    T.ldI IntKind.i64 n37 (n38 + Int.toNat i10 * 3) fun i39 =>
    T.ldI IntKind.i64 n37 (n38 + Int.toNat i10 * 3 + 1) fun i40 =>
    T.ldB n33 2 fun b41 =>
    T.ldI IntKind.i32 n4 0 fun i42 =>
    T.ldI IntKind.i64 n4 1 fun i43 =>
    T.call 72
    [Value.pointer (some (Addr.mk n0 n1 none)), Value.int IntKind.i64 i10,
    Value.agg
    (Array.mk [Value.int IntKind.i32 i42, Value.int IntKind.i64 i43])]
    fun v44 =>
    T.asB v44 fun b45 =>
    T.chk
    [(Addr.mk n33 2 none, Value.bool b41),
    (Addr.mk n37 (n38 + Int.toNat i10 * 3) none,
    Value.int IntKind.i64 i39),
    (Addr.mk n37 (n38 + Int.toNat i10 * 3 + 1) none,
    Value.int IntKind.i64 i40),
    (Addr.mk n0 n1 none, Value.slice o34 n35 n36)]
    (T.new
    (Obj.cells
    (Array.mk
    [Value.int IntKind.i64 i39, Value.int IntKind.i64 i40,
    Value.bool b41, Value.bool b45])
    43)
    fun n46 =>
    T.chk
    [(Addr.mk n33 2 none, Value.bool b41),
    (Addr.mk n37 (n38 + Int.toNat i10 * 3) none,
    Value.int IntKind.i64 i39),
    (Addr.mk n37 (n38 + Int.toNat i10 * 3 + 1) none,
    Value.int IntKind.i64 i40),
    (Addr.mk n0 n1 none, Value.slice o34 n35 n36)]
    (T.run
    (biV Builtin.append (Array.mk [40, 40]) 40
    (Array.mk
    [Value.slice o7 n8 n9,
    Value.slice (some (Addr.mk n46 0 none)) 1 1]))
    fun v47 =>
    T.asS v47 fun o48 n49 n50 =>
    T.chk
    [(Addr.mk n33 2 none, Value.bool b41),
    (Addr.mk n37 (n38 + Int.toNat i10 * 3) none,
    Value.int IntKind.i64 i39),
    (Addr.mk n37 (n38 + Int.toNat i10 * 3 + 1) none,
    Value.int IntKind.i64 i40),
    (Addr.mk n0 n1 none, Value.slice o34 n35 n36)]
    (T.next 0
    [Value.slice o48 n49 n50,
    Value.int IntKind.i64
    (IntKind.wrap IntKind.i64 (i10 + 1))]
    ([Value.pointer (some (Addr.mk n0 n1 none)),
    Value.pointer (some (Addr.mk n4 0 none))] =
    [Value.pointer (some (Addr.mk n0 n1 none)),
    Value.pointer (some (Addr.mk n4 0 none))] ∧ ([] : List Deferred) = [])))))))
    (T.next 0 [Value.slice o7 n8 n9, Value.int IntKind.i64 (IntKind.wrap IntKind.i64 (i10 + 1))]
    ([Value.pointer (some (Addr.mk n0 n1 none)), Value.pointer (some (Addr.mk n4 0 none))] =
    [Value.pointer (some (Addr.mk n0 n1 none)), Value.pointer (some (Addr.mk n4 0 none))] ∧ ([] : List Deferred) = [])))))))))))
    (T.new (Obj.cells (Array.mk [Value.int IntKind.i32 0, Value.int IntKind.i64 0, Value.bool false]) 63) fun n51 =>
    T.chk
    [(Addr.mk n4 0 none, Value.int IntKind.i32 i24), (Addr.mk n4 1 none, Value.int IntKind.i64 i25),
    (Addr.mk n17 (n18 + Int.toNat i10 * 3) none, Value.int IntKind.i64 i19),
    (Addr.mk n17 (n18 + Int.toNat i10 * 3 + 1) none, Value.int IntKind.i64 i20),
    (Addr.mk n17 (n18 + Int.toNat i10 * 3 + 2) none, Value.slice o21 n22 n23), (Addr.mk n0 n1 none, Value.slice o14 n15 n16)]
    (T.call 71
    [Value.agg (Array.mk [Value.int IntKind.i64 i19, Value.int IntKind.i64 i20, Value.slice o21 n22 n23]),
    Value.agg (Array.mk [Value.int IntKind.i32 i24, Value.int IntKind.i64 i25])]
    fun v52 =>
    T.asU v52 fun l53 =>
    T.req (List.length l53 = 2)
    (T.asA (List.headD l53 (Value.tuple (Array.mk []))) fun l54 =>
    T.req (List.length l54 = 3)
    (T.asI IntKind.i32 (List.headD l54 (Value.tuple (Array.mk []))) fun i55 =>
    T.asI IntKind.i64 (List.headD (List.tail l54) (Value.tuple (Array.mk []))) fun i56 =>
    T.asB (List.headD (List.tail (List.tail l54)) (Value.tuple (Array.mk []))) fun b57 =>
    T.asB (List.headD (List.tail l53) (Value.tuple (Array.mk []))) fun b58 =>
    T.chk [(Addr.mk n0 n1 none, Value.slice o14 n15 n16)]
    (T.st n51 0 (Value.int IntKind.i32 i55)
    (T.st n51 1 (Value.int IntKind.i64 i56)
    (T.st n51 2 (Value.bool b57)
    (T.chk []
    (T.ite b58
    (T.drew
    (T.ldS n0 n1 fun o59 n60 n61 =>
    T.req (0 ≤ i10 ∧ i10 < (↑n60 : Int))
    (T.sm o59 fun n62 n63 =>
    T.ldI IntKind.i64 n62 (n63 + Int.toNat i10 * 3) fun i64 =>
    T.ldI IntKind.i64 n62 (n63 + Int.toNat i10 * 3 + 1) fun i65 =>
    T.ldB n51 2 fun b66 =>
    T.ldI IntKind.i32 n4 0 fun i67 =>
    T.ldI IntKind.i64 n4 1 fun i68 =>
    T.call 72
    [Value.pointer (some (Addr.mk n0 n1 none)), Value.int IntKind.i64 i10,
    Value.agg
    (Array.mk [Value.int IntKind.i32 i67, Value.int IntKind.i64 i68])]
    fun v69 =>
    T.asB v69 fun b70 =>
    T.chk
    [(Addr.mk n51 2 none, Value.bool b66),
    (Addr.mk n62 (n63 + Int.toNat i10 * 3) none,
    Value.int IntKind.i64 i64),
    (Addr.mk n62 (n63 + Int.toNat i10 * 3 + 1) none,
    Value.int IntKind.i64 i65),
    (Addr.mk n0 n1 none, Value.slice o59 n60 n61)]
    (T.new
    (Obj.cells
    (Array.mk
    [Value.int IntKind.i64 i64, Value.int IntKind.i64 i65,
    Value.bool b66, Value.bool b70])
    43)
    fun n71 =>
    T.chk
    [(Addr.mk n51 2 none, Value.bool b66),
    (Addr.mk n62 (n63 + Int.toNat i10 * 3) none,
    Value.int IntKind.i64 i64),
    (Addr.mk n62 (n63 + Int.toNat i10 * 3 + 1) none,
    Value.int IntKind.i64 i65),
    (Addr.mk n0 n1 none, Value.slice o59 n60 n61)]
    (T.run
    (biV Builtin.append (Array.mk [40, 40]) 40
    (Array.mk
    [Value.slice o7 n8 n9,
    Value.slice (some (Addr.mk n71 0 none)) 1 1]))
    fun v72 =>
    T.asS v72 fun o73 n74 n75 =>
    T.chk
    [(Addr.mk n51 2 none, Value.bool b66),
    (Addr.mk n62 (n63 + Int.toNat i10 * 3) none,
    Value.int IntKind.i64 i64),
    (Addr.mk n62 (n63 + Int.toNat i10 * 3 + 1) none,
    Value.int IntKind.i64 i65),
    (Addr.mk n0 n1 none, Value.slice o59 n60 n61)]
    (T.next 0
    [Value.slice o73 n74 n75,
    Value.int IntKind.i64
    (IntKind.wrap IntKind.i64 (i10 + 1))]
    ([Value.pointer (some (Addr.mk n0 n1 none)),
    Value.pointer (some (Addr.mk n4 0 none))] =
    [Value.pointer (some (Addr.mk n0 n1 none)),
    Value.pointer (some (Addr.mk n4 0 none))] ∧ ([] : List Deferred) = [])))))))
    (T.next 0 [Value.slice o7 n8 n9, Value.int IntKind.i64 (IntKind.wrap IntKind.i64 (i10 + 1))]
    ([Value.pointer (some (Addr.mk n0 n1 none)), Value.pointer (some (Addr.mk n4 0 none))] =
    [Value.pointer (some (Addr.mk n0 n1 none)), Value.pointer (some (Addr.mk n4 0 none))] ∧ ([] : List Deferred) = []))))))))))))))
    (T.ret (Value.slice o7 n8 n9))
theorem e55 (n0 n1 : Nat) (i2 : Int) (i3 : Int) : treeOf Try.prog Try.f55 (codeOf Try.f55) (.s .n (.s .n (.s (.s .n (.u (.l [(5, .slice), (6, .int .i64)] [0, 3] (.s .n (.s (.u (.s (.p [0, 1, 2, 3, 4, 5, 6, 7, 8, 9, 10, 11, 12, 13, 14]) (.s .n (.s (.p [0, 1, 2, 3, 4, 5, 6, 7, 8, 9, 10, 11, 12, 13, 14, 15, 16, 17, 18]) .n)))) .n))))) .n))) [.p n0 n1, .v (.agg #[.int .i32 i2, .int .i64 i3])] = (t55 n0 n1 i2 i3) := by kernel_rfl
theorem c55 (n0 n1 : Nat) (i2 : Int) (i3 : Int) {w : World} {R : Ending → World → Prop} (h : (t55 n0 n1 i2 i3).sem Try.prog R ρ0 w) : Calls Try.prog 55 #[.pointer (some ⟨n0, n1, none⟩), .agg #[.int .i32 i2, .int .i64 i3]] w R :=
  calls_of mixed Try.func55 rfl rfl (e55 n0 n1 i2 i3) h
def t56 (n0 n1 : Nat) : T :=
  T.loop 0 [Value.slice none 0 0, Value.int IntKind.i64 0] fun l2 j3 =>
  T.asS (List.headD l2 (Value.tuple (Array.mk []))) fun o4 n5 n6 =>
    T.asI IntKind.i64 (List.headD (List.tail l2) (Value.tuple (Array.mk []))) fun i7 =>
    T.ldS n0 n1 fun o8 n9 n10 =>
    T.ite (decide (i7 < (↑n9 : Int)))
    (T.call 73 [Value.pointer (some (Addr.mk n0 n1 none)), Value.int IntKind.i64 i7] fun v11 =>
    T.asS v11 fun o12 n13 n14 =>
    T.ite ((↑n13 : Int) == 0)
    (T.ldS n0 n1 fun o15 n16 n17 =>
    T.req (0 ≤ i7 ∧ i7 < (↑n16 : Int))
    (T.sm o15 fun n18 n19 =>
    T.ldI IntKind.i64 n18 (n19 + Int.toNat i7 * 3) fun i20 =>
    T.ldI IntKind.i64 n18 (n19 + Int.toNat i7 * 3 + 1) fun i21 =>
    T.new (Obj.cells (Array.mk [Value.int IntKind.i64 i20, Value.int IntKind.i64 i21]) 27) fun n22 =>
    T.run (biV Builtin.append (Array.mk [33, 33]) 33 (Array.mk [Value.slice o4 n5 n6, Value.slice (some (Addr.mk n22 0 none)) 1 1]))
    fun v23 =>
    T.asS v23 fun o24 n25 n26 =>
    T.next 0 [Value.slice o24 n25 n26, Value.int IntKind.i64 (IntKind.wrap IntKind.i64 (i7 + 1))]
    ([Value.pointer (some (Addr.mk n0 n1 none))] = [Value.pointer (some (Addr.mk n0 n1 none))] ∧ ([] : List Deferred) = [])))
    (T.next 0 [Value.slice o4 n5 n6, Value.int IntKind.i64 (IntKind.wrap IntKind.i64 (i7 + 1))]
    ([Value.pointer (some (Addr.mk n0 n1 none))] = [Value.pointer (some (Addr.mk n0 n1 none))] ∧ ([] : List Deferred) = [])))
    (T.ret (Value.slice o4 n5 n6))
theorem e56 (n0 n1 : Nat) : treeOf Try.prog Try.f56 (codeOf Try.f56) (.s .n (.s .n (.s (.s .n (.u (.l [(3, .slice), (4, .int .i64)] [0] .n))) .n))) [.p n0 n1] = (t56 n0 n1) := by kernel_rfl
theorem c56 (n0 n1 : Nat) {w : World} {R : Ending → World → Prop} (h : (t56 n0 n1).sem Try.prog R ρ0 w) : Calls Try.prog 56 #[.pointer (some ⟨n0, n1, none⟩)] w R :=
  calls_of mixed Try.func56 rfl rfl (e56 n0 n1) h
def t57 (o0 : Option Addr) (n1 n2 : Nat) (o3 : Option Addr) (n4 n5 : Nat) : T :=
  T.ite ((↑n1 : Int) != (↑n4 : Int)) (T.ret (Value.bool false))
  (T.loop 0 [Value.int IntKind.i64 0] fun l6 j7 =>
    T.asI IntKind.i64 (List.headD l6 (Value.tuple (Array.mk []))) fun i8 =>
    T.ite (decide (i8 < (↑n1 : Int)))
    (T.drew
    (T.req (0 ≤ i8 ∧ i8 < (↑n1 : Int))
    (T.sm o0 fun n9 n10 =>
    T.ldI IntKind.i32 n9 (n10 + Int.toNat i8 * 2) fun i11 =>
    T.ldI IntKind.i64 n9 (n10 + Int.toNat i8 * 2 + 1) fun i12 =>
    T.req (0 ≤ i8 ∧ i8 < (↑n4 : Int))
    (T.sm o3 fun n13 n14 =>
    T.ldI IntKind.i32 n13 (n14 + Int.toNat i8 * 2) fun i15 =>
    T.ldI IntKind.i64 n13 (n14 + Int.toNat i8 * 2 + 1) fun i16 =>
    T.ite (!(i11 == i15 && (i12 == i16 && true))) (T.ret (Value.bool false))
    (T.next 0 [Value.int IntKind.i64 (IntKind.wrap IntKind.i64 (i8 + 1))]
    ([Value.slice o0 n1 n2, Value.slice o3 n4 n5, Value.int IntKind.i64 (↑n1 : Int)] =
    [Value.slice o0 n1 n2, Value.slice o3 n4 n5, Value.int IntKind.i64 (↑n1 : Int)] ∧ ([] : List Deferred) = []))))))
    (T.ret (Value.bool true)))
theorem e57 (o0 : Option Addr) (n1 n2 : Nat) (o3 : Option Addr) (n4 n5 : Nat) : treeOf Try.prog Try.f57 (codeOf Try.f57) (.s .n (.s .n (.s (.s .n (.u (.l [(13, .int .i64)] [0, 1, 12] (.s .n (.s .n (.s (.u (.s .n (.s (.p [0, 1, 2, 3, 4, 5, 6, 7, 8]) .n))) .n)))))) .n))) [.v (.slice o0 n1 n2), .v (.slice o3 n4 n5)] = (t57 o0 n1 n2 o3 n4 n5) := by kernel_rfl
theorem c57 (o0 : Option Addr) (n1 n2 : Nat) (o3 : Option Addr) (n4 n5 : Nat) {w : World} {R : Ending → World → Prop} (h : (t57 o0 n1 n2 o3 n4 n5).sem Try.prog R ρ0 w) : Calls Try.prog 57 #[.slice o0 n1 n2, .slice o3 n4 n5] w R :=
  calls_of mixed Try.func57 rfl rfl (e57 o0 n1 n2 o3 n4 n5) h
def t58 (n0 n1 : Nat) (i2 : Int) (i3 : Int) : T :=
  T.new (Obj.cells (Array.mk [Value.int IntKind.i64 i2, Value.int IntKind.i64 i3]) 27) fun n4 =>
  T.ldI IntKind.i64 n4 0 fun i5 =>
    T.ldI IntKind.i64 n4 1 fun i6 =>
    T.call 52 [Value.pointer (some (Addr.mk n0 n1 none)), Value.agg (Array.mk [Value.int IntKind.i64 i5, Value.int IntKind.i64 i6])] fun v7 =>
    T.asI IntKind.i64 v7 fun i8 =>
    T.ite (decide (i8 ≥ 0))
    (T.call 73 [Value.pointer (some (Addr.mk n0 n1 none)), Value.int IntKind.i64 i8] fun v9 =>
    T.asS v9 fun o10 n11 n12 => T.ret (Value.bool ((↑n11 : Int) == 0)))
    (T.ret (Value.bool false))
theorem e58 (n0 n1 : Nat) (i2 : Int) (i3 : Int) : treeOf Try.prog Try.f58 (codeOf Try.f58) .n [.p n0 n1, .v (.agg #[.int .i64 i2, .int .i64 i3])] = (t58 n0 n1 i2 i3) := by kernel_rfl
theorem c58 (n0 n1 : Nat) (i2 : Int) (i3 : Int) {w : World} {R : Ending → World → Prop} (h : (t58 n0 n1 i2 i3).sem Try.prog R ρ0 w) : Calls Try.prog 58 #[.pointer (some ⟨n0, n1, none⟩), .agg #[.int .i64 i2, .int .i64 i3]] w R :=
  calls_of mixed Try.func58 rfl rfl (e58 n0 n1 i2 i3) h
def t59 (n0 n1 : Nat) (i2 : Int) (i3 : Int) : T :=
  T.new (Obj.cells (Array.mk [Value.int IntKind.i64 i2, Value.int IntKind.i64 i3]) 27) fun n4 =>
  T.ldI IntKind.i64 n4 0 fun i5 =>
    T.ldI IntKind.i64 n4 1 fun i6 =>
    T.call 52 [Value.pointer (some (Addr.mk n0 n1 none)), Value.agg (Array.mk [Value.int IntKind.i64 i5, Value.int IntKind.i64 i6])] fun v7 =>
    T.asI IntKind.i64 v7 fun i8 =>
    T.ite (decide (i8 < 0)) (T.ret (Value.slice none 0 0))
    (T.call 73 [Value.pointer (some (Addr.mk n0 n1 none)), Value.int IntKind.i64 i8] fun v9 =>
    T.asS v9 fun o10 n11 n12 => T.ret (Value.slice o10 n11 n12))
theorem e59 (n0 n1 : Nat) (i2 : Int) (i3 : Int) : treeOf Try.prog Try.f59 (codeOf Try.f59) .n [.p n0 n1, .v (.agg #[.int .i64 i2, .int .i64 i3])] = (t59 n0 n1 i2 i3) := by kernel_rfl
theorem c59 (n0 n1 : Nat) (i2 : Int) (i3 : Int) {w : World} {R : Ending → World → Prop} (h : (t59 n0 n1 i2 i3).sem Try.prog R ρ0 w) : Calls Try.prog 59 #[.pointer (some ⟨n0, n1, none⟩), .agg #[.int .i64 i2, .int .i64 i3]] w R :=
  calls_of mixed Try.func59 rfl rfl (e59 n0 n1 i2 i3) h
def t60 (n0 n1 : Nat) (i2 : Int) (i3 : Int) : T :=
  T.new (Obj.cells (Array.mk [Value.int IntKind.i64 i2, Value.int IntKind.i64 i3]) 27) fun n4 =>
  T.ldI IntKind.i64 n4 0 fun i5 =>
    T.ldI IntKind.i64 n4 1 fun i6 =>
    T.call 52 [Value.pointer (some (Addr.mk n0 n1 none)), Value.agg (Array.mk [Value.int IntKind.i64 i5, Value.int IntKind.i64 i6])] fun v7 =>
    T.asI IntKind.i64 v7 fun i8 =>
    T.ite (decide (i8 < 0)) (T.ret (Value.tuple (Array.mk [Value.slice none 0 0, Value.int IntKind.i64 4])))
    (T.call 56 [Value.pointer (some (Addr.mk n0 n1 none))] fun v9 =>
    T.asS v9 fun o10 n11 n12 =>
    T.ldS n0 n1 fun o13 n14 n15 =>
    T.req (0 ≤ i8 ∧ i8 ≤ (↑n15 : Int))
    (T.run (biV Builtin.append (Array.mk [96, 96]) 96 (Array.mk [Value.slice none 0 0, Value.slice (sliceBase o13 0 n15 3) (Int.toNat i8) n15]))
    fun v16 =>
    T.asS v16 fun o17 n18 n19 =>
    T.ldS n0 n1 fun o20 n21 n22 =>
    T.req (0 ≤ IntKind.wrap IntKind.i64 (i8 + 1) ∧ IntKind.wrap IntKind.i64 (i8 + 1) ≤ (↑n21 : Int))
    (T.run
    (biV Builtin.append (Array.mk [96, 96]) 96
    (Array.mk
    [Value.slice o17 n18 n19,
    Value.slice (sliceBase o20 (Int.toNat (IntKind.wrap IntKind.i64 (i8 + 1))) n22 3)
    (n21 - Int.toNat (IntKind.wrap IntKind.i64 (i8 + 1))) (n22 - Int.toNat (IntKind.wrap IntKind.i64 (i8 + 1)))]))
    fun v23 =>
    T.asS v23 fun o24 n25 n26 =>
    T.st n0 n1 (Value.slice o24 n25 n26)
    (T.call 56 [Value.pointer (some (Addr.mk n0 n1 none))] fun v27 =>
    T.asS v27 fun o28 n29 n30 =>
    T.loop 0 [Value.slice none 0 0, Value.int IntKind.i64 0] fun l31 j32 =>
    T.asS (List.headD l31 (Value.tuple (Array.mk []))) fun o33 n34 n35 =>
    T.asI IntKind.i64 (List.headD (List.tail l31) (Value.tuple (Array.mk []))) fun i36 =>
    T.ite (decide (i36 < (↑n29 : Int)))
    (T.req (0 ≤ i36 ∧ i36 < (↑n29 : Int))
    (T.sm o28 fun n37 n38 =>
    T.ldI IntKind.i64 n37 (n38 + Int.toNat i36 * 2) fun i39 =>
    T.ldI IntKind.i64 n37 (n38 + Int.toNat i36 * 2 + 1) fun i40 =>
    T.call 74
    [Value.slice o10 n11 n12, Value.agg (Array.mk [Value.int IntKind.i64 i39, Value.int IntKind.i64 i40])]
    fun v41 =>
    T.asB v41 fun b42 =>
    T.ite (!b42)
    (T.req (0 ≤ i36 ∧ i36 < (↑n29 : Int))
    (T.sm o28 fun n43 n44 =>
    T.ldI IntKind.i64 n43 (n44 + Int.toNat i36 * 2) fun i45 =>
    T.ldI IntKind.i64 n43 (n44 + Int.toNat i36 * 2 + 1) fun i46 =>
    T.new (Obj.cells (Array.mk [Value.int IntKind.i64 i45, Value.int IntKind.i64 i46]) 27)
    fun n47 =>
    T.run
    (biV Builtin.append (Array.mk [33, 33]) 33
    (Array.mk [Value.slice o33 n34 n35, Value.slice (some (Addr.mk n47 0 none)) 1 1]))
    fun v48 =>
    T.asS v48 fun o49 n50 n51 =>
    T.next 0
    [Value.slice o49 n50 n51,
    Value.int IntKind.i64 (IntKind.wrap IntKind.i64 (i36 + 1))]
    ([Value.slice o10 n11 n12, Value.slice o28 n29 n30] =
    [Value.slice o10 n11 n12, Value.slice o28 n29 n30] ∧ ([] : List Deferred) = [])))
    (T.next 0 [Value.slice o33 n34 n35, Value.int IntKind.i64 (IntKind.wrap IntKind.i64 (i36 + 1))]
    ([Value.slice o10 n11 n12, Value.slice o28 n29 n30] =
    [Value.slice o10 n11 n12, Value.slice o28 n29 n30] ∧ ([] : List Deferred) = []))))
    (T.ret (Value.tuple (Array.mk [Value.slice o33 n34 n35, Value.int IntKind.i64 0])))))))
theorem e60 (n0 n1 : Nat) (i2 : Int) (i3 : Int) : treeOf Try.prog Try.f60 (codeOf Try.f60) (.s .n (.s .n (.s .n (.s .n (.s .n (.s .n (.s .n (.s .n (.s (.s .n (.u (.l [(10, .slice), (11, .int .i64)] [7, 9] .n))) .n))))))))) [.p n0 n1, .v (.agg #[.int .i64 i2, .int .i64 i3])] = (t60 n0 n1 i2 i3) := by kernel_rfl
theorem c60 (n0 n1 : Nat) (i2 : Int) (i3 : Int) {w : World} {R : Ending → World → Prop} (h : (t60 n0 n1 i2 i3).sem Try.prog R ρ0 w) : Calls Try.prog 60 #[.pointer (some ⟨n0, n1, none⟩), .agg #[.int .i64 i2, .int .i64 i3]] w R :=
  calls_of mixed Try.func60 rfl rfl (e60 n0 n1 i2 i3) h
def t65 (o0 : Option Addr) (n1 n2 : Nat) : T :=
  T.ite (Option.isNone o0) (T.ret (Value.slice none 0 0))
  (T.new (Obj.cells (Array.mk []) 39) fun n3 =>
    T.run (biV Builtin.append (Array.mk [36, 36]) 36 (Array.mk [Value.slice (some (Addr.mk n3 0 none)) 0 0, Value.slice o0 n1 n2])) fun v4 =>
    T.asS v4 fun o5 n6 n7 => T.ret (Value.slice o5 n6 n7))
theorem e65 (o0 : Option Addr) (n1 n2 : Nat) : treeOf Try.prog Try.f65 (codeOf Try.f65) .n [.v (.slice o0 n1 n2)] = (t65 o0 n1 n2) := by kernel_rfl
theorem c65 (o0 : Option Addr) (n1 n2 : Nat) {w : World} {R : Ending → World → Prop} (h : (t65 o0 n1 n2).sem Try.prog R ρ0 w) : Calls Try.prog 65 #[.slice o0 n1 n2] w R :=
  calls_of mixed Try.func65 rfl rfl (e65 o0 n1 n2) h
def t67 (o0 : Option Addr) (n1 n2 : Nat) : T :=
  T.ite (decide ((↑n1 : Int) < 2)) (T.ret (Value.slice o0 n1 n2))
  (T.loop 0 [Value.int IntKind.i64 1] fun l3 j4 =>
    T.asI IntKind.i64 (List.headD l3 (Value.tuple (Array.mk []))) fun i5 =>
    T.ite (decide (i5 < (↑n1 : Int)))
    (T.drew
    (T.req (0 ≤ i5 ∧ i5 < (↑n1 : Int))
    (T.sm o0 fun n6 n7 =>
    T.ldI IntKind.i32 n6 (n7 + Int.toNat i5 * 2) fun i8 =>
    T.ldI IntKind.i64 n6 (n7 + Int.toNat i5 * 2 + 1) fun i9 =>
    T.req (0 ≤ IntKind.wrap IntKind.i64 (i5 - 1) ∧ IntKind.wrap IntKind.i64 (i5 - 1) < (↑n1 : Int))
    (T.sm o0 fun n10 n11 =>
    T.ldI IntKind.i32 n10 (n11 + Int.toNat (IntKind.wrap IntKind.i64 (i5 - 1)) * 2) fun i12 =>
    T.ldI IntKind.i64 n10 (n11 + Int.toNat (IntKind.wrap IntKind.i64 (i5 - 1)) * 2 + 1) fun i13 =>
    T.ite (i8 == i12 && (i9 == i13 && true))
    (T.req (0 ≤ i5 ∧ i5 ≤ (↑n1 : Int))
    (T.loop 1 [Value.int IntKind.i64 i5, Value.int IntKind.i64 1] fun l14 j15 =>
    T.asI IntKind.i64 (List.headD l14 (Value.tuple (Array.mk []))) fun i16 =>
    T.asI IntKind.i64 (List.headD (List.tail l14) (Value.tuple (Array.mk []))) fun i17 =>
    T.ite (decide (i17 < (↑(n1 - Int.toNat i5) : Int)))
    (T.drew
    (T.req (0 ≤ i17 ∧ i17 < (↑(n1 - Int.toNat i5) : Int))
    (T.sm (sliceBase o0 (Int.toNat i5) n2 2) fun n18 n19 =>
    T.ldI IntKind.i32 n18 (n19 + Int.toNat i17 * 2) fun i20 =>
    T.ldI IntKind.i64 n18 (n19 + Int.toNat i17 * 2 + 1) fun i21 =>
    T.req
    (0 ≤ IntKind.wrap IntKind.i64 (i17 - 1) ∧ IntKind.wrap IntKind.i64 (i17 - 1) < (↑(n1 - Int.toNat i5) : Int))
    (T.sm (sliceBase o0 (Int.toNat i5) n2 2) fun n22 n23 =>
    T.ldI IntKind.i32 n22 (n23 + Int.toNat (IntKind.wrap IntKind.i64 (i17 - 1)) * 2) fun i24 =>
    T.ldI IntKind.i64 n22 (n23 + Int.toNat (IntKind.wrap IntKind.i64 (i17 - 1)) * 2 + 1) fun i25 =>
    T.ite (!(i20 == i24 && (i21 == i25 && true)))
    (T.req (0 ≤ i17 ∧ i17 < (↑(n1 - Int.toNat i5) : Int))
    (T.sm (sliceBase o0 (Int.toNat i5) n2 2) fun n26 n27 =>
    T.ldI IntKind.i32 n26 (n27 + Int.toNat i17 * 2) fun i28 =>
    T.ldI IntKind.i64 n26 (n27 + Int.toNat i17 * 2 + 1) fun i29 =>
    T.req (0 ≤ i16 ∧ i16 < (↑n1 : Int))
    (T.sm o0 fun n30 n31 =>
    T.st n30 (n31 + Int.toNat i16 * 2) (Value.int IntKind.i32 i28)
    (T.st n30 (n31 + Int.toNat i16 * 2 + 1) (Value.int IntKind.i64 i29)
    (T.next 1
    [Value.int IntKind.i64 (IntKind.wrap IntKind.i64 (i16 + 1)),
    Value.int IntKind.i64 (IntKind.wrap IntKind.i64 (i17 + 1))]
    ([Value.slice o0 n1 n2,
    Value.slice (sliceBase o0 (Int.toNat i5) n2 2) (n1 - Int.toNat i5)
    (n2 - Int.toNat i5)] =
    [Value.slice o0 n1 n2,
    Value.slice (sliceBase o0 (Int.toNat i5) n2 2) (n1 - Int.toNat i5)
    (n2 - Int.toNat i5)] ∧ ([] : List Deferred) = []))))))
    (T.next 1 [Value.int IntKind.i64 i16, Value.int IntKind.i64 (IntKind.wrap IntKind.i64 (i17 + 1))]
    ([Value.slice o0 n1 n2,
    Value.slice (sliceBase o0 (Int.toNat i5) n2 2) (n1 - Int.toNat i5) (n2 - Int.toNat i5)] =
    [Value.slice o0 n1 n2,
    Value.slice (sliceBase o0 (Int.toNat i5) n2 2) (n1 - Int.toNat i5) (n2 - Int.toNat i5)] ∧ ([] : List Deferred) = []))))))
    (T.req (0 ≤ i16 ∧ i16 ≤ (↑n1 : Int))
    (T.run
    (biV Builtin.clear (Array.mk [36]) 0
    (Array.mk [Value.slice (sliceBase o0 (Int.toNat i16) n2 2) (n1 - Int.toNat i16) (n2 - Int.toNat i16)]))
    fun v32 => T.req (0 ≤ i16 ∧ i16 ≤ (↑n2 : Int)) (T.ret (Value.slice (sliceBase o0 0 n2 2) (Int.toNat i16) n2))))))
    (T.next 0 [Value.int IntKind.i64 (IntKind.wrap IntKind.i64 (i5 + 1))]
    ([Value.slice o0 n1 n2] = [Value.slice o0 n1 n2] ∧ ([] : List Deferred) = []))))))
    (T.ret (Value.slice o0 n1 n2)))
theorem e67 (o0 : Option Addr) (n1 n2 : Nat) : treeOf Try.prog Try.f67 (codeOf Try.f67) (.s .n (.s .n (.s (.s .n (.u (.l [(3, .int .i64)] [0] (.s .n (.s (.u (.s (.p [0, 1, 2, 3, 4, 5, 6, 7, 8, 9]) (.s (.s .n (.s (.s .n (.u (.l [(3, .int .i64), (5, .int .i64)] [0, 4] (.s .n (.s (.u (.s (.p [0, 1, 2, 3, 4, 5, 6, 7, 8, 9]) .n)) .n))))) .n)) .n))) .n))))) .n))) [.v (.slice o0 n1 n2)] = (t67 o0 n1 n2) := by kernel_rfl
theorem c67 (o0 : Option Addr) (n1 n2 : Nat) {w : World} {R : Ending → World → Prop} (h : (t67 o0 n1 n2).sem Try.prog R ρ0 w) : Calls Try.prog 67 #[.slice o0 n1 n2] w R :=
  calls_of mixed Try.func67 rfl rfl (e67 o0 n1 n2) h
def t71 (i0 : Int) (i1 : Int) (o2 : Option Addr) (n3 n4 : Nat) (i5 : Int) (i6 : Int) : T :=
  T.new (Obj.cells (Array.mk [Value.int IntKind.i64 i0, Value.int IntKind.i64 i1, Value.slice o2 n3 n4]) 101) fun n7 =>
  T.new (Obj.cells (Array.mk [Value.int IntKind.i32 i5, Value.int IntKind.i64 i6]) 39) fun n8 =>
    T.new (Obj.cells (Array.mk [Value.int IntKind.i32 0, Value.int IntKind.i64 0, Value.bool false]) 63) fun n9 =>
    T.loop 0 [Value.int IntKind.i64 0] fun l10 j11 =>
    T.asI IntKind.i64 (List.headD l10 (Value.tuple (Array.mk []))) fun i12 =>
    T.ldS n7 2 fun o13 n14 n15 =>
    T.ite (decide (i12 < (↑n14 : Int)))
    (T.drew
    (T.ldS n7 2 fun o16 n17 n18 =>
    T.req (0 ≤ i12 ∧ i12 < (↑n17 : Int))
    (T.sm o16 fun n19 n20 =>
    T.ldI IntKind.i32 n19 (n20 + Int.toNat i12 * 3) fun i21 =>
    T.ldI IntKind.i64 n19 (n20 + Int.toNat i12 * 3 + 1) fun i22 =>
    T.ldI IntKind.i32 n8 0 fun i23 =>
    T.ldI IntKind.i64 n8 1 fun i24 =>
    T.ite (i21 == i23 && (i22 == i24 && true))
    (T.ldS n7 2 fun o25 n26 n27 =>
    T.req (0 ≤ i12 ∧ i12 < (↑n26 : Int))
    (T.sm o25 fun n28 n29 =>
    T.ldI IntKind.i32 n28 (n29 + Int.toNat i12 * 3) fun i30 =>
    T.ldI IntKind.i64 n28 (n29 + Int.toNat i12 * 3 + 1) fun i31 =>
    T.ldB n28 (n29 + Int.toNat i12 * 3 + 2) fun b32 =>
    T.st n9 0 (Value.int IntKind.i32 i30)
    (T.st n9 1 (Value.int IntKind.i64 i31)
    (T.st n9 2 (Value.bool b32)
    (T.ldI IntKind.i32 n9 0 fun i33 =>
    T.ldI IntKind.i64 n9 1 fun i34 =>
    T.ldB n9 2 fun b35 =>
    T.ret
    (Value.tuple
    (Array.mk
    [Value.agg (Array.mk [Value.int IntKind.i32 i33, Value.int IntKind.i64 i34, Value.bool b35]),
    Value.bool true])))))))
    (T.next 0 [Value.int IntKind.i64 (IntKind.wrap IntKind.i64 (i12 + 1))]
    ([Value.pointer (some (Addr.mk n7 0 none)), Value.pointer (some (Addr.mk n8 0 none)),
    Value.pointer (some (Addr.mk n9 0 none))] =
    [Value.pointer (some (Addr.mk n7 0 none)), Value.pointer (some (Addr.mk n8 0 none)),
    Value.pointer (some (Addr.mk n9 0 none))] ∧ ([] : List Deferred) = [])))))
    (T.st n9 0 (Value.int IntKind.i32 0)
    (T.st n9 1 (Value.int IntKind.i64 0)
    (T.st n9 2 (Value.bool false)
    (T.ldI IntKind.i32 n9 0 fun i36 =>
    T.ldI IntKind.i64 n9 1 fun i37 =>
    T.ldB n9 2 fun b38 =>
    T.ret
    (Value.tuple
    (Array.mk [Value.agg (Array.mk [Value.int IntKind.i32 i36, Value.int IntKind.i64 i37, Value.bool b38]), Value.bool false]))))))
theorem e71 (i0 : Int) (i1 : Int) (o2 : Option Addr) (n3 n4 : Nat) (i5 : Int) (i6 : Int) : treeOf Try.prog Try.f71 (codeOf Try.f71) (.s .n (.s (.s .n (.u (.l [(6, .int .i64)] [2, 3, 4] (.s .n (.s (.u (.s (.p [0, 1, 2, 3, 4, 5, 6, 7]) .n)) .n))))) .n)) [.v (.agg #[.int .i64 i0, .int .i64 i1, .slice o2 n3 n4]), .v (.agg #[.int .i32 i5, .int .i64 i6])] = (t71 i0 i1 o2 n3 n4 i5 i6) := by kernel_rfl
theorem c71 (i0 : Int) (i1 : Int) (o2 : Option Addr) (n3 n4 : Nat) (i5 : Int) (i6 : Int) {w : World} {R : Ending → World → Prop} (h : (t71 i0 i1 o2 n3 n4 i5 i6).sem Try.prog R ρ0 w) : Calls Try.prog 71 #[.agg #[.int .i64 i0, .int .i64 i1, .slice o2 n3 n4], .agg #[.int .i32 i5, .int .i64 i6]] w R :=
  calls_of mixed Try.func71 rfl rfl (e71 i0 i1 o2 n3 n4 i5 i6) h
def t72 (n0 n1 : Nat) (i2 : Int) (i3 : Int) (i4 : Int) : T :=
  T.new (Obj.cells (Array.mk [Value.int IntKind.i32 i3, Value.int IntKind.i64 i4]) 39) fun n5 =>
  T.drew
    (T.ldS n0 n1 fun o6 n7 n8 =>
    T.req (0 ≤ i2 ∧ i2 < (↑n7 : Int))
    (T.sm o6 fun n9 n10 =>
    T.ldI IntKind.i64 n9 (n10 + Int.toNat i2 * 3) fun i11 =>
    T.ldI IntKind.i64 n9 (n10 + Int.toNat i2 * 3 + 1) fun i12 =>
    T.ldS n9 (n10 + Int.toNat i2 * 3 + 2) fun o13 n14 n15 =>
    T.ldI IntKind.i32 n5 0 fun i16 =>
    T.ldI IntKind.i64 n5 1 fun i17 =>
    T.both
    (T.call 71
    [Value.agg (Array.mk [Value.int IntKind.i64 i11, Value.int IntKind.i64 i12, Value.slice o13 n14 n15]),
    Value.agg (Array.mk [Value.int IntKind.i32 i16, Value.int IntKind.i64 i17])]
    fun v18 =>
    T.asU v18 fun l19 =>
    T.req (List.length l19 = 2)
    (T.asA (List.headD l19 (Value.tuple (Array.mk []))) fun l20 =>
    T.req (List.length l20 = 3)
    (T.asI IntKind.i32 (List.headD l20 (Value.tuple (Array.mk []))) fun i21 =>
    T.asI IntKind.i64 (List.headD (List.tail l20) (Value.tuple (Array.mk []))) fun i22 =>
    T.asB (List.headD (List.tail (List.tail l20)) (Value.tuple (Array.mk []))) fun b23 =>
    T.asB (List.headD (List.tail l19) (Value.tuple (Array.mk []))) fun b24 =>
    T.chk [(Addr.mk n0 n1 none, Value.slice o6 n7 n8)]
    (T.new (Obj.cells (Array.mk [Value.int IntKind.i32 0, Value.int IntKind.i64 0, Value.bool false]) 63) fun n25 =>
    T.chk [(Addr.mk n0 n1 none, Value.slice o6 n7 n8)]
    (T.st n25 0 (Value.int IntKind.i32 i21)
    (T.st n25 1 (Value.int IntKind.i64 i22)
    (T.st n25 2 (Value.bool b23)
    (T.chk []
    (T.loop 0 [Value.int IntKind.i64 0] fun l26 j27 =>
    T.asI IntKind.i64 (List.headD l26 (Value.tuple (Array.mk []))) fun i28 =>
    T.ite (decide (i28 < i2))
    (T.drew
    (T.ldS n0 n1 fun o29 n30 n31 =>
    T.req (0 ≤ i28 ∧ i28 < (↑n30 : Int))
    (T.sm o29 fun n32 n33 =>
    T.ldI IntKind.i64 n32 (n33 + Int.toNat i28 * 3) fun i34 =>
    T.ldI IntKind.i64 n32 (n33 + Int.toNat i28 * 3 + 1) fun i35 =>
    T.ldS n32 (n33 + Int.toNat i28 * 3 + 2) fun o36 n37 n38 =>
    T.ldI IntKind.i32 n5 0 fun i39 =>
    T.ldI IntKind.i64 n5 1 fun i40 =>
    T.both
    (T.call 71
    [Value.agg
    (Array.mk
    [Value.int IntKind.i64 i34, Value.int IntKind.i64 i35,
    Value.slice o36 n37 n38]),
    Value.agg (Array.mk [Value.int IntKind.i32 i39, Value.int IntKind.i64 i40])]
    fun v41 =>
    T.asU v41 fun l42 =>
    T.req (List.length l42 = 2)
    (T.asA (List.headD l42 (Value.tuple (Array.mk []))) fun l43 =>
    T.req (List.length l43 = 3)
    (T.asI IntKind.i32 (List.headD l43 (Value.tuple (Array.mk [])))
    fun i44 =>
    T.asI IntKind.i64
    (List.headD (List.tail l43) (Value.tuple (Array.mk [])))
    fun i45 =>
    T.asB
    (List.headD (List.tail (List.tail l43))
    (Value.tuple (Array.mk [])))
    fun b46 =>
    T.asB (List.headD (List.tail l42) (Value.tuple (Array.mk [])))
    fun b47 =>
    T.chk [(Addr.mk n0 n1 none, Value.slice o29 n30 n31)]
    (T.new
    (Obj.cells
    (Array.mk
    [Value.int IntKind.i32 0, Value.int IntKind.i64 0,
    Value.bool false])
    63)
    fun n48 =>
    T.chk [(Addr.mk n0 n1 none, Value.slice o29 n30 n31)]
    (T.st n48 0 (Value.int IntKind.i32 i44)
    (T.st n48 1 (Value.int IntKind.i64 i45)
    (T.st n48 2 (Value.bool b46)
    (T.chk []
    (T.ite b47
    (T.ldB n48 2 fun b49 =>
    T.ite b49 (T.ret (Value.bool false))
    (T.ldB n25 2 fun b50 =>
    T.ite b50 (T.ret (Value.bool false))
    (T.next 0
    [Value.int IntKind.i64
    (IntKind.wrap IntKind.i64
    (i28 + 1))]
    ([Value.pointer
    (some (Addr.mk n0 n1 none)),
    Value.int IntKind.i64 i2,
    Value.pointer
    (some (Addr.mk n5 0 none)),
    Value.pointer
    (some
    (Addr.mk n25 0 none))] =
    [Value.pointer
    (some (Addr.mk n0 n1 none)),
    Value.int IntKind.i64 i2,
    Value.pointer
    (some (Addr.mk n5 0 none)),
    Value.pointer
    (some
    (Addr.mk n25 0 none))] ∧ ([] : List Deferred) = []))))
    (T.next 0
    [Value.int IntKind.i64
    (IntKind.wrap IntKind.i64 (i28 + 1))]
    ([Value.pointer (some (Addr.mk n0 n1 none)),
    Value.int IntKind.i64 i2,
    Value.pointer
    (some (Addr.mk n5 0 none)),
    Value.pointer
    (some (Addr.mk n25 0 none))] =
    [Value.pointer
    (some (Addr.mk n0 n1 none)),
    Value.int IntKind.i64 i2,
    Value.pointer
    (some (Addr.mk n5 0 none)),
    Value.pointer
    (some (Addr.mk n25 0 none))] ∧ ([] : List Deferred) = [])))))))))))
    (T.new
    (Obj.cells
    (Array.mk
    [Value.int IntKind.i32 0, Value.int IntKind.i64 0, Value.bool false])
    63)
    fun n51 =>
    T.chk
    [(Addr.mk n5 0 none, Value.int IntKind.i32 i39),
    (Addr.mk n5 1 none, Value.int IntKind.i64 i40),
    (Addr.mk n32 (n33 + Int.toNat i28 * 3) none, Value.int IntKind.i64 i34),
    (Addr.mk n32 (n33 + Int.toNat i28 * 3 + 1) none,
    Value.int IntKind.i64 i35),
    (Addr.mk n32 (n33 + Int.toNat i28 * 3 + 2) none, Value.slice o36 n37 n38),
    (Addr.mk n0 n1 none, Value.slice o29 n30 n31)]
    (T.call 71
    [Value.agg
    (Array.mk
    [Value.int IntKind.i64 i34, Value.int IntKind.i64 i35,
    Value.slice o36 n37 n38]),
    Value.agg
    (Array.mk [Value.int IntKind.i32 i39, Value.int IntKind.i64 i40])]
    fun v52 =>
    T.asU v52 fun l53 =>
    T.req (List.length l53 = 2)
    (T.asA (List.headD l53 (Value.tuple (Array.mk []))) fun l54 =>
    T.req (List.length l54 = 3)
    (T.asI IntKind.i32 (List.headD l54 (Value.tuple (Array.mk [])))
    fun i55 =>
    T.asI IntKind.i64
    (List.headD (List.tail l54) (Value.tuple (Array.mk [])))
    fun i56 =>
    T.asB
    (List.headD (List.tail (List.tail l54))
    (Value.tuple (Array.mk [])))
    fun b57 =>
    T.asB
    (List.headD (List.tail l53) (Value.tuple (Array.mk [])))
    fun b58 =>
    T.chk [(Addr.mk n0 n1 none, Value.slice o29 n30 n31)]
    (T.st n51 0 (Value.int IntKind.i32 i55)
    (T.st n51 1 (Value.int IntKind.i64 i56)
    (T.st n51 2 (Value.bool b57)
    (T.chk []
    (T.ite b58
    (T.ldB n51 2 fun b59 =>
    T.ite b59 (T.ret (Value.bool false))
    (T.ldB n25 2 fun b60 =>
    T.ite b60 (T.ret (Value.bool false))
    (T.next 0
    [Value.int IntKind.i64
    (IntKind.wrap IntKind.i64
    (i28 + 1))]
    ([Value.pointer
    (some (Addr.mk n0 n1 none)),
    Value.int IntKind.i64 i2,
    Value.pointer
    (some (Addr.mk n5 0 none)),
    Value.pointer
    (some
    (Addr.mk n25 0 none))] =
    [Value.pointer
    (some (Addr.mk n0 n1 none)),
    Value.int IntKind.i64 i2,
    Value.pointer
    (some (Addr.mk n5 0 none)),
    Value.pointer
    (some
    (Addr.mk n25 0 none))] ∧ ([] : List Deferred) = []))))
    (T.next 0
    [Value.int IntKind.i64
    (IntKind.wrap IntKind.i64 (i28 + 1))]
    ([Value.pointer (some (Addr.mk n0 n1 none)),
    Value.int IntKind.i64 i2,
    Value.pointer
    (some (Addr.mk n5 0 none)),
    Value.pointer
    (some (Addr.mk n25 0 none))] =
    [Value.pointer
    (some (Addr.mk n0 n1 none)),
    Value.int IntKind.i64 i2,
    Value.pointer
    (some (Addr.mk n5 0 none)),
    Value.pointer
    (some (Addr.mk n25 0 none))] ∧ ([] : List Deferred) = []))))))))))))))
    (T.ret (Value.bool true)))))))))))
    (T.new (Obj.cells (Array.mk [Value.int IntKind.i32 0, Value.int IntKind.i64 0, Value.bool false]) 63) fun n61 =>
    T.chk
    [(Addr.mk n5 0 none, Value.int IntKind.i32 i16), (Addr.mk n5 1 none, Value.int IntKind.i64 i17),
    (Addr.mk n9 (n10 + Int.toNat i2 * 3) none, Value.int IntKind.i64 i11),
    (Addr.mk n9 (n10 + Int.toNat i2 * 3 + 1) none, Value.int IntKind.i64 i12),
    (Addr.mk n9 (n10 + Int.toNat i2 * 3 + 2) none, Value.slice o13 n14 n15), (Addr.mk n0 n1 none, Value.slice o6 n7 n8)]
    (T.call 71
    [Value.agg (Array.mk [Value.int IntKind.i64 i11, Value.int IntKind.i64 i12, Value.slice o13 n14 n15]),
    Value.agg (Array.mk [Value.int IntKind.i32 i16, Value.int IntKind.i64 i17])]
    fun v62 =>
    T.asU v62 fun l63 =>
    T.req (List.length l63 = 2)
    (T.asA (List.headD l63 (Value.tuple (Array.mk []))) fun l64 =>
    T.req (List.length l64 = 3)
    (T.asI IntKind.i32 (List.headD l64 (Value.tuple (Array.mk []))) fun i65 =>
    T.asI IntKind.i64 (List.headD (List.tail l64) (Value.tuple (Array.mk []))) fun i66 =>
    T.asB (List.headD (List.tail (List.tail l64)) (Value.tuple (Array.mk []))) fun b67 =>
    T.asB (List.headD (List.tail l63) (Value.tuple (Array.mk []))) fun b68 =>
    T.chk [(Addr.mk n0 n1 none, Value.slice o6 n7 n8)]
    (T.st n61 0 (Value.int IntKind.i32 i65)
    (T.st n61 1 (Value.int IntKind.i64 i66)
    (T.st n61 2 (Value.bool b67)
    (T.chk []
    (T.loop 0 [Value.int IntKind.i64 0] fun l69 j70 =>
    T.asI IntKind.i64 (List.headD l69 (Value.tuple (Array.mk []))) fun i71 =>
    T.ite (decide (i71 < i2))
    (T.drew
    (T.ldS n0 n1 fun o72 n73 n74 =>
    T.req (0 ≤ i71 ∧ i71 < (↑n73 : Int))
    (T.sm o72 fun n75 n76 =>
    T.ldI IntKind.i64 n75 (n76 + Int.toNat i71 * 3) fun i77 =>
    T.ldI IntKind.i64 n75 (n76 + Int.toNat i71 * 3 + 1) fun i78 =>
    T.ldS n75 (n76 + Int.toNat i71 * 3 + 2) fun o79 n80 n81 =>
    T.ldI IntKind.i32 n5 0 fun i82 =>
    T.ldI IntKind.i64 n5 1 fun i83 =>
    T.both
    (T.call 71
    [Value.agg
    (Array.mk
    [Value.int IntKind.i64 i77, Value.int IntKind.i64 i78,
    Value.slice o79 n80 n81]),
    Value.agg (Array.mk [Value.int IntKind.i32 i82, Value.int IntKind.i64 i83])]
    fun v84 =>
    T.asU v84 fun l85 =>
    T.req (List.length l85 = 2)
    (T.asA (List.headD l85 (Value.tuple (Array.mk []))) fun l86 =>
    T.req (List.length l86 = 3)
    (T.asI IntKind.i32 (List.headD l86 (Value.tuple (Array.mk [])))
    fun i87 =>
    T.asI IntKind.i64
    (List.headD (List.tail l86) (Value.tuple (Array.mk [])))
    fun i88 =>
    T.asB
    (List.headD (List.tail (List.tail l86))
    (Value.tuple (Array.mk [])))
    fun b89 =>
    T.asB (List.headD (List.tail l85) (Value.tuple (Array.mk [])))
    fun b90 =>
    T.chk [(Addr.mk n0 n1 none, Value.slice o72 n73 n74)]
    (T.new
    (Obj.cells
    (Array.mk
    [Value.int IntKind.i32 0, Value.int IntKind.i64 0,
    Value.bool false])
    63)
    fun n91 =>
    T.chk [(Addr.mk n0 n1 none, Value.slice o72 n73 n74)]
    (T.st n91 0 (Value.int IntKind.i32 i87)
    (T.st n91 1 (Value.int IntKind.i64 i88)
    (T.st n91 2 (Value.bool b89)
    (T.chk []
    (T.ite b90
    (T.ldB n91 2 fun b92 =>
    T.ite b92 (T.ret (Value.bool false))
    (T.ldB n61 2 fun b93 =>
    T.ite b93 (T.ret (Value.bool false))
    (T.next 0
    [Value.int IntKind.i64
    (IntKind.wrap IntKind.i64
    (i71 + 1))]
    ([Value.pointer
    (some (Addr.mk n0 n1 none)),
    Value.int IntKind.i64 i2,
    Value.pointer
    (some (Addr.mk n5 0 none)),
    Value.pointer
    (some
    (Addr.mk n61 0 none))] =
    [Value.pointer
    (some (Addr.mk n0 n1 none)),
    Value.int IntKind.i64 i2,
    Value.pointer
    (some (Addr.mk n5 0 none)),
    Value.pointer
    (some
    (Addr.mk n61 0 none))] ∧ ([] : List Deferred) = []))))
    (T.next 0
    [Value.int IntKind.i64
    (IntKind.wrap IntKind.i64 (i71 + 1))]
    ([Value.pointer (some (Addr.mk n0 n1 none)),
    Value.int IntKind.i64 i2,
    Value.pointer
    (some (Addr.mk n5 0 none)),
    Value.pointer
    (some (Addr.mk n61 0 none))] =
    [Value.pointer
    (some (Addr.mk n0 n1 none)),
    Value.int IntKind.i64 i2,
    Value.pointer
    (some (Addr.mk n5 0 none)),
    Value.pointer
    (some (Addr.mk n61 0 none))] ∧ ([] : List Deferred) = [])))))))))))
    (T.new
    (Obj.cells
    (Array.mk
    [Value.int IntKind.i32 0, Value.int IntKind.i64 0, Value.bool false])
    63)
    fun n94 =>
    T.chk
    [(Addr.mk n5 0 none, Value.int IntKind.i32 i82),
    (Addr.mk n5 1 none, Value.int IntKind.i64 i83),
    (Addr.mk n75 (n76 + Int.toNat i71 * 3) none, Value.int IntKind.i64 i77),
    (Addr.mk n75 (n76 + Int.toNat i71 * 3 + 1) none,
    Value.int IntKind.i64 i78),
    (Addr.mk n75 (n76 + Int.toNat i71 * 3 + 2) none, Value.slice o79 n80 n81),
    (Addr.mk n0 n1 none, Value.slice o72 n73 n74)]
    (T.call 71
    [Value.agg
    (Array.mk
    [Value.int IntKind.i64 i77, Value.int IntKind.i64 i78,
    Value.slice o79 n80 n81]),
    Value.agg
    (Array.mk [Value.int IntKind.i32 i82, Value.int IntKind.i64 i83])]
    fun v95 =>
    T.asU v95 fun l96 =>
    T.req (List.length l96 = 2)
    (T.asA (List.headD l96 (Value.tuple (Array.mk []))) fun l97 =>
    T.req (List.length l97 = 3)
    (T.asI IntKind.i32 (List.headD l97 (Value.tuple (Array.mk [])))
    fun i98 =>
    T.asI IntKind.i64
    (List.headD (List.tail l97) (Value.tuple (Array.mk [])))
    fun i99 =>
    T.asB
    (List.headD (List.tail (List.tail l97))
    (Value.tuple (Array.mk [])))
    fun b100 =>
    T.asB
    (List.headD (List.tail l96) (Value.tuple (Array.mk [])))
    fun b101 =>
    T.chk [(Addr.mk n0 n1 none, Value.slice o72 n73 n74)]
    (T.st n94 0 (Value.int IntKind.i32 i98)
    (T.st n94 1 (Value.int IntKind.i64 i99)
    (T.st n94 2 (Value.bool b100)
    (T.chk []
    (T.ite b101
    (T.ldB n94 2 fun b102 =>
    T.ite b102 (T.ret (Value.bool false))
    (T.ldB n61 2 fun b103 =>
    T.ite b103 (T.ret (Value.bool false))
    (T.next 0
    [Value.int IntKind.i64
    (IntKind.wrap IntKind.i64
    (i71 + 1))]
    ([Value.pointer
    (some (Addr.mk n0 n1 none)),
    Value.int IntKind.i64 i2,
    Value.pointer
    (some (Addr.mk n5 0 none)),
    Value.pointer
    (some
    (Addr.mk n61 0 none))] =
    [Value.pointer
    (some (Addr.mk n0 n1 none)),
    Value.int IntKind.i64 i2,
    Value.pointer
    (some (Addr.mk n5 0 none)),
    Value.pointer
    (some
    (Addr.mk n61 0 none))] ∧ ([] : List Deferred) = []))))
    (T.next 0
    [Value.int IntKind.i64
    (IntKind.wrap IntKind.i64 (i71 + 1))]
    ([Value.pointer (some (Addr.mk n0 n1 none)),
    Value.int IntKind.i64 i2,
    Value.pointer
    (some (Addr.mk n5 0 none)),
    Value.pointer
    (some (Addr.mk n61 0 none))] =
    [Value.pointer
    (some (Addr.mk n0 n1 none)),
    Value.int IntKind.i64 i2,
    Value.pointer
    (some (Addr.mk n5 0 none)),
    Value.pointer
    (some (Addr.mk n61 0 none))] ∧ ([] : List Deferred) = []))))))))))))))
    (T.ret (Value.bool true)))))))))))))
theorem e72 (n0 n1 : Nat) (i2 : Int) (i3 : Int) (i4 : Int) : treeOf Try.prog Try.f72 (codeOf Try.f72) (.s .n (.s (.p [0, 1, 2, 3, 4, 5, 6, 7, 8, 9, 10, 11, 12, 13, 14]) (.s (.s .n (.u (.l [(9, .int .i64)] [0, 1, 5, 7] (.s .n (.s (.u (.s (.p [0, 1, 2, 3, 4, 5, 6, 7, 8, 9, 10, 11, 12, 13, 14]) .n)) .n))))) .n))) [.p n0 n1, .v (.int .i64 i2), .v (.agg #[.int .i32 i3, .int .i64 i4])] = (t72 n0 n1 i2 i3 i4) := by kernel_rfl
theorem c72 (n0 n1 : Nat) (i2 : Int) (i3 : Int) (i4 : Int) {w : World} {R : Ending → World → Prop} (h : (t72 n0 n1 i2 i3 i4).sem Try.prog R ρ0 w) : Calls Try.prog 72 #[.pointer (some ⟨n0, n1, none⟩), .int .i64 i2, .agg #[.int .i32 i3, .int .i64 i4]] w R :=
  calls_of mixed Try.func72 rfl rfl (e72 n0 n1 i2 i3 i4) h
def t73 (n0 n1 : Nat) (i2 : Int) : T :=
  T.loop 0 [Value.slice none 0 0, Value.int IntKind.i64 0] fun l3 j4 =>
  T.asS (List.headD l3 (Value.tuple (Array.mk []))) fun o5 n6 n7 =>
    T.asI IntKind.i64 (List.headD (List.tail l3) (Value.tuple (Array.mk []))) fun i8 =>
    T.ldS n0 n1 fun o9 n10 n11 =>
    T.req (0 ≤ i2 ∧ i2 < (↑n10 : Int))
    (T.sm o9 fun n12 n13 =>
    T.ldS n12 (n13 + Int.toNat i2 * 3 + 2) fun o14 n15 n16 =>
    T.ite (decide (i8 < (↑n15 : Int)))
    (T.ldS n0 n1 fun o17 n18 n19 =>
    T.req (0 ≤ i2 ∧ i2 < (↑n18 : Int))
    (T.sm o17 fun n20 n21 =>
    T.ldS n20 (n21 + Int.toNat i2 * 3 + 2) fun o22 n23 n24 =>
    T.req (0 ≤ i8 ∧ i8 < (↑n23 : Int))
    (T.sm o22 fun n25 n26 =>
    T.ldI IntKind.i32 n25 (n26 + Int.toNat i8 * 3) fun i27 =>
    T.ldI IntKind.i64 n25 (n26 + Int.toNat i8 * 3 + 1) fun i28 =>
    T.call 72
    [Value.pointer (some (Addr.mk n0 n1 none)), Value.int IntKind.i64 i2,
    Value.agg (Array.mk [Value.int IntKind.i32 i27, Value.int IntKind.i64 i28])]
    fun v29 =>
    T.asB v29 fun b30 =>
    T.ite (!b30)
    (T.ldS n0 n1 fun o31 n32 n33 =>
    T.req (0 ≤ i2 ∧ i2 < (↑n32 : Int))
    (T.sm o31 fun n34 n35 =>
    T.ldS n34 (n35 + Int.toNat i2 * 3 + 2) fun o36 n37 n38 =>
    T.req (0 ≤ i8 ∧ i8 < (↑n37 : Int))
    (T.sm o36 fun n39 n40 =>
    T.ldI IntKind.i32 n39 (n40 + Int.toNat i8 * 3) fun i41 =>
    T.ldI IntKind.i64 n39 (n40 + Int.toNat i8 * 3 + 1) fun i42 =>
    T.new (Obj.cells (Array.mk [Value.int IntKind.i32 i41, Value.int IntKind.i64 i42]) 39) fun n43 =>
    T.run
    (biV Builtin.append (Array.mk [36, 36]) 36
    (Array.mk [Value.slice o5 n6 n7, Value.slice (some (Addr.mk n43 0 none)) 1 1]))
    fun v44 =>
    T.asS v44 fun o45 n46 n47 =>
    T.next 0 [Value.slice o45 n46 n47, Value.int IntKind.i64 (IntKind.wrap IntKind.i64 (i8 + 1))]
    ([Value.pointer (some (Addr.mk n0 n1 none)), Value.int IntKind.i64 i2] =
    [Value.pointer (some (Addr.mk n0 n1 none)), Value.int IntKind.i64 i2] ∧ ([] : List Deferred) = []))))
    (T.next 0 [Value.slice o5 n6 n7, Value.int IntKind.i64 (IntKind.wrap IntKind.i64 (i8 + 1))]
    ([Value.pointer (some (Addr.mk n0 n1 none)), Value.int IntKind.i64 i2] =
    [Value.pointer (some (Addr.mk n0 n1 none)), Value.int IntKind.i64 i2] ∧ ([] : List Deferred) = [])))))
    (T.ret (Value.slice o5 n6 n7)))
theorem e73 (n0 n1 : Nat) (i2 : Int) : treeOf Try.prog Try.f73 (codeOf Try.f73) (.s .n (.s .n (.s (.s .n (.u (.l [(5, .slice), (6, .int .i64)] [0, 1] .n))) .n))) [.p n0 n1, .v (.int .i64 i2)] = (t73 n0 n1 i2) := by kernel_rfl
theorem c73 (n0 n1 : Nat) (i2 : Int) {w : World} {R : Ending → World → Prop} (h : (t73 n0 n1 i2).sem Try.prog R ρ0 w) : Calls Try.prog 73 #[.pointer (some ⟨n0, n1, none⟩), .int .i64 i2] w R :=
  calls_of mixed Try.func73 rfl rfl (e73 n0 n1 i2) h
def t74 (o0 : Option Addr) (n1 n2 : Nat) (i3 : Int) (i4 : Int) : T :=
  T.new (Obj.cells (Array.mk [Value.int IntKind.i64 i3, Value.int IntKind.i64 i4]) 27) fun n5 =>
  T.loop 0 [Value.int IntKind.i64 0] fun l6 j7 =>
    T.asI IntKind.i64 (List.headD l6 (Value.tuple (Array.mk []))) fun i8 =>
    T.ite (decide (i8 < (↑n1 : Int)))
    (T.drew
    (T.req (0 ≤ i8 ∧ i8 < (↑n1 : Int))
    (T.sm o0 fun n9 n10 =>
    T.ldI IntKind.i64 n9 (n10 + Int.toNat i8 * 2) fun i11 =>
    T.ldI IntKind.i64 n9 (n10 + Int.toNat i8 * 2 + 1) fun i12 =>
    T.ldI IntKind.i64 n5 0 fun i13 =>
    T.ldI IntKind.i64 n5 1 fun i14 =>
    T.ite (i11 == i13 && (i12 == i14 && true)) (T.ret (Value.bool true))
    (T.next 0 [Value.int IntKind.i64 (IntKind.wrap IntKind.i64 (i8 + 1))]
    ([Value.slice o0 n1 n2, Value.pointer (some (Addr.mk n5 0 none))] = [Value.slice o0 n1 n2, Value.pointer (some (Addr.mk n5 0 none))] ∧ ([] : List Deferred) = [])))))
    (T.ret (Value.bool false))
theorem e74 (o0 : Option Addr) (n1 n2 : Nat) (i3 : Int) (i4 : Int) : treeOf Try.prog Try.f74 (codeOf Try.f74) (.s .n (.s (.s .n (.u (.l [(5, .int .i64)] [0, 3] (.s .n (.s (.u (.s (.p [0, 1, 2, 3, 4, 5]) .n)) .n))))) .n)) [.v (.slice o0 n1 n2), .v (.agg #[.int .i64 i3, .int .i64 i4])] = (t74 o0 n1 n2 i3 i4) := by kernel_rfl
theorem c74 (o0 : Option Addr) (n1 n2 : Nat) (i3 : Int) (i4 : Int) {w : World} {R : Ending → World → Prop} (h : (t74 o0 n1 n2 i3 i4).sem Try.prog R ρ0 w) : Calls Try.prog 74 #[.slice o0 n1 n2, .agg #[.int .i64 i3, .int .i64 i4]] w R :=
  calls_of mixed Try.func74 rfl rfl (e74 o0 n1 n2 i3 i4) h
def t3 (o0 : Option Addr) (n1 n2 : Nat) : T :=
  T.call 8 [] fun v3 =>
  T.asP v3 fun o4 =>
    T.blk 0
    (fun l5 j6 =>
    T.run (biV Builtin.min (Array.mk [3, 3]) 3 (Array.mk [Value.int IntKind.i64 (↑n1 : Int), Value.int IntKind.i64 200])) fun v7 =>
    T.asI IntKind.i64 v7 fun i8 =>
    T.req (0 ≤ i8 ∧ i8 ≤ (↑n2 : Int))
    (T.loop 0 [Value.int IntKind.i64 0] fun l9 j10 =>
    T.asI IntKind.i64 (List.headD l9 (Value.tuple (Array.mk []))) fun i11 =>
    T.ite (decide (i11 < (↑(Int.toNat i8) : Int)))
    (T.req (0 ≤ i11 ∧ i11 < (↑(Int.toNat i8) : Int))
    (T.sm (sliceBase o0 0 n2 4) fun n12 n13 =>
    T.ldI IntKind.i64 n12 (n13 + Int.toNat i11 * 4) fun i14 =>
    T.ldI IntKind.i64 n12 (n13 + Int.toNat i11 * 4 + 1) fun i15 =>
    T.ldI IntKind.i64 n12 (n13 + Int.toNat i11 * 4 + 2) fun i16 =>
    T.ldS n12 (n13 + Int.toNat i11 * 4 + 3) fun o17 n18 n19 =>
    T.new
    (Obj.cells (Array.mk [Value.int IntKind.i64 0, Value.int IntKind.i64 0, Value.int IntKind.i64 0, Value.slice none 0 0]) 30)
    fun n20 =>
    T.st n20 0 (Value.int IntKind.i64 i14)
    (T.st n20 1 (Value.int IntKind.i64 i15)
    (T.st n20 2 (Value.int IntKind.i64 i16)
    (T.st n20 3 (Value.slice o17 n18 n19)
    (T.blk 1
    (fun l21 j22 =>
    T.call 12 [Value.pointer o4] fun v23 =>
    T.asS v23 fun o24 n25 n26 =>
    T.loop 1 [Value.int IntKind.i64 0] fun l27 j28 =>
    T.asI IntKind.i64 (List.headD l27 (Value.tuple (Array.mk []))) fun i29 =>
    T.ite (decide (i29 < (↑n25 : Int)))
    (T.req (0 ≤ i29 ∧ i29 < (↑n25 : Int))
    (T.sm o24 fun n30 n31 =>
    T.ldI IntKind.i32 n30 (n31 + Int.toNat i29 * 2) fun i32 =>
    T.ldI IntKind.i64 n30 (n31 + Int.toNat i29 * 2 + 1) fun i33 =>
    T.new (Obj.cells (Array.mk [Value.int IntKind.i32 0, Value.int IntKind.i64 0]) 39) fun n34 =>
    T.st n34 0 (Value.int IntKind.i32 i32)
    (T.st n34 1 (Value.int IntKind.i64 i33)
    (T.ldI IntKind.i32 n34 0 fun i35 =>
    T.ldI IntKind.i64 n34 1 fun i36 =>
    T.call 13
    [Value.pointer o4,
    Value.agg (Array.mk [Value.int IntKind.i32 i35, Value.int IntKind.i64 i36])]
    fun v37 =>
    T.asS v37 fun o38 n39 n40 =>
    T.loop 2
    [Value.int IntKind.i64 0, Value.int IntKind.i64 0, Value.bool false,
    Value.int IntKind.i64 0]
    fun l41 j42 =>
    T.asI IntKind.i64 (List.headD l41 (Value.tuple (Array.mk []))) fun i43 =>
    T.asI IntKind.i64 (List.headD (List.tail l41) (Value.tuple (Array.mk [])))
    fun i44 =>
    T.asB (List.headD (List.tail (List.tail l41)) (Value.tuple (Array.mk [])))
    fun b45 =>
    T.asI IntKind.i64
    (List.headD (List.tail (List.tail (List.tail l41)))
    (Value.tuple (Array.mk [])))
    fun i46 =>
    T.ite (decide (i46 < (↑n39 : Int)))
    (T.req (0 ≤ i46 ∧ i46 < (↑n39 : Int))
    (T.sm o38 fun n47 n48 =>
    T.ldI IntKind.i64 n47 (n48 + Int.toNat i46 * 4) fun i49 =>
    T.ldI IntKind.i64 n47 (n48 + Int.toNat i46 * 4 + 1) fun i50 =>
    T.ldB n47 (n48 + Int.toNat i46 * 4 + 2) fun b51 =>
    T.ldB n47 (n48 + Int.toNat i46 * 4 + 3) fun b52 =>
    T.new
    (Obj.cells
    (Array.mk
    [Value.int IntKind.i64 0, Value.int IntKind.i64 0,
    Value.bool false, Value.bool false])
    43)
    fun n53 =>
    T.st n53 0 (Value.int IntKind.i64 i49)
    (T.st n53 1 (Value.int IntKind.i64 i50)
    (T.st n53 2 (Value.bool b51)
    (T.st n53 3 (Value.bool b52)
    (T.blk 3
    (fun l54 j55 =>
    T.blk 3
    (fun l56 j57 =>
    T.asB
    (List.headD l56
    (Value.tuple (Array.mk [])))
    fun b58 =>
    T.blk 3
    (fun l59 j60 =>
    T.asB
    (List.headD l59
    (Value.tuple (Array.mk [])))
    fun b61 =>
    T.ite b61
    (T.next 2
    [Value.int IntKind.i64
    (IntKind.wrap
    IntKind.i64
    (i43 + 1)),
    Value.int IntKind.i64 i44,
    Value.bool b58,
    Value.int IntKind.i64
    (IntKind.wrap
    IntKind.i64
    (i46 + 1))]
    ([Value.pointer o4,
    Value.slice
    (sliceBase o0 0 n2
    4)
    (Int.toNat i8) n2,
    Value.int IntKind.i64
    (↑(Int.toNat i8) :
    Int),
    Value.int IntKind.i64
    i11,
    Value.slice o24 n25
    n26,
    Value.int IntKind.i64
    (↑n25 : Int),
    Value.int IntKind.i64
    i29,
    Value.slice o38 n39
    n40,
    Value.int IntKind.i64
    (↑n39 : Int)] =
    [Value.pointer o4,
    Value.slice
    (sliceBase o0 0 n2
    4)
    (Int.toNat i8) n2,
    Value.int IntKind.i64
    (↑(Int.toNat i8) :
    Int),
    Value.int IntKind.i64
    i11,
    Value.slice o24 n25
    n26,
    Value.int IntKind.i64
    (↑n25 : Int),
    Value.int IntKind.i64
    i29,
    Value.slice o38 n39
    n40,
    Value.int IntKind.i64
    (↑n39 : Int)] ∧ ([] : List Deferred) = []))
    (T.ldB n53 3 fun b62 =>
    T.ite b62
    (T.next 2
    [Value.int IntKind.i64
    i43,
    Value.int IntKind.i64
    (IntKind.wrap
    IntKind.i64
    (i44 + 1)),
    Value.bool b58,
    Value.int IntKind.i64
    (IntKind.wrap
    IntKind.i64
    (i46 + 1))]
    ([Value.pointer o4,
    Value.slice
    (sliceBase o0 0
    n2 4)
    (Int.toNat i8)
    n2,
    Value.int
    IntKind.i64
    (↑(Int.toNat
    i8) :
    Int),
    Value.int
    IntKind.i64 i11,
    Value.slice o24
    n25 n26,
    Value.int
    IntKind.i64
    (↑n25 : Int),
    Value.int
    IntKind.i64 i29,
    Value.slice o38
    n39 n40,
    Value.int
    IntKind.i64
    (↑n39 : Int)] =
    [Value.pointer o4,
    Value.slice
    (sliceBase o0 0
    n2 4)
    (Int.toNat i8)
    n2,
    Value.int
    IntKind.i64
    (↑(Int.toNat
    i8) :
    Int),
    Value.int
    IntKind.i64 i11,
    Value.slice o24
    n25 n26,
    Value.int
    IntKind.i64
    (↑n25 : Int),
    Value.int
    IntKind.i64 i29,
    Value.slice o38
    n39 n40,
    Value.int
    IntKind.i64
    (↑n39 : Int)] ∧ ([] : List Deferred) = []))
    (T.next 2
    [Value.int IntKind.i64
    i43,
    Value.int IntKind.i64
    i44,
    Value.bool b58,
    Value.int IntKind.i64
    (IntKind.wrap
    IntKind.i64
    (i46 + 1))]
    ([Value.pointer o4,
    Value.slice
    (sliceBase o0 0
    n2 4)
    (Int.toNat i8)
    n2,
    Value.int
    IntKind.i64
    (↑(Int.toNat
    i8) :
    Int),
    Value.int
    IntKind.i64 i11,
    Value.slice o24
    n25 n26,
    Value.int
    IntKind.i64
    (↑n25 : Int),
    Value.int
    IntKind.i64 i29,
    Value.slice o38
    n39 n40,
    Value.int
    IntKind.i64
    (↑n39 : Int)] =
    [Value.pointer o4,
    Value.slice
    (sliceBase o0 0
    n2 4)
    (Int.toNat i8)
    n2,
    Value.int
    IntKind.i64
    (↑(Int.toNat
    i8) :
    Int),
    Value.int
    IntKind.i64 i11,
    Value.slice o24
    n25 n26,
    Value.int
    IntKind.i64
    (↑n25 : Int),
    Value.int
    IntKind.i64 i29,
    Value.slice o38
    n39 n40,
    Value.int
    IntKind.i64
    (↑n39 : Int)] ∧ ([] : List Deferred) = []))))
    (T.ldB n53 3 fun b63 =>
    T.ite b63
    (T.ldB n53 2 fun b64 =>
    T.next 3 [Value.bool b64]
    ([Value.pointer o4,
    Value.int IntKind.i64
    i43,
    Value.int IntKind.i64
    i44,
    Value.bool b58,
    Value.pointer
    (some
    (Addr.mk n53 0
    none)),
    Value.slice
    (sliceBase o0 0 n2
    4)
    (Int.toNat i8) n2,
    Value.int IntKind.i64
    (↑(Int.toNat i8) :
    Int),
    Value.int IntKind.i64
    i11,
    Value.slice o24 n25
    n26,
    Value.int IntKind.i64
    (↑n25 : Int),
    Value.int IntKind.i64
    i29,
    Value.slice o38 n39
    n40,
    Value.int IntKind.i64
    (↑n39 : Int),
    Value.int IntKind.i64
    i46] =
    [Value.pointer o4,
    Value.int IntKind.i64
    i43,
    Value.int IntKind.i64
    i44,
    Value.bool b58,
    Value.pointer
    (some
    (Addr.mk n53 0
    none)),
    Value.slice
    (sliceBase o0 0 n2
    4)
    (Int.toNat i8) n2,
    Value.int IntKind.i64
    (↑(Int.toNat i8) :
    Int),
    Value.int IntKind.i64
    i11,
    Value.slice o24 n25
    n26,
    Value.int IntKind.i64
    (↑n25 : Int),
    Value.int IntKind.i64
    i29,
    Value.slice o38 n39
    n40,
    Value.int IntKind.i64
    (↑n39 : Int),
    Value.int IntKind.i64
    i46] ∧ ([] : List Deferred) = []))
    (T.next 3 [Value.bool false]
    ([Value.pointer o4,
    Value.int IntKind.i64
    i43,
    Value.int IntKind.i64
    i44,
    Value.bool b58,
    Value.pointer
    (some
    (Addr.mk n53 0
    none)),
    Value.slice
    (sliceBase o0 0 n2 4)
    (Int.toNat i8) n2,
    Value.int IntKind.i64
    (↑(Int.toNat i8) :
    Int),
    Value.int IntKind.i64
    i11,
    Value.slice o24 n25 n26,
    Value.int IntKind.i64
    (↑n25 : Int),
    Value.int IntKind.i64
    i29,
    Value.slice o38 n39 n40,
    Value.int IntKind.i64
    (↑n39 : Int),
    Value.int IntKind.i64
    i46] =
    [Value.pointer o4,
    Value.int IntKind.i64
    i43,
    Value.int IntKind.i64
    i44,
    Value.bool b58,
    Value.pointer
    (some
    (Addr.mk n53 0
    none)),
    Value.slice
    (sliceBase o0 0 n2 4)
    (Int.toNat i8) n2,
    Value.int IntKind.i64
    (↑(Int.toNat i8) :
    Int),
    Value.int IntKind.i64
    i11,
    Value.slice o24 n25 n26,
    Value.int IntKind.i64
    (↑n25 : Int),
    Value.int IntKind.i64
    i29,
    Value.slice o38 n39 n40,
    Value.int IntKind.i64
    (↑n39 : Int),
    Value.int IntKind.i64
    i46] ∧ ([] : List Deferred) = []))))
    (T.ite b45
    (T.next 3 [Value.bool true]
    ([Value.pointer o4,
    Value.int IntKind.i64 i43,
    Value.int IntKind.i64 i44,
    Value.pointer
    (some (Addr.mk n53 0 none)),
    Value.slice
    (sliceBase o0 0 n2 4)
    (Int.toNat i8) n2,
    Value.int IntKind.i64
    (↑(Int.toNat i8) : Int),
    Value.int IntKind.i64 i11,
    Value.slice o24 n25 n26,
    Value.int IntKind.i64
    (↑n25 : Int),
    Value.int IntKind.i64 i29,
    Value.slice o38 n39 n40,
    Value.int IntKind.i64
    (↑n39 : Int),
    Value.int IntKind.i64 i46] =
    [Value.pointer o4,
    Value.int IntKind.i64 i43,
    Value.int IntKind.i64 i44,
    Value.pointer
    (some (Addr.mk n53 0 none)),
    Value.slice
    (sliceBase o0 0 n2 4)
    (Int.toNat i8) n2,
    Value.int IntKind.i64
    (↑(Int.toNat i8) : Int),
    Value.int IntKind.i64 i11,
    Value.slice o24 n25 n26,
    Value.int IntKind.i64
    (↑n25 : Int),
    Value.int IntKind.i64 i29,
    Value.slice o38 n39 n40,
    Value.int IntKind.i64
    (↑n39 : Int),
    Value.int IntKind.i64 i46] ∧ ([] : List Deferred) = []))
    (T.ldB n53 3 fun b65 =>
    T.next 3 [Value.bool !b65]
    ([Value.pointer o4,
    Value.int IntKind.i64 i43,
    Value.int IntKind.i64 i44,
    Value.pointer
    (some (Addr.mk n53 0 none)),
    Value.slice
    (sliceBase o0 0 n2 4)
    (Int.toNat i8) n2,
    Value.int IntKind.i64
    (↑(Int.toNat i8) : Int),
    Value.int IntKind.i64 i11,
    Value.slice o24 n25 n26,
    Value.int IntKind.i64
    (↑n25 : Int),
    Value.int IntKind.i64 i29,
    Value.slice o38 n39 n40,
    Value.int IntKind.i64
    (↑n39 : Int),
    Value.int IntKind.i64 i46] =
    [Value.pointer o4,
    Value.int IntKind.i64 i43,
    Value.int IntKind.i64 i44,
    Value.pointer
    (some (Addr.mk n53 0 none)),
    Value.slice
    (sliceBase o0 0 n2 4)
    (Int.toNat i8) n2,
    Value.int IntKind.i64
    (↑(Int.toNat i8) : Int),
    Value.int IntKind.i64 i11,
    Value.slice o24 n25 n26,
    Value.int IntKind.i64
    (↑n25 : Int),
    Value.int IntKind.i64 i29,
    Value.slice o38 n39 n40,
    Value.int IntKind.i64
    (↑n39 : Int),
    Value.int IntKind.i64 i46] ∧ ([] : List Deferred) = []))))
    (T.ldB n53 3 fun b66 =>
    T.ite b66
    (T.ite b45 (T.ret (Value.bool false))
    (T.next 3 []
    ([Value.pointer o4,
    Value.int IntKind.i64 i43,
    Value.int IntKind.i64 i44,
    Value.bool b45,
    Value.pointer
    (some (Addr.mk n53 0 none)),
    Value.slice
    (sliceBase o0 0 n2 4)
    (Int.toNat i8) n2,
    Value.int IntKind.i64
    (↑(Int.toNat i8) : Int),
    Value.int IntKind.i64 i11,
    Value.slice o24 n25 n26,
    Value.int IntKind.i64
    (↑n25 : Int),
    Value.int IntKind.i64 i29,
    Value.slice o38 n39 n40,
    Value.int IntKind.i64
    (↑n39 : Int),
    Value.int IntKind.i64 i46] =
    [Value.pointer o4,
    Value.int IntKind.i64 i43,
    Value.int IntKind.i64 i44,
    Value.bool b45,
    Value.pointer
    (some (Addr.mk n53 0 none)),
    Value.slice
    (sliceBase o0 0 n2 4)
    (Int.toNat i8) n2,
    Value.int IntKind.i64
    (↑(Int.toNat i8) : Int),
    Value.int IntKind.i64 i11,
    Value.slice o24 n25 n26,
    Value.int IntKind.i64
    (↑n25 : Int),
    Value.int IntKind.i64 i29,
    Value.slice o38 n39 n40,
    Value.int IntKind.i64
    (↑n39 : Int),
    Value.int IntKind.i64 i46] ∧ ([] : List Deferred) = [])))
    (T.next 3 []
    ([Value.pointer o4,
    Value.int IntKind.i64 i43,
    Value.int IntKind.i64 i44,
    Value.bool b45,
    Value.pointer
    (some (Addr.mk n53 0 none)),
    Value.slice (sliceBase o0 0 n2 4)
    (Int.toNat i8) n2,
    Value.int IntKind.i64
    (↑(Int.toNat i8) : Int),
    Value.int IntKind.i64 i11,
    Value.slice o24 n25 n26,
    Value.int IntKind.i64
    (↑n25 : Int),
    Value.int IntKind.i64 i29,
    Value.slice o38 n39 n40,
    Value.int IntKind.i64
    (↑n39 : Int),
    Value.int IntKind.i64 i46] =
    [Value.pointer o4,
    Value.int IntKind.i64 i43,
    Value.int IntKind.i64 i44,
    Value.bool b45,
    Value.pointer
    (some (Addr.mk n53 0 none)),
    Value.slice (sliceBase o0 0 n2 4)
    (Int.toNat i8) n2,
    Value.int IntKind.i64
    (↑(Int.toNat i8) : Int),
    Value.int IntKind.i64 i11,
    Value.slice o24 n25 n26,
    Value.int IntKind.i64
    (↑n25 : Int),
    Value.int IntKind.i64 i29,
    Value.slice o38 n39 n40,
    Value.int IntKind.i64
    (↑n39 : Int),
    Value.int IntKind.i64 i46] ∧ ([] : List Deferred) = [])))))))))
    (T.ite (decide (i43 > 1)) (T.ret (Value.bool false))
    (T.ite (i43 == 1)
    (T.ite (decide (i44 > 0)) (T.ret (Value.bool false))
    (T.ite (IntKind.wrap IntKind.i64 (i43 + i44) == 0)
    (T.ret (Value.bool false))
    (T.next 1
    [Value.int IntKind.i64 (IntKind.wrap IntKind.i64 (i29 + 1))]
    ([Value.pointer o4,
    Value.slice (sliceBase o0 0 n2 4) (Int.toNat i8) n2,
    Value.int IntKind.i64 (↑(Int.toNat i8) : Int),
    Value.int IntKind.i64 i11, Value.slice o24 n25 n26,
    Value.int IntKind.i64 (↑n25 : Int)] =
    [Value.pointer o4,
    Value.slice (sliceBase o0 0 n2 4) (Int.toNat i8) n2,
    Value.int IntKind.i64 (↑(Int.toNat i8) : Int),
    Value.int IntKind.i64 i11, Value.slice o24 n25 n26,
    Value.int IntKind.i64 (↑n25 : Int)] ∧ ([] : List Deferred) = []))))
    (T.ite (IntKind.wrap IntKind.i64 (i43 + i44) == 0)
    (T.ret (Value.bool false))
    (T.next 1
    [Value.int IntKind.i64 (IntKind.wrap IntKind.i64 (i29 + 1))]
    ([Value.pointer o4,
    Value.slice (sliceBase o0 0 n2 4) (Int.toNat i8) n2,
    Value.int IntKind.i64 (↑(Int.toNat i8) : Int),
    Value.int IntKind.i64 i11, Value.slice o24 n25 n26,
    Value.int IntKind.i64 (↑n25 : Int)] =
    [Value.pointer o4,
    Value.slice (sliceBase o0 0 n2 4) (Int.toNat i8) n2,
    Value.int IntKind.i64 (↑(Int.toNat i8) : Int),
    Value.int IntKind.i64 i11, Value.slice o24 n25 n26,
    Value.int IntKind.i64 (↑n25 : Int)] ∧ ([] : List Deferred) = [])))))))))
    (T.next 0 [Value.int IntKind.i64 (IntKind.wrap IntKind.i64 (i11 + 1))]
    ([Value.pointer o4, Value.slice (sliceBase o0 0 n2 4) (Int.toNat i8) n2,
    Value.int IntKind.i64 (↑(Int.toNat i8) : Int)] =
    [Value.pointer o4, Value.slice (sliceBase o0 0 n2 4) (Int.toNat i8) n2,
    Value.int IntKind.i64 (↑(Int.toNat i8) : Int)] ∧ ([] : List Deferred) = [])))
    (T.ldI IntKind.i64 n20 0 fun i67 =>
    T.ite (i67 == 0)
    (T.ldI IntKind.i64 n20 1 fun i68 =>
    T.ldI IntKind.i64 n20 2 fun i69 =>
    T.ldS n20 3 fun o70 n71 n72 =>
    T.call 10
    [Value.pointer o4, Value.agg (Array.mk [Value.int IntKind.i64 i68, Value.int IntKind.i64 i69]),
    Value.slice o70 n71 n72]
    fun v73 =>
    T.asI IntKind.i64 v73 fun i74 =>
    T.next 1 []
    ([Value.pointer o4, Value.slice (sliceBase o0 0 n2 4) (Int.toNat i8) n2,
    Value.int IntKind.i64 (↑(Int.toNat i8) : Int), Value.int IntKind.i64 i11] =
    [Value.pointer o4, Value.slice (sliceBase o0 0 n2 4) (Int.toNat i8) n2,
    Value.int IntKind.i64 (↑(Int.toNat i8) : Int), Value.int IntKind.i64 i11] ∧ ([] : List Deferred) = []))
    (T.ldI IntKind.i64 n20 1 fun i75 =>
    T.ldI IntKind.i64 n20 2 fun i76 =>
    T.call 11 [Value.pointer o4, Value.agg (Array.mk [Value.int IntKind.i64 i75, Value.int IntKind.i64 i76])]
    fun v77 =>
    T.asU v77 fun l78 =>
    T.req (List.length l78 = 2)
    (T.asS (List.headD l78 (Value.tuple (Array.mk []))) fun o79 n80 n81 =>
    T.asI IntKind.i64 (List.headD (List.tail l78) (Value.tuple (Array.mk []))) fun i82 =>
    T.next 1 []
    ([Value.pointer o4, Value.slice (sliceBase o0 0 n2 4) (Int.toNat i8) n2,
    Value.int IntKind.i64 (↑(Int.toNat i8) : Int), Value.int IntKind.i64 i11] =
    [Value.pointer o4, Value.slice (sliceBase o0 0 n2 4) (Int.toNat i8) n2,
    Value.int IntKind.i64 (↑(Int.toNat i8) : Int), Value.int IntKind.i64 i11] ∧ ([] : List Deferred) = []))))))))))
    (T.ret (Value.bool true))))
    (T.call 9 [] fun v83 =>
    T.asB v83 fun b84 =>
    T.ite (!b84) (T.ret (Value.bool false))
    (T.ite (Option.isNone o4) (T.ret (Value.bool false))
    (T.next 0 [] ([Value.slice o0 n1 n2, Value.pointer o4] = [Value.slice o0 n1 n2, Value.pointer o4] ∧ ([] : List Deferred) = []))))
theorem e3 (o0 : Option Addr) (n1 n2 : Nat) : treeOf Try.prog Try.f3 (codeOf Try.f3) (.s .n (.s .n (.c [] [0, 3] .n (.s (.s .n (.u (.l [(26, .int .i64)] [3, 24, 25] (.s .n (.s .n (.s (.u (.s .n (.c [] [3, 24, 25, 26] .n (.s .n (.u (.l [(46, .int .i64)] [3, 24, 25, 26, 44, 45] (.s .n (.s .n (.s (.u (.s .n (.s .n (.s (.s .n (.u (.l [(8, .int .i64), (9, .int .i64), (10, .bool), (54, .int .i64)] [3, 24, 25, 26, 44, 45, 46, 52, 53] (.s .n (.s .n (.s (.u (.s .n (.c [] [3, 8, 9, 10, 12, 24, 25, 26, 44, 45, 46, 52, 53, 54] .n (.c [(10, .bool)] [3, 8, 9, 12, 24, 25, 26, 44, 45, 46, 52, 53, 54] .n (.c [(74, .bool)] [3, 8, 9, 10, 12, 24, 25, 26, 44, 45, 46, 52, 53, 54] .n .n))))) .n)))))) .n)))) .n))))))))) .n)))))) .n)))) [.v (.slice o0 n1 n2)] = (t3 o0 n1 n2) := by kernel_rfl
theorem c3 (o0 : Option Addr) (n1 n2 : Nat) {w : World} {R : Ending → World → Prop} (h : (t3 o0 n1 n2).sem Try.prog R ρ0 w) : Calls Try.prog 3 #[.slice o0 n1 n2] w R :=
  calls_of mixed Try.func3 rfl rfl (e3 o0 n1 n2) h
def t4 (o0 : Option Addr) (n1 n2 : Nat) (o3 : Option Addr) (n4 n5 : Nat) : T :=
  T.call 8 [] fun v6 =>
  T.asP v6 fun o7 =>
    T.blk 0
    (fun l8 j9 =>
    T.run (biV Builtin.min (Array.mk [3, 3]) 3 (Array.mk [Value.int IntKind.i64 (↑n1 : Int), Value.int IntKind.i64 40])) fun v10 =>
    T.asI IntKind.i64 v10 fun i11 =>
    T.req (0 ≤ i11 ∧ i11 ≤ (↑n2 : Int))
    (T.loop 0 [Value.slice none 0 0, Value.int IntKind.i64 0] fun l12 j13 =>
    T.asS (List.headD l12 (Value.tuple (Array.mk []))) fun o14 n15 n16 =>
    T.asI IntKind.i64 (List.headD (List.tail l12) (Value.tuple (Array.mk []))) fun i17 =>
    T.ite (decide (i17 < (↑(Int.toNat i11) : Int)))
    (T.req (0 ≤ i17 ∧ i17 < (↑(Int.toNat i11) : Int))
    (T.sm (sliceBase o0 0 n2 1) fun n18 n19 =>
    T.ldS n18 (n19 + Int.toNat i17 * 1) fun o20 n21 n22 =>
    T.call 14 [Value.int IntKind.i64 i17] fun v23 =>
    T.asA v23 fun l24 =>
    T.req (List.length l24 = 2)
    (T.asI IntKind.i64 (List.headD l24 (Value.tuple (Array.mk []))) fun i25 =>
    T.asI IntKind.i64 (List.headD (List.tail l24) (Value.tuple (Array.mk []))) fun i26 =>
    T.call 10
    [Value.pointer o7, Value.agg (Array.mk [Value.int IntKind.i64 i25, Value.int IntKind.i64 i26]), Value.slice o20 n21 n22]
    fun v27 =>
    T.asI IntKind.i64 v27 fun i28 =>
    T.call 15 [Value.slice o20 n21 n22] fun v29 =>
    T.asB v29 fun b30 =>
    T.ite (!b30 == (i28 == 0)) (T.ret (Value.bool false))
    (T.ite (i28 == 0)
    (T.call 14 [Value.int IntKind.i64 i17] fun v31 =>
    T.asA v31 fun l32 =>
    T.req (List.length l32 = 2)
    (T.asI IntKind.i64 (List.headD l32 (Value.tuple (Array.mk []))) fun i33 =>
    T.asI IntKind.i64 (List.headD (List.tail l32) (Value.tuple (Array.mk []))) fun i34 =>
    T.new (Obj.cells (Array.mk [Value.int IntKind.i64 i33, Value.int IntKind.i64 i34]) 27) fun n35 =>
    T.run
    (biV Builtin.append (Array.mk [33, 33]) 33
    (Array.mk [Value.slice o14 n15 n16, Value.slice (some (Addr.mk n35 0 none)) 1 1]))
    fun v36 =>
    T.asS v36 fun o37 n38 n39 =>
    T.next 0 [Value.slice o37 n38 n39, Value.int IntKind.i64 (IntKind.wrap IntKind.i64 (i17 + 1))]
    ([Value.slice o3 n4 n5, Value.pointer o7,
    Value.slice (sliceBase o0 0 n2 1) (Int.toNat i11) n2,
    Value.int IntKind.i64 (↑(Int.toNat i11) : Int)] =
    [Value.slice o3 n4 n5, Value.pointer o7,
    Value.slice (sliceBase o0 0 n2 1) (Int.toNat i11) n2,
    Value.int IntKind.i64 (↑(Int.toNat i11) : Int)] ∧ ([] : List Deferred) = [])))
    (T.next 0 [Value.slice o14 n15 n16, Value.int IntKind.i64 (IntKind.wrap IntKind.i64 (i17 + 1))]
    ([Value.slice o3 n4 n5, Value.pointer o7, Value.slice (sliceBase o0 0 n2 1) (Int.toNat i11) n2,
    Value.int IntKind.i64 (↑(Int.toNat i11) : Int)] =
    [Value.slice o3 n4 n5, Value.pointer o7, Value.slice (sliceBase o0 0 n2 1) (Int.toNat i11) n2,
    Value.int IntKind.i64 (↑(Int.toNat i11) : Int)] ∧ ([] : List Deferred) = []))))))
    (T.call 17 [Value.pointer o7] fun v40 =>
    T.asC 46 v40 fun l41 =>
    T.req (List.length l41 = 1)
    (T.asP (List.headD l41 (Value.tuple (Array.mk []))) fun o42 =>
    T.call 16 [Value.func (Fn.func 46) (Array.mk []) (Array.mk [Value.pointer o42])] fun v43 =>
    T.asS v43 fun o44 n45 n46 =>
    T.loop 0 [Value.slice o14 n15 n16, Value.slice o44 n45 n46, Value.int IntKind.i64 0] fun l47 j48 =>
    T.asS (List.headD l47 (Value.tuple (Array.mk []))) fun o49 n50 n51 =>
    T.asS (List.headD (List.tail l47) (Value.tuple (Array.mk []))) fun o52 n53 n54 =>
    T.asI IntKind.i64 (List.headD (List.tail (List.tail l47)) (Value.tuple (Array.mk []))) fun i55 =>
    T.ite (decide ((↑n50 : Int) > 0))
    (T.blk 1
    (fun l56 j57 =>
    T.blk 1
    (fun l58 j59 =>
    T.asI IntKind.i64 (List.headD l58 (Value.tuple (Array.mk []))) fun i60 =>
    T.req (0 ≤ i60 ∧ i60 < (↑n53 : Int))
    (T.sm o52 fun n61 n62 =>
    T.ldI IntKind.i64 n61 (n62 + Int.toNat i60 * 2) fun i63 =>
    T.ldI IntKind.i64 n61 (n62 + Int.toNat i60 * 2 + 1) fun i64 =>
    T.new (Obj.cells (Array.mk [Value.int IntKind.i64 0, Value.int IntKind.i64 0]) 27) fun n65 =>
    T.st n65 0 (Value.int IntKind.i64 i63)
    (T.st n65 1 (Value.int IntKind.i64 i64)
    (T.ldI IntKind.i64 n65 0 fun i66 =>
    T.ldI IntKind.i64 n65 1 fun i67 =>
    T.call 11
    [Value.pointer o7,
    Value.agg (Array.mk [Value.int IntKind.i64 i66, Value.int IntKind.i64 i67])]
    fun v68 =>
    T.asU v68 fun l69 =>
    T.req (List.length l69 = 2)
    (T.asS (List.headD l69 (Value.tuple (Array.mk []))) fun o70 n71 n72 =>
    T.asI IntKind.i64 (List.headD (List.tail l69) (Value.tuple (Array.mk [])))
    fun i73 =>
    T.blk 1
    (fun l74 j75 =>
    T.call 20
    [Value.slice o49 n50 n51,
    Value.func (Fn.func 21) (Array.mk [])
    (Array.mk [Value.pointer (some (Addr.mk n65 0 none))])]
    fun v76 =>
    T.asS v76 fun o77 n78 n79 =>
    T.call 22
    [Value.slice o52 n53 n54, Value.int IntKind.i64 i60,
    Value.int IntKind.i64 (IntKind.wrap IntKind.i64 (i60 + 1))]
    fun v80 =>
    T.asS v80 fun o81 n82 n83 =>
    T.run
    (biV Builtin.append (Array.mk [33, 33]) 33
    (Array.mk [Value.slice o81 n82 n83, Value.slice o70 n71 n72]))
    fun v84 =>
    T.asS v84 fun o85 n86 n87 =>
    T.next 0
    [Value.slice o77 n78 n79, Value.slice o85 n86 n87,
    Value.int IntKind.i64
    (IntKind.wrap IntKind.i64 (i55 + 1))]
    ([Value.slice o3 n4 n5, Value.pointer o7] =
    [Value.slice o3 n4 n5, Value.pointer o7] ∧ ([] : List Deferred) = []))
    (T.ite (i73 != 0) (T.ret (Value.bool false))
    (T.ldI IntKind.i64 n65 0 fun i88 =>
    T.ldI IntKind.i64 n65 1 fun i89 =>
    T.call 19
    [Value.slice o49 n50 n51,
    Value.agg
    (Array.mk
    [Value.int IntKind.i64 i88, Value.int IntKind.i64 i89])]
    fun v90 =>
    T.asB v90 fun b91 =>
    T.ite (!b91) (T.ret (Value.bool false))
    (T.next 1 []
    ([Value.slice o3 n4 n5, Value.pointer o7,
    Value.slice o49 n50 n51, Value.slice o52 n53 n54,
    Value.int IntKind.i64 i55, Value.int IntKind.i64 i60,
    Value.pointer (some (Addr.mk n65 0 none)),
    Value.slice o70 n71 n72] =
    [Value.slice o3 n4 n5, Value.pointer o7,
    Value.slice o49 n50 n51, Value.slice o52 n53 n54,
    Value.int IntKind.i64 i55, Value.int IntKind.i64 i60,
    Value.pointer (some (Addr.mk n65 0 none)),
    Value.slice o70 n71 n72] ∧ ([] : List Deferred) = [])))))))))
    (T.ite (decide (i55 < (↑n4 : Int)))
    (T.req (0 ≤ i55 ∧ i55 < (↑n4 : Int))
    (T.sm o3 fun n92 n93 =>
    T.ldI IntKind.u8 n92 (n93 + Int.toNat i55 * 1) fun i94 =>
    T.req ((↑n53 : Int) ≠ 0)
    (T.next 1 [Value.int IntKind.i64 (Int.tmod (IntKind.wrap IntKind.i64 i94) (↑n53 : Int))]
    ([Value.slice o3 n4 n5, Value.pointer o7, Value.slice o49 n50 n51, Value.slice o52 n53 n54,
    Value.int IntKind.i64 i55] =
    [Value.slice o3 n4 n5, Value.pointer o7, Value.slice o49 n50 n51, Value.slice o52 n53 n54,
    Value.int IntKind.i64 i55] ∧ ([] : List Deferred) = []))))
    (T.next 1 [Value.int IntKind.i64 0]
    ([Value.slice o3 n4 n5, Value.pointer o7, Value.slice o49 n50 n51, Value.slice o52 n53 n54,
    Value.int IntKind.i64 i55] =
    [Value.slice o3 n4 n5, Value.pointer o7, Value.slice o49 n50 n51, Value.slice o52 n53 n54,
    Value.int IntKind.i64 i55] ∧ ([] : List Deferred) = []))))
    (T.req ((0 : Int) ≤ 0 ∧ (0 : Int) < (↑n50 : Int))
    (T.sm o49 fun n95 n96 =>
    T.ldI IntKind.i64 n95 n96 fun i97 =>
    T.ldI IntKind.i64 n95 (n96 + 1) fun i98 =>
    T.call 18 [Value.pointer o7, Value.agg (Array.mk [Value.int IntKind.i64 i97, Value.int IntKind.i64 i98])]
    fun v99 =>
    T.asB v99 fun b100 =>
    T.ite (!b100) (T.ret (Value.bool false))
    (T.ite ((↑n53 : Int) == 0) (T.ret (Value.bool false))
    (T.next 1 []
    ([Value.slice o3 n4 n5, Value.pointer o7, Value.slice o49 n50 n51, Value.slice o52 n53 n54,
    Value.int IntKind.i64 i55] =
    [Value.slice o3 n4 n5, Value.pointer o7, Value.slice o49 n50 n51, Value.slice o52 n53 n54,
    Value.int IntKind.i64 i55] ∧ ([] : List Deferred) = []))))))
    (T.ite ((↑n53 : Int) == 0)
    (T.call 23 [Value.pointer o7] fun v101 =>
    T.asI IntKind.i64 v101 fun i102 =>
    T.ite (i102 == 0)
    (T.call 12 [Value.pointer o7] fun v103 =>
    T.asS v103 fun o104 n105 n106 => T.ret (Value.bool ((↑n105 : Int) == 0)))
    (T.ret (Value.bool false)))
    (T.ret (Value.bool false)))))))
    (T.call 9 [] fun v107 =>
    T.asB v107 fun b108 =>
    T.ite (!b108) (T.ret (Value.bool false))
    (T.ite (Option.isNone o7) (T.ret (Value.bool false))
    (T.next 0 []
    ([Value.slice o0 n1 n2, Value.slice o3 n4 n5, Value.pointer o7] = [Value.slice o0 n1 n2, Value.slice o3 n4 n5, Value.pointer o7] ∧ ([] : List Deferred) = []))))
theorem e4 (o0 : Option Addr) (n1 n2 : Nat) (o3 : Option Addr) (n4 n5 : Nat) : treeOf Try.prog Try.f4 (codeOf Try.f4) (.s .n (.s .n (.c [] [0, 1, 5] .n (.s .n (.s .n (.s (.s .n (.u (.l [(6, .slice), (30, .int .i64)] [1, 5, 28, 29] .n))) (.s .n (.s (.s .n (.u (.l [(6, .slice), (10, .slice), (11, .int .i64)] [1, 5] (.s .n (.s (.u (.c [] [1, 5, 6, 10, 11] .n (.s .n (.c [(12, .int .i64)] [1, 5, 6, 10, 11] .n (.s .n (.s .n (.c [] [1, 5, 6, 10, 11, 12, 13, 14] .n .n))))))) .n))))) .n)))))))) [.v (.slice o0 n1 n2), .v (.slice o3 n4 n5)] = (t4 o0 n1 n2 o3 n4 n5) := by kernel_rfl
theorem c4 (o0 : Option Addr) (n1 n2 : Nat) (o3 : Option Addr) (n4 n5 : Nat) {w : World} {R : Ending → World → Prop} (h : (t4 o0 n1 n2 o3 n4 n5).sem Try.prog R ρ0 w) : Calls Try.prog 4 #[.slice o0 n1 n2, .slice o3 n4 n5] w R :=
  calls_of mixed Try.func4 rfl rfl (e4 o0 n1 n2 o3 n4 n5) h
def t5 (o0 : Option Addr) (n1 n2 : Nat) : T :=
  T.call 8 [] fun v3 =>
  T.asP v3 fun o4 =>
    T.blk 0
    (fun l5 j6 =>
    T.call 24 [] fun v7 =>
    T.asP v7 fun o8 =>
    T.call 25 [Value.slice o0 n1 n2] fun v9 =>
    T.asS v9 fun o10 n11 n12 =>
    T.call 14 [Value.int IntKind.i64 1] fun v13 =>
    T.asA v13 fun l14 =>
    T.req (List.length l14 = 2)
    (T.asI IntKind.i64 (List.headD l14 (Value.tuple (Array.mk []))) fun i15 =>
    T.asI IntKind.i64 (List.headD (List.tail l14) (Value.tuple (Array.mk []))) fun i16 =>
    T.call 10 [Value.pointer o4, Value.agg (Array.mk [Value.int IntKind.i64 i15, Value.int IntKind.i64 i16]), Value.slice o10 n11 n12]
    fun v17 =>
    T.asI IntKind.i64 v17 fun i18 =>
    T.call 14 [Value.int IntKind.i64 1] fun v19 =>
    T.asA v19 fun l20 =>
    T.req (List.length l20 = 2)
    (T.asI IntKind.i64 (List.headD l20 (Value.tuple (Array.mk []))) fun i21 =>
    T.asI IntKind.i64 (List.headD (List.tail l20) (Value.tuple (Array.mk []))) fun i22 =>
    T.call 26
    [Value.pointer o8, Value.agg (Array.mk [Value.int IntKind.i64 i21, Value.int IntKind.i64 i22]), Value.slice o0 n1 n2]
    fun v23 =>
    T.asI IntKind.i64 v23 fun i24 =>
    T.ite (i18 != i24) (T.ret (Value.bool false))
    (T.loop 0 [Value.int IntKind.i64 0] fun l25 j26 =>
    T.asI IntKind.i64 (List.headD l25 (Value.tuple (Array.mk []))) fun i27 =>
    T.ite (decide (i27 < (↑n11 : Int)))
    (T.req (0 ≤ i27 ∧ i27 < (↑n11 : Int))
    (T.sm o10 fun n28 n29 =>
    T.ldB n28 (n29 + Int.toNat i27 * 3 + 2) fun b30 =>
    T.req (0 ≤ i27 ∧ i27 < (↑n11 : Int))
    (T.sm o10 fun n31 n32 =>
    T.st n31 (n32 + Int.toNat i27 * 3 + 2) (Value.bool !b30)
    (T.next 0 [Value.int IntKind.i64 (IntKind.wrap IntKind.i64 (i27 + 1))]
    ([Value.pointer o4, Value.pointer o8, Value.slice o10 n11 n12,
    Value.int IntKind.i64 (↑n11 : Int)] =
    [Value.pointer o4, Value.pointer o8, Value.slice o10 n11 n12,
    Value.int IntKind.i64 (↑n11 : Int)] ∧ ([] : List Deferred) = [])))))
    (T.call 12 [Value.pointer o4] fun v33 =>
    T.asS v33 fun o34 n35 n36 =>
    T.loop 0 [Value.int IntKind.i64 0] fun l37 j38 =>
    T.asI IntKind.i64 (List.headD l37 (Value.tuple (Array.mk []))) fun i39 =>
    T.ite (decide (i39 < (↑n35 : Int)))
    (T.req (0 ≤ i39 ∧ i39 < (↑n35 : Int))
    (T.sm o34 fun n40 n41 =>
    T.ldI IntKind.i32 n40 (n41 + Int.toNat i39 * 2) fun i42 =>
    T.ldI IntKind.i64 n40 (n41 + Int.toNat i39 * 2 + 1) fun i43 =>
    T.new (Obj.cells (Array.mk [Value.int IntKind.i32 0, Value.int IntKind.i64 0]) 39)
    fun n44 =>
    T.st n44 0 (Value.int IntKind.i32 i42)
    (T.st n44 1 (Value.int IntKind.i64 i43)
    (T.ldI IntKind.i32 n44 0 fun i45 =>
    T.ldI IntKind.i64 n44 1 fun i46 =>
    T.call 13
    [Value.pointer o4,
    Value.agg (Array.mk [Value.int IntKind.i32 i45, Value.int IntKind.i64 i46])]
    fun v47 =>
    T.asS v47 fun o48 n49 n50 =>
    T.loop 1 [Value.int IntKind.i64 0] fun l51 j52 =>
    T.asI IntKind.i64 (List.headD l51 (Value.tuple (Array.mk []))) fun i53 =>
    T.ite (decide (i53 < (↑n49 : Int)))
    (T.req (0 ≤ i53 ∧ i53 < (↑n49 : Int))
    (T.sm o48 fun n54 n55 =>
    T.ldB n54 (n55 + Int.toNat i53 * 4 + 3) fun b56 =>
    T.req (0 ≤ i53 ∧ i53 < (↑n49 : Int))
    (T.sm o48 fun n57 n58 =>
    T.st n57 (n58 + Int.toNat i53 * 4 + 3) (Value.bool !b56)
    (T.next 1
    [Value.int IntKind.i64
    (IntKind.wrap IntKind.i64 (i53 + 1))]
    ([Value.pointer o4, Value.pointer o8,
    Value.slice o48 n49 n50, Value.slice o34 n35 n36,
    Value.int IntKind.i64 (↑n35 : Int),
    Value.int IntKind.i64 i39,
    Value.int IntKind.i64 (↑n49 : Int)] =
    [Value.pointer o4, Value.pointer o8,
    Value.slice o48 n49 n50, Value.slice o34 n35 n36,
    Value.int IntKind.i64 (↑n35 : Int),
    Value.int IntKind.i64 i39,
    Value.int IntKind.i64 (↑n49 : Int)] ∧ ([] : List Deferred) = [])))))
    (T.next 0 [Value.int IntKind.i64 (IntKind.wrap IntKind.i64 (i39 + 1))]
    ([Value.pointer o4, Value.pointer o8, Value.slice o34 n35 n36,
    Value.int IntKind.i64 (↑n35 : Int)] =
    [Value.pointer o4, Value.pointer o8, Value.slice o34 n35 n36,
    Value.int IntKind.i64 (↑n35 : Int)] ∧ ([] : List Deferred) = []))))))
    (T.call 14 [Value.int IntKind.i64 1] fun v59 =>
    T.asA v59 fun l60 =>
    T.req (List.length l60 = 2)
    (T.asI IntKind.i64 (List.headD l60 (Value.tuple (Array.mk []))) fun i61 =>
    T.asI IntKind.i64 (List.headD (List.tail l60) (Value.tuple (Array.mk []))) fun i62 =>
    T.call 27
    [Value.pointer o4, Value.pointer o8,
    Value.agg (Array.mk [Value.int IntKind.i64 i61, Value.int IntKind.i64 i62])]
    fun v63 => T.asB v63 fun b64 => T.ret (Value.bool b64))))))))
    (T.call 9 [] fun v65 =>
    T.asB v65 fun b66 =>
    T.ite (!b66) (T.ret (Value.bool false))
    (T.ite (Option.isNone o4) (T.ret (Value.bool false))
    (T.next 0 [] ([Value.slice o0 n1 n2, Value.pointer o4] = [Value.slice o0 n1 n2, Value.pointer o4] ∧ ([] : List Deferred) = []))))
theorem e5 (o0 : Option Addr) (n1 n2 : Nat) : treeOf Try.prog Try.f5 (codeOf Try.f5) (.s .n (.s .n (.c [] [0, 3] .n (.s .n (.s .n (.s .n (.s (.s .n (.u (.l [(32, .int .i64)] [3, 4, 5, 31] .n))) (.s (.s .n (.u (.l [(49, .int .i64)] [3, 4, 47, 48] (.s .n (.s .n (.s (.u (.s .n (.s .n (.s .n (.u (.l [(58, .int .i64)] [3, 4, 9, 47, 48, 49, 57] .n)))))) .n)))))) .n)))))))) [.v (.slice o0 n1 n2)] = (t5 o0 n1 n2) := by kernel_rfl
theorem c5 (o0 : Option Addr) (n1 n2 : Nat) {w : World} {R : Ending → World → Prop} (h : (t5 o0 n1 n2).sem Try.prog R ρ0 w) : Calls Try.prog 5 #[.slice o0 n1 n2] w R :=
  calls_of mixed Try.func5 rfl rfl (e5 o0 n1 n2) h
def t6 (o0 : Option Addr) (n1 n2 : Nat) : T :=
  T.call 8 [] fun v3 =>
  T.asP v3 fun o4 =>
    T.call 24 [] fun v5 =>
    T.asP v5 fun o6 =>
    T.blk 0
    (fun l7 j8 =>
    T.loop 0 [Value.pointer o4, Value.int IntKind.i64 0] fun l9 j10 =>
    T.asP (List.headD l9 (Value.tuple (Array.mk []))) fun o11 =>
    T.asI IntKind.i64 (List.headD (List.tail l9) (Value.tuple (Array.mk []))) fun i12 =>
    T.ite (decide (i12 < (↑n1 : Int)))
    (T.req (0 ≤ i12 ∧ i12 < (↑n1 : Int))
    (T.sm o0 fun n13 n14 =>
    T.ldI IntKind.i64 n13 (n14 + Int.toNat i12 * 4) fun i15 =>
    T.ldI IntKind.i64 n13 (n14 + Int.toNat i12 * 4 + 1) fun i16 =>
    T.ldI IntKind.i64 n13 (n14 + Int.toNat i12 * 4 + 2) fun i17 =>
    T.ldS n13 (n14 + Int.toNat i12 * 4 + 3) fun o18 n19 n20 =>
    T.new
    (Obj.cells (Array.mk [Value.int IntKind.i64 0, Value.int IntKind.i64 0, Value.int IntKind.i64 0, Value.slice none 0 0]) 30)
    fun n21 =>
    T.st n21 0 (Value.int IntKind.i64 i15)
    (T.st n21 1 (Value.int IntKind.i64 i16)
    (T.st n21 2 (Value.int IntKind.i64 i17)
    (T.st n21 3 (Value.slice o18 n19 n20)
    (T.ldI IntKind.i64 n21 0 fun i22 =>
    T.ldI IntKind.i64 n21 1 fun i23 =>
    T.ldI IntKind.i64 n21 2 fun i24 =>
    T.ldS n21 3 fun o25 n26 n27 =>
    T.call 28
    [Value.pointer o11, Value.pointer o6,
    Value.agg
    (Array.mk
    [Value.int IntKind.i64 i22, Value.int IntKind.i64 i23, Value.int IntKind.i64 i24,
    Value.slice o25 n26 n27])]
    fun v28 =>
    T.asU v28 fun l29 =>
    T.req (List.length l29 = 2)
    (T.asP (List.headD l29 (Value.tuple (Array.mk []))) fun o30 =>
    T.asB (List.headD (List.tail l29) (Value.tuple (Array.mk []))) fun b31 =>
    T.ite (!b31) (T.ret (Value.bool false))
    (T.ldI IntKind.i64 n21 1 fun i32 =>
    T.ldI IntKind.i64 n21 2 fun i33 =>
    T.call 27
    [Value.pointer o30, Value.pointer o6,
    Value.agg (Array.mk [Value.int IntKind.i64 i32, Value.int IntKind.i64 i33])]
    fun v34 =>
    T.asB v34 fun b35 =>
    T.ite (!b35) (T.ret (Value.bool false))
    (T.next 0
    [Value.pointer o30, Value.int IntKind.i64 (IntKind.wrap IntKind.i64 (i12 + 1))]
    ([Value.pointer o6, Value.slice o0 n1 n2, Value.int IntKind.i64 (↑n1 : Int)] =
    [Value.pointer o6, Value.slice o0 n1 n2, Value.int IntKind.i64 (↑n1 : Int)] ∧ ([] : List Deferred) = []))))))))))
    (T.ret (Value.bool true)))
    (T.call 9 [] fun v36 =>
    T.asB v36 fun b37 =>
    T.ite (!b37) (T.ret (Value.bool false))
    (T.ite (Option.isNone o4) (T.ret (Value.bool false))
    (T.next 0 []
    ([Value.slice o0 n1 n2, Value.pointer o4, Value.pointer o6] = [Value.slice o0 n1 n2, Value.pointer o4, Value.pointer o6] ∧ ([] : List Deferred) = []))))
theorem e6 (o0 : Option Addr) (n1 n2 : Nat) : treeOf Try.prog Try.f6 (codeOf Try.f6) (.s .n (.s .n (.s .n (.c [] [0, 3, 4] .n (.s (.s .n (.u (.l [(3, .ptr), (18, .int .i64)] [4, 16, 17] .n))) .n))))) [.v (.slice o0 n1 n2)] = (t6 o0 n1 n2) := by kernel_rfl
theorem c6 (o0 : Option Addr) (n1 n2 : Nat) {w : World} {R : Ending → World → Prop} (h : (t6 o0 n1 n2).sem Try.prog R ρ0 w) : Calls Try.prog 6 #[.slice o0 n1 n2] w R :=
  calls_of mixed Try.func6 rfl rfl (e6 o0 n1 n2) h
def t7 (i0 : Int) (i1 : Int) (i2 : Int) (o3 : Option Addr) (n4 n5 : Nat) : T :=
  T.new (Obj.cells (Array.mk [Value.int IntKind.i64 i0, Value.int IntKind.i64 i1, Value.int IntKind.i64 i2, Value.slice o3 n4 n5]) 30) fun n6 =>
  T.call 9 [] fun v7 =>
    T.asB v7 fun b8 =>
    T.ite (!b8) (T.ret (Value.bool false))
    (T.new (Obj.cells (Array.mk [Value.map none, Value.map none, Value.slice none 0 0]) 71) fun n9 =>
    T.new (Obj.cells (Array.mk [Value.pointer none, Value.pointer (some (Addr.mk n9 0 none))]) 23) fun n10 =>
    T.loop 0 [Value.int IntKind.i64 0] fun l11 j12 =>
    T.asI IntKind.i64 (List.headD l11 (Value.tuple (Array.mk []))) fun i13 =>
    T.ite (decide (i13 < 2))
    (T.req (0 ≤ i13 ∧ i13 < 2)
    (T.sm (some (Addr.mk n10 0 none)) fun n14 n15 =>
    T.ldP n14 (n15 + Int.toNat i13 * 1) fun o16 =>
    T.ldI IntKind.i64 n6 1 fun i17 =>
    T.ldI IntKind.i64 n6 2 fun i18 =>
    T.call 11 [Value.pointer o16, Value.agg (Array.mk [Value.int IntKind.i64 i17, Value.int IntKind.i64 i18])] fun v19 =>
    T.asU v19 fun l20 =>
    T.req (List.length l20 = 2)
    (T.asS (List.headD l20 (Value.tuple (Array.mk []))) fun o21 n22 n23 =>
    T.asI IntKind.i64 (List.headD (List.tail l20) (Value.tuple (Array.mk []))) fun i24 =>
    T.ldI IntKind.i64 n6 1 fun i25 =>
    T.ldI IntKind.i64 n6 2 fun i26 =>
    T.ldS n6 3 fun o27 n28 n29 =>
    T.call 10
    [Value.pointer o16, Value.agg (Array.mk [Value.int IntKind.i64 i25, Value.int IntKind.i64 i26]),
    Value.slice o27 n28 n29]
    fun v30 =>
    T.asI IntKind.i64 v30 fun i31 =>
    T.ite (i31 != 2) (T.ret (Value.bool false))
    (T.ite ((↑n22 : Int) != 0) (T.ret (Value.bool false))
    (T.ite (i24 != 2) (T.ret (Value.bool false))
    (T.ldI IntKind.i64 n6 1 fun i32 =>
    T.ldI IntKind.i64 n6 2 fun i33 =>
    T.call 18
    [Value.pointer o16, Value.agg (Array.mk [Value.int IntKind.i64 i32, Value.int IntKind.i64 i33])]
    fun v34 =>
    T.asB v34 fun b35 =>
    T.ite b35 (T.ret (Value.bool false))
    (T.call 17 [Value.pointer o16] fun v36 =>
    T.asC 46 v36 fun l37 =>
    T.req (List.length l37 = 1)
    (T.asP (List.headD l37 (Value.tuple (Array.mk []))) fun o38 =>
    T.call 29
    [Value.func (Fn.func 46) (Array.mk []) (Array.mk [Value.pointer o38]),
    Value.slice none 0 0]
    fun v39 =>
    T.asB v39 fun b40 =>
    T.ite (!b40) (T.ret (Value.bool false))
    (T.ldI IntKind.i64 n6 1 fun i41 =>
    T.ldI IntKind.i64 n6 2 fun i42 =>
    T.call 30
    [Value.pointer o16,
    Value.agg
    (Array.mk [Value.int IntKind.i64 i41, Value.int IntKind.i64 i42])]
    fun v43 =>
    T.asS v43 fun o44 n45 n46 =>
    T.ite ((↑n45 : Int) != 0) (T.ret (Value.bool false))
    (T.call 13
    [Value.pointer o16,
    Value.agg
    (Array.mk [Value.int IntKind.i32 0, Value.int IntKind.i64 0])]
    fun v47 =>
    T.asS v47 fun o48 n49 n50 =>
    T.ite ((↑n49 : Int) != 0) (T.ret (Value.bool false))
    (T.call 12 [Value.pointer o16] fun v51 =>
    T.asS v51 fun o52 n53 n54 =>
    T.ite ((↑n53 : Int) != 0) (T.ret (Value.bool false))
    (T.call 23 [Value.pointer o16] fun v55 =>
    T.asI IntKind.i64 v55 fun i56 =>
    T.ite (i56 != 0) (T.ret (Value.bool false))
    (T.call 31 [Value.pointer o16] fun v57 =>
    T.asP v57 fun o58 =>
    T.ite (!Option.isNone o58)
    (T.ret (Value.bool false))
    (T.next 0
    [Value.int IntKind.i64
    (IntKind.wrap IntKind.i64 (i13 + 1))]
    ([Value.pointer (some (Addr.mk n6 0 none)),
    Value.slice (some (Addr.mk n10 0 none))
    2 2,
    Value.int IntKind.i64 2] =
    [Value.pointer (some (Addr.mk n6 0 none)),
    Value.slice (some (Addr.mk n10 0 none))
    2 2,
    Value.int IntKind.i64 2] ∧ ([] : List Deferred) = [])))))))))))))))
    (T.ret (Value.bool true)))
theorem e7 (i0 : Int) (i1 : Int) (i2 : Int) (o3 : Option Addr) (n4 n5 : Nat) : treeOf Try.prog Try.f7 (codeOf Try.f7) (.s .n (.s .n (.s (.s .n (.u (.l [(13, .int .i64)] [1, 11, 12] .n))) .n))) [.v (.agg #[.int .i64 i0, .int .i64 i1, .int .i64 i2, .slice o3 n4 n5])] = (t7 i0 i1 i2 o3 n4 n5) := by kernel_rfl
theorem c7 (i0 : Int) (i1 : Int) (i2 : Int) (o3 : Option Addr) (n4 n5 : Nat) {w : World} {R : Ending → World → Prop} (h : (t7 i0 i1 i2 o3 n4 n5).sem Try.prog R ρ0 w) : Calls Try.prog 7 #[.agg #[.int .i64 i0, .int .i64 i1, .int .i64 i2, .slice o3 n4 n5]] w R :=
  calls_of mixed Try.func7 rfl rfl (e7 i0 i1 i2 o3 n4 n5) h
def t16 (n0 n1 : Nat) : T :=
  T.call 45 [Value.slice none 0 0, Value.func (Fn.func 46) (Array.mk []) (Array.mk [Value.pointer (some (Addr.mk n0 n1 none))])] fun v2 =>
  T.asS v2 fun o3 n4 n5 => T.ret (Value.slice o3 n4 n5)
theorem e16 (n0 n1 : Nat) : treeOf Try.prog Try.f16 (codeOf Try.f16) .n [.v (.func (.func 46) #[] #[.pointer (some ⟨n0, n1, none⟩)])] = (t16 n0 n1) := by kernel_rfl
theorem c16 (n0 n1 : Nat) {w : World} {R : Ending → World → Prop} (h : (t16 n0 n1).sem Try.prog R ρ0 w) : Calls Try.prog 16 #[.func (.func 46) #[] #[.pointer (some ⟨n0, n1, none⟩)]] w R :=
  calls_of mixed Try.func16 rfl rfl (e16 n0 n1) h
def t45 (o0 : Option Addr) (n1 n2 : Nat) (n3 n4 : Nat) : T :=
  T.new (Obj.cells (Array.mk [Value.slice o0 n1 n2]) 33) fun n5 =>
  T.rf none 0 46 [Value.pointer (some (Addr.mk n3 n4 none))]
    (fun n6 l7 =>
    T.req (List.length l7 = 1)
    (T.asA (List.headD l7 (Value.tuple (Array.mk []))) fun l8 =>
    T.req (List.length l8 = 2)
    (T.asI IntKind.i64 (List.headD l8 (Value.tuple (Array.mk []))) fun i9 =>
    T.asI IntKind.i64 (List.headD (List.tail l8) (Value.tuple (Array.mk []))) fun i10 =>
    T.new (Obj.cells (Array.mk [Value.int IntKind.i64 0, Value.int IntKind.i64 0]) 27) fun n11 =>
    T.st n11 0 (Value.int IntKind.i64 i9)
    (T.st n11 1 (Value.int IntKind.i64 i10)
    (T.beg n6
    (T.ldS n5 0 fun o12 n13 n14 =>
    T.ldI IntKind.i64 n11 0 fun i15 =>
    T.ldI IntKind.i64 n11 1 fun i16 =>
    T.new (Obj.cells (Array.mk [Value.int IntKind.i64 i15, Value.int IntKind.i64 i16]) 27) fun n17 =>
    T.run
    (biV Builtin.append (Array.mk [33, 33]) 33 (Array.mk [Value.slice o12 n13 n14, Value.slice (some (Addr.mk n17 0 none)) 1 1]))
    fun v18 =>
    T.asS v18 fun o19 n20 n21 =>
    T.st n5 0 (Value.slice o19 n20 n21) (T.run (Instr.endRound n6 none) fun v22 => T.next 0 [v22] True)))))))
    (fun n23 => T.ldS n5 0 fun o24 n25 n26 => T.col n23 (T.ret (Value.slice o24 n25 n26))) (fun n27 => T.col n27 (T.ret (Value.slice none 0 0))) []
theorem e45 (o0 : Option Addr) (n1 n2 : Nat) (n3 n4 : Nat) : treeOf Try.prog Try.f45 (codeOf Try.f45) (.s .n (.s (.s .n (.u (.f [.agg [.int .i64, .int .i64]] .n .n))) .n)) [.v (.slice o0 n1 n2), .v (.func (.func 46) #[] #[.pointer (some ⟨n3, n4, none⟩)])] = (t45 o0 n1 n2 n3 n4) := by kernel_rfl
theorem c45 (o0 : Option Addr) (n1 n2 : Nat) (n3 n4 : Nat) {w : World} {R : Ending → World → Prop} (h : (t45 o0 n1 n2 n3 n4).sem Try.prog R ρ0 w) : Calls Try.prog 45 #[.slice o0 n1 n2, .func (.func 46) #[] #[.pointer (some ⟨n3, n4, none⟩)]] w R :=
  calls_of mixed Try.func45 rfl rfl (e45 o0 n1 n2 n3 n4) h
def t46 (n0 : Nat) (n1 n2 : Nat) : T :=
  T.ldS n1 n2 fun o3 n4 n5 =>
  T.loop 0 [Value.int IntKind.i64 0] fun l6 j7 =>
    T.asI IntKind.i64 (List.headD l6 (Value.tuple (Array.mk []))) fun i8 =>
    T.ite (decide (i8 < (↑n4 : Int)))
    (T.req (0 ≤ i8 ∧ i8 < (↑n4 : Int))
    (T.sm o3 fun n9 n10 =>
    T.ldI IntKind.i64 n9 (n10 + Int.toNat i8 * 2) fun i11 =>
    T.ldI IntKind.i64 n9 (n10 + Int.toNat i8 * 2 + 1) fun i12 =>
    T.new (Obj.cells (Array.mk [Value.int IntKind.i64 0, Value.int IntKind.i64 0]) 27) fun n13 =>
    T.st n13 0 (Value.int IntKind.i64 i11)
    (T.st n13 1 (Value.int IntKind.i64 i12)
    (T.ldI IntKind.i64 n13 0 fun i14 =>
    T.ldI IntKind.i64 n13 1 fun i15 =>
    T.yl n0 [Value.agg (Array.mk [Value.int IntKind.i64 i14, Value.int IntKind.i64 i15])] fun v16 =>
    T.asB v16 fun b17 =>
    T.ite (!b17) (T.ret (Value.tuple (Array.mk [])))
    (T.next 0 [Value.int IntKind.i64 (IntKind.wrap IntKind.i64 (i8 + 1))]
    ([Value.func (Fn.yield n0) (Array.mk []) (Array.mk []), Value.slice o3 n4 n5, Value.int IntKind.i64 (↑n4 : Int)] =
    [Value.func (Fn.yield n0) (Array.mk []) (Array.mk []), Value.slice o3 n4 n5, Value.int IntKind.i64 (↑n4 : Int)] ∧ ([] : List Deferred) = []))))))
    (T.ret (Value.tuple (Array.mk [])))
theorem e46 (n0 : Nat) (n1 n2 : Nat) : treeOf Try.prog Try.f46 (codeOf Try.f46) (.s .n (.u (.l [(7, .int .i64)] [0, 5, 6] .n))) [.v (.func (.yield n0) #[] #[]), .p n1 n2] = (t46 n0 n1 n2) := by kernel_rfl
theorem c46 (n0 : Nat) (n1 n2 : Nat) {w : World} {R : Ending → World → Prop} (h : (t46 n0 n1 n2).sem Try.prog R ρ0 w) : Calls Try.prog 46 #[.func (.yield n0) #[] #[], .pointer (some ⟨n1, n2, none⟩)] w R :=
  calls_of mixed Try.func46 rfl rfl (e46 n0 n1 n2) h
def t42b (n0 n1 : Nat) : T :=
  T.call 68 [Value.slice none 0 0, Value.func (Fn.func 69) (Array.mk []) (Array.mk [Value.pointer (some (Addr.mk n0 n1 none))])] fun v2 =>
  T.asS v2 fun o3 n4 n5 => T.ret (Value.slice o3 n4 n5)
theorem e42b (n0 n1 : Nat) : treeOf Try.prog Try.f42 (codeOf Try.f42) .n [.v (.func (.func 69) #[] #[.pointer (some ⟨n0, n1, none⟩)])] = (t42b n0 n1) := by kernel_rfl
theorem c42b (n0 n1 : Nat) {w : World} {R : Ending → World → Prop} (h : (t42b n0 n1).sem Try.prog R ρ0 w) : Calls Try.prog 42 #[.func (.func 69) #[] #[.pointer (some ⟨n0, n1, none⟩)]] w R :=
  calls_of mixed Try.func42 rfl rfl (e42b n0 n1) h
def t68 (o0 : Option Addr) (n1 n2 : Nat) (n3 n4 : Nat) : T :=
  T.new (Obj.cells (Array.mk [Value.slice o0 n1 n2]) 36) fun n5 =>
  T.rf none 0 69 [Value.pointer (some (Addr.mk n3 n4 none))]
    (fun n6 l7 =>
    T.req (List.length l7 = 1)
    (T.asA (List.headD l7 (Value.tuple (Array.mk []))) fun l8 =>
    T.req (List.length l8 = 2)
    (T.asI IntKind.i32 (List.headD l8 (Value.tuple (Array.mk []))) fun i9 =>
    T.asI IntKind.i64 (List.headD (List.tail l8) (Value.tuple (Array.mk []))) fun i10 =>
    T.new (Obj.cells (Array.mk [Value.int IntKind.i32 0, Value.int IntKind.i64 0]) 39) fun n11 =>
    T.st n11 0 (Value.int IntKind.i32 i9)
    (T.st n11 1 (Value.int IntKind.i64 i10)
    (T.beg n6
    (T.ldS n5 0 fun o12 n13 n14 =>
    T.ldI IntKind.i32 n11 0 fun i15 =>
    T.ldI IntKind.i64 n11 1 fun i16 =>
    T.new (Obj.cells (Array.mk [Value.int IntKind.i32 i15, Value.int IntKind.i64 i16]) 39) fun n17 =>
    T.run
    (biV Builtin.append (Array.mk [36, 36]) 36 (Array.mk [Value.slice o12 n13 n14, Value.slice (some (Addr.mk n17 0 none)) 1 1]))
    fun v18 =>
    T.asS v18 fun o19 n20 n21 =>
    T.st n5 0 (Value.slice o19 n20 n21) (T.run (Instr.endRound n6 none) fun v22 => T.next 0 [v22] True)))))))
    (fun n23 => T.ldS n5 0 fun o24 n25 n26 => T.col n23 (T.ret (Value.slice o24 n25 n26))) (fun n27 => T.col n27 (T.ret (Value.slice none 0 0))) []
theorem e68 (o0 : Option Addr) (n1 n2 : Nat) (n3 n4 : Nat) : treeOf Try.prog Try.f68 (codeOf Try.f68) (.s .n (.s (.s .n (.u (.f [.agg [.int .i32, .int .i64]] .n .n))) .n)) [.v (.slice o0 n1 n2), .v (.func (.func 69) #[] #[.pointer (some ⟨n3, n4, none⟩)])] = (t68 o0 n1 n2 n3 n4) := by kernel_rfl
theorem c68 (o0 : Option Addr) (n1 n2 : Nat) (n3 n4 : Nat) {w : World} {R : Ending → World → Prop} (h : (t68 o0 n1 n2 n3 n4).sem Try.prog R ρ0 w) : Calls Try.prog 68 #[.slice o0 n1 n2, .func (.func 69) #[] #[.pointer (some ⟨n3, n4, none⟩)]] w R :=
  calls_of mixed Try.func68 rfl rfl (e68 o0 n1 n2 n3 n4) h
def t69 (n0 : Nat) (n1 n2 : Nat) : T :=
  T.ldM n1 n2 fun o3 =>
  T.run (Instr.range 68 (Value.map o3)) fun v4 =>
    T.asP v4 fun o5 =>
    T.sm o5 fun n6 n7 =>
    T.req (n7 = 0)
    (T.loop 0 [] fun l8 j9 =>
    T.run (Instr.next (Value.pointer (some (Addr.mk n6 0 none))) false 0) fun v10 =>
    T.asU v10 fun l11 =>
    T.ite (decide (List.length l11 = 1))
    (T.req (l11 = [Value.bool false])
    (T.ite false
    (T.run (Instr.entry (Value.pointer (some (Addr.mk n6 0 none)))) fun v12 =>
    T.asU v12 fun l13 =>
    T.req (List.length l13 = 2)
    (T.asA (List.getD l13 0 (Value.tuple (Array.mk []))) fun l14 =>
    T.req (List.length l14 = 2)
    (T.asI IntKind.i32 (List.headD l14 (Value.tuple (Array.mk []))) fun i15 =>
    T.asI IntKind.i64 (List.headD (List.tail l14) (Value.tuple (Array.mk []))) fun i16 =>
    T.asS (List.getD l13 1 (Value.tuple (Array.mk []))) fun o17 n18 n19 =>
    T.new (Obj.cells (Array.mk [Value.int IntKind.i32 0, Value.int IntKind.i64 0]) 39) fun n20 =>
    T.st n20 0 (Value.int IntKind.i32 i15)
    (T.st n20 1 (Value.int IntKind.i64 i16)
    (T.ldI IntKind.i32 n20 0 fun i21 =>
    T.ldI IntKind.i64 n20 1 fun i22 =>
    T.yl n0 [Value.agg (Array.mk [Value.int IntKind.i32 i21, Value.int IntKind.i64 i22])] fun v23 =>
    T.asB v23 fun b24 =>
    T.ite (!b24) (T.ret (Value.tuple (Array.mk [])))
    (T.next 0 []
    ([Value.func (Fn.yield n0) (Array.mk []) (Array.mk []), Value.pointer (some (Addr.mk n6 0 none))] =
    [Value.func (Fn.yield n0) (Array.mk []) (Array.mk []), Value.pointer (some (Addr.mk n6 0 none))] ∧ ([] : List Deferred) = [])))))))
    (T.ret (Value.tuple (Array.mk [])))))
    (T.req (List.length l11 = 3 ∧ List.headD l11 (Value.tuple (Array.mk [])) = Value.bool true)
    (T.asA (List.getD l11 1 (Value.tuple (Array.mk []))) fun l25 =>
    T.req (List.length l25 = 2)
    (T.asI IntKind.i32 (List.headD l25 (Value.tuple (Array.mk []))) fun i26 =>
    T.asI IntKind.i64 (List.headD (List.tail l25) (Value.tuple (Array.mk []))) fun i27 =>
    T.asS (List.getD l11 2 (Value.tuple (Array.mk []))) fun o28 n29 n30 =>
    T.ite true
    (T.run (Instr.entry (Value.pointer (some (Addr.mk n6 0 none)))) fun v31 =>
    T.asU v31 fun l32 =>
    T.req (List.length l32 = 2)
    (T.asA (List.getD l32 0 (Value.tuple (Array.mk []))) fun l33 =>
    T.req (List.length l33 = 2)
    (T.asI IntKind.i32 (List.headD l33 (Value.tuple (Array.mk []))) fun i34 =>
    T.asI IntKind.i64 (List.headD (List.tail l33) (Value.tuple (Array.mk []))) fun i35 =>
    T.asS (List.getD l32 1 (Value.tuple (Array.mk []))) fun o36 n37 n38 =>
    T.new (Obj.cells (Array.mk [Value.int IntKind.i32 0, Value.int IntKind.i64 0]) 39) fun n39 =>
    T.st n39 0 (Value.int IntKind.i32 i34)
    (T.st n39 1 (Value.int IntKind.i64 i35)
    (T.ldI IntKind.i32 n39 0 fun i40 =>
    T.ldI IntKind.i64 n39 1 fun i41 =>
    T.yl n0 [Value.agg (Array.mk [Value.int IntKind.i32 i40, Value.int IntKind.i64 i41])] fun v42 =>
    T.asB v42 fun b43 =>
    T.ite (!b43) (T.ret (Value.tuple (Array.mk [])))
    (T.next 0 []
    ([Value.func (Fn.yield n0) (Array.mk []) (Array.mk []),
    Value.pointer (some (Addr.mk n6 0 none))] =
    [Value.func (Fn.yield n0) (Array.mk []) (Array.mk []),
    Value.pointer (some (Addr.mk n6 0 none))] ∧ ([] : List Deferred) = [])))))))
    (T.ret (Value.tuple (Array.mk [])))))))
theorem e69 (n0 : Nat) (n1 n2 : Nat) : treeOf Try.prog Try.f69 (codeOf Try.f69) (.s .n (.u (.l [] [0, 5] .n))) [.v (.func (.yield n0) #[] #[]), .p n1 n2] = (t69 n0 n1 n2) := by kernel_rfl
theorem c69 (n0 : Nat) (n1 n2 : Nat) {w : World} {R : Ending → World → Prop} (h : (t69 n0 n1 n2).sem Try.prog R ρ0 w) : Calls Try.prog 69 #[.func (.yield n0) #[] #[], .pointer (some ⟨n1, n2, none⟩)] w R :=
  calls_of mixed Try.func69 rfl rfl (e69 n0 n1 n2) h
def t29 (n0 n1 : Nat) (o2 : Option Addr) (n3 n4 : Nat) : T :=
  T.new (Obj.cells (Array.mk [Value.slice o2 n3 n4]) 33) fun n5 =>
  T.new (Obj.cells (Array.mk [Value.bool false]) 4) fun n6 =>
    T.new (Obj.cells (Array.mk [Value.int IntKind.i64 0]) 3) fun n7 =>
    T.st n7 0 (Value.int IntKind.i64 0)
    (T.rf none 0 46 [Value.pointer (some (Addr.mk n0 n1 none))]
    (fun n8 l9 =>
    T.req (List.length l9 = 1)
    (T.asA (List.headD l9 (Value.tuple (Array.mk []))) fun l10 =>
    T.req (List.length l10 = 2)
    (T.asI IntKind.i64 (List.headD l10 (Value.tuple (Array.mk []))) fun i11 =>
    T.asI IntKind.i64 (List.headD (List.tail l10) (Value.tuple (Array.mk []))) fun i12 =>
    T.new (Obj.cells (Array.mk [Value.int IntKind.i64 0, Value.int IntKind.i64 0]) 27) fun n13 =>
    T.st n13 0 (Value.int IntKind.i64 i11)
    (T.st n13 1 (Value.int IntKind.i64 i12)
    (T.beg n8
    (T.drew
    (T.ldI IntKind.i64 n7 0 fun i14 =>
    T.ldS n5 0 fun o15 n16 n17 =>
    T.ite (decide (i14 ≥ (↑n16 : Int)))
    (T.st n6 0 (Value.bool false) (T.run (Instr.endRound n8 (some Code.ret)) fun v18 => T.next 0 [v18] True))
    (T.ldI IntKind.i64 n13 0 fun i19 =>
    T.ldI IntKind.i64 n13 1 fun i20 =>
    T.ldS n5 0 fun o21 n22 n23 =>
    T.ldI IntKind.i64 n7 0 fun i24 =>
    T.req (0 ≤ i24 ∧ i24 < (↑n22 : Int))
    (T.sm o21 fun n25 n26 =>
    T.ldI IntKind.i64 n25 (n26 + Int.toNat i24 * 2) fun i27 =>
    T.ldI IntKind.i64 n25 (n26 + Int.toNat i24 * 2 + 1) fun i28 =>
    T.ite (!(i19 == i27 && (i20 == i28 && true)))
    (T.st n6 0 (Value.bool false)
    (T.run (Instr.endRound n8 (some Code.ret)) fun v29 => T.next 0 [v29] True))
    (T.ldI IntKind.i64 n7 0 fun i30 =>
    T.st n7 0 (Value.int IntKind.i64 (IntKind.wrap IntKind.i64 (i30 + 1)))
    (T.run (Instr.endRound n8 none) fun v31 => T.next 0 [v31] True)))))))))))
    (fun n32 =>
    T.ldI IntKind.i64 n7 0 fun i33 =>
    T.ldS n5 0 fun o34 n35 n36 => T.st n6 0 (Value.bool (i33 == (↑n35 : Int))) (T.col n32 (T.ldB n6 0 fun b37 => T.ret (Value.bool b37))))
    (fun n38 => T.col n38 (T.ldB n6 0 fun b39 => T.ret (Value.bool b39))) [])
theorem e29 (n0 n1 : Nat) (o2 : Option Addr) (n3 n4 : Nat) : treeOf Try.prog Try.f29 (codeOf Try.f29) (.s .n (.s .n (.s (.s .n (.u (.f [.agg [.int .i64, .int .i64]] .n (.u (.s (.s (.p [0, 1, 2, 3, 4, 5, 6, 7, 8, 9, 10, 11]) .n) .n))))) .n))) [.v (.func (.func 46) #[] #[.pointer (some ⟨n0, n1, none⟩)]), .v (.slice o2 n3 n4)] = (t29 n0 n1 o2 n3 n4) := by kernel_rfl
theorem c29 (n0 n1 : Nat) (o2 : Option Addr) (n3 n4 : Nat) {w : World} {R : Ending → World → Prop} (h : (t29 n0 n1 o2 n3 n4).sem Try.prog R ρ0 w) : Calls Try.prog 29 #[.func (.func 46) #[] #[.pointer (some ⟨n0, n1, none⟩)], .slice o2 n3 n4] w R :=
  calls_of mixed Try.func29 rfl rfl (e29 n0 n1 o2 n3 n4) h
def t20 (o0 : Option Addr) (n1 n2 : Nat) (n3 n4 : Nat) : T :=
  T.call 51 [Value.slice o0 n1 n2, Value.func (Fn.func 21) (Array.mk []) (Array.mk [Value.pointer (some (Addr.mk n3 n4 none))])] fun v5 =>
  T.asI IntKind.i64 v5 fun i6 =>
    T.ite (i6 == -1) (T.ret (Value.slice o0 n1 n2))
    (T.loop 0 [Value.int IntKind.i64 i6, Value.int IntKind.i64 (IntKind.wrap IntKind.i64 (i6 + 1))] fun l7 j8 =>
    T.asI IntKind.i64 (List.headD l7 (Value.tuple (Array.mk []))) fun i9 =>
    T.asI IntKind.i64 (List.headD (List.tail l7) (Value.tuple (Array.mk []))) fun i10 =>
    T.ite (decide (i10 < (↑n1 : Int)))
    (T.req (0 ≤ i10 ∧ i10 < (↑n1 : Int))
    (T.sm o0 fun n11 n12 =>
    T.ldI IntKind.i64 n11 (n12 + Int.toNat i10 * 2) fun i13 =>
    T.ldI IntKind.i64 n11 (n12 + Int.toNat i10 * 2 + 1) fun i14 =>
    T.new (Obj.cells (Array.mk [Value.int IntKind.i64 0, Value.int IntKind.i64 0]) 27) fun n15 =>
    T.st n15 0 (Value.int IntKind.i64 i13)
    (T.st n15 1 (Value.int IntKind.i64 i14)
    (T.ldI IntKind.i64 n15 0 fun i16 =>
    T.ldI IntKind.i64 n15 1 fun i17 =>
    T.call 21
    [Value.agg (Array.mk [Value.int IntKind.i64 i16, Value.int IntKind.i64 i17]), Value.pointer (some (Addr.mk n3 n4 none))]
    fun v18 =>
    T.asB v18 fun b19 =>
    T.ite (!b19)
    (T.ldI IntKind.i64 n15 0 fun i20 =>
    T.ldI IntKind.i64 n15 1 fun i21 =>
    T.req (0 ≤ i9 ∧ i9 < (↑n1 : Int))
    (T.sm o0 fun n22 n23 =>
    T.st n22 (n23 + Int.toNat i9 * 2) (Value.int IntKind.i64 i20)
    (T.st n22 (n23 + Int.toNat i9 * 2 + 1) (Value.int IntKind.i64 i21)
    (T.next 0
    [Value.int IntKind.i64 (IntKind.wrap IntKind.i64 (i9 + 1)),
    Value.int IntKind.i64 (IntKind.wrap IntKind.i64 (i10 + 1))]
    ([Value.slice o0 n1 n2,
    Value.func (Fn.func 21) (Array.mk []) (Array.mk [Value.pointer (some (Addr.mk n3 n4 none))])] =
    [Value.slice o0 n1 n2,
    Value.func (Fn.func 21) (Array.mk []) (Array.mk [Value.pointer (some (Addr.mk n3 n4 none))])] ∧ ([] : List Deferred) = [])))))
    (T.next 0 [Value.int IntKind.i64 i9, Value.int IntKind.i64 (IntKind.wrap IntKind.i64 (i10 + 1))]
    ([Value.slice o0 n1 n2, Value.func (Fn.func 21) (Array.mk []) (Array.mk [Value.pointer (some (Addr.mk n3 n4 none))])] =
    [Value.slice o0 n1 n2,
    Value.func (Fn.func 21) (Array.mk []) (Array.mk [Value.pointer (some (Addr.mk n3 n4 none))])] ∧ ([] : List Deferred) = []))))))
    (T.req (0 ≤ i9 ∧ i9 ≤ (↑n1 : Int))
    (T.run (biV Builtin.clear (Array.mk [33]) 0 (Array.mk [Value.slice (sliceBase o0 (Int.toNat i9) n2 2) (n1 - Int.toNat i9) (n2 - Int.toNat i9)]))
    fun v24 => T.req (0 ≤ i9 ∧ i9 ≤ (↑n2 : Int)) (T.ret (Value.slice (sliceBase o0 0 n2 2) (Int.toNat i9) n2)))))
theorem e20 (o0 : Option Addr) (n1 n2 : Nat) (n3 n4 : Nat) : treeOf Try.prog Try.f20 (codeOf Try.f20) (.s .n (.s .n (.s .n (.s (.s .n (.u (.l [(5, .int .i64), (6, .int .i64)] [0, 1] .n))) .n)))) [.v (.slice o0 n1 n2), .v (.func (.func 21) #[] #[.pointer (some ⟨n3, n4, none⟩)])] = (t20 o0 n1 n2 n3 n4) := by kernel_rfl
theorem c20 (o0 : Option Addr) (n1 n2 : Nat) (n3 n4 : Nat) {w : World} {R : Ending → World → Prop} (h : (t20 o0 n1 n2 n3 n4).sem Try.prog R ρ0 w) : Calls Try.prog 20 #[.slice o0 n1 n2, .func (.func 21) #[] #[.pointer (some ⟨n3, n4, none⟩)]] w R :=
  calls_of mixed Try.func20 rfl rfl (e20 o0 n1 n2 n3 n4) h
def t51 (o0 : Option Addr) (n1 n2 : Nat) (n3 n4 : Nat) : T :=
  T.loop 0 [Value.int IntKind.i64 0] fun l5 j6 =>
  T.asI IntKind.i64 (List.headD l5 (Value.tuple (Array.mk []))) fun i7 =>
    T.ite (decide (i7 < (↑n1 : Int)))
    (T.req (0 ≤ i7 ∧ i7 < (↑n1 : Int))
    (T.sm o0 fun n8 n9 =>
    T.ldI IntKind.i64 n8 (n9 + Int.toNat i7 * 2) fun i10 =>
    T.ldI IntKind.i64 n8 (n9 + Int.toNat i7 * 2 + 1) fun i11 =>
    T.call 21 [Value.agg (Array.mk [Value.int IntKind.i64 i10, Value.int IntKind.i64 i11]), Value.pointer (some (Addr.mk n3 n4 none))] fun v12 =>
    T.asB v12 fun b13 =>
    T.ite b13 (T.ret (Value.int IntKind.i64 i7))
    (T.next 0 [Value.int IntKind.i64 (IntKind.wrap IntKind.i64 (i7 + 1))]
    ([Value.slice o0 n1 n2, Value.func (Fn.func 21) (Array.mk []) (Array.mk [Value.pointer (some (Addr.mk n3 n4 none))]),
    Value.int IntKind.i64 (↑n1 : Int)] =
    [Value.slice o0 n1 n2, Value.func (Fn.func 21) (Array.mk []) (Array.mk [Value.pointer (some (Addr.mk n3 n4 none))]),
    Value.int IntKind.i64 (↑n1 : Int)] ∧ ([] : List Deferred) = []))))
    (T.ret (Value.int IntKind.i64 (-1)))
theorem e51 (o0 : Option Addr) (n1 n2 : Nat) (n3 n4 : Nat) : treeOf Try.prog Try.f51 (codeOf Try.f51) (.s .n (.s (.s .n (.u (.l [(8, .int .i64)] [0, 1, 7] .n))) .n)) [.v (.slice o0 n1 n2), .v (.func (.func 21) #[] #[.pointer (some ⟨n3, n4, none⟩)])] = (t51 o0 n1 n2 n3 n4) := by kernel_rfl
theorem c51 (o0 : Option Addr) (n1 n2 : Nat) (n3 n4 : Nat) {w : World} {R : Ending → World → Prop} (h : (t51 o0 n1 n2 n3 n4).sem Try.prog R ρ0 w) : Calls Try.prog 51 #[.slice o0 n1 n2, .func (.func 21) #[] #[.pointer (some ⟨n3, n4, none⟩)]] w R :=
  calls_of mixed Try.func51 rfl rfl (e51 o0 n1 n2 n3 n4) h
def t21 (i0 : Int) (i1 : Int) (n2 n3 : Nat) : T :=
  T.new (Obj.cells (Array.mk [Value.int IntKind.i64 i0, Value.int IntKind.i64 i1]) 27) fun n4 =>
  T.ldI IntKind.i64 n4 0 fun i5 =>
    T.ldI IntKind.i64 n4 1 fun i6 =>
    T.ldI IntKind.i64 n2 n3 fun i7 => T.ldI IntKind.i64 n2 (n3 + 1) fun i8 => T.ret (Value.bool (i5 == i7 && (i6 == i8 && true)))
theorem e21 (i0 : Int) (i1 : Int) (n2 n3 : Nat) : treeOf Try.prog Try.f21 (codeOf Try.f21) .n [.v (.agg #[.int .i64 i0, .int .i64 i1]), .p n2 n3] = (t21 i0 i1 n2 n3) := by kernel_rfl
theorem c21 (i0 : Int) (i1 : Int) (n2 n3 : Nat) {w : World} {R : Ending → World → Prop} (h : (t21 i0 i1 n2 n3).sem Try.prog R ρ0 w) : Calls Try.prog 21 #[.agg #[.int .i64 i0, .int .i64 i1], .pointer (some ⟨n2, n3, none⟩)] w R :=
  calls_of mixed Try.func21 rfl rfl (e21 i0 i1 n2 n3) h
def t20b (o0 : Option Addr) (n1 n2 : Nat) (n3 n4 : Nat) : T :=
  T.call 51 [Value.slice o0 n1 n2, Value.func (Fn.func 40) (Array.mk []) (Array.mk [Value.pointer (some (Addr.mk n3 n4 none))])] fun v5 =>
  T.asI IntKind.i64 v5 fun i6 =>
    T.ite (i6 == -1) (T.ret (Value.slice o0 n1 n2))
    (T.loop 0 [Value.int IntKind.i64 i6, Value.int IntKind.i64 (IntKind.wrap IntKind.i64 (i6 + 1))] fun l7 j8 =>
    T.asI IntKind.i64 (List.headD l7 (Value.tuple (Array.mk []))) fun i9 =>
    T.asI IntKind.i64 (List.headD (List.tail l7) (Value.tuple (Array.mk []))) fun i10 =>
    T.ite (decide (i10 < (↑n1 : Int)))
    (T.req (0 ≤ i10 ∧ i10 < (↑n1 : Int))
    (T.sm o0 fun n11 n12 =>
    T.ldI IntKind.i64 n11 (n12 + Int.toNat i10 * 2) fun i13 =>
    T.ldI IntKind.i64 n11 (n12 + Int.toNat i10 * 2 + 1) fun i14 =>
    T.new (Obj.cells (Array.mk [Value.int IntKind.i64 0, Value.int IntKind.i64 0]) 27) fun n15 =>
    T.st n15 0 (Value.int IntKind.i64 i13)
    (T.st n15 1 (Value.int IntKind.i64 i14)
    (T.ldI IntKind.i64 n15 0 fun i16 =>
    T.ldI IntKind.i64 n15 1 fun i17 =>
    T.call 40
    [Value.agg (Array.mk [Value.int IntKind.i64 i16, Value.int IntKind.i64 i17]), Value.pointer (some (Addr.mk n3 n4 none))]
    fun v18 =>
    T.asB v18 fun b19 =>
    T.ite (!b19)
    (T.ldI IntKind.i64 n15 0 fun i20 =>
    T.ldI IntKind.i64 n15 1 fun i21 =>
    T.req (0 ≤ i9 ∧ i9 < (↑n1 : Int))
    (T.sm o0 fun n22 n23 =>
    T.st n22 (n23 + Int.toNat i9 * 2) (Value.int IntKind.i64 i20)
    (T.st n22 (n23 + Int.toNat i9 * 2 + 1) (Value.int IntKind.i64 i21)
    (T.next 0
    [Value.int IntKind.i64 (IntKind.wrap IntKind.i64 (i9 + 1)),
    Value.int IntKind.i64 (IntKind.wrap IntKind.i64 (i10 + 1))]
    ([Value.slice o0 n1 n2,
    Value.func (Fn.func 40) (Array.mk []) (Array.mk [Value.pointer (some (Addr.mk n3 n4 none))])] =
    [Value.slice o0 n1 n2,
    Value.func (Fn.func 40) (Array.mk []) (Array.mk [Value.pointer (some (Addr.mk n3 n4 none))])] ∧ ([] : List Deferred) = [])))))
    (T.next 0 [Value.int IntKind.i64 i9, Value.int IntKind.i64 (IntKind.wrap IntKind.i64 (i10 + 1))]
    ([Value.slice o0 n1 n2, Value.func (Fn.func 40) (Array.mk []) (Array.mk [Value.pointer (some (Addr.mk n3 n4 none))])] =
    [Value.slice o0 n1 n2,
    Value.func (Fn.func 40) (Array.mk []) (Array.mk [Value.pointer (some (Addr.mk n3 n4 none))])] ∧ ([] : List Deferred) = []))))))
    (T.req (0 ≤ i9 ∧ i9 ≤ (↑n1 : Int))
    (T.run (biV Builtin.clear (Array.mk [33]) 0 (Array.mk [Value.slice (sliceBase o0 (Int.toNat i9) n2 2) (n1 - Int.toNat i9) (n2 - Int.toNat i9)]))
    fun v24 => T.req (0 ≤ i9 ∧ i9 ≤ (↑n2 : Int)) (T.ret (Value.slice (sliceBase o0 0 n2 2) (Int.toNat i9) n2)))))
theorem e20b (o0 : Option Addr) (n1 n2 : Nat) (n3 n4 : Nat) : treeOf Try.prog Try.f20 (codeOf Try.f20) (.s .n (.s .n (.s .n (.s (.s .n (.u (.l [(5, .int .i64), (6, .int .i64)] [0, 1] .n))) .n)))) [.v (.slice o0 n1 n2), .v (.func (.func 40) #[] #[.pointer (some ⟨n3, n4, none⟩)])] = (t20b o0 n1 n2 n3 n4) := by kernel_rfl
theorem c20b (o0 : Option Addr) (n1 n2 : Nat) (n3 n4 : Nat) {w : World} {R : Ending → World → Prop} (h : (t20b o0 n1 n2 n3 n4).sem Try.prog R ρ0 w) : Calls Try.prog 20 #[.slice o0 n1 n2, .func (.func 40) #[] #[.pointer (some ⟨n3, n4, none⟩)]] w R :=
  calls_of mixed Try.func20 rfl rfl (e20b o0 n1 n2 n3 n4) h
def t51b (o0 : Option Addr) (n1 n2 : Nat) (n3 n4 : Nat) : T :=
  T.loop 0 [Value.int IntKind.i64 0] fun l5 j6 =>
  T.asI IntKind.i64 (List.headD l5 (Value.tuple (Array.mk []))) fun i7 =>
    T.ite (decide (i7 < (↑n1 : Int)))
    (T.req (0 ≤ i7 ∧ i7 < (↑n1 : Int))
    (T.sm o0 fun n8 n9 =>
    T.ldI IntKind.i64 n8 (n9 + Int.toNat i7 * 2) fun i10 =>
    T.ldI IntKind.i64 n8 (n9 + Int.toNat i7 * 2 + 1) fun i11 =>
    T.call 40 [Value.agg (Array.mk [Value.int IntKind.i64 i10, Value.int IntKind.i64 i11]), Value.pointer (some (Addr.mk n3 n4 none))] fun v12 =>
    T.asB v12 fun b13 =>
    T.ite b13 (T.ret (Value.int IntKind.i64 i7))
    (T.next 0 [Value.int IntKind.i64 (IntKind.wrap IntKind.i64 (i7 + 1))]
    ([Value.slice o0 n1 n2, Value.func (Fn.func 40) (Array.mk []) (Array.mk [Value.pointer (some (Addr.mk n3 n4 none))]),
    Value.int IntKind.i64 (↑n1 : Int)] =
    [Value.slice o0 n1 n2, Value.func (Fn.func 40) (Array.mk []) (Array.mk [Value.pointer (some (Addr.mk n3 n4 none))]),
    Value.int IntKind.i64 (↑n1 : Int)] ∧ ([] : List Deferred) = []))))
    (T.ret (Value.int IntKind.i64 (-1)))
theorem e51b (o0 : Option Addr) (n1 n2 : Nat) (n3 n4 : Nat) : treeOf Try.prog Try.f51 (codeOf Try.f51) (.s .n (.s (.s .n (.u (.l [(8, .int .i64)] [0, 1, 7] .n))) .n)) [.v (.slice o0 n1 n2), .v (.func (.func 40) #[] #[.pointer (some ⟨n3, n4, none⟩)])] = (t51b o0 n1 n2 n3 n4) := by kernel_rfl
theorem c51b (o0 : Option Addr) (n1 n2 : Nat) (n3 n4 : Nat) {w : World} {R : Ending → World → Prop} (h : (t51b o0 n1 n2 n3 n4).sem Try.prog R ρ0 w) : Calls Try.prog 51 #[.slice o0 n1 n2, .func (.func 40) #[] #[.pointer (some ⟨n3, n4, none⟩)]] w R :=
  calls_of mixed Try.func51 rfl rfl (e51b o0 n1 n2 n3 n4) h
def t40 (i0 : Int) (i1 : Int) (n2 n3 : Nat) : T :=
  T.new (Obj.cells (Array.mk [Value.int IntKind.i64 i0, Value.int IntKind.i64 i1]) 27) fun n4 =>
  T.ldI IntKind.i64 n4 0 fun i5 =>
    T.ldI IntKind.i64 n4 1 fun i6 =>
    T.ldI IntKind.i64 n2 n3 fun i7 => T.ldI IntKind.i64 n2 (n3 + 1) fun i8 => T.ret (Value.bool (i5 == i7 && (i6 == i8 && true)))
theorem e40 (i0 : Int) (i1 : Int) (n2 n3 : Nat) : treeOf Try.prog Try.f40 (codeOf Try.f40) .n [.v (.agg #[.int .i64 i0, .int .i64 i1]), .p n2 n3] = (t40 i0 i1 n2 n3) := by kernel_rfl
theorem c40 (i0 : Int) (i1 : Int) (n2 n3 : Nat) {w : World} {R : Ending → World → Prop} (h : (t40 i0 i1 n2 n3).sem Try.prog R ρ0 w) : Calls Try.prog 40 #[.agg #[.int .i64 i0, .int .i64 i1], .pointer (some ⟨n2, n3, none⟩)] w R :=
  calls_of mixed Try.func40 rfl rfl (e40 i0 i1 n2 n3) h
def t36 (o0 : Option Addr) (n1 n2 : Nat) (n3 n4 : Nat) : T :=
  T.call 64 [Value.slice o0 n1 n2, Value.func (Fn.func 38) (Array.mk []) (Array.mk [Value.pointer (some (Addr.mk n3 n4 none))])] fun v5 =>
  T.asI IntKind.i64 v5 fun i6 =>
    T.ite (i6 == -1) (T.ret (Value.slice o0 n1 n2))
    (T.loop 0 [Value.int IntKind.i64 i6, Value.int IntKind.i64 (IntKind.wrap IntKind.i64 (i6 + 1))] fun l7 j8 =>
    T.asI IntKind.i64 (List.headD l7 (Value.tuple (Array.mk []))) fun i9 =>
    T.asI IntKind.i64 (List.headD (List.tail l7) (Value.tuple (Array.mk []))) fun i10 =>
    T.ite (decide (i10 < (↑n1 : Int)))
    (T.req (0 ≤ i10 ∧ i10 < (↑n1 : Int))
    (T.sm o0 fun n11 n12 =>
    T.ldI IntKind.i64 n11 (n12 + Int.toNat i10 * 4) fun i13 =>
    T.ldI IntKind.i64 n11 (n12 + Int.toNat i10 * 4 + 1) fun i14 =>
    T.ldB n11 (n12 + Int.toNat i10 * 4 + 2) fun b15 =>
    T.ldB n11 (n12 + Int.toNat i10 * 4 + 3) fun b16 =>
    T.new (Obj.cells (Array.mk [Value.int IntKind.i64 0, Value.int IntKind.i64 0, Value.bool false, Value.bool false]) 43) fun n17 =>
    T.st n17 0 (Value.int IntKind.i64 i13)
    (T.st n17 1 (Value.int IntKind.i64 i14)
    (T.st n17 2 (Value.bool b15)
    (T.st n17 3 (Value.bool b16)
    (T.ldI IntKind.i64 n17 0 fun i18 =>
    T.ldI IntKind.i64 n17 1 fun i19 =>
    T.ldB n17 2 fun b20 =>
    T.ldB n17 3 fun b21 =>
    T.call 38
    [Value.agg (Array.mk [Value.int IntKind.i64 i18, Value.int IntKind.i64 i19, Value.bool b20, Value.bool b21]),
    Value.pointer (some (Addr.mk n3 n4 none))]
    fun v22 =>
    T.asB v22 fun b23 =>
    T.ite (!b23)
    (T.ldI IntKind.i64 n17 0 fun i24 =>
    T.ldI IntKind.i64 n17 1 fun i25 =>
    T.ldB n17 2 fun b26 =>
    T.ldB n17 3 fun b27 =>
    T.req (0 ≤ i9 ∧ i9 < (↑n1 : Int))
    (T.sm o0 fun n28 n29 =>
    T.st n28 (n29 + Int.toNat i9 * 4) (Value.int IntKind.i64 i24)
    (T.st n28 (n29 + Int.toNat i9 * 4 + 1) (Value.int IntKind.i64 i25)
    (T.st n28 (n29 + Int.toNat i9 * 4 + 2) (Value.bool b26)
    (T.st n28 (n29 + Int.toNat i9 * 4 + 3) (Value.bool b27)
    (T.next 0
    [Value.int IntKind.i64 (IntKind.wrap IntKind.i64 (i9 + 1)),
    Value.int IntKind.i64 (IntKind.wrap IntKind.i64 (i10 + 1))]
    ([Value.slice o0 n1 n2,
    Value.func (Fn.func 38) (Array.mk [])
    (Array.mk [Value.pointer (some (Addr.mk n3 n4 none))])] =
    [Value.slice o0 n1 n2,
    Value.func (Fn.func 38) (Array.mk [])
    (Array.mk [Value.pointer (some (Addr.mk n3 n4 none))])] ∧ ([] : List Deferred) = [])))))))
    (T.next 0 [Value.int IntKind.i64 i9, Value.int IntKind.i64 (IntKind.wrap IntKind.i64 (i10 + 1))]
    ([Value.slice o0 n1 n2,
    Value.func (Fn.func 38) (Array.mk []) (Array.mk [Value.pointer (some (Addr.mk n3 n4 none))])] =
    [Value.slice o0 n1 n2,
    Value.func (Fn.func 38) (Array.mk []) (Array.mk [Value.pointer (some (Addr.mk n3 n4 none))])] ∧ ([] : List Deferred) = []))))))))
    (T.req (0 ≤ i9 ∧ i9 ≤ (↑n1 : Int))
    (T.run (biV Builtin.clear (Array.mk [40]) 0 (Array.mk [Value.slice (sliceBase o0 (Int.toNat i9) n2 4) (n1 - Int.toNat i9) (n2 - Int.toNat i9)]))
    fun v30 => T.req (0 ≤ i9 ∧ i9 ≤ (↑n2 : Int)) (T.ret (Value.slice (sliceBase o0 0 n2 4) (Int.toNat i9) n2)))))
theorem e36 (o0 : Option Addr) (n1 n2 : Nat) (n3 n4 : Nat) : treeOf Try.prog Try.f36 (codeOf Try.f36) (.s .n (.s .n (.s .n (.s (.s .n (.u (.l [(5, .int .i64), (6, .int .i64)] [0, 1] .n))) .n)))) [.v (.slice o0 n1 n2), .v (.func (.func 38) #[] #[.pointer (some ⟨n3, n4, none⟩)])] = (t36 o0 n1 n2 n3 n4) := by kernel_rfl
theorem c36 (o0 : Option Addr) (n1 n2 : Nat) (n3 n4 : Nat) {w : World} {R : Ending → World → Prop} (h : (t36 o0 n1 n2 n3 n4).sem Try.prog R ρ0 w) : Calls Try.prog 36 #[.slice o0 n1 n2, .func (.func 38) #[] #[.pointer (some ⟨n3, n4, none⟩)]] w R :=
  calls_of mixed Try.func36 rfl rfl (e36 o0 n1 n2 n3 n4) h
def t64 (o0 : Option Addr) (n1 n2 : Nat) (n3 n4 : Nat) : T :=
  T.loop 0 [Value.int IntKind.i64 0] fun l5 j6 =>
  T.asI IntKind.i64 (List.headD l5 (Value.tuple (Array.mk []))) fun i7 =>
    T.ite (decide (i7 < (↑n1 : Int)))
    (T.req (0 ≤ i7 ∧ i7 < (↑n1 : Int))
    (T.sm o0 fun n8 n9 =>
    T.ldI IntKind.i64 n8 (n9 + Int.toNat i7 * 4) fun i10 =>
    T.ldI IntKind.i64 n8 (n9 + Int.toNat i7 * 4 + 1) fun i11 =>
    T.ldB n8 (n9 + Int.toNat i7 * 4 + 2) fun b12 =>
    T.ldB n8 (n9 + Int.toNat i7 * 4 + 3) fun b13 =>
    T.call 38
    [Value.agg (Array.mk [Value.int IntKind.i64 i10, Value.int IntKind.i64 i11, Value.bool b12, Value.bool b13]),
    Value.pointer (some (Addr.mk n3 n4 none))]
    fun v14 =>
    T.asB v14 fun b15 =>
    T.ite b15 (T.ret (Value.int IntKind.i64 i7))
    (T.next 0 [Value.int IntKind.i64 (IntKind.wrap IntKind.i64 (i7 + 1))]
    ([Value.slice o0 n1 n2, Value.func (Fn.func 38) (Array.mk []) (Array.mk [Value.pointer (some (Addr.mk n3 n4 none))]),
    Value.int IntKind.i64 (↑n1 : Int)] =
    [Value.slice o0 n1 n2, Value.func (Fn.func 38) (Array.mk []) (Array.mk [Value.pointer (some (Addr.mk n3 n4 none))]),
    Value.int IntKind.i64 (↑n1 : Int)] ∧ ([] : List Deferred) = []))))
    (T.ret (Value.int IntKind.i64 (-1)))
theorem e64 (o0 : Option Addr) (n1 n2 : Nat) (n3 n4 : Nat) : treeOf Try.prog Try.f64 (codeOf Try.f64) (.s .n (.s (.s .n (.u (.l [(8, .int .i64)] [0, 1, 7] .n))) .n)) [.v (.slice o0 n1 n2), .v (.func (.func 38) #[] #[.pointer (some ⟨n3, n4, none⟩)])] = (t64 o0 n1 n2 n3 n4) := by kernel_rfl
theorem c64 (o0 : Option Addr) (n1 n2 : Nat) (n3 n4 : Nat) {w : World} {R : Ending → World → Prop} (h : (t64 o0 n1 n2 n3 n4).sem Try.prog R ρ0 w) : Calls Try.prog 64 #[.slice o0 n1 n2, .func (.func 38) #[] #[.pointer (some ⟨n3, n4, none⟩)]] w R :=
  calls_of mixed Try.func64 rfl rfl (e64 o0 n1 n2 n3 n4) h
def t38 (i0 : Int) (i1 : Int) (b2 : Bool) (b3 : Bool) (n4 n5 : Nat) : T :=
  T.new (Obj.cells (Array.mk [Value.int IntKind.i64 i0, Value.int IntKind.i64 i1, Value.bool b2, Value.bool b3]) 43) fun n6 =>
  T.ldI IntKind.i64 n6 0 fun i7 =>
    T.ldI IntKind.i64 n6 1 fun i8 =>
    T.ldI IntKind.i64 n4 n5 fun i9 => T.ldI IntKind.i64 n4 (n5 + 1) fun i10 => T.ret (Value.bool (i7 == i9 && (i8 == i10 && true)))
theorem e38 (i0 : Int) (i1 : Int) (b2 : Bool) (b3 : Bool) (n4 n5 : Nat) : treeOf Try.prog Try.f38 (codeOf Try.f38) .n [.v (.agg #[.int .i64 i0, .int .i64 i1, .bool b2, .bool b3]), .p n4 n5] = (t38 i0 i1 b2 b3 n4 n5) := by kernel_rfl
theorem c38 (i0 : Int) (i1 : Int) (b2 : Bool) (b3 : Bool) (n4 n5 : Nat) {w : World} {R : Ending → World → Prop} (h : (t38 i0 i1 b2 b3 n4 n5).sem Try.prog R ρ0 w) : Calls Try.prog 38 #[.agg #[.int .i64 i0, .int .i64 i1, .bool b2, .bool b3], .pointer (some ⟨n4, n5, none⟩)] w R :=
  calls_of mixed Try.func38 rfl rfl (e38 i0 i1 b2 b3 n4 n5) h
def t47 (o0 : Option Addr) (n1 n2 : Nat) (n3 n4 : Nat) (n5 n6 : Nat) : T :=
  T.call 70
  [Value.slice o0 n1 n2,
    Value.func (Fn.func 48) (Array.mk []) (Array.mk [Value.pointer (some (Addr.mk n3 n4 none)), Value.pointer (some (Addr.mk n5 n6 none))])]
  fun v7 => T.asI IntKind.i64 v7 fun i8 => T.ret (Value.bool (decide (i8 ≥ 0)))
theorem e47 (o0 : Option Addr) (n1 n2 : Nat) (n3 n4 : Nat) (n5 n6 : Nat) : treeOf Try.prog Try.f47 (codeOf Try.f47) .n [.v (.slice o0 n1 n2), .v (.func (.func 48) #[] #[.pointer (some ⟨n3, n4, none⟩), .pointer (some ⟨n5, n6, none⟩)])] = (t47 o0 n1 n2 n3 n4 n5 n6) := by kernel_rfl
theorem c47 (o0 : Option Addr) (n1 n2 : Nat) (n3 n4 : Nat) (n5 n6 : Nat) {w : World} {R : Ending → World → Prop} (h : (t47 o0 n1 n2 n3 n4 n5 n6).sem Try.prog R ρ0 w) : Calls Try.prog 47 #[.slice o0 n1 n2, .func (.func 48) #[] #[.pointer (some ⟨n3, n4, none⟩), .pointer (some ⟨n5, n6, none⟩)]] w R :=
  calls_of mixed Try.func47 rfl rfl (e47 o0 n1 n2 n3 n4 n5 n6) h
def t70 (o0 : Option Addr) (n1 n2 : Nat) (n3 n4 : Nat) (n5 n6 : Nat) : T :=
  T.loop 0 [Value.int IntKind.i64 0] fun l7 j8 =>
  T.asI IntKind.i64 (List.headD l7 (Value.tuple (Array.mk []))) fun i9 =>
    T.ite (decide (i9 < (↑n1 : Int)))
    (T.req (0 ≤ i9 ∧ i9 < (↑n1 : Int))
    (T.sm o0 fun n10 n11 =>
    T.ldI IntKind.i32 n10 (n11 + Int.toNat i9 * 3) fun i12 =>
    T.ldI IntKind.i64 n10 (n11 + Int.toNat i9 * 3 + 1) fun i13 =>
    T.ldB n10 (n11 + Int.toNat i9 * 3 + 2) fun b14 =>
    T.call 48
    [Value.agg (Array.mk [Value.int IntKind.i32 i12, Value.int IntKind.i64 i13, Value.bool b14]), Value.pointer (some (Addr.mk n3 n4 none)),
    Value.pointer (some (Addr.mk n5 n6 none))]
    fun v15 =>
    T.asB v15 fun b16 =>
    T.ite b16 (T.ret (Value.int IntKind.i64 i9))
    (T.next 0 [Value.int IntKind.i64 (IntKind.wrap IntKind.i64 (i9 + 1))]
    ([Value.slice o0 n1 n2,
    Value.func (Fn.func 48) (Array.mk [])
    (Array.mk [Value.pointer (some (Addr.mk n3 n4 none)), Value.pointer (some (Addr.mk n5 n6 none))]),
    Value.int IntKind.i64 (↑n1 : Int)] =
    [Value.slice o0 n1 n2,
    Value.func (Fn.func 48) (Array.mk [])
    (Array.mk [Value.pointer (some (Addr.mk n3 n4 none)), Value.pointer (some (Addr.mk n5 n6 none))]),
    Value.int IntKind.i64 (↑n1 : Int)] ∧ ([] : List Deferred) = []))))
    (T.ret (Value.int IntKind.i64 (-1)))
theorem e70 (o0 : Option Addr) (n1 n2 : Nat) (n3 n4 : Nat) (n5 n6 : Nat) : treeOf Try.prog Try.f70 (codeOf Try.f70) (.s .n (.s (.s .n (.u (.l [(8, .int .i64)] [0, 1, 7] .n))) .n)) [.v (.slice o0 n1 n2), .v (.func (.func 48) #[] #[.pointer (some ⟨n3, n4, none⟩), .pointer (some ⟨n5, n6, none⟩)])] = (t70 o0 n1 n2 n3 n4 n5 n6) := by kernel_rfl
theorem c70 (o0 : Option Addr) (n1 n2 : Nat) (n3 n4 : Nat) (n5 n6 : Nat) {w : World} {R : Ending → World → Prop} (h : (t70 o0 n1 n2 n3 n4 n5 n6).sem Try.prog R ρ0 w) : Calls Try.prog 70 #[.slice o0 n1 n2, .func (.func 48) #[] #[.pointer (some ⟨n3, n4, none⟩), .pointer (some ⟨n5, n6, none⟩)]] w R :=
  calls_of mixed Try.func70 rfl rfl (e70 o0 n1 n2 n3 n4 n5 n6) h
def t48 (i0 : Int) (i1 : Int) (b2 : Bool) (n3 n4 : Nat) (n5 n6 : Nat) : T :=
  T.new (Obj.cells (Array.mk [Value.int IntKind.i32 i0, Value.int IntKind.i64 i1, Value.bool b2]) 63) fun n7 =>
  T.ldP n3 n4 fun o8 =>
    T.ldI IntKind.i64 n5 n6 fun i9 =>
    T.ldI IntKind.i64 n5 (n6 + 1) fun i10 =>
    T.ldI IntKind.i32 n7 0 fun i11 =>
    T.ldI IntKind.i64 n7 1 fun i12 =>
    T.call 49
    [Value.pointer o8, Value.agg (Array.mk [Value.int IntKind.i64 i9, Value.int IntKind.i64 i10]),
    Value.agg (Array.mk [Value.int IntKind.i32 i11, Value.int IntKind.i64 i12])]
    fun v13 => T.asB v13 fun b14 => T.ret (Value.bool !b14)
theorem e48 (i0 : Int) (i1 : Int) (b2 : Bool) (n3 n4 : Nat) (n5 n6 : Nat) : treeOf Try.prog Try.f48 (codeOf Try.f48) .n [.v (.agg #[.int .i32 i0, .int .i64 i1, .bool b2]), .p n3 n4, .p n5 n6] = (t48 i0 i1 b2 n3 n4 n5 n6) := by kernel_rfl
theorem c48 (i0 : Int) (i1 : Int) (b2 : Bool) (n3 n4 : Nat) (n5 n6 : Nat) {w : World} {R : Ending → World → Prop} (h : (t48 i0 i1 b2 n3 n4 n5 n6).sem Try.prog R ρ0 w) : Calls Try.prog 48 #[.agg #[.int .i32 i0, .int .i64 i1, .bool b2], .pointer (some ⟨n3, n4, none⟩), .pointer (some ⟨n5, n6, none⟩)] w R :=
  calls_of mixed Try.func48 rfl rfl (e48 i0 i1 b2 n3 n4 n5 n6) h
def t11 (n0 n1 : Nat) (i2 : Int) (i3 : Int) : T :=
  T.new (Obj.cells (Array.mk [Value.int IntKind.i64 i2, Value.int IntKind.i64 i3]) 27) fun n4 =>
  T.call 33 [Value.pointer (some (Addr.mk n0 n1 none))] fun v5 =>
    T.asB v5 fun b6 =>
    T.ite b6 (T.ret (Value.tuple (Array.mk [Value.slice none 0 0, Value.int IntKind.i64 2])))
    (T.drew
    (T.ldM n0 (n1 + 1) fun o7 =>
    T.ldI IntKind.i64 n4 0 fun i8 =>
    T.ldI IntKind.i64 n4 1 fun i9 =>
    T.run (Instr.lookup 69 (Value.map o7) (Value.agg (Array.mk [Value.int IntKind.i64 i8, Value.int IntKind.i64 i9])) true) fun v10 =>
    T.asU v10 fun l11 =>
    T.req (List.length l11 = 2)
    (T.asS (List.headD l11 (Value.tuple (Array.mk []))) fun o12 n13 n14 =>
    T.asB (List.headD (List.tail l11) (Value.tuple (Array.mk []))) fun b15 =>
    T.chk []
    (T.ite (!b15) (T.ret (Value.tuple (Array.mk [Value.slice none 0 0, Value.int IntKind.i64 4])))
    (T.call 35 [Value.pointer (some (Addr.mk n0 n1 none))] fun v16 =>
    T.asS v16 fun o17 n18 n19 =>
    T.new (Obj.cells (Array.mk [Value.slice none 0 0]) 33) fun n20 =>
    T.st n20 0 (Value.slice o17 n18 n19)
    (T.loop 0 [Value.int IntKind.i64 0] fun l21 j22 =>
    T.asI IntKind.i64 (List.headD l21 (Value.tuple (Array.mk []))) fun i23 =>
    T.ite (decide (i23 < (↑n13 : Int)))
    (T.req (0 ≤ i23 ∧ i23 < (↑n13 : Int))
    (T.sm o12 fun n24 n25 =>
    T.ldI IntKind.i32 n24 (n25 + Int.toNat i23 * 3) fun i26 =>
    T.ldI IntKind.i64 n24 (n25 + Int.toNat i23 * 3 + 1) fun i27 =>
    T.ldB n24 (n25 + Int.toNat i23 * 3 + 2) fun b28 =>
    T.new (Obj.cells (Array.mk [Value.int IntKind.i32 0, Value.int IntKind.i64 0, Value.bool false]) 63)
    fun n29 =>
    T.st n29 0 (Value.int IntKind.i32 i26)
    (T.st n29 1 (Value.int IntKind.i64 i27)
    (T.st n29 2 (Value.bool b28)
    (T.drew
    (T.ldM n0 n1 fun o30 =>
    T.ldI IntKind.i32 n29 0 fun i31 =>
    T.ldI IntKind.i64 n29 1 fun i32 =>
    T.run
    (Instr.lookup 68 (Value.map o30)
    (Value.agg (Array.mk [Value.int IntKind.i32 i31, Value.int IntKind.i64 i32])) false)
    fun v33 =>
    T.asS v33 fun o34 n35 n36 =>
    T.chk []
    (T.call 37 [Value.slice o34 n35 n36] fun v37 =>
    T.asS v37 fun o38 n39 n40 =>
    T.chk []
    (T.call 36
    [Value.slice o38 n39 n40,
    Value.func (Fn.func 38) (Array.mk [])
    (Array.mk [Value.pointer (some (Addr.mk n4 0 none))])]
    fun v41 =>
    T.asS v41 fun o42 n43 n44 =>
    T.chk []
    (T.ite ((↑n43 : Int) == 0)
    (T.drew
    (T.ldM n0 n1 fun o45 =>
    T.ldI IntKind.i32 n29 0 fun i46 =>
    T.ldI IntKind.i64 n29 1 fun i47 =>
    T.run
    (biV Builtin.delete (Array.mk [68, 39]) 0
    (Array.mk
    [Value.map o45,
    Value.agg
    (Array.mk
    [Value.int IntKind.i32 i46,
    Value.int IntKind.i64 i47])]))
    fun v48 =>
    T.chk []
    (T.next 0
    [Value.int IntKind.i64
    (IntKind.wrap IntKind.i64 (i23 + 1))]
    ([Value.pointer (some (Addr.mk n0 n1 none)),
    Value.pointer (some (Addr.mk n4 0 none)),
    Value.slice none 0 0, Value.int IntKind.i64 0,
    Value.pointer (some (Addr.mk n20 0 none)),
    Value.slice o12 n13 n14,
    Value.int IntKind.i64 (↑n13 : Int)] =
    [Value.pointer (some (Addr.mk n0 n1 none)),
    Value.pointer (some (Addr.mk n4 0 none)),
    Value.slice none 0 0, Value.int IntKind.i64 0,
    Value.pointer (some (Addr.mk n20 0 none)),
    Value.slice o12 n13 n14,
    Value.int IntKind.i64 (↑n13 : Int)] ∧ ([] : List Deferred) = []))))
    (T.drew
    (T.ldM n0 n1 fun o49 =>
    T.ldI IntKind.i32 n29 0 fun i50 =>
    T.ldI IntKind.i64 n29 1 fun i51 =>
    T.run
    (muV 68 (Value.map o49)
    (Value.agg
    (Array.mk
    [Value.int IntKind.i32 i50,
    Value.int IntKind.i64 i51]))
    (Value.slice o42 n43 n44))
    fun v52 =>
    T.chk []
    (T.next 0
    [Value.int IntKind.i64
    (IntKind.wrap IntKind.i64 (i23 + 1))]
    ([Value.pointer (some (Addr.mk n0 n1 none)),
    Value.pointer (some (Addr.mk n4 0 none)),
    Value.slice none 0 0, Value.int IntKind.i64 0,
    Value.pointer (some (Addr.mk n20 0 none)),
    Value.slice o12 n13 n14,
    Value.int IntKind.i64 (↑n13 : Int)] =
    [Value.pointer (some (Addr.mk n0 n1 none)),
    Value.pointer (some (Addr.mk n4 0 none)),
    Value.slice none 0 0, Value.int IntKind.i64 0,
    Value.pointer (some (Addr.mk n20 0 none)),
    Value.slice o12 n13 n14,
    Value.int IntKind.i64 (↑n13 : Int)] ∧ ([] : List Deferred) = [])))))))))))))
    (T.drew
    (T.ldM n0 (n1 + 1) fun o53 =>
    T.ldI IntKind.i64 n4 0 fun i54 =>
    T.ldI IntKind.i64 n4 1 fun i55 =>
    T.run
    (biV Builtin.delete (Array.mk [69, 27]) 0
    (Array.mk [Value.map o53, Value.agg (Array.mk [Value.int IntKind.i64 i54, Value.int IntKind.i64 i55])]))
    fun v56 =>
    T.chk []
    (T.ldS n0 (n1 + 2) fun o57 n58 n59 =>
    T.call 39 [Value.slice o57 n58 n59] fun v60 =>
    T.asS v60 fun o61 n62 n63 =>
    T.call 20
    [Value.slice o61 n62 n63,
    Value.func (Fn.func 40) (Array.mk []) (Array.mk [Value.pointer (some (Addr.mk n4 0 none))])]
    fun v64 =>
    T.asS v64 fun o65 n66 n67 =>
    T.st n0 (n1 + 2) (Value.slice o65 n66 n67)
    (T.new (Obj.cells (Array.mk [Value.slice none 0 0]) 33) fun n68 =>
    T.call 17 [Value.pointer (some (Addr.mk n0 n1 none))] fun v69 =>
    T.asC 46 v69 fun l70 =>
    T.req (List.length l70 = 1)
    (T.asP (List.headD l70 (Value.tuple (Array.mk []))) fun o71 =>
    T.rf none 0 46 [Value.pointer o71]
    (fun n72 l73 =>
    T.req (List.length l73 = 1)
    (T.asA (List.headD l73 (Value.tuple (Array.mk []))) fun l74 =>
    T.req (List.length l74 = 2)
    (T.asI IntKind.i64 (List.headD l74 (Value.tuple (Array.mk [])))
    fun i75 =>
    T.asI IntKind.i64
    (List.headD (List.tail l74) (Value.tuple (Array.mk []))) fun i76 =>
    T.new
    (Obj.cells
    (Array.mk [Value.int IntKind.i64 0, Value.int IntKind.i64 0])
    27)
    fun n77 =>
    T.st n77 0 (Value.int IntKind.i64 i75)
    (T.st n77 1 (Value.int IntKind.i64 i76)
    (T.beg n72
    (T.ldS n20 0 fun o78 n79 n80 =>
    T.ldI IntKind.i64 n77 0 fun i81 =>
    T.ldI IntKind.i64 n77 1 fun i82 =>
    T.call 19
    [Value.slice o78 n79 n80,
    Value.agg
    (Array.mk
    [Value.int IntKind.i64 i81,
    Value.int IntKind.i64 i82])]
    fun v83 =>
    T.asB v83 fun b84 =>
    T.ite (!b84)
    (T.ldS n68 0 fun o85 n86 n87 =>
    T.ldI IntKind.i64 n77 0 fun i88 =>
    T.ldI IntKind.i64 n77 1 fun i89 =>
    T.new
    (Obj.cells
    (Array.mk
    [Value.int IntKind.i64 i88,
    Value.int IntKind.i64 i89])
    27)
    fun n90 =>
    T.run
    (biV Builtin.append
    (Array.mk [33, 33]) 33
    (Array.mk
    [Value.slice o85 n86 n87,
    Value.slice
    (some (Addr.mk n90 0 none)) 1
    1]))
    fun v91 =>
    T.asS v91 fun o92 n93 n94 =>
    T.st n68 0 (Value.slice o92 n93 n94)
    (T.run (Instr.endRound n72 none)
    fun v95 => T.next 0 [v95] True))
    (T.run (Instr.endRound n72 none) fun v96 =>
    T.next 0 [v96] True)))))))
    (fun n97 =>
    T.ldS n68 0 fun o98 n99 n100 =>
    T.col n97
    (T.ret
    (Value.tuple
    (Array.mk [Value.slice o98 n99 n100, Value.int IntKind.i64 0]))))
    (fun n101 =>
    T.col n101
    (T.ret
    (Value.tuple (Array.mk [Value.slice none 0 0, Value.int IntKind.i64 0]))))
    [])))))))))))
theorem e11 (n0 n1 : Nat) (i2 : Int) (i3 : Int) : treeOf Try.prog Try.f11 (codeOf Try.f11) (.s .n (.s .n (.s (.p [0, 1, 2, 3, 4, 5, 6, 7, 8, 9, 10]) (.s .n (.s .n (.s (.s .n (.u (.l [(31, .int .i64)] [0, 3, 4, 5, 8, 29, 30] (.s .n (.s .n (.s (.u (.s .n (.s (.p [0, 1, 2, 3, 4, 5, 8, 6, 7, 9, 10]) (.s .n (.s (.p [0, 1, 2, 3, 4, 5, 6]) (.p [0, 1, 2, 3, 4, 5, 6, 7])))))) .n)))))) (.s (.p [0, 1, 2, 3, 4, 5]) (.s .n (.s .n (.s (.s .n (.u (.f [.agg [.int .i64, .int .i64]] .n .n))) .n)))))))))) [.p n0 n1, .v (.agg #[.int .i64 i2, .int .i64 i3])] = (t11 n0 n1 i2 i3) := by kernel_rfl
theorem c11 (n0 n1 : Nat) (i2 : Int) (i3 : Int) {w : World} {R : Ending → World → Prop} (h : (t11 n0 n1 i2 i3).sem Try.prog R ρ0 w) : Calls Try.prog 11 #[.pointer (some ⟨n0, n1, none⟩), .agg #[.int .i64 i2, .int .i64 i3]] w R :=
  calls_of mixed Try.func11 rfl rfl (e11 n0 n1 i2 i3) h
def t27 (n0 n1 : Nat) (n2 n3 : Nat) (i4 : Int) (i5 : Int) : T :=
  T.new (Obj.cells (Array.mk [Value.int IntKind.i64 i4, Value.int IntKind.i64 i5]) 27) fun n6 =>
  T.call 53 [Value.pointer (some (Addr.mk n2 n3 none))] fun v7 =>
    T.asS v7 fun o8 n9 n10 =>
    T.new (Obj.cells (Array.mk [Value.int IntKind.i32 5, Value.int IntKind.i64 0]) 39) fun n11 =>
    T.run (biV Builtin.append (Array.mk [36, 36]) 36 (Array.mk [Value.slice o8 n9 n10, Value.slice (some (Addr.mk n11 0 none)) 1 1])) fun v12 =>
    T.asS v12 fun o13 n14 n15 =>
    T.loop 0 [Value.int IntKind.i64 0] fun l16 j17 =>
    T.asI IntKind.i64 (List.headD l16 (Value.tuple (Array.mk []))) fun i18 =>
    T.ite (decide (i18 < (↑n14 : Int)))
    (T.req (0 ≤ i18 ∧ i18 < (↑n14 : Int))
    (T.sm o13 fun n19 n20 =>
    T.ldI IntKind.i32 n19 (n20 + Int.toNat i18 * 2) fun i21 =>
    T.ldI IntKind.i64 n19 (n20 + Int.toNat i18 * 2 + 1) fun i22 =>
    T.new (Obj.cells (Array.mk [Value.int IntKind.i32 0, Value.int IntKind.i64 0]) 39) fun n23 =>
    T.st n23 0 (Value.int IntKind.i32 i21)
    (T.st n23 1 (Value.int IntKind.i64 i22)
    (T.drew
    (T.ldI IntKind.i32 n23 0 fun i24 =>
    T.ldI IntKind.i64 n23 1 fun i25 =>
    T.ldI IntKind.i32 n23 0 fun i26 =>
    T.ldI IntKind.i64 n23 1 fun i27 =>
    T.call 13
    [Value.pointer (some (Addr.mk n0 n1 none)),
    Value.agg (Array.mk [Value.int IntKind.i32 i24, Value.int IntKind.i64 i25])]
    fun v28 =>
    T.asS v28 fun o29 n30 n31 =>
    T.chk [(Addr.mk n23 0 none, Value.int IntKind.i32 i26), (Addr.mk n23 1 none, Value.int IntKind.i64 i27)]
    (T.call 55
    [Value.pointer (some (Addr.mk n2 n3 none)),
    Value.agg (Array.mk [Value.int IntKind.i32 i26, Value.int IntKind.i64 i27])]
    fun v32 =>
    T.asS v32 fun o33 n34 n35 =>
    T.chk []
    (T.call 54 [Value.slice o29 n30 n31, Value.slice o33 n34 n35] fun v36 =>
    T.asB v36 fun b37 =>
    T.chk []
    (T.ite (!b37) (T.ret (Value.bool false))
    (T.next 0 [Value.int IntKind.i64 (IntKind.wrap IntKind.i64 (i18 + 1))]
    ([Value.pointer (some (Addr.mk n0 n1 none)), Value.pointer (some (Addr.mk n2 n3 none)),
    Value.pointer (some (Addr.mk n6 0 none)), Value.slice o13 n14 n15,
    Value.int IntKind.i64 (↑n14 : Int)] =
    [Value.pointer (some (Addr.mk n0 n1 none)), Value.pointer (some (Addr.mk n2 n3 none)),
    Value.pointer (some (Addr.mk n6 0 none)), Value.slice o13 n14 n15,
    Value.int IntKind.i64 (↑n14 : Int)] ∧ ([] : List Deferred) = []))))))))))
    (T.call 17 [Value.pointer (some (Addr.mk n0 n1 none))] fun v38 =>
    T.asC 46 v38 fun l39 =>
    T.req (List.length l39 = 1)
    (T.asP (List.headD l39 (Value.tuple (Array.mk []))) fun o40 =>
    T.drew
    (T.call 56 [Value.pointer (some (Addr.mk n2 n3 none))] fun v41 =>
    T.asS v41 fun o42 n43 n44 =>
    T.chk []
    (T.call 29 [Value.func (Fn.func 46) (Array.mk []) (Array.mk [Value.pointer o40]), Value.slice o42 n43 n44] fun v45 =>
    T.asB v45 fun b46 =>
    T.chk []
    (T.ite b46
    (T.call 56 [Value.pointer (some (Addr.mk n2 n3 none))] fun v47 =>
    T.asS v47 fun o48 n49 n50 =>
    T.chk []
    (T.call 29 [Value.func (Fn.func 46) (Array.mk []) (Array.mk [Value.pointer o40]), Value.slice o48 n49 n50]
    fun v51 =>
    T.asB v51 fun b52 =>
    T.chk []
    (T.ite b52
    (T.ldS n2 n3 fun o53 n54 n55 =>
    T.call 23 [Value.pointer (some (Addr.mk n0 n1 none))] fun v56 =>
    T.asI IntKind.i64 v56 fun i57 =>
    T.chk [(Addr.mk n2 n3 none, Value.slice o53 n54 n55)]
    (T.ite (i57 == (↑n54 : Int))
    (T.call 12 [Value.pointer (some (Addr.mk n0 n1 none))] fun v58 =>
    T.asS v58 fun o59 n60 n61 =>
    T.chk [(Addr.mk n2 n3 none, Value.slice o53 n54 n55)]
    (T.call 53 [Value.pointer (some (Addr.mk n2 n3 none))] fun v62 =>
    T.asS v62 fun o63 n64 n65 =>
    T.chk [(Addr.mk n2 n3 none, Value.slice o53 n54 n55)]
    (T.call 57 [Value.slice o59 n60 n61, Value.slice o63 n64 n65] fun v66 =>
    T.asB v66 fun b67 =>
    T.chk [(Addr.mk n2 n3 none, Value.slice o53 n54 n55)]
    (T.ite b67
    (T.ldI IntKind.i64 n6 0 fun i68 =>
    T.ldI IntKind.i64 n6 1 fun i69 =>
    T.ldI IntKind.i64 n6 0 fun i70 =>
    T.ldI IntKind.i64 n6 1 fun i71 =>
    T.call 18
    [Value.pointer (some (Addr.mk n0 n1 none)),
    Value.agg
    (Array.mk
    [Value.int IntKind.i64 i68, Value.int IntKind.i64 i69])]
    fun v72 =>
    T.asB v72 fun b73 =>
    T.chk
    [(Addr.mk n6 0 none, Value.int IntKind.i64 i70),
    (Addr.mk n6 1 none, Value.int IntKind.i64 i71),
    (Addr.mk n2 n3 none, Value.slice o53 n54 n55)]
    (T.call 58
    [Value.pointer (some (Addr.mk n2 n3 none)),
    Value.agg
    (Array.mk
    [Value.int IntKind.i64 i70,
    Value.int IntKind.i64 i71])]
    fun v74 =>
    T.asB v74 fun b75 =>
    T.chk [(Addr.mk n2 n3 none, Value.slice o53 n54 n55)]
    (T.ite (b73 == b75)
    (T.ldI IntKind.i64 n6 0 fun i76 =>
    T.ldI IntKind.i64 n6 1 fun i77 =>
    T.ldI IntKind.i64 n6 0 fun i78 =>
    T.ldI IntKind.i64 n6 1 fun i79 =>
    T.call 30
    [Value.pointer
    (some (Addr.mk n0 n1 none)),
    Value.agg
    (Array.mk
    [Value.int IntKind.i64 i76,
    Value.int IntKind.i64 i77])]
    fun v80 =>
    T.asS v80 fun o81 n82 n83 =>
    T.chk
    [(Addr.mk n6 0 none,
    Value.int IntKind.i64 i78),
    (Addr.mk n6 1 none,
    Value.int IntKind.i64 i79),
    (Addr.mk n2 n3 none,
    Value.slice o53 n54 n55)]
    (T.call 59
    [Value.pointer
    (some (Addr.mk n2 n3 none)),
    Value.agg
    (Array.mk
    [Value.int IntKind.i64 i78,
    Value.int IntKind.i64 i79])]
    fun v84 =>
    T.asS v84 fun o85 n86 n87 =>
    T.chk
    [(Addr.mk n2 n3 none,
    Value.slice o53 n54 n55)]
    (T.call 57
    [Value.slice o81 n82 n83,
    Value.slice o85 n86 n87]
    fun v88 =>
    T.asB v88 fun b89 =>
    T.chk
    [(Addr.mk n2 n3 none,
    Value.slice o53 n54
    n55)]
    (T.ret
    (Value.bool b89)))))
    (T.chk
    [(Addr.mk n2 n3 none, Value.slice o53 n54 n55)]
    (T.chk
    [(Addr.mk n2 n3 none, Value.slice o53 n54 n55)]
    (T.chk
    [(Addr.mk n2 n3 none,
    Value.slice o53 n54 n55)]
    (T.ret (Value.bool false))))))))
    (T.chk [(Addr.mk n2 n3 none, Value.slice o53 n54 n55)]
    (T.chk [(Addr.mk n2 n3 none, Value.slice o53 n54 n55)]
    (T.chk [(Addr.mk n2 n3 none, Value.slice o53 n54 n55)]
    (T.chk [(Addr.mk n2 n3 none, Value.slice o53 n54 n55)]
    (T.chk [(Addr.mk n2 n3 none, Value.slice o53 n54 n55)]
    (T.ret (Value.bool false)))))))))))
    (T.chk [(Addr.mk n2 n3 none, Value.slice o53 n54 n55)]
    (T.chk [(Addr.mk n2 n3 none, Value.slice o53 n54 n55)]
    (T.chk [(Addr.mk n2 n3 none, Value.slice o53 n54 n55)]
    (T.chk [(Addr.mk n2 n3 none, Value.slice o53 n54 n55)]
    (T.chk [(Addr.mk n2 n3 none, Value.slice o53 n54 n55)]
    (T.chk [(Addr.mk n2 n3 none, Value.slice o53 n54 n55)]
    (T.chk [(Addr.mk n2 n3 none, Value.slice o53 n54 n55)]
    (T.chk [(Addr.mk n2 n3 none, Value.slice o53 n54 n55)]
    (T.ret (Value.bool false))))))))))))
    (T.chk []
    (T.chk []
    (T.chk []
    (T.chk [] (T.chk [] (T.chk [] (T.chk [] (T.chk [] (T.chk [] (T.ret (Value.bool false))))))))))))))
    (T.chk []
    (T.chk []
    (T.chk []
    (T.chk []
    (T.chk []
    (T.chk [] (T.chk [] (T.chk [] (T.chk [] (T.chk [] (T.chk [] (T.ret (Value.bool false))))))))))))))))))
theorem e27 (n0 n1 : Nat) (n2 n3 : Nat) (i4 : Int) (i5 : Int) : treeOf Try.prog Try.f27 (codeOf Try.f27) (.s .n (.s .n (.s (.s .n (.u (.l [(18, .int .i64)] [0, 1, 5, 16, 17] (.s .n (.s .n (.s (.u (.s .n (.s (.p [0, 1, 3, 4, 2, 5, 6, 7]) .n))) .n)))))) (.s .n (.s (.p [0, 1, 2, 3, 4, 5, 6, 7, 8, 9, 10, 11, 13, 14, 15, 16, 17, 12, 18, 19, 20, 21, 23, 22, 24, 25, 26, 27, 28, 29, 31, 32, 30, 33, 34, 35, 36, 37, 38, 40, 41, 39, 42, 43, 44, 45]) .n))))) [.p n0 n1, .p n2 n3, .v (.agg #[.int .i64 i4, .int .i64 i5])] = (t27 n0 n1 n2 n3 i4 i5) := by kernel_rfl
theorem c27 (n0 n1 : Nat) (n2 n3 : Nat) (i4 : Int) (i5 : Int) {w : World} {R : Ending → World → Prop} (h : (t27 n0 n1 n2 n3 i4 i5).sem Try.prog R ρ0 w) : Calls Try.prog 27 #[.pointer (some ⟨n0, n1, none⟩), .pointer (some ⟨n2, n3, none⟩), .agg #[.int .i64 i4, .int .i64 i5]] w R :=
  calls_of mixed Try.func27 rfl rfl (e27 n0 n1 n2 n3 i4 i5) h
end Go.Proofs.Ytdepohepogocgaa
