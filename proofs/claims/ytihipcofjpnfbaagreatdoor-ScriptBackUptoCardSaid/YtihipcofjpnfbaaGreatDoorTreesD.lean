/- The functions' trees, printed by a program (wip/tools/Emit.lean) and checked by the kernel against the model's own code. -/
import Derived.Test.YtihipcofjpnfbaaGreatDoorTreesA
import Derived.Test.YtihipcofjpnfbaaGreatDoorProg
namespace Go.Proofs.YtihipcofjpnfbaaGreatDoor
open Go hiding Expr
open Go.Proofs.YtihipcofjpnfbaaGreatDoor.Tr
set_option linter.unusedVariables false
set_option maxRecDepth 100000
def t55 (i0 : Int) (i1 : Int) (i2 : Int) (i3 : Int) (i4 : Int) (o5 : Option Addr) (n6 n7 : Nat) (o8 : Option Addr) (n9 n10 : Nat) (o11 : Option Addr) (n12 n13 : Nat) (o14 : Option Addr) (n15 n16 : Nat) (o17 : Option Addr) (n18 n19 : Nat) (i20 : Int) (i21 : Int) (i22 : Int) (i23 : Int) (i24 : Int) (i25 : Int) : T :=
  T.new
  (Obj.cells
    (Array.mk
    [Value.int IntKind.i64 i0, Value.int IntKind.i64 i1, Value.int IntKind.i64 i2, Value.int IntKind.i64 i3, Value.int IntKind.i64 i4, Value.slice o5 n6 n7,
    Value.slice o8 n9 n10, Value.slice o11 n12 n13, Value.slice o14 n15 n16, Value.slice o17 n18 n19, Value.int IntKind.i64 i20, Value.int IntKind.i64 i21,
    Value.int IntKind.i64 i22, Value.int IntKind.u8 i23, Value.int IntKind.i64 i24, Value.int IntKind.i64 i25])
    56)
  fun n26 =>
  T.new
    (Obj.cells
    (Array.mk
    [Value.int IntKind.i64 0, Value.int IntKind.i64 0, Value.int IntKind.i64 0, Value.int IntKind.i64 0, Value.int IntKind.i64 0, Value.slice none 0 0,
    Value.slice none 0 0, Value.slice none 0 0, Value.slice none 0 0, Value.slice none 0 0, Value.int IntKind.i64 0, Value.int IntKind.i64 0,
    Value.int IntKind.i64 0, Value.int IntKind.u8 0, Value.int IntKind.i64 0, Value.int IntKind.i64 0])
    56)
    fun n27 =>
    T.ldI IntKind.i64 n26 0 fun i28 =>
    T.new
    (Obj.cells
    (Array.mk
    [Value.int IntKind.i64 0, Value.int IntKind.i64 0, Value.int IntKind.i64 0, Value.int IntKind.i64 0, Value.int IntKind.i64 0, Value.slice none 0 0,
    Value.slice none 0 0, Value.slice none 0 0, Value.slice none 0 0, Value.slice none 0 0, Value.int IntKind.i64 0, Value.int IntKind.i64 0,
    Value.int IntKind.i64 0, Value.int IntKind.u8 0, Value.int IntKind.i64 0, Value.int IntKind.i64 0])
    56)
    fun n29 =>
    T.st n29 0 (Value.int IntKind.i64 i28)
    (T.st n29 1 (Value.int IntKind.i64 0)
    (T.st n29 2 (Value.int IntKind.i64 0)
    (T.st n29 3 (Value.int IntKind.i64 0)
    (T.st n29 4 (Value.int IntKind.i64 0)
    (T.st n29 5 (Value.slice none 0 0)
    (T.st n29 6 (Value.slice none 0 0)
    (T.st n29 7 (Value.slice none 0 0)
    (T.st n29 8 (Value.slice none 0 0)
    (T.st n29 9 (Value.slice none 0 0)
    (T.st n29 10 (Value.int IntKind.i64 0)
    (T.st n29 11 (Value.int IntKind.i64 0)
    (T.st n29 12 (Value.int IntKind.i64 0)
    (T.st n29 13 (Value.int IntKind.u8 0)
    (T.st n29 14 (Value.int IntKind.i64 0)
    (T.st n29 15 (Value.int IntKind.i64 0)
    (T.blk 0
    (fun l30 j31 =>
    T.ldI IntKind.i64 n26 0 fun i32 =>
    T.call 83 [Value.int IntKind.i64 i32] fun v33 =>
    T.asT v33 fun s34 =>
    T.ldI IntKind.i64 n29 0 fun i35 =>
    T.ldI IntKind.i64 n29 1 fun i36 =>
    T.ldI IntKind.i64 n29 2 fun i37 =>
    T.ldI IntKind.i64 n29 3 fun i38 =>
    T.ldI IntKind.i64 n29 4 fun i39 =>
    T.ldS n29 5 fun o40 n41 n42 =>
    T.ldS n29 6 fun o43 n44 n45 =>
    T.ldS n29 7 fun o46 n47 n48 =>
    T.ldS n29 8 fun o49 n50 n51 =>
    T.ldS n29 9 fun o52 n53 n54 =>
    T.ldI IntKind.i64 n29 10 fun i55 =>
    T.ldI IntKind.i64 n29 11 fun i56 =>
    T.ldI IntKind.i64 n29 12 fun i57 =>
    T.ldI IntKind.u8 n29 13 fun i58 =>
    T.ldI IntKind.i64 n29 14 fun i59 =>
    T.ldI IntKind.i64 n29 15 fun i60 =>
    T.st n27 0 (Value.int IntKind.i64 i35)
    (T.st n27 1 (Value.int IntKind.i64 i36)
    (T.st n27 2 (Value.int IntKind.i64 i37)
    (T.st n27 3 (Value.int IntKind.i64 i38)
    (T.st n27 4 (Value.int IntKind.i64 i39)
    (T.st n27 5 (Value.slice o40 n41 n42)
    (T.st n27 6 (Value.slice o43 n44 n45)
    (T.st n27 7 (Value.slice o46 n47 n48)
    (T.st n27 8 (Value.slice o49 n50 n51)
    (T.st n27 9 (Value.slice o52 n53 n54)
    (T.st n27 10 (Value.int IntKind.i64 i55)
    (T.st n27 11 (Value.int IntKind.i64 i56)
    (T.st n27 12 (Value.int IntKind.i64 i57)
    (T.st n27 13 (Value.int IntKind.u8 i58)
    (T.st n27 14 (Value.int IntKind.i64 i59)
    (T.st n27 15 (Value.int IntKind.i64 i60)
    (T.ldI IntKind.i64 n27 0 fun i61 =>
    T.ldI IntKind.i64 n27 1 fun i62 =>
    T.ldI IntKind.i64 n27 2 fun i63 =>
    T.ldI IntKind.i64 n27 3 fun i64 =>
    T.ldI IntKind.i64 n27 4 fun i65 =>
    T.ldS n27 5 fun o66 n67 n68 =>
    T.ldS n27 6 fun o69 n70 n71 =>
    T.ldS n27 7 fun o72 n73 n74 =>
    T.ldS n27 8 fun o75 n76 n77 =>
    T.ldS n27 9
    fun o78 n79 n80 =>
    T.ldI IntKind.i64 n27 10
    fun i81 =>
    T.ldI IntKind.i64 n27 11
    fun i82 =>
    T.ldI IntKind.i64 n27
    12 fun i83 =>
    T.ldI IntKind.u8 n27
    13 fun i84 =>
    T.ldI IntKind.i64
    n27 14
    fun i85 =>
    T.ldI
    IntKind.i64
    n27 15
    fun i86 =>
    T.ret
    (Value.tuple
    (Array.mk
    [Value.agg
    (Array.mk
    [Value.int
    IntKind.i64
    i61,
    Value.int
    IntKind.i64
    i62,
    Value.int
    IntKind.i64
    i63,
    Value.int
    IntKind.i64
    i64,
    Value.int
    IntKind.i64
    i65,
    Value.slice
    o66
    n67
    n68,
    Value.slice
    o69
    n70
    n71,
    Value.slice
    o72
    n73
    n74,
    Value.slice
    o75
    n76
    n77,
    Value.slice
    o78
    n79
    n80,
    Value.int
    IntKind.i64
    i81,
    Value.int
    IntKind.i64
    i82,
    Value.int
    IntKind.i64
    i83,
    Value.int
    IntKind.u8
    i84,
    Value.int
    IntKind.i64
    i85,
    Value.int
    IntKind.i64
    i86]),
    Value.string
    s34,
    Value.bool
    !ByteArray.toList
    s34 ==
    ByteArray.toList
    (ByteArray.mk
    (Array.mk
    []))])))))))))))))))))))
    (T.ldI IntKind.i64 n26 0 fun i87 =>
    T.blk 1
    (fun l88 j89 =>
    T.asB (List.headD l88 (Value.tuple (Array.mk []))) fun b90 =>
    T.ite b90
    (T.ldI IntKind.i64 n26 1 fun i91 =>
    T.st n29 1 (Value.int IntKind.i64 i91)
    (T.next 0 []
    ([Value.pointer (some (Addr.mk n26 0 none)), Value.pointer (some (Addr.mk n27 0 none)),
    Value.pointer (some (Addr.mk n29 0 none))] =
    [Value.pointer (some (Addr.mk n26 0 none)), Value.pointer (some (Addr.mk n27 0 none)),
    Value.pointer (some (Addr.mk n29 0 none))] ∧ ([] : List Deferred) = [])))
    (T.ite (i87 == 2)
    (T.drew
    (T.ldI IntKind.i64 n26 2 fun i92 =>
    T.ldI IntKind.i64 n26 1 fun i93 =>
    T.ldI IntKind.i64 n26 3 fun i94 =>
    T.ldI IntKind.i64 n26 4 fun i95 =>
    T.ldS n26 5 fun o96 n97 n98 =>
    T.ldS n26 6 fun o99 n100 n101 =>
    T.ldS n26 7 fun o102 n103 n104 =>
    T.ldS n26 8 fun o105 n106 n107 =>
    T.st n29 2 (Value.int IntKind.i64 i92)
    (T.chk
    [(Addr.mk n26 3 none, Value.int IntKind.i64 i94),
    (Addr.mk n26 4 none, Value.int IntKind.i64 i95),
    (Addr.mk n26 5 none, Value.slice o96 n97 n98),
    (Addr.mk n26 6 none, Value.slice o99 n100 n101),
    (Addr.mk n26 7 none, Value.slice o102 n103 n104),
    (Addr.mk n26 8 none, Value.slice o105 n106 n107),
    (Addr.mk n26 1 none, Value.int IntKind.i64 i93)]
    (T.st n29 1 (Value.int IntKind.i64 i93)
    (T.chk
    [(Addr.mk n26 3 none, Value.int IntKind.i64 i94),
    (Addr.mk n26 4 none, Value.int IntKind.i64 i95),
    (Addr.mk n26 5 none, Value.slice o96 n97 n98),
    (Addr.mk n26 6 none, Value.slice o99 n100 n101),
    (Addr.mk n26 7 none, Value.slice o102 n103 n104),
    (Addr.mk n26 8 none, Value.slice o105 n106 n107)]
    (T.st n29 3 (Value.int IntKind.i64 i94)
    (T.st n29 4 (Value.int IntKind.i64 i95)
    (T.st n29 5 (Value.slice o96 n97 n98)
    (T.st n29 6 (Value.slice o99 n100 n101)
    (T.st n29 7 (Value.slice o102 n103 n104)
    (T.st n29 8 (Value.slice o105 n106 n107)
    (T.chk []
    (T.next 0 []
    ([Value.pointer (some (Addr.mk n26 0 none)),
    Value.pointer (some (Addr.mk n27 0 none)),
    Value.pointer (some (Addr.mk n29 0 none))] =
    [Value.pointer (some (Addr.mk n26 0 none)),
    Value.pointer (some (Addr.mk n27 0 none)),
    Value.pointer (some (Addr.mk n29 0 none))] ∧ ([] : List Deferred) = []))))))))))))))
    (T.blk 1
    (fun l108 j109 =>
    T.asB (List.headD l108 (Value.tuple (Array.mk []))) fun b110 =>
    T.ite b110
    (T.ldI IntKind.i64 n26 2 fun i111 =>
    T.st n29 2 (Value.int IntKind.i64 i111)
    (T.next 0 []
    ([Value.pointer (some (Addr.mk n26 0 none)), Value.pointer (some (Addr.mk n27 0 none)),
    Value.pointer (some (Addr.mk n29 0 none))] =
    [Value.pointer (some (Addr.mk n26 0 none)), Value.pointer (some (Addr.mk n27 0 none)),
    Value.pointer (some (Addr.mk n29 0 none))] ∧ ([] : List Deferred) = [])))
    (T.ite (i87 == 4)
    (T.drew
    (T.ldI IntKind.i64 n26 2 fun i112 =>
    T.ldI IntKind.i64 n26 1 fun i113 =>
    T.ldS n26 9 fun o114 n115 n116 =>
    T.st n29 2 (Value.int IntKind.i64 i112)
    (T.chk
    [(Addr.mk n26 9 none, Value.slice o114 n115 n116),
    (Addr.mk n26 1 none, Value.int IntKind.i64 i113)]
    (T.st n29 1 (Value.int IntKind.i64 i113)
    (T.chk [(Addr.mk n26 9 none, Value.slice o114 n115 n116)]
    (T.st n29 9 (Value.slice o114 n115 n116)
    (T.chk []
    (T.next 0 []
    ([Value.pointer (some (Addr.mk n26 0 none)),
    Value.pointer (some (Addr.mk n27 0 none)),
    Value.pointer (some (Addr.mk n29 0 none))] =
    [Value.pointer (some (Addr.mk n26 0 none)),
    Value.pointer (some (Addr.mk n27 0 none)),
    Value.pointer (some (Addr.mk n29 0 none))] ∧ ([] : List Deferred) = [])))))))))
    (T.ite (i87 == 5)
    (T.drew
    (T.ldI IntKind.i64 n26 1 fun i117 =>
    T.ldI IntKind.i64 n26 15 fun i118 =>
    T.st n29 1 (Value.int IntKind.i64 i117)
    (T.chk [(Addr.mk n26 15 none, Value.int IntKind.i64 i118)]
    (T.st n29 15 (Value.int IntKind.i64 i118)
    (T.chk []
    (T.next 0 []
    ([Value.pointer (some (Addr.mk n26 0 none)),
    Value.pointer (some (Addr.mk n27 0 none)),
    Value.pointer (some (Addr.mk n29 0 none))] =
    [Value.pointer (some (Addr.mk n26 0 none)),
    Value.pointer (some (Addr.mk n27 0 none)),
    Value.pointer (some (Addr.mk n29 0 none))] ∧ ([] : List Deferred) = [])))))))
    (T.blk 1
    (fun l119 j120 =>
    T.asB (List.headD l119 (Value.tuple (Array.mk []))) fun b121 =>
    T.ite b121
    (T.ldI IntKind.i64 n26 10 fun i122 =>
    T.ldI IntKind.i64 n26 11 fun i123 =>
    T.st n29 10 (Value.int IntKind.i64 i122)
    (T.st n29 11 (Value.int IntKind.i64 i123)
    (T.next 0 []
    ([Value.pointer (some (Addr.mk n26 0 none)),
    Value.pointer (some (Addr.mk n27 0 none)),
    Value.pointer (some (Addr.mk n29 0 none))] =
    [Value.pointer (some (Addr.mk n26 0 none)),
    Value.pointer (some (Addr.mk n27 0 none)),
    Value.pointer (some (Addr.mk n29 0 none))] ∧ ([] : List Deferred) = []))))
    (T.ite (i87 == 10)
    (T.drew
    (T.ldI IntKind.i64 n26 10 fun i124 =>
    T.ldI IntKind.i64 n26 11 fun i125 =>
    T.ldI IntKind.i64 n26 12 fun i126 =>
    T.ldI IntKind.u8 n26 13 fun i127 =>
    T.st n29 10 (Value.int IntKind.i64 i124)
    (T.st n29 11 (Value.int IntKind.i64 i125)
    (T.chk
    [(Addr.mk n26 13 none, Value.int IntKind.u8 i127),
    (Addr.mk n26 12 none, Value.int IntKind.i64 i126)]
    (T.st n29 12 (Value.int IntKind.i64 i126)
    (T.chk [(Addr.mk n26 13 none, Value.int IntKind.u8 i127)]
    (T.st n29 13 (Value.int IntKind.u8 i127)
    (T.chk []
    (T.next 0 []
    ([Value.pointer (some (Addr.mk n26 0 none)),
    Value.pointer (some (Addr.mk n27 0 none)),
    Value.pointer (some (Addr.mk n29 0 none))] =
    [Value.pointer (some (Addr.mk n26 0 none)),
    Value.pointer (some (Addr.mk n27 0 none)),
    Value.pointer (some (Addr.mk n29 0 none))] ∧ ([] : List Deferred) = []))))))))))
    (T.ite (i87 == 12)
    (T.drew
    (T.ldI IntKind.i64 n26 1 fun i128 =>
    T.ldI IntKind.i64 n26 15 fun i129 =>
    T.ldI IntKind.i64 n26 14 fun i130 =>
    T.st n29 1 (Value.int IntKind.i64 i128)
    (T.chk
    [(Addr.mk n26 14 none, Value.int IntKind.i64 i130),
    (Addr.mk n26 15 none, Value.int IntKind.i64 i129)]
    (T.st n29 15 (Value.int IntKind.i64 i129)
    (T.chk [(Addr.mk n26 14 none, Value.int IntKind.i64 i130)]
    (T.st n29 14 (Value.int IntKind.i64 i130)
    (T.chk []
    (T.next 0 []
    ([Value.pointer (some (Addr.mk n26 0 none)),
    Value.pointer (some (Addr.mk n27 0 none)),
    Value.pointer (some (Addr.mk n29 0 none))] =
    [Value.pointer (some (Addr.mk n26 0 none)),
    Value.pointer (some (Addr.mk n27 0 none)),
    Value.pointer (some (Addr.mk n29 0 none))] ∧ ([] : List Deferred) = [])))))))))
    (T.next 0 []
    ([Value.pointer (some (Addr.mk n26 0 none)),
    Value.pointer (some (Addr.mk n27 0 none)),
    Value.pointer (some (Addr.mk n29 0 none))] =
    [Value.pointer (some (Addr.mk n26 0 none)),
    Value.pointer (some (Addr.mk n27 0 none)),
    Value.pointer (some (Addr.mk n29 0 none))] ∧ ([] : List Deferred) = [])))))
    (T.ite (i87 == 7)
    (T.next 1 [Value.bool (i87 == 7)]
    ([Value.pointer (some (Addr.mk n26 0 none)), Value.pointer (some (Addr.mk n27 0 none)),
    Value.pointer (some (Addr.mk n29 0 none)), Value.int IntKind.i64 i87] =
    [Value.pointer (some (Addr.mk n26 0 none)),
    Value.pointer (some (Addr.mk n27 0 none)),
    Value.pointer (some (Addr.mk n29 0 none)), Value.int IntKind.i64 i87] ∧ ([] : List Deferred) = []))
    (T.ite (i87 == 8)
    (T.next 1 [Value.bool (i87 == 8)]
    ([Value.pointer (some (Addr.mk n26 0 none)),
    Value.pointer (some (Addr.mk n27 0 none)),
    Value.pointer (some (Addr.mk n29 0 none)), Value.int IntKind.i64 i87] =
    [Value.pointer (some (Addr.mk n26 0 none)),
    Value.pointer (some (Addr.mk n27 0 none)),
    Value.pointer (some (Addr.mk n29 0 none)), Value.int IntKind.i64 i87] ∧ ([] : List Deferred) = []))
    (T.ite (i87 == 9)
    (T.next 1 [Value.bool (i87 == 9)]
    ([Value.pointer (some (Addr.mk n26 0 none)),
    Value.pointer (some (Addr.mk n27 0 none)),
    Value.pointer (some (Addr.mk n29 0 none)), Value.int IntKind.i64 i87] =
    [Value.pointer (some (Addr.mk n26 0 none)),
    Value.pointer (some (Addr.mk n27 0 none)),
    Value.pointer (some (Addr.mk n29 0 none)), Value.int IntKind.i64 i87] ∧ ([] : List Deferred) = []))
    (T.ite (i87 == 18)
    (T.next 1 [Value.bool (i87 == 18)]
    ([Value.pointer (some (Addr.mk n26 0 none)),
    Value.pointer (some (Addr.mk n27 0 none)),
    Value.pointer (some (Addr.mk n29 0 none)), Value.int IntKind.i64 i87] =
    [Value.pointer (some (Addr.mk n26 0 none)),
    Value.pointer (some (Addr.mk n27 0 none)),
    Value.pointer (some (Addr.mk n29 0 none)), Value.int IntKind.i64 i87] ∧ ([] : List Deferred) = []))
    (T.ite (i87 == 19)
    (T.next 1 [Value.bool (i87 == 19)]
    ([Value.pointer (some (Addr.mk n26 0 none)),
    Value.pointer (some (Addr.mk n27 0 none)),
    Value.pointer (some (Addr.mk n29 0 none)), Value.int IntKind.i64 i87] =
    [Value.pointer (some (Addr.mk n26 0 none)),
    Value.pointer (some (Addr.mk n27 0 none)),
    Value.pointer (some (Addr.mk n29 0 none)), Value.int IntKind.i64 i87] ∧ ([] : List Deferred) = []))
    (T.next 1 [Value.bool (i87 == 20)]
    ([Value.pointer (some (Addr.mk n26 0 none)),
    Value.pointer (some (Addr.mk n27 0 none)),
    Value.pointer (some (Addr.mk n29 0 none)), Value.int IntKind.i64 i87] =
    [Value.pointer (some (Addr.mk n26 0 none)),
    Value.pointer (some (Addr.mk n27 0 none)),
    Value.pointer (some (Addr.mk n29 0 none)), Value.int IntKind.i64 i87] ∧ ([] : List Deferred) = [])))))))))))
    (T.ite (i87 == 3)
    (T.next 1 [Value.bool (i87 == 3)]
    ([Value.pointer (some (Addr.mk n26 0 none)), Value.pointer (some (Addr.mk n27 0 none)),
    Value.pointer (some (Addr.mk n29 0 none)), Value.int IntKind.i64 i87] =
    [Value.pointer (some (Addr.mk n26 0 none)), Value.pointer (some (Addr.mk n27 0 none)),
    Value.pointer (some (Addr.mk n29 0 none)), Value.int IntKind.i64 i87] ∧ ([] : List Deferred) = []))
    (T.ite (i87 == 16)
    (T.next 1 [Value.bool (i87 == 16)]
    ([Value.pointer (some (Addr.mk n26 0 none)), Value.pointer (some (Addr.mk n27 0 none)),
    Value.pointer (some (Addr.mk n29 0 none)), Value.int IntKind.i64 i87] =
    [Value.pointer (some (Addr.mk n26 0 none)), Value.pointer (some (Addr.mk n27 0 none)),
    Value.pointer (some (Addr.mk n29 0 none)), Value.int IntKind.i64 i87] ∧ ([] : List Deferred) = []))
    (T.next 1 [Value.bool (i87 == 17)]
    ([Value.pointer (some (Addr.mk n26 0 none)), Value.pointer (some (Addr.mk n27 0 none)),
    Value.pointer (some (Addr.mk n29 0 none)), Value.int IntKind.i64 i87] =
    [Value.pointer (some (Addr.mk n26 0 none)), Value.pointer (some (Addr.mk n27 0 none)),
    Value.pointer (some (Addr.mk n29 0 none)), Value.int IntKind.i64 i87] ∧ ([] : List Deferred) = [])))))))
    (T.ite (i87 == 1)
    (T.next 1 [Value.bool (i87 == 1)]
    ([Value.pointer (some (Addr.mk n26 0 none)), Value.pointer (some (Addr.mk n27 0 none)),
    Value.pointer (some (Addr.mk n29 0 none)), Value.int IntKind.i64 i87] =
    [Value.pointer (some (Addr.mk n26 0 none)), Value.pointer (some (Addr.mk n27 0 none)),
    Value.pointer (some (Addr.mk n29 0 none)), Value.int IntKind.i64 i87] ∧ ([] : List Deferred) = []))
    (T.ite (i87 == 6)
    (T.next 1 [Value.bool (i87 == 6)]
    ([Value.pointer (some (Addr.mk n26 0 none)), Value.pointer (some (Addr.mk n27 0 none)),
    Value.pointer (some (Addr.mk n29 0 none)), Value.int IntKind.i64 i87] =
    [Value.pointer (some (Addr.mk n26 0 none)), Value.pointer (some (Addr.mk n27 0 none)),
    Value.pointer (some (Addr.mk n29 0 none)), Value.int IntKind.i64 i87] ∧ ([] : List Deferred) = []))
    (T.ite (i87 == 13)
    (T.next 1 [Value.bool (i87 == 13)]
    ([Value.pointer (some (Addr.mk n26 0 none)), Value.pointer (some (Addr.mk n27 0 none)),
    Value.pointer (some (Addr.mk n29 0 none)), Value.int IntKind.i64 i87] =
    [Value.pointer (some (Addr.mk n26 0 none)), Value.pointer (some (Addr.mk n27 0 none)),
    Value.pointer (some (Addr.mk n29 0 none)), Value.int IntKind.i64 i87] ∧ ([] : List Deferred) = []))
    (T.next 1 [Value.bool (i87 == 11)]
    ([Value.pointer (some (Addr.mk n26 0 none)), Value.pointer (some (Addr.mk n27 0 none)),
    Value.pointer (some (Addr.mk n29 0 none)), Value.int IntKind.i64 i87] =
    [Value.pointer (some (Addr.mk n26 0 none)), Value.pointer (some (Addr.mk n27 0 none)),
    Value.pointer (some (Addr.mk n29 0 none)), Value.int IntKind.i64 i87] ∧ ([] : List Deferred) = []))))))))))))))))))))))
theorem e55 (i0 : Int) (i1 : Int) (i2 : Int) (i3 : Int) (i4 : Int) (o5 : Option Addr) (n6 n7 : Nat) (o8 : Option Addr) (n9 n10 : Nat) (o11 : Option Addr) (n12 n13 : Nat) (o14 : Option Addr) (n15 n16 : Nat) (o17 : Option Addr) (n18 n19 : Nat) (i20 : Int) (i21 : Int) (i22 : Int) (i23 : Int) (i24 : Int) (i25 : Int) : treeOf Tryz.prog Tryz.f55 (codeOf Tryz.f55) (.s .n (.s .n (.c [] [1, 2, 5] (.s .n (.u (.c [(12, .bool)] [1, 2, 5, 11] .n (.s .n (.s .n (.s (.p [0, 1, 2, 3, 4, 5, 6, 7, 8, 9, 10, 11]) (.c [(31, .bool)] [1, 2, 5, 11] .n (.s .n (.s .n (.s (.p [0, 1, 2, 3, 4, 5, 6, 7, 8, 9, 10, 11]) (.s .n (.s (.p [0, 1, 2, 3, 4, 5, 6, 7]) (.c [(57, .bool)] [1, 2, 5, 11] .n (.s .n (.s .n (.s (.p [0, 1, 2, 3, 4, 5, 6, 7, 8, 9, 10, 11]) (.s .n (.s (.p [0, 1, 2, 3, 4, 5, 6, 7, 8, 9, 10, 11]) .n)))))))))))))))))) .n))) [.v (.agg #[.int .i64 i0, .int .i64 i1, .int .i64 i2, .int .i64 i3, .int .i64 i4, .slice o5 n6 n7, .slice o8 n9 n10, .slice o11 n12 n13, .slice o14 n15 n16, .slice o17 n18 n19, .int .i64 i20, .int .i64 i21, .int .i64 i22, .int .u8 i23, .int .i64 i24, .int .i64 i25])] = (t55 i0 i1 i2 i3 i4 o5 n6 n7 o8 n9 n10 o11 n12 n13 o14 n15 n16 o17 n18 n19 i20 i21 i22 i23 i24 i25) := by kernel_rfl
theorem c55 (i0 : Int) (i1 : Int) (i2 : Int) (i3 : Int) (i4 : Int) (o5 : Option Addr) (n6 n7 : Nat) (o8 : Option Addr) (n9 n10 : Nat) (o11 : Option Addr) (n12 n13 : Nat) (o14 : Option Addr) (n15 n16 : Nat) (o17 : Option Addr) (n18 n19 : Nat) (i20 : Int) (i21 : Int) (i22 : Int) (i23 : Int) (i24 : Int) (i25 : Int) {w : World} {R : Ending → World → Prop} (h : (t55 i0 i1 i2 i3 i4 o5 n6 n7 o8 n9 n10 o11 n12 n13 o14 n15 n16 o17 n18 n19 i20 i21 i22 i23 i24 i25).sem Tryz.prog R ρ0 w) : Calls Tryz.prog 55 #[.agg #[.int .i64 i0, .int .i64 i1, .int .i64 i2, .int .i64 i3, .int .i64 i4, .slice o5 n6 n7, .slice o8 n9 n10, .slice o11 n12 n13, .slice o14 n15 n16, .slice o17 n18 n19, .int .i64 i20, .int .i64 i21, .int .i64 i22, .int .u8 i23, .int .i64 i24, .int .i64 i25]] w R :=
  calls_of mixed Tryz.func55 rfl rfl (e55 i0 i1 i2 i3 i4 o5 n6 n7 o8 n9 n10 o11 n12 n13 o14 n15 n16 o17 n18 n19 i20 i21 i22 i23 i24 i25) h
def t29 (i0 : Int) (i1 : Int) (i2 : Int) (i3 : Int) (i4 : Int) (o5 : Option Addr) (n6 n7 : Nat) (o8 : Option Addr) (n9 n10 : Nat) (o11 : Option Addr) (n12 n13 : Nat) (o14 : Option Addr) (n15 n16 : Nat) (o17 : Option Addr) (n18 n19 : Nat) (i20 : Int) (i21 : Int) (i22 : Int) (i23 : Int) (i24 : Int) (i25 : Int) : T :=
  T.new
  (Obj.cells
    (Array.mk
    [Value.int IntKind.i64 i0, Value.int IntKind.i64 i1, Value.int IntKind.i64 i2, Value.int IntKind.i64 i3, Value.int IntKind.i64 i4, Value.slice o5 n6 n7,
    Value.slice o8 n9 n10, Value.slice o11 n12 n13, Value.slice o14 n15 n16, Value.slice o17 n18 n19, Value.int IntKind.i64 i20, Value.int IntKind.i64 i21,
    Value.int IntKind.i64 i22, Value.int IntKind.u8 i23, Value.int IntKind.i64 i24, Value.int IntKind.i64 i25])
    56)
  fun n26 =>
  T.ldI IntKind.i64 n26 0 fun i27 =>
    T.ldI IntKind.i64 n26 1 fun i28 =>
    T.ldI IntKind.i64 n26 2 fun i29 =>
    T.ldI IntKind.i64 n26 3 fun i30 =>
    T.ldI IntKind.i64 n26 4 fun i31 =>
    T.ldS n26 5 fun o32 n33 n34 =>
    T.ldS n26 6 fun o35 n36 n37 =>
    T.ldS n26 7 fun o38 n39 n40 =>
    T.ldS n26 8 fun o41 n42 n43 =>
    T.ldS n26 9 fun o44 n45 n46 =>
    T.ldI IntKind.i64 n26 10 fun i47 =>
    T.ldI IntKind.i64 n26 11 fun i48 =>
    T.ldI IntKind.i64 n26 12 fun i49 =>
    T.ldI IntKind.u8 n26 13 fun i50 =>
    T.ldI IntKind.i64 n26 14 fun i51 =>
    T.ldI IntKind.i64 n26 15 fun i52 =>
    T.call 55
    [Value.agg
    (Array.mk
    [Value.int IntKind.i64 i27, Value.int IntKind.i64 i28, Value.int IntKind.i64 i29, Value.int IntKind.i64 i30,
    Value.int IntKind.i64 i31, Value.slice o32 n33 n34, Value.slice o35 n36 n37, Value.slice o38 n39 n40,
    Value.slice o41 n42 n43, Value.slice o44 n45 n46, Value.int IntKind.i64 i47, Value.int IntKind.i64 i48,
    Value.int IntKind.i64 i49, Value.int IntKind.u8 i50, Value.int IntKind.i64 i51, Value.int IntKind.i64 i52])]
    fun v53 =>
    T.asU v53 fun l54 =>
    T.req (List.length l54 = 3)
    (T.asA (List.headD l54 (Value.tuple (Array.mk []))) fun l55 =>
    T.req (List.length l55 = 16)
    (T.asI IntKind.i64 (List.headD l55 (Value.tuple (Array.mk []))) fun i56 =>
    T.asI IntKind.i64 (List.headD (List.tail l55) (Value.tuple (Array.mk []))) fun i57 =>
    T.asI IntKind.i64 (List.headD (List.tail (List.tail l55)) (Value.tuple (Array.mk []))) fun i58 =>
    T.asI IntKind.i64 (List.headD (List.tail (List.tail (List.tail l55))) (Value.tuple (Array.mk []))) fun i59 =>
    T.asI IntKind.i64
    (List.headD (List.tail (List.tail (List.tail (List.tail l55)))) (Value.tuple (Array.mk []))) fun i60 =>
    T.asS
    (List.headD (List.tail (List.tail (List.tail (List.tail (List.tail l55))))) (Value.tuple (Array.mk [])))
    fun o61 n62 n63 =>
    T.asS
    (List.headD (List.tail (List.tail (List.tail (List.tail (List.tail (List.tail l55))))))
    (Value.tuple (Array.mk [])))
    fun o64 n65 n66 =>
    T.asS
    (List.headD (List.tail (List.tail (List.tail (List.tail (List.tail (List.tail (List.tail l55)))))))
    (Value.tuple (Array.mk [])))
    fun o67 n68 n69 =>
    T.asS
    (List.headD
    (List.tail
    (List.tail (List.tail (List.tail (List.tail (List.tail (List.tail (List.tail l55))))))))
    (Value.tuple (Array.mk [])))
    fun o70 n71 n72 =>
    T.asS
    (List.headD
    (List.tail
    (List.tail
    (List.tail (List.tail (List.tail (List.tail (List.tail (List.tail (List.tail l55)))))))))
    (Value.tuple (Array.mk [])))
    fun o73 n74 n75 =>
    T.asI IntKind.i64
    (List.headD
    (List.tail
    (List.tail
    (List.tail
    (List.tail
    (List.tail (List.tail (List.tail (List.tail (List.tail (List.tail l55))))))))))
    (Value.tuple (Array.mk [])))
    fun i76 =>
    T.asI IntKind.i64
    (List.headD
    (List.tail
    (List.tail
    (List.tail
    (List.tail
    (List.tail
    (List.tail (List.tail (List.tail (List.tail (List.tail (List.tail l55)))))))))))
    (Value.tuple (Array.mk [])))
    fun i77 =>
    T.asI IntKind.i64
    (List.headD
    (List.tail
    (List.tail
    (List.tail
    (List.tail
    (List.tail
    (List.tail
    (List.tail
    (List.tail (List.tail (List.tail (List.tail (List.tail l55))))))))))))
    (Value.tuple (Array.mk [])))
    fun i78 =>
    T.asI IntKind.u8
    (List.headD
    (List.tail
    (List.tail
    (List.tail
    (List.tail
    (List.tail
    (List.tail
    (List.tail
    (List.tail
    (List.tail
    (List.tail (List.tail (List.tail (List.tail l55)))))))))))))
    (Value.tuple (Array.mk [])))
    fun i79 =>
    T.asI IntKind.i64
    (List.headD
    (List.tail
    (List.tail
    (List.tail
    (List.tail
    (List.tail
    (List.tail
    (List.tail
    (List.tail
    (List.tail
    (List.tail
    (List.tail (List.tail (List.tail (List.tail l55))))))))))))))
    (Value.tuple (Array.mk [])))
    fun i80 =>
    T.asI IntKind.i64
    (List.headD
    (List.tail
    (List.tail
    (List.tail
    (List.tail
    (List.tail
    (List.tail
    (List.tail
    (List.tail
    (List.tail
    (List.tail
    (List.tail
    (List.tail
    (List.tail (List.tail (List.tail l55)))))))))))))))
    (Value.tuple (Array.mk [])))
    fun i81 =>
    T.asT (List.headD (List.tail l54) (Value.tuple (Array.mk []))) fun s82 =>
    T.asB (List.headD (List.tail (List.tail l54)) (Value.tuple (Array.mk [])))
    fun b83 =>
    T.new
    (Obj.cells
    (Array.mk
    [Value.int IntKind.i64 0, Value.int IntKind.i64 0,
    Value.int IntKind.i64 0, Value.int IntKind.i64 0,
    Value.int IntKind.i64 0, Value.slice none 0 0, Value.slice none 0 0,
    Value.slice none 0 0, Value.slice none 0 0, Value.slice none 0 0,
    Value.int IntKind.i64 0, Value.int IntKind.i64 0,
    Value.int IntKind.i64 0, Value.int IntKind.u8 0,
    Value.int IntKind.i64 0, Value.int IntKind.i64 0])
    56)
    fun n84 =>
    T.st n84 0 (Value.int IntKind.i64 i56)
    (T.st n84 1 (Value.int IntKind.i64 i57)
    (T.st n84 2 (Value.int IntKind.i64 i58)
    (T.st n84 3 (Value.int IntKind.i64 i59)
    (T.st n84 4 (Value.int IntKind.i64 i60)
    (T.st n84 5 (Value.slice o61 n62 n63)
    (T.st n84 6 (Value.slice o64 n65 n66)
    (T.st n84 7 (Value.slice o67 n68 n69)
    (T.st n84 8 (Value.slice o70 n71 n72)
    (T.st n84 9 (Value.slice o73 n74 n75)
    (T.st n84 10 (Value.int IntKind.i64 i76)
    (T.st n84 11 (Value.int IntKind.i64 i77)
    (T.st n84 12 (Value.int IntKind.i64 i78)
    (T.st n84 13 (Value.int IntKind.u8 i79)
    (T.st n84 14 (Value.int IntKind.i64 i80)
    (T.st n84 15 (Value.int IntKind.i64 i81)
    (T.blk 0
    (fun l85 j86 =>
    T.blk 0
    (fun l87 j88 =>
    T.asT
    (List.headD l87
    (Value.tuple (Array.mk [])))
    fun s89 =>
    T.ret
    (Value.tuple
    (Array.mk
    [Value.string s89,
    Value.int IntKind.i64 0])))
    (T.ldI IntKind.i64 n26 0 fun i90 =>
    T.blk 1
    (fun l91 j92 =>
    T.asB
    (List.headD l91
    (Value.tuple (Array.mk [])))
    fun b93 =>
    T.ite b93
    (T.ldI IntKind.i64 n26 1
    fun i94 =>
    T.call 54
    [Value.int IntKind.i64
    i94]
    fun v95 =>
    T.asT v95 fun s96 =>
    T.req
    (1 +
    ByteArray.size
    s96 ≤
    9223372036854775807)
    (T.req
    (ByteArray.size
    s82 +
    ByteArray.size
    (ByteArray.mk
    (Array.mk
    [OfNat.ofNat
    32]) ++
    s96) ≤
    9223372036854775807)
    (T.next 0
    [Value.string
    (s82 ++
    (ByteArray.mk
    (Array.mk
    [OfNat.ofNat
    32]) ++
    s96))]
    (([] : List Value) = [] ∧ ([] : List Deferred) = []))))
    (T.ite (i90 == 2)
    (T.ldI IntKind.i64 n26 3
    fun i97 =>
    T.ldI IntKind.i64 n26 4
    fun i98 =>
    T.ldS n26 5
    fun o99 n100 n101 =>
    T.ldS n26 6
    fun o102 n103
    n104 =>
    T.ldS n26 7
    fun o105 n106
    n107 =>
    T.ldS n26 8
    fun o108 n109
    n110 =>
    T.call 56
    [Value.agg
    (Array.mk
    [Value.int
    IntKind.i64
    i97,
    Value.int
    IntKind.i64
    i98,
    Value.slice
    o99
    n100
    n101,
    Value.slice
    o102
    n103
    n104,
    Value.slice
    o105
    n106
    n107,
    Value.slice
    o108
    n109
    n110])]
    fun v111 =>
    T.asU v111
    fun l112 =>
    T.req
    (List.length
    l112 =
    2)
    (T.asT
    (List.headD
    l112
    (Value.tuple
    (Array.mk
    [])))
    fun
    s113 =>
    T.asI
    IntKind.i64
    (List.headD
    (List.tail
    l112)
    (Value.tuple
    (Array.mk
    [])))
    fun
    i114 =>
    T.ite
    (i114 !=
    0)
    (T.ret
    (Value.tuple
    (Array.mk
    [Value.string
    (ByteArray.mk
    (Array.mk
    [])),
    Value.int
    IntKind.i64
    i114])))
    (T.drew
    (T.ldI
    IntKind.i64
    n26
    2
    fun
    i115 =>
    T.ldI
    IntKind.i64
    n26
    1
    fun
    i116 =>
    T.call
    54
    [Value.int
    IntKind.i64
    i115]
    fun
    v117 =>
    T.asT
    v117
    fun
    s118 =>
    T.chk
    [(Addr.mk
    n26
    1
    none,
    Value.int
    IntKind.i64
    i116)]
    (T.req
    (1 +
    ByteArray.size
    s118 ≤
    9223372036854775807)
    (T.req
    (ByteArray.size
    (ByteArray.mk
    (Array.mk
    [OfNat.ofNat
    32]) ++
    s118) +
    1 ≤
    9223372036854775807)
    (T.call
    54
    [Value.int
    IntKind.i64
    i116]
    fun
    v119 =>
    T.asT
    v119
    fun
    s120 =>
    T.chk
    []
    (T.req
    (ByteArray.size
    (ByteArray.mk
    (Array.mk
    [OfNat.ofNat
    32]) ++
    s118 ++
    ByteArray.mk
    (Array.mk
    [OfNat.ofNat
    32])) +
    ByteArray.size
    s120 ≤
    9223372036854775807)
    (T.req
    (ByteArray.size
    (ByteArray.mk
    (Array.mk
    [OfNat.ofNat
    32]) ++
    s118 ++
    ByteArray.mk
    (Array.mk
    [OfNat.ofNat
    32]) ++
    s120) +
    1 ≤
    9223372036854775807)
    (T.req
    (ByteArray.size
    (ByteArray.mk
    (Array.mk
    [OfNat.ofNat
    32]) ++
    s118 ++
    ByteArray.mk
    (Array.mk
    [OfNat.ofNat
    32]) ++
    s120 ++
    ByteArray.mk
    (Array.mk
    [OfNat.ofNat
    32])) +
    ByteArray.size
    s113 ≤
    9223372036854775807)
    (T.req
    (ByteArray.size
    s82 +
    ByteArray.size
    (ByteArray.mk
    (Array.mk
    [OfNat.ofNat
    32]) ++
    s118 ++
    ByteArray.mk
    (Array.mk
    [OfNat.ofNat
    32]) ++
    s120 ++
    ByteArray.mk
    (Array.mk
    [OfNat.ofNat
    32]) ++
    s113) ≤
    9223372036854775807)
    (T.next
    0
    [Value.string
    (s82 ++
    (ByteArray.mk
    (Array.mk
    [OfNat.ofNat
    32]) ++
    s118 ++
    ByteArray.mk
    (Array.mk
    [OfNat.ofNat
    32]) ++
    s120 ++
    ByteArray.mk
    (Array.mk
    [OfNat.ofNat
    32]) ++
    s113))]
    (([] : List Value) = [] ∧ ([] : List Deferred) = [])))))))))))))
    (T.blk 1
    (fun l121 j122 =>
    T.asB
    (List.headD l121
    (Value.tuple
    (Array.mk [])))
    fun b123 =>
    T.ite b123
    (T.ldI IntKind.i64
    n26 2 fun i124 =>
    T.call 54
    [Value.int
    IntKind.i64
    i124]
    fun v125 =>
    T.asT v125
    fun s126 =>
    T.req
    (1 +
    ByteArray.size
    s126 ≤
    9223372036854775807)
    (T.req
    (ByteArray.size
    s82 +
    ByteArray.size
    (ByteArray.mk
    (Array.mk
    [OfNat.ofNat
    32]) ++
    s126) ≤
    9223372036854775807)
    (T.next 0
    [Value.string
    (s82 ++
    (ByteArray.mk
    (Array.mk
    [OfNat.ofNat
    32]) ++
    s126))]
    (([] : List Value) = [] ∧ ([] : List Deferred) = []))))
    (T.ite (i90 == 4)
    (T.drew
    (T.ldI
    IntKind.i64
    n26 2
    fun i127 =>
    T.ldI
    IntKind.i64
    n26 1
    fun i128 =>
    T.ldS n26 9
    fun o129
    n130
    n131 =>
    T.call 54
    [Value.int
    IntKind.i64
    i127]
    fun
    v132 =>
    T.asT
    v132
    fun
    s133 =>
    T.chk
    [(Addr.mk
    n26
    9
    none,
    Value.slice
    o129
    n130
    n131),
    (Addr.mk
    n26
    1
    none,
    Value.int
    IntKind.i64
    i128)]
    (T.req
    (1 +
    ByteArray.size
    s133 ≤
    9223372036854775807)
    (T.req
    (ByteArray.size
    (ByteArray.mk
    (Array.mk
    [OfNat.ofNat
    32]) ++
    s133) +
    1 ≤
    9223372036854775807)
    (T.call
    54
    [Value.int
    IntKind.i64
    i128]
    fun
    v134 =>
    T.asT
    v134
    fun
    s135 =>
    T.chk
    [(Addr.mk
    n26
    9
    none,
    Value.slice
    o129
    n130
    n131)]
    (T.req
    (ByteArray.size
    (ByteArray.mk
    (Array.mk
    [OfNat.ofNat
    32]) ++
    s133 ++
    ByteArray.mk
    (Array.mk
    [OfNat.ofNat
    32])) +
    ByteArray.size
    s135 ≤
    9223372036854775807)
    (T.req
    (ByteArray.size
    (ByteArray.mk
    (Array.mk
    [OfNat.ofNat
    32]) ++
    s133 ++
    ByteArray.mk
    (Array.mk
    [OfNat.ofNat
    32]) ++
    s135) +
    1 ≤
    9223372036854775807)
    (T.call
    57
    [Value.slice
    o129
    n130
    n131]
    fun
    v136 =>
    T.asT
    v136
    fun
    s137 =>
    T.chk
    []
    (T.req
    (ByteArray.size
    (ByteArray.mk
    (Array.mk
    [OfNat.ofNat
    32]) ++
    s133 ++
    ByteArray.mk
    (Array.mk
    [OfNat.ofNat
    32]) ++
    s135 ++
    ByteArray.mk
    (Array.mk
    [OfNat.ofNat
    32])) +
    ByteArray.size
    s137 ≤
    9223372036854775807)
    (T.req
    (ByteArray.size
    s82 +
    ByteArray.size
    (ByteArray.mk
    (Array.mk
    [OfNat.ofNat
    32]) ++
    s133 ++
    ByteArray.mk
    (Array.mk
    [OfNat.ofNat
    32]) ++
    s135 ++
    ByteArray.mk
    (Array.mk
    [OfNat.ofNat
    32]) ++
    s137) ≤
    9223372036854775807)
    (T.next
    0
    [Value.string
    (s82 ++
    (ByteArray.mk
    (Array.mk
    [OfNat.ofNat
    32]) ++
    s133 ++
    ByteArray.mk
    (Array.mk
    [OfNat.ofNat
    32]) ++
    s135 ++
    ByteArray.mk
    (Array.mk
    [OfNat.ofNat
    32]) ++
    s137))]
    (([] : List Value) = [] ∧ ([] : List Deferred) = []))))))))))))
    (T.ite (i90 == 5)
    (T.drew
    (T.ldI
    IntKind.i64
    n26 1
    fun i138 =>
    T.ldI
    IntKind.i64
    n26 15
    fun
    i139 =>
    T.call 54
    [Value.int
    IntKind.i64
    i138]
    fun
    v140 =>
    T.asT
    v140
    fun
    s141 =>
    T.chk
    [(Addr.mk
    n26
    15
    none,
    Value.int
    IntKind.i64
    i139)]
    (T.req
    (1 +
    ByteArray.size
    s141 ≤
    9223372036854775807)
    (T.req
    (ByteArray.size
    (ByteArray.mk
    (Array.mk
    [OfNat.ofNat
    32]) ++
    s141) +
    1 ≤
    9223372036854775807)
    (T.call
    54
    [Value.int
    IntKind.i64
    i139]
    fun
    v142 =>
    T.asT
    v142
    fun
    s143 =>
    T.chk
    []
    (T.req
    (ByteArray.size
    (ByteArray.mk
    (Array.mk
    [OfNat.ofNat
    32]) ++
    s141 ++
    ByteArray.mk
    (Array.mk
    [OfNat.ofNat
    32])) +
    ByteArray.size
    s143 ≤
    9223372036854775807)
    (T.req
    (ByteArray.size
    s82 +
    ByteArray.size
    (ByteArray.mk
    (Array.mk
    [OfNat.ofNat
    32]) ++
    s141 ++
    ByteArray.mk
    (Array.mk
    [OfNat.ofNat
    32]) ++
    s143) ≤
    9223372036854775807)
    (T.next
    0
    [Value.string
    (s82 ++
    (ByteArray.mk
    (Array.mk
    [OfNat.ofNat
    32]) ++
    s141 ++
    ByteArray.mk
    (Array.mk
    [OfNat.ofNat
    32]) ++
    s143))]
    (([] : List Value) = [] ∧ ([] : List Deferred) = [])))))))))
    (T.blk 1
    (fun l144
    j145 =>
    T.asB
    (List.headD
    l144
    (Value.tuple
    (Array.mk
    [])))
    fun
    b146 =>
    T.ite b146
    (T.drew
    (T.ldI
    IntKind.i64
    n26
    10
    fun
    i147 =>
    T.ldI
    IntKind.i64
    n26
    11
    fun
    i148 =>
    T.call
    54
    [Value.int
    IntKind.i64
    i147]
    fun
    v149 =>
    T.asT
    v149
    fun
    s150 =>
    T.chk
    [(Addr.mk
    n26
    11
    none,
    Value.int
    IntKind.i64
    i148)]
    (T.req
    (1 +
    ByteArray.size
    s150 ≤
    9223372036854775807)
    (T.req
    (ByteArray.size
    (ByteArray.mk
    (Array.mk
    [OfNat.ofNat
    32]) ++
    s150) +
    1 ≤
    9223372036854775807)
    (T.call
    54
    [Value.int
    IntKind.i64
    i148]
    fun
    v151 =>
    T.asT
    v151
    fun
    s152 =>
    T.chk
    []
    (T.req
    (ByteArray.size
    (ByteArray.mk
    (Array.mk
    [OfNat.ofNat
    32]) ++
    s150 ++
    ByteArray.mk
    (Array.mk
    [OfNat.ofNat
    32])) +
    ByteArray.size
    s152 ≤
    9223372036854775807)
    (T.req
    (ByteArray.size
    s82 +
    ByteArray.size
    (ByteArray.mk
    (Array.mk
    [OfNat.ofNat
    32]) ++
    s150 ++
    ByteArray.mk
    (Array.mk
    [OfNat.ofNat
    32]) ++
    s152) ≤
    9223372036854775807)
    (T.next
    0
    [Value.string
    (s82 ++
    (ByteArray.mk
    (Array.mk
    [OfNat.ofNat
    32]) ++
    s150 ++
    ByteArray.mk
    (Array.mk
    [OfNat.ofNat
    32]) ++
    s152))]
    (([] : List Value) = [] ∧ ([] : List Deferred) = [])))))))))
    (T.ite
    (i90 ==
    10)
    (T.drew
    (T.ldI
    IntKind.i64
    n26
    10
    fun
    i153 =>
    T.ldI
    IntKind.i64
    n26
    11
    fun
    i154 =>
    T.ldI
    IntKind.i64
    n26
    12
    fun
    i155 =>
    T.ldI
    IntKind.u8
    n26
    13
    fun
    i156 =>
    T.call
    54
    [Value.int
    IntKind.i64
    i153]
    fun
    v157 =>
    T.asT
    v157
    fun
    s158 =>
    T.chk
    [(Addr.mk
    n26
    13
    none,
    Value.int
    IntKind.u8
    i156),
    (Addr.mk
    n26
    12
    none,
    Value.int
    IntKind.i64
    i155),
    (Addr.mk
    n26
    11
    none,
    Value.int
    IntKind.i64
    i154)]
    (T.req
    (1 +
    ByteArray.size
    s158 ≤
    9223372036854775807)
    (T.req
    (ByteArray.size
    (ByteArray.mk
    (Array.mk
    [OfNat.ofNat
    32]) ++
    s158) +
    1 ≤
    9223372036854775807)
    (T.call
    54
    [Value.int
    IntKind.i64
    i154]
    fun
    v159 =>
    T.asT
    v159
    fun
    s160 =>
    T.chk
    [(Addr.mk
    n26
    13
    none,
    Value.int
    IntKind.u8
    i156),
    (Addr.mk
    n26
    12
    none,
    Value.int
    IntKind.i64
    i155)]
    (T.req
    (ByteArray.size
    (ByteArray.mk
    (Array.mk
    [OfNat.ofNat
    32]) ++
    s158 ++
    ByteArray.mk
    (Array.mk
    [OfNat.ofNat
    32])) +
    ByteArray.size
    s160 ≤
    9223372036854775807)
    (T.req
    (ByteArray.size
    (ByteArray.mk
    (Array.mk
    [OfNat.ofNat
    32]) ++
    s158 ++
    ByteArray.mk
    (Array.mk
    [OfNat.ofNat
    32]) ++
    s160) +
    1 ≤
    9223372036854775807)
    (T.call
    54
    [Value.int
    IntKind.i64
    i155]
    fun
    v161 =>
    T.asT
    v161
    fun
    s162 =>
    T.chk
    [(Addr.mk
    n26
    13
    none,
    Value.int
    IntKind.u8
    i156)]
    (T.req
    (ByteArray.size
    (ByteArray.mk
    (Array.mk
    [OfNat.ofNat
    32]) ++
    s158 ++
    ByteArray.mk
    (Array.mk
    [OfNat.ofNat
    32]) ++
    s160 ++
    ByteArray.mk
    (Array.mk
    [OfNat.ofNat
    32])) +
    ByteArray.size
    s162 ≤
    9223372036854775807)
    (T.req
    (ByteArray.size
    (ByteArray.mk
    (Array.mk
    [OfNat.ofNat
    32]) ++
    s158 ++
    ByteArray.mk
    (Array.mk
    [OfNat.ofNat
    32]) ++
    s160 ++
    ByteArray.mk
    (Array.mk
    [OfNat.ofNat
    32]) ++
    s162) +
    1 ≤
    9223372036854775807)
    (T.call
    54
    [Value.int
    IntKind.i64
    (IntKind.wrap
    IntKind.i64
    i156)]
    fun
    v163 =>
    T.asT
    v163
    fun
    s164 =>
    T.chk
    [(Addr.mk
    n26
    13
    none,
    Value.int
    IntKind.u8
    i156)]
    (T.req
    (ByteArray.size
    (ByteArray.mk
    (Array.mk
    [OfNat.ofNat
    32]) ++
    s158 ++
    ByteArray.mk
    (Array.mk
    [OfNat.ofNat
    32]) ++
    s160 ++
    ByteArray.mk
    (Array.mk
    [OfNat.ofNat
    32]) ++
    s162 ++
    ByteArray.mk
    (Array.mk
    [OfNat.ofNat
    32])) +
    ByteArray.size
    s164 ≤
    9223372036854775807)
    (T.req
    (ByteArray.size
    s82 +
    ByteArray.size
    (ByteArray.mk
    (Array.mk
    [OfNat.ofNat
    32]) ++
    s158 ++
    ByteArray.mk
    (Array.mk
    [OfNat.ofNat
    32]) ++
    s160 ++
    ByteArray.mk
    (Array.mk
    [OfNat.ofNat
    32]) ++
    s162 ++
    ByteArray.mk
    (Array.mk
    [OfNat.ofNat
    32]) ++
    s164) ≤
    9223372036854775807)
    (T.next
    0
    [Value.string
    (s82 ++
    (ByteArray.mk
    (Array.mk
    [OfNat.ofNat
    32]) ++
    s158 ++
    ByteArray.mk
    (Array.mk
    [OfNat.ofNat
    32]) ++
    s160 ++
    ByteArray.mk
    (Array.mk
    [OfNat.ofNat
    32]) ++
    s162 ++
    ByteArray.mk
    (Array.mk
    [OfNat.ofNat
    32]) ++
    s164))]
    (([] : List Value) = [] ∧ ([] : List Deferred) = [])))))))))))))))
    (T.ite
    (i90 ==
    12)
    (T.drew
    (T.ldI
    IntKind.i64
    n26
    1
    fun
    i165 =>
    T.ldI
    IntKind.i64
    n26
    15
    fun
    i166 =>
    T.ldI
    IntKind.i64
    n26
    14
    fun
    i167 =>
    T.call
    54
    [Value.int
    IntKind.i64
    i165]
    fun
    v168 =>
    T.asT
    v168
    fun
    s169 =>
    T.chk
    [(Addr.mk
    n26
    14
    none,
    Value.int
    IntKind.i64
    i167),
    (Addr.mk
    n26
    15
    none,
    Value.int
    IntKind.i64
    i166)]
    (T.req
    (1 +
    ByteArray.size
    s169 ≤
    9223372036854775807)
    (T.req
    (ByteArray.size
    (ByteArray.mk
    (Array.mk
    [OfNat.ofNat
    32]) ++
    s169) +
    1 ≤
    9223372036854775807)
    (T.call
    54
    [Value.int
    IntKind.i64
    i166]
    fun
    v170 =>
    T.asT
    v170
    fun
    s171 =>
    T.chk
    [(Addr.mk
    n26
    14
    none,
    Value.int
    IntKind.i64
    i167)]
    (T.req
    (ByteArray.size
    (ByteArray.mk
    (Array.mk
    [OfNat.ofNat
    32]) ++
    s169 ++
    ByteArray.mk
    (Array.mk
    [OfNat.ofNat
    32])) +
    ByteArray.size
    s171 ≤
    9223372036854775807)
    (T.req
    (ByteArray.size
    (ByteArray.mk
    (Array.mk
    [OfNat.ofNat
    32]) ++
    s169 ++
    ByteArray.mk
    (Array.mk
    [OfNat.ofNat
    32]) ++
    s171) +
    1 ≤
    9223372036854775807)
    (T.call
    54
    [Value.int
    IntKind.i64
    i167]
    fun
    v172 =>
    T.asT
    v172
    fun
    s173 =>
    T.chk
    []
    (T.req
    (ByteArray.size
    (ByteArray.mk
    (Array.mk
    [OfNat.ofNat
    32]) ++
    s169 ++
    ByteArray.mk
    (Array.mk
    [OfNat.ofNat
    32]) ++
    s171 ++
    ByteArray.mk
    (Array.mk
    [OfNat.ofNat
    32])) +
    ByteArray.size
    s173 ≤
    9223372036854775807)
    (T.req
    (ByteArray.size
    s82 +
    ByteArray.size
    (ByteArray.mk
    (Array.mk
    [OfNat.ofNat
    32]) ++
    s169 ++
    ByteArray.mk
    (Array.mk
    [OfNat.ofNat
    32]) ++
    s171 ++
    ByteArray.mk
    (Array.mk
    [OfNat.ofNat
    32]) ++
    s173) ≤
    9223372036854775807)
    (T.next
    0
    [Value.string
    (s82 ++
    (ByteArray.mk
    (Array.mk
    [OfNat.ofNat
    32]) ++
    s169 ++
    ByteArray.mk
    (Array.mk
    [OfNat.ofNat
    32]) ++
    s171 ++
    ByteArray.mk
    (Array.mk
    [OfNat.ofNat
    32]) ++
    s173))]
    (([] : List Value) = [] ∧ ([] : List Deferred) = []))))))))))))
    (T.next
    0
    [Value.string
    s82]
    (([] : List Value) = [] ∧ ([] : List Deferred) = [])))))
    (T.ite
    (i90 == 7)
    (T.next 1
    [Value.bool
    (i90 ==
    7)]
    ([Value.pointer
    (some
    (Addr.mk
    n26
    0
    none)),
    Value.string
    s82,
    Value.int
    IntKind.i64
    i90] =
    [Value.pointer
    (some
    (Addr.mk
    n26
    0
    none)),
    Value.string
    s82,
    Value.int
    IntKind.i64
    i90] ∧ ([] : List Deferred) = []))
    (T.ite
    (i90 == 8)
    (T.next 1
    [Value.bool
    (i90 ==
    8)]
    ([Value.pointer
    (some
    (Addr.mk
    n26
    0
    none)),
    Value.string
    s82,
    Value.int
    IntKind.i64
    i90] =
    [Value.pointer
    (some
    (Addr.mk
    n26
    0
    none)),
    Value.string
    s82,
    Value.int
    IntKind.i64
    i90] ∧ ([] : List Deferred) = []))
    (T.ite
    (i90 ==
    9)
    (T.next
    1
    [Value.bool
    (i90 ==
    9)]
    ([Value.pointer
    (some
    (Addr.mk
    n26
    0
    none)),
    Value.string
    s82,
    Value.int
    IntKind.i64
    i90] =
    [Value.pointer
    (some
    (Addr.mk
    n26
    0
    none)),
    Value.string
    s82,
    Value.int
    IntKind.i64
    i90] ∧ ([] : List Deferred) = []))
    (T.ite
    (i90 ==
    18)
    (T.next
    1
    [Value.bool
    (i90 ==
    18)]
    ([Value.pointer
    (some
    (Addr.mk
    n26
    0
    none)),
    Value.string
    s82,
    Value.int
    IntKind.i64
    i90] =
    [Value.pointer
    (some
    (Addr.mk
    n26
    0
    none)),
    Value.string
    s82,
    Value.int
    IntKind.i64
    i90] ∧ ([] : List Deferred) = []))
    (T.ite
    (i90 ==
    19)
    (T.next
    1
    [Value.bool
    (i90 ==
    19)]
    ([Value.pointer
    (some
    (Addr.mk
    n26
    0
    none)),
    Value.string
    s82,
    Value.int
    IntKind.i64
    i90] =
    [Value.pointer
    (some
    (Addr.mk
    n26
    0
    none)),
    Value.string
    s82,
    Value.int
    IntKind.i64
    i90] ∧ ([] : List Deferred) = []))
    (T.next
    1
    [Value.bool
    (i90 ==
    20)]
    ([Value.pointer
    (some
    (Addr.mk
    n26
    0
    none)),
    Value.string
    s82,
    Value.int
    IntKind.i64
    i90] =
    [Value.pointer
    (some
    (Addr.mk
    n26
    0
    none)),
    Value.string
    s82,
    Value.int
    IntKind.i64
    i90] ∧ ([] : List Deferred) = [])))))))))))
    (T.ite (i90 == 3)
    (T.next 1
    [Value.bool
    (i90 == 3)]
    ([Value.pointer
    (some
    (Addr.mk n26
    0 none)),
    Value.string
    s82,
    Value.int
    IntKind.i64
    i90] =
    [Value.pointer
    (some
    (Addr.mk n26
    0 none)),
    Value.string
    s82,
    Value.int
    IntKind.i64
    i90] ∧ ([] : List Deferred) = []))
    (T.ite (i90 == 16)
    (T.next 1
    [Value.bool
    (i90 == 16)]
    ([Value.pointer
    (some
    (Addr.mk
    n26 0
    none)),
    Value.string
    s82,
    Value.int
    IntKind.i64
    i90] =
    [Value.pointer
    (some
    (Addr.mk
    n26 0
    none)),
    Value.string
    s82,
    Value.int
    IntKind.i64
    i90] ∧ ([] : List Deferred) = []))
    (T.next 1
    [Value.bool
    (i90 == 17)]
    ([Value.pointer
    (some
    (Addr.mk
    n26 0
    none)),
    Value.string
    s82,
    Value.int
    IntKind.i64
    i90] =
    [Value.pointer
    (some
    (Addr.mk
    n26 0
    none)),
    Value.string
    s82,
    Value.int
    IntKind.i64
    i90] ∧ ([] : List Deferred) = [])))))))
    (T.ite (i90 == 1)
    (T.next 1 [Value.bool (i90 == 1)]
    ([Value.pointer
    (some
    (Addr.mk n26 0 none)),
    Value.string s82,
    Value.int IntKind.i64
    i90] =
    [Value.pointer
    (some
    (Addr.mk n26 0 none)),
    Value.string s82,
    Value.int IntKind.i64
    i90] ∧ ([] : List Deferred) = []))
    (T.ite (i90 == 6)
    (T.next 1
    [Value.bool (i90 == 6)]
    ([Value.pointer
    (some
    (Addr.mk n26 0
    none)),
    Value.string s82,
    Value.int IntKind.i64
    i90] =
    [Value.pointer
    (some
    (Addr.mk n26 0
    none)),
    Value.string s82,
    Value.int IntKind.i64
    i90] ∧ ([] : List Deferred) = []))
    (T.ite (i90 == 13)
    (T.next 1
    [Value.bool (i90 == 13)]
    ([Value.pointer
    (some
    (Addr.mk n26 0
    none)),
    Value.string s82,
    Value.int IntKind.i64
    i90] =
    [Value.pointer
    (some
    (Addr.mk n26 0
    none)),
    Value.string s82,
    Value.int IntKind.i64
    i90] ∧ ([] : List Deferred) = []))
    (T.next 1
    [Value.bool (i90 == 11)]
    ([Value.pointer
    (some
    (Addr.mk n26 0
    none)),
    Value.string s82,
    Value.int IntKind.i64
    i90] =
    [Value.pointer
    (some
    (Addr.mk n26 0
    none)),
    Value.string s82,
    Value.int IntKind.i64
    i90] ∧ ([] : List Deferred) = [])))))))
    (T.ite (!b83)
    (T.ret
    (Value.tuple
    (Array.mk
    [Value.string
    (ByteArray.mk (Array.mk [])),
    Value.int IntKind.i64 1])))
    (T.ldI IntKind.i64 n26 0 fun i174 =>
    T.ldI IntKind.i64 n26 1 fun i175 =>
    T.ldI IntKind.i64 n26 2 fun i176 =>
    T.ldI IntKind.i64 n26 3 fun i177 =>
    T.ldI IntKind.i64 n26 4
    fun i178 =>
    T.ldS n26 5
    fun o179 n180 n181 =>
    T.ldS n26 6
    fun o182 n183 n184 =>
    T.ldS n26 7
    fun o185 n186 n187 =>
    T.ldS n26 8
    fun o188 n189 n190 =>
    T.ldS n26 9
    fun o191 n192 n193 =>
    T.ldI IntKind.i64 n26
    10 fun i194 =>
    T.ldI IntKind.i64
    n26 11 fun i195 =>
    T.ldI IntKind.i64
    n26 12
    fun i196 =>
    T.ldI IntKind.u8
    n26 13
    fun i197 =>
    T.ldI
    IntKind.i64
    n26 14
    fun i198 =>
    T.ldI
    IntKind.i64
    n26 15
    fun
    i199 =>
    T.ldI
    IntKind.i64
    n84 0
    fun
    i200 =>
    T.ldI
    IntKind.i64
    n84 1
    fun
    i201 =>
    T.ldI
    IntKind.i64
    n84
    2
    fun
    i202 =>
    T.ldI
    IntKind.i64
    n84
    3
    fun
    i203 =>
    T.ldI
    IntKind.i64
    n84
    4
    fun
    i204 =>
    T.ldS
    n84
    5
    fun
    o205
    n206
    n207 =>
    T.ldS
    n84
    6
    fun
    o208
    n209
    n210 =>
    T.ldS
    n84
    7
    fun
    o211
    n212
    n213 =>
    T.ldS
    n84
    8
    fun
    o214
    n215
    n216 =>
    T.ldS
    n84
    9
    fun
    o217
    n218
    n219 =>
    T.ldI
    IntKind.i64
    n84
    10
    fun
    i220 =>
    T.ldI
    IntKind.i64
    n84
    11
    fun
    i221 =>
    T.ldI
    IntKind.i64
    n84
    12
    fun
    i222 =>
    T.ldI
    IntKind.u8
    n84
    13
    fun
    i223 =>
    T.ldI
    IntKind.i64
    n84
    14
    fun
    i224 =>
    T.ldI
    IntKind.i64
    n84
    15
    fun
    i225 =>
    T.call
    21
    [Value.agg
    (Array.mk
    [Value.int
    IntKind.i64
    i174,
    Value.int
    IntKind.i64
    i175,
    Value.int
    IntKind.i64
    i176,
    Value.int
    IntKind.i64
    i177,
    Value.int
    IntKind.i64
    i178,
    Value.slice
    o179
    n180
    n181,
    Value.slice
    o182
    n183
    n184,
    Value.slice
    o185
    n186
    n187,
    Value.slice
    o188
    n189
    n190,
    Value.slice
    o191
    n192
    n193,
    Value.int
    IntKind.i64
    i194,
    Value.int
    IntKind.i64
    i195,
    Value.int
    IntKind.i64
    i196,
    Value.int
    IntKind.u8
    i197,
    Value.int
    IntKind.i64
    i198,
    Value.int
    IntKind.i64
    i199]),
    Value.agg
    (Array.mk
    [Value.int
    IntKind.i64
    i200,
    Value.int
    IntKind.i64
    i201,
    Value.int
    IntKind.i64
    i202,
    Value.int
    IntKind.i64
    i203,
    Value.int
    IntKind.i64
    i204,
    Value.slice
    o205
    n206
    n207,
    Value.slice
    o208
    n209
    n210,
    Value.slice
    o211
    n212
    n213,
    Value.slice
    o214
    n215
    n216,
    Value.slice
    o217
    n218
    n219,
    Value.int
    IntKind.i64
    i220,
    Value.int
    IntKind.i64
    i221,
    Value.int
    IntKind.i64
    i222,
    Value.int
    IntKind.u8
    i223,
    Value.int
    IntKind.i64
    i224,
    Value.int
    IntKind.i64
    i225])]
    fun
    v226 =>
    T.asB
    v226
    fun
    b227 =>
    T.ite
    (!b227)
    (T.ret
    (Value.tuple
    (Array.mk
    [Value.string
    (ByteArray.mk
    (Array.mk
    [])),
    Value.int
    IntKind.i64
    1])))
    (T.next
    0
    []
    ([Value.pointer
    (some
    (Addr.mk
    n26
    0
    none)),
    Value.string
    s82] =
    [Value.pointer
    (some
    (Addr.mk
    n26
    0
    none)),
    Value.string
    s82] ∧ ([] : List Deferred) = []))))))))))))))))))))))
theorem e29 (i0 : Int) (i1 : Int) (i2 : Int) (i3 : Int) (i4 : Int) (o5 : Option Addr) (n6 n7 : Nat) (o8 : Option Addr) (n9 n10 : Nat) (o11 : Option Addr) (n12 n13 : Nat) (o14 : Option Addr) (n15 n16 : Nat) (o17 : Option Addr) (n18 n19 : Nat) (i20 : Int) (i21 : Int) (i22 : Int) (i23 : Int) (i24 : Int) (i25 : Int) : treeOf Tryz.prog Tryz.f29 (codeOf Tryz.f29) (.s .n (.s .n (.c [] [1, 5] .n (.c [(5, .str)] [] (.s .n (.u (.c [(25, .bool)] [1, 5, 24] .n (.s .n (.s .n (.s (.s .n (.s .n (.p [0, 1, 2, 6, 7, 11, 3, 4, 5, 8, 9, 10, 12, 13, 14]))) (.c [(61, .bool)] [1, 5, 24] .n (.s .n (.s .n (.s (.p [0, 1, 2, 6, 7, 11, 12, 3, 4, 5, 8, 9, 10, 13, 14, 15, 16]) (.s .n (.s (.p [0, 1, 2, 6, 7, 3, 4, 5, 8, 9, 10, 11]) (.c [(102, .bool)] [1, 5, 24] .n (.s (.p [0, 1, 2, 3, 7, 8, 9, 4, 5, 6, 10, 11, 12, 13]) (.s .n (.s (.p [0, 1, 2, 3, 7, 8, 9, 13, 14, 18, 19, 20, 4, 5, 6, 10, 11, 12, 15, 16, 17, 21, 22, 23, 24]) (.s .n (.s (.p [0, 1, 2, 6, 7, 11, 12, 3, 4, 5, 8, 9, 10, 13, 14, 15, 16]) .n)))))))))))))))))) .n)))) [.v (.agg #[.int .i64 i0, .int .i64 i1, .int .i64 i2, .int .i64 i3, .int .i64 i4, .slice o5 n6 n7, .slice o8 n9 n10, .slice o11 n12 n13, .slice o14 n15 n16, .slice o17 n18 n19, .int .i64 i20, .int .i64 i21, .int .i64 i22, .int .u8 i23, .int .i64 i24, .int .i64 i25])] = (t29 i0 i1 i2 i3 i4 o5 n6 n7 o8 n9 n10 o11 n12 n13 o14 n15 n16 o17 n18 n19 i20 i21 i22 i23 i24 i25) := by kernel_rfl
theorem c29 (i0 : Int) (i1 : Int) (i2 : Int) (i3 : Int) (i4 : Int) (o5 : Option Addr) (n6 n7 : Nat) (o8 : Option Addr) (n9 n10 : Nat) (o11 : Option Addr) (n12 n13 : Nat) (o14 : Option Addr) (n15 n16 : Nat) (o17 : Option Addr) (n18 n19 : Nat) (i20 : Int) (i21 : Int) (i22 : Int) (i23 : Int) (i24 : Int) (i25 : Int) {w : World} {R : Ending → World → Prop} (h : (t29 i0 i1 i2 i3 i4 o5 n6 n7 o8 n9 n10 o11 n12 n13 o14 n15 n16 o17 n18 n19 i20 i21 i22 i23 i24 i25).sem Tryz.prog R ρ0 w) : Calls Tryz.prog 29 #[.agg #[.int .i64 i0, .int .i64 i1, .int .i64 i2, .int .i64 i3, .int .i64 i4, .slice o5 n6 n7, .slice o8 n9 n10, .slice o11 n12 n13, .slice o14 n15 n16, .slice o17 n18 n19, .int .i64 i20, .int .i64 i21, .int .i64 i22, .int .u8 i23, .int .i64 i24, .int .i64 i25]] w R :=
  calls_of mixed Tryz.func29 rfl rfl (e29 i0 i1 i2 i3 i4 o5 n6 n7 o8 n9 n10 o11 n12 n13 o14 n15 n16 o17 n18 n19 i20 i21 i22 i23 i24 i25) h
end Go.Proofs.YtihipcofjpnfbaaGreatDoor
