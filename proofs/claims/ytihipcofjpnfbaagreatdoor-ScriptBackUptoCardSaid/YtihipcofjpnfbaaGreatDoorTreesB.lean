/- The functions' trees, printed by a program (wip/tools/Emit.lean) and checked by the kernel against the model's own code. -/
import Derived.Test.YtihipcofjpnfbaaGreatDoorTreesA
import Derived.Test.YtihipcofjpnfbaaGreatDoorProg
namespace Go.Proofs.YtihipcofjpnfbaaGreatDoor
open Go hiding Expr
open Go.Proofs.YtihipcofjpnfbaaGreatDoor.Tr
set_option linter.unusedVariables false
set_option maxRecDepth 100000
def t37  : T :=
  T.new
  (Obj.cells
    (Array.mk
    [Value.string (ByteArray.mk (Array.mk [])), Value.slice none 0 0, Value.string (ByteArray.mk (Array.mk [])), Value.slice none 0 0,
    Value.string (ByteArray.mk (Array.mk [])), Value.slice none 0 0, Value.string (ByteArray.mk (Array.mk [])), Value.slice none 0 0,
    Value.string (ByteArray.mk (Array.mk [])), Value.slice none 0 0, Value.string (ByteArray.mk (Array.mk [])), Value.slice none 0 0,
    Value.string (ByteArray.mk (Array.mk [])), Value.slice none 0 0, Value.string (ByteArray.mk (Array.mk [])), Value.slice none 0 0,
    Value.string (ByteArray.mk (Array.mk [])), Value.slice none 0 0, Value.string (ByteArray.mk (Array.mk [])), Value.slice none 0 0,
    Value.string (ByteArray.mk (Array.mk [])), Value.slice none 0 0, Value.string (ByteArray.mk (Array.mk [])), Value.slice none 0 0,
    Value.string (ByteArray.mk (Array.mk [])), Value.slice none 0 0, Value.string (ByteArray.mk (Array.mk [])), Value.slice none 0 0,
    Value.string (ByteArray.mk (Array.mk [])), Value.slice none 0 0, Value.string (ByteArray.mk (Array.mk [])), Value.slice none 0 0,
    Value.string (ByteArray.mk (Array.mk [])), Value.slice none 0 0, Value.string (ByteArray.mk (Array.mk [])), Value.slice none 0 0,
    Value.string (ByteArray.mk (Array.mk [])), Value.slice none 0 0, Value.string (ByteArray.mk (Array.mk [])), Value.slice none 0 0,
    Value.string (ByteArray.mk (Array.mk [])), Value.slice none 0 0])
    90)
  fun n0 =>
  T.new (Obj.cells (Array.mk [Value.int IntKind.i64 0]) 3) fun n1 =>
    T.new (Obj.cells (Array.mk [Value.int IntKind.i64 1, Value.int IntKind.i64 0, Value.int IntKind.i64 2]) 3) fun n2 =>
    T.new (Obj.cells (Array.mk [Value.int IntKind.i64 1]) 3) fun n3 =>
    T.new (Obj.cells (Array.mk [Value.int IntKind.i64 1, Value.int IntKind.i64 0, Value.int IntKind.i64 3]) 3) fun n4 =>
    T.new (Obj.cells (Array.mk [Value.int IntKind.i64 0, Value.int IntKind.i64 8]) 3) fun n5 =>
    T.new (Obj.cells (Array.mk [Value.int IntKind.i64 0]) 3) fun n6 =>
    T.new (Obj.cells (Array.mk [Value.int IntKind.i64 4]) 3) fun n7 =>
    T.new (Obj.cells (Array.mk [Value.int IntKind.i64 4]) 3) fun n8 =>
    T.new (Obj.cells (Array.mk [Value.int IntKind.i64 4]) 3) fun n9 =>
    T.new (Obj.cells (Array.mk [Value.int IntKind.i64 4, Value.int IntKind.i64 5, Value.int IntKind.i64 6]) 3) fun n10 =>
    T.new (Obj.cells (Array.mk [Value.int IntKind.i64 0]) 3) fun n11 =>
    T.new (Obj.cells (Array.mk [Value.int IntKind.i64 0, Value.int IntKind.i64 8, Value.int IntKind.i64 7]) 3) fun n12 =>
    T.new (Obj.cells (Array.mk [Value.int IntKind.i64 0]) 3) fun n13 =>
    T.new (Obj.cells (Array.mk [Value.int IntKind.i64 1]) 3) fun n14 =>
    T.new (Obj.cells (Array.mk [Value.int IntKind.i64 1]) 3) fun n15 =>
    T.new (Obj.cells (Array.mk [Value.int IntKind.i64 4]) 3) fun n16 =>
    T.new (Obj.cells (Array.mk [Value.int IntKind.i64 4]) 3) fun n17 =>
    T.new (Obj.cells (Array.mk [Value.int IntKind.i64 4]) 3) fun n18 =>
    T.st n0 0 (Value.string (ByteArray.mk (Array.mk [])))
    (T.st n0 1 (Value.slice none 0 0)
    (T.st n0 2
    (Value.string (ByteArray.mk (Array.mk [OfNat.ofNat 116, OfNat.ofNat 105, OfNat.ofNat 99, OfNat.ofNat 107])))
    (T.st n0 3 (Value.slice (some (Addr.mk n1 0 none)) 1 1)
    (T.st n0 4
    (Value.string
    (ByteArray.mk
    (Array.mk
    [OfNat.ofNat 115, OfNat.ofNat 117, OfNat.ofNat 98, OfNat.ofNat 109, OfNat.ofNat 105, OfNat.ofNat 116])))
    (T.st n0 5 (Value.slice (some (Addr.mk n2 0 none)) 3 3)
    (T.st n0 6
    (Value.string
    (ByteArray.mk
    (Array.mk [OfNat.ofNat 114, OfNat.ofNat 101, OfNat.ofNat 116, OfNat.ofNat 114, OfNat.ofNat 121])))
    (T.st n0 7 (Value.slice (some (Addr.mk n3 0 none)) 1 1)
    (T.st n0 8
    (Value.string
    (ByteArray.mk
    (Array.mk [OfNat.ofNat 113, OfNat.ofNat 117, OfNat.ofNat 101, OfNat.ofNat 114, OfNat.ofNat 121])))
    (T.st n0 9 (Value.slice (some (Addr.mk n4 0 none)) 3 3)
    (T.st n0 10
    (Value.string
    (ByteArray.mk (Array.mk [OfNat.ofNat 119, OfNat.ofNat 111, OfNat.ofNat 114, OfNat.ofNat 107])))
    (T.st n0 11 (Value.slice (some (Addr.mk n5 0 none)) 2 2)
    (T.st n0 12
    (Value.string
    (ByteArray.mk
    (Array.mk
    [OfNat.ofNat 100, OfNat.ofNat 114, OfNat.ofNat 97, OfNat.ofNat 105, OfNat.ofNat 110])))
    (T.st n0 13 (Value.slice (some (Addr.mk n6 0 none)) 1 1)
    (T.st n0 14
    (Value.string
    (ByteArray.mk
    (Array.mk
    [OfNat.ofNat 100, OfNat.ofNat 101, OfNat.ofNat 108, OfNat.ofNat 105, OfNat.ofNat 118,
    OfNat.ofNat 101, OfNat.ofNat 114])))
    (T.st n0 15 (Value.slice (some (Addr.mk n7 0 none)) 1 1)
    (T.st n0 16
    (Value.string
    (ByteArray.mk
    (Array.mk [OfNat.ofNat 100, OfNat.ofNat 114, OfNat.ofNat 111, OfNat.ofNat 112])))
    (T.st n0 17 (Value.slice (some (Addr.mk n8 0 none)) 1 1)
    (T.st n0 18
    (Value.string
    (ByteArray.mk
    (Array.mk
    [OfNat.ofNat 100, OfNat.ofNat 111, OfNat.ofNat 117, OfNat.ofNat 98,
    OfNat.ofNat 108, OfNat.ofNat 101])))
    (T.st n0 19 (Value.slice (some (Addr.mk n9 0 none)) 1 1)
    (T.st n0 20
    (Value.string
    (ByteArray.mk
    (Array.mk
    [OfNat.ofNat 115, OfNat.ofNat 112, OfNat.ofNat 111, OfNat.ofNat 105,
    OfNat.ofNat 108])))
    (T.st n0 21 (Value.slice (some (Addr.mk n10 0 none)) 3 3)
    (T.st n0 22
    (Value.string
    (ByteArray.mk
    (Array.mk
    [OfNat.ofNat 99, OfNat.ofNat 114, OfNat.ofNat 97, OfNat.ofNat 115,
    OfNat.ofNat 104])))
    (T.st n0 23 (Value.slice (some (Addr.mk n11 0 none)) 1 1)
    (T.st n0 24
    (Value.string
    (ByteArray.mk
    (Array.mk
    [OfNat.ofNat 102, OfNat.ofNat 117, OfNat.ofNat 115,
    OfNat.ofNat 101])))
    (T.st n0 25 (Value.slice (some (Addr.mk n12 0 none)) 3 3)
    (T.st n0 26
    (Value.string
    (ByteArray.mk
    (Array.mk
    [OfNat.ofNat 114, OfNat.ofNat 101, OfNat.ofNat 115,
    OfNat.ofNat 116, OfNat.ofNat 97, OfNat.ofNat 114,
    OfNat.ofNat 116])))
    (T.st n0 27 (Value.slice (some (Addr.mk n13 0 none)) 1 1)
    (T.st n0 28
    (Value.string
    (ByteArray.mk
    (Array.mk
    [OfNat.ofNat 97, OfNat.ofNat 108, OfNat.ofNat 108])))
    (T.st n0 29 (Value.slice none 0 0)
    (T.st n0 30
    (Value.string
    (ByteArray.mk
    (Array.mk
    [OfNat.ofNat 97, OfNat.ofNat 114, OfNat.ofNat 114,
    OfNat.ofNat 105, OfNat.ofNat 118,
    OfNat.ofNat 101])))
    (T.st n0 31 (Value.slice none 0 0)
    (T.st n0 32
    (Value.string
    (ByteArray.mk
    (Array.mk
    [OfNat.ofNat 100, OfNat.ofNat 101, OfNat.ofNat 97,
    OfNat.ofNat 102])))
    (T.st n0 33
    (Value.slice (some (Addr.mk n14 0 none)) 1 1)
    (T.st n0 34
    (Value.string
    (ByteArray.mk
    (Array.mk
    [OfNat.ofNat 104, OfNat.ofNat 101,
    OfNat.ofNat 97, OfNat.ofNat 114])))
    (T.st n0 35
    (Value.slice (some (Addr.mk n15 0 none)) 1 1)
    (T.st n0 36
    (Value.string
    (ByteArray.mk
    (Array.mk
    [OfNat.ofNat 116, OfNat.ofNat 117,
    OfNat.ofNat 114, OfNat.ofNat 110])))
    (T.st n0 37
    (Value.slice (some (Addr.mk n16 0 none)) 1 1)
    (T.st n0 38
    (Value.string
    (ByteArray.mk
    (Array.mk
    [OfNat.ofNat 99, OfNat.ofNat 117,
    OfNat.ofNat 116])))
    (T.st n0 39
    (Value.slice (some (Addr.mk n17 0 none)) 1
    1)
    (T.st n0 40
    (Value.string
    (ByteArray.mk
    (Array.mk
    [OfNat.ofNat 106, OfNat.ofNat 111,
    OfNat.ofNat 105,
    OfNat.ofNat 110])))
    (T.st n0 41
    (Value.slice
    (some (Addr.mk n18 0 none)) 1 1)
    (T.ldT n0 0 fun s19 =>
    T.ldS n0 1 fun o20 n21 n22 =>
    T.ldT n0 2 fun s23 =>
    T.ldS n0 3 fun o24 n25 n26 =>
    T.ldT n0 4 fun s27 =>
    T.ldS n0 5
    fun o28 n29 n30 =>
    T.ldT n0 6 fun s31 =>
    T.ldS n0 7
    fun o32 n33 n34 =>
    T.ldT n0 8 fun s35 =>
    T.ldS n0 9
    fun o36 n37 n38 =>
    T.ldT n0 10
    fun s39 =>
    T.ldS n0 11
    fun o40 n41
    n42 =>
    T.ldT n0 12
    fun s43 =>
    T.ldS n0 13
    fun o44
    n45
    n46 =>
    T.ldT n0
    14
    fun
    s47 =>
    T.ldS n0
    15
    fun
    o48
    n49
    n50 =>
    T.ldT
    n0
    16
    fun
    s51 =>
    T.ldS
    n0
    17
    fun
    o52
    n53
    n54 =>
    T.ldT
    n0
    18
    fun
    s55 =>
    T.ldS
    n0
    19
    fun
    o56
    n57
    n58 =>
    T.ldT
    n0
    20
    fun
    s59 =>
    T.ldS
    n0
    21
    fun
    o60
    n61
    n62 =>
    T.ldT
    n0
    22
    fun
    s63 =>
    T.ldS
    n0
    23
    fun
    o64
    n65
    n66 =>
    T.ldT
    n0
    24
    fun
    s67 =>
    T.ldS
    n0
    25
    fun
    o68
    n69
    n70 =>
    T.ldT
    n0
    26
    fun
    s71 =>
    T.ldS
    n0
    27
    fun
    o72
    n73
    n74 =>
    T.ldT
    n0
    28
    fun
    s75 =>
    T.ldS
    n0
    29
    fun
    o76
    n77
    n78 =>
    T.ldT
    n0
    30
    fun
    s79 =>
    T.ldS
    n0
    31
    fun
    o80
    n81
    n82 =>
    T.ldT
    n0
    32
    fun
    s83 =>
    T.ldS
    n0
    33
    fun
    o84
    n85
    n86 =>
    T.ldT
    n0
    34
    fun
    s87 =>
    T.ldS
    n0
    35
    fun
    o88
    n89
    n90 =>
    T.ldT
    n0
    36
    fun
    s91 =>
    T.ldS
    n0
    37
    fun
    o92
    n93
    n94 =>
    T.ldT
    n0
    38
    fun
    s95 =>
    T.ldS
    n0
    39
    fun
    o96
    n97
    n98 =>
    T.ldT
    n0
    40
    fun
    s99 =>
    T.ldS
    n0
    41
    fun
    o100
    n101
    n102 =>
    T.ret
    (Value.agg
    (Array.mk
    [Value.string
    s19,
    Value.slice
    o20
    n21
    n22,
    Value.string
    s23,
    Value.slice
    o24
    n25
    n26,
    Value.string
    s27,
    Value.slice
    o28
    n29
    n30,
    Value.string
    s31,
    Value.slice
    o32
    n33
    n34,
    Value.string
    s35,
    Value.slice
    o36
    n37
    n38,
    Value.string
    s39,
    Value.slice
    o40
    n41
    n42,
    Value.string
    s43,
    Value.slice
    o44
    n45
    n46,
    Value.string
    s47,
    Value.slice
    o48
    n49
    n50,
    Value.string
    s51,
    Value.slice
    o52
    n53
    n54,
    Value.string
    s55,
    Value.slice
    o56
    n57
    n58,
    Value.string
    s59,
    Value.slice
    o60
    n61
    n62,
    Value.string
    s63,
    Value.slice
    o64
    n65
    n66,
    Value.string
    s67,
    Value.slice
    o68
    n69
    n70,
    Value.string
    s71,
    Value.slice
    o72
    n73
    n74,
    Value.string
    s75,
    Value.slice
    o76
    n77
    n78,
    Value.string
    s79,
    Value.slice
    o80
    n81
    n82,
    Value.string
    s83,
    Value.slice
    o84
    n85
    n86,
    Value.string
    s87,
    Value.slice
    o88
    n89
    n90,
    Value.string
    s91,
    Value.slice
    o92
    n93
    n94,
    Value.string
    s95,
    Value.slice
    o96
    n97
    n98,
    Value.string
    s99,
    Value.slice
    o100
    n101
    n102]))))))))))))))))))))))))))))))))))))))))))))
theorem e37  : treeOf Tryz.prog Tryz.f37 (codeOf Tryz.f37) .n [] = t37 := by kernel_rfl
theorem c37  {w : World} {R : Ending → World → Prop} (h : t37.sem Tryz.prog R ρ0 w) : Calls Tryz.prog 37 #[] w R :=
  calls_of mixed Tryz.func37 rfl rfl (e37 ) h
def t52 (n0 n1 : Nat) (i2 : Int) : T :=
  T.ldI IntKind.i64 n0 n1 fun i3 =>
  T.ldI IntKind.i64 n0 (n1 + 1) fun i4 =>
    T.ldI IntKind.i64 n0 (n1 + 2) fun i5 =>
    T.ldI IntKind.i64 n0 (n1 + 3) fun i6 =>
    T.ldI IntKind.i64 n0 (n1 + 4) fun i7 =>
    T.ldS n0 (n1 + 5) fun o8 n9 n10 =>
    T.ldS n0 (n1 + 6) fun o11 n12 n13 =>
    T.ldS n0 (n1 + 7) fun o14 n15 n16 =>
    T.ldS n0 (n1 + 8) fun o17 n18 n19 =>
    T.ldS n0 (n1 + 9) fun o20 n21 n22 =>
    T.ldI IntKind.i64 n0 (n1 + 10) fun i23 =>
    T.ldI IntKind.i64 n0 (n1 + 11) fun i24 =>
    T.ldI IntKind.i64 n0 (n1 + 12) fun i25 =>
    T.ldI IntKind.u8 n0 (n1 + 13) fun i26 =>
    T.ldI IntKind.i64 n0 (n1 + 14) fun i27 =>
    T.ldI IntKind.i64 n0 (n1 + 15) fun i28 =>
    T.new
    (Obj.cells
    (Array.mk
    [Value.int IntKind.i64 0, Value.int IntKind.i64 0, Value.int IntKind.i64 0, Value.int IntKind.i64 0,
    Value.int IntKind.i64 0, Value.slice none 0 0, Value.slice none 0 0, Value.slice none 0 0, Value.slice none 0 0,
    Value.slice none 0 0, Value.int IntKind.i64 0, Value.int IntKind.i64 0, Value.int IntKind.i64 0, Value.int IntKind.u8 0,
    Value.int IntKind.i64 0, Value.int IntKind.i64 0])
    56)
    fun n29 =>
    T.st n29 0 (Value.int IntKind.i64 i3)
    (T.st n29 1 (Value.int IntKind.i64 i4)
    (T.st n29 2 (Value.int IntKind.i64 i5)
    (T.st n29 3 (Value.int IntKind.i64 i6)
    (T.st n29 4 (Value.int IntKind.i64 i7)
    (T.st n29 5 (Value.slice o8 n9 n10)
    (T.st n29 6 (Value.slice o11 n12 n13)
    (T.st n29 7 (Value.slice o14 n15 n16)
    (T.st n29 8 (Value.slice o17 n18 n19)
    (T.st n29 9 (Value.slice o20 n21 n22)
    (T.st n29 10 (Value.int IntKind.i64 i23)
    (T.st n29 11 (Value.int IntKind.i64 i24)
    (T.st n29 12 (Value.int IntKind.i64 i25)
    (T.st n29 13 (Value.int IntKind.u8 i26)
    (T.st n29 14 (Value.int IntKind.i64 i27)
    (T.st n29 15 (Value.int IntKind.i64 i28)
    (T.ite (i2 == 0)
    (T.st n0 (n1 + 1) (Value.int IntKind.i64 0)
    (T.ldI IntKind.i64 n29 1 fun i30 =>
    T.call 24 [Value.int IntKind.i64 i30] fun v31 =>
    T.asT v31 fun s32 =>
    T.ret (Value.tuple (Array.mk [Value.string s32, Value.int IntKind.i64 0]))))
    (T.ite (i2 == 1)
    (T.st n0 (n1 + 2) (Value.int IntKind.i64 0)
    (T.ldI IntKind.i64 n29 2 fun i33 =>
    T.call 24 [Value.int IntKind.i64 i33] fun v34 =>
    T.asT v34 fun s35 =>
    T.ret (Value.tuple (Array.mk [Value.string s35, Value.int IntKind.i64 0]))))
    (T.ite (i2 == 2)
    (T.st n0 (n1 + 3) (Value.int IntKind.i64 0)
    (T.st n0 (n1 + 4) (Value.int IntKind.i64 0)
    (T.st n0 (n1 + 5) (Value.slice none 0 0)
    (T.st n0 (n1 + 6) (Value.slice none 0 0)
    (T.st n0 (n1 + 7) (Value.slice none 0 0)
    (T.st n0 (n1 + 8) (Value.slice none 0 0)
    (T.ldI IntKind.i64 n29 3 fun i36 =>
    T.ldI IntKind.i64 n29 4 fun i37 =>
    T.ldS n29 5 fun o38 n39 n40 =>
    T.ldS n29 6 fun o41 n42 n43 =>
    T.ldS n29 7 fun o44 n45 n46 =>
    T.ldS n29 8 fun o47 n48 n49 =>
    T.call 80
    [Value.agg
    (Array.mk
    [Value.int IntKind.i64 i36, Value.int IntKind.i64 i37,
    Value.slice o38 n39 n40, Value.slice o41 n42 n43,
    Value.slice o44 n45 n46, Value.slice o47 n48 n49])]
    fun v50 =>
    T.asU v50 fun l51 =>
    T.req (List.length l51 = 2)
    (T.asT (List.headD l51 (Value.tuple (Array.mk [])))
    fun s52 =>
    T.asI IntKind.i64
    (List.headD (List.tail l51)
    (Value.tuple (Array.mk [])))
    fun i53 =>
    T.ret
    (Value.tuple
    (Array.mk
    [Value.string s52,
    Value.int IntKind.i64 i53]))))))))))
    (T.ite (i2 == 3)
    (T.st n0 (n1 + 9) (Value.slice none 0 0)
    (T.ldS n29 9 fun o54 n55 n56 =>
    T.call 81 [Value.slice o54 n55 n56] fun v57 =>
    T.asT v57 fun s58 =>
    T.ret (Value.tuple (Array.mk [Value.string s58, Value.int IntKind.i64 0]))))
    (T.ite (i2 == 4)
    (T.st n0 (n1 + 10) (Value.int IntKind.i64 0)
    (T.st n0 (n1 + 11) (Value.int IntKind.i64 0)
    (T.drew
    (T.ldI IntKind.i64 n29 10 fun i59 =>
    T.ldI IntKind.i64 n29 11 fun i60 =>
    T.call 24 [Value.int IntKind.i64 i59] fun v61 =>
    T.asT v61 fun s62 =>
    T.chk [(Addr.mk n29 11 none, Value.int IntKind.i64 i60)]
    (T.call 24 [Value.int IntKind.i64 i60] fun v63 =>
    T.asT v63 fun s64 =>
    T.chk []
    (T.new
    (Obj.cells (Array.mk [Value.string s62, Value.string s64])
    9)
    fun n65 =>
    T.chk []
    (T.call 23 [Value.slice (some (Addr.mk n65 0 none)) 2 2]
    fun v66 =>
    T.asT v66 fun s67 =>
    T.chk []
    (T.ret
    (Value.tuple
    (Array.mk
    [Value.string s67,
    Value.int IntKind.i64 0]))))))))))
    (T.ite (i2 == 5)
    (T.st n0 (n1 + 12) (Value.int IntKind.i64 0)
    (T.ldI IntKind.i64 n29 12 fun i68 =>
    T.call 24 [Value.int IntKind.i64 i68] fun v69 =>
    T.asT v69 fun s70 =>
    T.ret
    (Value.tuple (Array.mk [Value.string s70, Value.int IntKind.i64 0]))))
    (T.ite (i2 == 6)
    (T.st n0 (n1 + 13) (Value.int IntKind.u8 0)
    (T.ldI IntKind.u8 n29 13 fun i71 =>
    T.call 24 [Value.int IntKind.i64 (IntKind.wrap IntKind.i64 i71)] fun v72 =>
    T.asT v72 fun s73 =>
    T.ret
    (Value.tuple (Array.mk [Value.string s73, Value.int IntKind.i64 0]))))
    (T.ite (i2 == 7)
    (T.st n0 (n1 + 14) (Value.int IntKind.i64 0)
    (T.ldI IntKind.i64 n29 14 fun i74 =>
    T.call 24 [Value.int IntKind.i64 i74] fun v75 =>
    T.asT v75 fun s76 =>
    T.ret
    (Value.tuple
    (Array.mk [Value.string s76, Value.int IntKind.i64 0]))))
    (T.st n0 (n1 + 15) (Value.int IntKind.i64 0)
    (T.ldI IntKind.i64 n29 15 fun i77 =>
    T.call 24 [Value.int IntKind.i64 i77] fun v78 =>
    T.asT v78 fun s79 =>
    T.ret
    (Value.tuple
    (Array.mk
    [Value.string s79,
    Value.int IntKind.i64 0])))))))))))))))))))))))))))
theorem e52 (n0 n1 : Nat) (i2 : Int) : treeOf Tryz.prog Tryz.f52 (codeOf Tryz.f52) (.s .n (.s .n (.s (.s .n (.u (.s .n (.s .n (.s .n (.s .n (.s .n (.s .n (.s .n (.s .n (.s .n (.s (.s .n (.s (.p [0, 1, 2, 4, 5, 6, 3, 7, 8, 9, 10, 11]) .n)) .n)))))))))))) .n))) [.p n0 n1, .v (.int .i64 i2)] = (t52 n0 n1 i2) := by kernel_rfl
theorem c52 (n0 n1 : Nat) (i2 : Int) {w : World} {R : Ending → World → Prop} (h : (t52 n0 n1 i2).sem Tryz.prog R ρ0 w) : Calls Tryz.prog 52 #[.pointer (some ⟨n0, n1, none⟩), .int .i64 i2] w R :=
  calls_of mixed Tryz.func52 rfl rfl (e52 n0 n1 i2) h
end Go.Proofs.YtihipcofjpnfbaaGreatDoor
