/- The functions' trees, printed by a program (wip/tools/Emit.lean) and checked by the kernel against the model's own code. -/
import Derived.Test.YtihipcofjpnfbaaGreatDoorTreesA
import Derived.Test.YtihipcofjpnfbaaGreatDoorProg
namespace Go.Proofs.YtihipcofjpnfbaaGreatDoor
open Go hiding Expr
open Go.Proofs.YtihipcofjpnfbaaGreatDoor.Tr
set_option linter.unusedVariables false
set_option maxRecDepth 100000
def t26 (i0 : Int) (i1 : Int) (i2 : Int) (i3 : Int) (i4 : Int) (o5 : Option Addr) (n6 n7 : Nat) (o8 : Option Addr) (n9 n10 : Nat) (o11 : Option Addr) (n12 n13 : Nat) (o14 : Option Addr) (n15 n16 : Nat) (o17 : Option Addr) (n18 n19 : Nat) (i20 : Int) (i21 : Int) (i22 : Int) (i23 : Int) (i24 : Int) (i25 : Int) : T :=
  T.new
  (Obj.cells
    (Array.mk
    [Value.int IntKind.i64 i0, Value.int IntKind.i64 i1, Value.int IntKind.i64 i2, Value.int IntKind.i64 i3, Value.int IntKind.i64 i4, Value.slice o5 n6 n7,
    Value.slice o8 n9 n10, Value.slice o11 n12 n13, Value.slice o14 n15 n16, Value.slice o17 n18 n19, Value.int IntKind.i64 i20, Value.int IntKind.i64 i21,
    Value.int IntKind.i64 i22, Value.int IntKind.u8 i23, Value.int IntKind.i64 i24, Value.int IntKind.i64 i25])
    56)
  fun n26 =>
  T.blk 0
    (fun l27 j28 =>
    T.drew
    (T.ldI IntKind.i64 n26 0 fun i29 =>
    T.both
    (T.call 37 [] fun v30 =>
    T.asA v30 fun l31 =>
    T.req (List.length l31 = 42)
    (T.asT (List.headD l31 (Value.tuple (Array.mk []))) fun s32 =>
    T.asS (List.headD (List.tail l31) (Value.tuple (Array.mk []))) fun o33 n34 n35 =>
    T.asT (List.headD (List.tail (List.tail l31)) (Value.tuple (Array.mk []))) fun s36 =>
    T.asS (List.headD (List.tail (List.tail (List.tail l31))) (Value.tuple (Array.mk []))) fun o37 n38 n39 =>
    T.asT (List.headD (List.tail (List.tail (List.tail (List.tail l31)))) (Value.tuple (Array.mk []))) fun s40 =>
    T.asS (List.headD (List.tail (List.tail (List.tail (List.tail (List.tail l31))))) (Value.tuple (Array.mk []))) fun o41 n42 n43 =>
    T.asT (List.headD (List.tail (List.tail (List.tail (List.tail (List.tail (List.tail l31)))))) (Value.tuple (Array.mk [])))
    fun s44 =>
    T.asS
    (List.headD (List.tail (List.tail (List.tail (List.tail (List.tail (List.tail (List.tail l31)))))))
    (Value.tuple (Array.mk [])))
    fun o45 n46 n47 =>
    T.asT
    (List.headD (List.tail (List.tail (List.tail (List.tail (List.tail (List.tail (List.tail (List.tail l31))))))))
    (Value.tuple (Array.mk [])))
    fun s48 =>
    T.asS
    (List.headD
    (List.tail (List.tail (List.tail (List.tail (List.tail (List.tail (List.tail (List.tail (List.tail l31)))))))))
    (Value.tuple (Array.mk [])))
    fun o49 n50 n51 =>
    T.asT
    (List.headD
    (List.tail
    (List.tail (List.tail (List.tail (List.tail (List.tail (List.tail (List.tail (List.tail (List.tail l31))))))))))
    (Value.tuple (Array.mk [])))
    fun s52 =>
    T.asS
    (List.headD
    (List.tail
    (List.tail
    (List.tail
    (List.tail (List.tail (List.tail (List.tail (List.tail (List.tail (List.tail (List.tail l31)))))))))))
    (Value.tuple (Array.mk [])))
    fun o53 n54 n55 =>
    T.asT
    (List.headD
    (List.tail
    (List.tail
    (List.tail
    (List.tail
    (List.tail (List.tail (List.tail (List.tail (List.tail (List.tail (List.tail (List.tail l31))))))))))))
    (Value.tuple (Array.mk [])))
    fun s56 =>
    T.asS
    (List.headD
    (List.tail
    (List.tail
    (List.tail
    (List.tail
    (List.tail
    (List.tail
    (List.tail (List.tail (List.tail (List.tail (List.tail (List.tail (List.tail l31)))))))))))))
    (Value.tuple (Array.mk [])))
    fun o57 n58 n59 =>
    T.asT
    (List.headD
    (List.tail
    (List.tail
    (List.tail
    (List.tail
    (List.tail
    (List.tail
    (List.tail
    (List.tail (List.tail (List.tail (List.tail (List.tail (List.tail (List.tail l31))))))))))))))
    (Value.tuple (Array.mk [])))
    fun s60 =>
    T.asS
    (List.headD
    (List.tail
    (List.tail
    (List.tail
    (List.tail
    (List.tail
    (List.tail
    (List.tail
    (List.tail
    (List.tail
    (List.tail (List.tail (List.tail (List.tail (List.tail (List.tail l31)))))))))))))))
    (Value.tuple (Array.mk [])))
    fun o61 n62 n63 =>
    T.asT
    (List.headD
    (List.tail
    (List.tail
    (List.tail
    (List.tail
    (List.tail
    (List.tail
    (List.tail
    (List.tail
    (List.tail
    (List.tail
    (List.tail (List.tail (List.tail (List.tail (List.tail (List.tail l31))))))))))))))))
    (Value.tuple (Array.mk [])))
    fun s64 =>
    T.asS
    (List.headD
    (List.tail
    (List.tail
    (List.tail
    (List.tail
    (List.tail
    (List.tail
    (List.tail
    (List.tail
    (List.tail
    (List.tail
    (List.tail
    (List.tail
    (List.tail (List.tail (List.tail (List.tail (List.tail l31)))))))))))))))))
    (Value.tuple (Array.mk [])))
    fun o65 n66 n67 =>
    T.asT
    (List.headD
    (List.tail
    (List.tail
    (List.tail
    (List.tail
    (List.tail
    (List.tail
    (List.tail
    (List.tail
    (List.tail
    (List.tail
    (List.tail
    (List.tail
    (List.tail
    (List.tail (List.tail (List.tail (List.tail (List.tail l31))))))))))))))))))
    (Value.tuple (Array.mk [])))
    fun s68 =>
    T.asS
    (List.headD
    (List.tail
    (List.tail
    (List.tail
    (List.tail
    (List.tail
    (List.tail
    (List.tail
    (List.tail
    (List.tail
    (List.tail
    (List.tail
    (List.tail
    (List.tail
    (List.tail
    (List.tail
    (List.tail (List.tail (List.tail (List.tail l31)))))))))))))))))))
    (Value.tuple (Array.mk [])))
    fun o69 n70 n71 =>
    T.asT
    (List.headD
    (List.tail
    (List.tail
    (List.tail
    (List.tail
    (List.tail
    (List.tail
    (List.tail
    (List.tail
    (List.tail
    (List.tail
    (List.tail
    (List.tail
    (List.tail
    (List.tail
    (List.tail
    (List.tail
    (List.tail
    (List.tail (List.tail (List.tail l31))))))))))))))))))))
    (Value.tuple (Array.mk [])))
    fun s72 =>
    T.asS
    (List.headD
    (List.tail
    (List.tail
    (List.tail
    (List.tail
    (List.tail
    (List.tail
    (List.tail
    (List.tail
    (List.tail
    (List.tail
    (List.tail
    (List.tail
    (List.tail
    (List.tail
    (List.tail
    (List.tail
    (List.tail
    (List.tail
    (List.tail (List.tail (List.tail l31)))))))))))))))))))))
    (Value.tuple (Array.mk [])))
    fun o73 n74 n75 =>
    T.asT
    (List.headD
    (List.tail
    (List.tail
    (List.tail
    (List.tail
    (List.tail
    (List.tail
    (List.tail
    (List.tail
    (List.tail
    (List.tail
    (List.tail
    (List.tail
    (List.tail
    (List.tail
    (List.tail
    (List.tail
    (List.tail
    (List.tail
    (List.tail
    (List.tail
    (List.tail (List.tail l31))))))))))))))))))))))
    (Value.tuple (Array.mk [])))
    fun s76 =>
    T.asS
    (List.headD
    (List.tail
    (List.tail
    (List.tail
    (List.tail
    (List.tail
    (List.tail
    (List.tail
    (List.tail
    (List.tail
    (List.tail
    (List.tail
    (List.tail
    (List.tail
    (List.tail
    (List.tail
    (List.tail
    (List.tail
    (List.tail
    (List.tail
    (List.tail
    (List.tail
    (List.tail (List.tail l31)))))))))))))))))))))))
    (Value.tuple (Array.mk [])))
    fun o77 n78 n79 =>
    T.asT
    (List.headD
    (List.tail
    (List.tail
    (List.tail
    (List.tail
    (List.tail
    (List.tail
    (List.tail
    (List.tail
    (List.tail
    (List.tail
    (List.tail
    (List.tail
    (List.tail
    (List.tail
    (List.tail
    (List.tail
    (List.tail
    (List.tail
    (List.tail
    (List.tail
    (List.tail
    (List.tail
    (List.tail
    (List.tail l31))))))))))))))))))))))))
    (Value.tuple (Array.mk [])))
    fun s80 =>
    T.asS
    (List.headD
    (List.tail
    (List.tail
    (List.tail
    (List.tail
    (List.tail
    (List.tail
    (List.tail
    (List.tail
    (List.tail
    (List.tail
    (List.tail
    (List.tail
    (List.tail
    (List.tail
    (List.tail
    (List.tail
    (List.tail
    (List.tail
    (List.tail
    (List.tail
    (List.tail
    (List.tail
    (List.tail
    (List.tail
    (List.tail l31)))))))))))))))))))))))))
    (Value.tuple (Array.mk [])))
    fun o81 n82 n83 =>
    T.asT
    (List.headD
    (List.tail
    (List.tail
    (List.tail
    (List.tail
    (List.tail
    (List.tail
    (List.tail
    (List.tail
    (List.tail
    (List.tail
    (List.tail
    (List.tail
    (List.tail
    (List.tail
    (List.tail
    (List.tail
    (List.tail
    (List.tail
    (List.tail
    (List.tail
    (List.tail
    (List.tail
    (List.tail
    (List.tail
    (List.tail
    (List.tail
    l31))))))))))))))))))))))))))
    (Value.tuple (Array.mk [])))
    fun s84 =>
    T.asS
    (List.headD
    (List.tail
    (List.tail
    (List.tail
    (List.tail
    (List.tail
    (List.tail
    (List.tail
    (List.tail
    (List.tail
    (List.tail
    (List.tail
    (List.tail
    (List.tail
    (List.tail
    (List.tail
    (List.tail
    (List.tail
    (List.tail
    (List.tail
    (List.tail
    (List.tail
    (List.tail
    (List.tail
    (List.tail
    (List.tail
    (List.tail
    (List.tail
    l31)))))))))))))))))))))))))))
    (Value.tuple (Array.mk [])))
    fun o85 n86 n87 =>
    T.asT
    (List.headD
    (List.tail
    (List.tail
    (List.tail
    (List.tail
    (List.tail
    (List.tail
    (List.tail
    (List.tail
    (List.tail
    (List.tail
    (List.tail
    (List.tail
    (List.tail
    (List.tail
    (List.tail
    (List.tail
    (List.tail
    (List.tail
    (List.tail
    (List.tail
    (List.tail
    (List.tail
    (List.tail
    (List.tail
    (List.tail
    (List.tail
    (List.tail
    (List.tail
    l31))))))))))))))))))))))))))))
    (Value.tuple (Array.mk [])))
    fun s88 =>
    T.asS
    (List.headD
    (List.tail
    (List.tail
    (List.tail
    (List.tail
    (List.tail
    (List.tail
    (List.tail
    (List.tail
    (List.tail
    (List.tail
    (List.tail
    (List.tail
    (List.tail
    (List.tail
    (List.tail
    (List.tail
    (List.tail
    (List.tail
    (List.tail
    (List.tail
    (List.tail
    (List.tail
    (List.tail
    (List.tail
    (List.tail
    (List.tail
    (List.tail
    (List.tail
    (List.tail
    l31)))))))))))))))))))))))))))))
    (Value.tuple (Array.mk [])))
    fun o89 n90 n91 =>
    T.asT
    (List.headD
    (List.tail
    (List.tail
    (List.tail
    (List.tail
    (List.tail
    (List.tail
    (List.tail
    (List.tail
    (List.tail
    (List.tail
    (List.tail
    (List.tail
    (List.tail
    (List.tail
    (List.tail
    (List.tail
    (List.tail
    (List.tail
    (List.tail
    (List.tail
    (List.tail
    (List.tail
    (List.tail
    (List.tail
    (List.tail
    (List.tail
    (List.tail
    (List.tail
    (List.tail
    (List.tail
    l31))))))))))))))))))))))))))))))
    (Value.tuple (Array.mk [])))
    fun s92 =>
    T.asS
    (List.headD
    (List.tail
    (List.tail
    (List.tail
    (List.tail
    (List.tail
    (List.tail
    (List.tail
    (List.tail
    (List.tail
    (List.tail
    (List.tail
    (List.tail
    (List.tail
    (List.tail
    (List.tail
    (List.tail
    (List.tail
    (List.tail
    (List.tail
    (List.tail
    (List.tail
    (List.tail
    (List.tail
    (List.tail
    (List.tail
    (List.tail
    (List.tail
    (List.tail
    (List.tail
    (List.tail
    (List.tail
    l31)))))))))))))))))))))))))))))))
    (Value.tuple (Array.mk [])))
    fun o93 n94 n95 =>
    T.asT
    (List.headD
    (List.tail
    (List.tail
    (List.tail
    (List.tail
    (List.tail
    (List.tail
    (List.tail
    (List.tail
    (List.tail
    (List.tail
    (List.tail
    (List.tail
    (List.tail
    (List.tail
    (List.tail
    (List.tail
    (List.tail
    (List.tail
    (List.tail
    (List.tail
    (List.tail
    (List.tail
    (List.tail
    (List.tail
    (List.tail
    (List.tail
    (List.tail
    (List.tail
    (List.tail
    (List.tail
    (List.tail
    (List.tail
    l31))))))))))))))))))))))))))))))))
    (Value.tuple (Array.mk [])))
    fun s96 =>
    T.asS
    (List.headD
    (List.tail
    (List.tail
    (List.tail
    (List.tail
    (List.tail
    (List.tail
    (List.tail
    (List.tail
    (List.tail
    (List.tail
    (List.tail
    (List.tail
    (List.tail
    (List.tail
    (List.tail
    (List.tail
    (List.tail
    (List.tail
    (List.tail
    (List.tail
    (List.tail
    (List.tail
    (List.tail
    (List.tail
    (List.tail
    (List.tail
    (List.tail
    (List.tail
    (List.tail
    (List.tail
    (List.tail
    (List.tail
    (List.tail
    l31)))))))))))))))))))))))))))))))))
    (Value.tuple (Array.mk [])))
    fun o97 n98 n99 =>
    T.asT
    (List.headD
    (List.tail
    (List.tail
    (List.tail
    (List.tail
    (List.tail
    (List.tail
    (List.tail
    (List.tail
    (List.tail
    (List.tail
    (List.tail
    (List.tail
    (List.tail
    (List.tail
    (List.tail
    (List.tail
    (List.tail
    (List.tail
    (List.tail
    (List.tail
    (List.tail
    (List.tail
    (List.tail
    (List.tail
    (List.tail
    (List.tail
    (List.tail
    (List.tail
    (List.tail
    (List.tail
    (List.tail
    (List.tail
    (List.tail
    (List.tail
    l31))))))))))))))))))))))))))))))))))
    (Value.tuple (Array.mk [])))
    fun s100 =>
    T.asS
    (List.headD
    (List.tail
    (List.tail
    (List.tail
    (List.tail
    (List.tail
    (List.tail
    (List.tail
    (List.tail
    (List.tail
    (List.tail
    (List.tail
    (List.tail
    (List.tail
    (List.tail
    (List.tail
    (List.tail
    (List.tail
    (List.tail
    (List.tail
    (List.tail
    (List.tail
    (List.tail
    (List.tail
    (List.tail
    (List.tail
    (List.tail
    (List.tail
    (List.tail
    (List.tail
    (List.tail
    (List.tail
    (List.tail
    (List.tail
    (List.tail
    (List.tail
    l31)))))))))))))))))))))))))))))))))))
    (Value.tuple (Array.mk [])))
    fun o101 n102 n103 =>
    T.asT
    (List.headD
    (List.tail
    (List.tail
    (List.tail
    (List.tail
    (List.tail
    (List.tail
    (List.tail
    (List.tail
    (List.tail
    (List.tail
    (List.tail
    (List.tail
    (List.tail
    (List.tail
    (List.tail
    (List.tail
    (List.tail
    (List.tail
    (List.tail
    (List.tail
    (List.tail
    (List.tail
    (List.tail
    (List.tail
    (List.tail
    (List.tail
    (List.tail
    (List.tail
    (List.tail
    (List.tail
    (List.tail
    (List.tail
    (List.tail
    (List.tail
    (List.tail
    (List.tail
    l31))))))))))))))))))))))))))))))))))))
    (Value.tuple (Array.mk [])))
    fun s104 =>
    T.asS
    (List.headD
    (List.tail
    (List.tail
    (List.tail
    (List.tail
    (List.tail
    (List.tail
    (List.tail
    (List.tail
    (List.tail
    (List.tail
    (List.tail
    (List.tail
    (List.tail
    (List.tail
    (List.tail
    (List.tail
    (List.tail
    (List.tail
    (List.tail
    (List.tail
    (List.tail
    (List.tail
    (List.tail
    (List.tail
    (List.tail
    (List.tail
    (List.tail
    (List.tail
    (List.tail
    (List.tail
    (List.tail
    (List.tail
    (List.tail
    (List.tail
    (List.tail
    (List.tail
    (List.tail
    l31)))))))))))))))))))))))))))))))))))))
    (Value.tuple (Array.mk [])))
    fun o105 n106 n107 =>
    T.asT
    (List.headD
    (List.tail
    (List.tail
    (List.tail
    (List.tail
    (List.tail
    (List.tail
    (List.tail
    (List.tail
    (List.tail
    (List.tail
    (List.tail
    (List.tail
    (List.tail
    (List.tail
    (List.tail
    (List.tail
    (List.tail
    (List.tail
    (List.tail
    (List.tail
    (List.tail
    (List.tail
    (List.tail
    (List.tail
    (List.tail
    (List.tail
    (List.tail
    (List.tail
    (List.tail
    (List.tail
    (List.tail
    (List.tail
    (List.tail
    (List.tail
    (List.tail
    (List.tail
    (List.tail
    (List.tail
    l31))))))))))))))))))))))))))))))))))))))
    (Value.tuple (Array.mk [])))
    fun s108 =>
    T.asS
    (List.headD
    (List.tail
    (List.tail
    (List.tail
    (List.tail
    (List.tail
    (List.tail
    (List.tail
    (List.tail
    (List.tail
    (List.tail
    (List.tail
    (List.tail
    (List.tail
    (List.tail
    (List.tail
    (List.tail
    (List.tail
    (List.tail
    (List.tail
    (List.tail
    (List.tail
    (List.tail
    (List.tail
    (List.tail
    (List.tail
    (List.tail
    (List.tail
    (List.tail
    (List.tail
    (List.tail
    (List.tail
    (List.tail
    (List.tail
    (List.tail
    (List.tail
    (List.tail
    (List.tail
    (List.tail
    (List.tail
    l31)))))))))))))))))))))))))))))))))))))))
    (Value.tuple (Array.mk [])))
    fun o109 n110 n111 =>
    T.asT
    (List.headD
    (List.tail
    (List.tail
    (List.tail
    (List.tail
    (List.tail
    (List.tail
    (List.tail
    (List.tail
    (List.tail
    (List.tail
    (List.tail
    (List.tail
    (List.tail
    (List.tail
    (List.tail
    (List.tail
    (List.tail
    (List.tail
    (List.tail
    (List.tail
    (List.tail
    (List.tail
    (List.tail
    (List.tail
    (List.tail
    (List.tail
    (List.tail
    (List.tail
    (List.tail
    (List.tail
    (List.tail
    (List.tail
    (List.tail
    (List.tail
    (List.tail
    (List.tail
    (List.tail
    (List.tail
    (List.tail
    (List.tail
    l31))))))))))))))))))))))))))))))))))))))))
    (Value.tuple (Array.mk [])))
    fun s112 =>
    T.asS
    (List.headD
    (List.tail
    (List.tail
    (List.tail
    (List.tail
    (List.tail
    (List.tail
    (List.tail
    (List.tail
    (List.tail
    (List.tail
    (List.tail
    (List.tail
    (List.tail
    (List.tail
    (List.tail
    (List.tail
    (List.tail
    (List.tail
    (List.tail
    (List.tail
    (List.tail
    (List.tail
    (List.tail
    (List.tail
    (List.tail
    (List.tail
    (List.tail
    (List.tail
    (List.tail
    (List.tail
    (List.tail
    (List.tail
    (List.tail
    (List.tail
    (List.tail
    (List.tail
    (List.tail
    (List.tail
    (List.tail
    (List.tail
    (List.tail
    l31)))))))))))))))))))))))))))))))))))))))))
    (Value.tuple (Array.mk [])))
    fun o113 n114 n115 =>
    T.chk [(Addr.mk n26 0 none, Value.int IntKind.i64 i29)]
    (T.req (0 ≤ i29 ∧ i29 < 21)
    (T.asA
    (Value.agg
    (Array.extract
    (Array.mk
    [Value.string s32, Value.slice o33 n34 n35,
    Value.string s36, Value.slice o37 n38 n39,
    Value.string s40, Value.slice o41 n42 n43,
    Value.string s44, Value.slice o45 n46 n47,
    Value.string s48, Value.slice o49 n50 n51,
    Value.string s52, Value.slice o53 n54 n55,
    Value.string s56, Value.slice o57 n58 n59,
    Value.string s60, Value.slice o61 n62 n63,
    Value.string s64, Value.slice o65 n66 n67,
    Value.string s68, Value.slice o69 n70 n71,
    Value.string s72, Value.slice o73 n74 n75,
    Value.string s76, Value.slice o77 n78 n79,
    Value.string s80, Value.slice o81 n82 n83,
    Value.string s84, Value.slice o85 n86 n87,
    Value.string s88, Value.slice o89 n90 n91,
    Value.string s92, Value.slice o93 n94 n95,
    Value.string s96, Value.slice o97 n98 n99,
    Value.string s100,
    Value.slice o101 n102 n103,
    Value.string s104,
    Value.slice o105 n106 n107,
    Value.string s108,
    Value.slice o109 n110 n111,
    Value.string s112,
    Value.slice o113 n114 n115])
    (Int.toNat i29 * 2) (Int.toNat i29 * 2 + 2)))
    fun l116 =>
    T.req (List.length l116 = 2)
    (T.asT
    (List.headD l116 (Value.tuple (Array.mk [])))
    fun s117 =>
    T.asS
    (List.headD (List.tail l116)
    (Value.tuple (Array.mk [])))
    fun o118 n119 n120 =>
    T.new
    (Obj.cells
    (Array.mk
    [Value.string
    (ByteArray.mk (Array.mk [])),
    Value.slice none 0 0])
    89)
    fun n121 =>
    T.chk
    [(Addr.mk n26 0 none,
    Value.int IntKind.i64 i29)]
    (T.st n121 0 (Value.string s117)
    (T.st n121 1
    (Value.slice o118 n119 n120)
    (T.chk []
    (T.ldT n121 0 fun s122 =>
    T.new
    (Obj.cells
    (Array.mk [Value.string s122])
    9)
    fun n123 =>
    T.ldS n121 1
    fun o124 n125 n126 =>
    T.loop 0
    [Value.slice
    (some
    (Addr.mk n123 0 none))
    1 1,
    Value.int IntKind.i64 0]
    fun l127 j128 =>
    T.asS
    (List.headD l127
    (Value.tuple
    (Array.mk [])))
    fun o129 n130 n131 =>
    T.asI IntKind.i64
    (List.headD
    (List.tail l127)
    (Value.tuple
    (Array.mk [])))
    fun i132 =>
    T.ite
    (decide
    (i132 <
    (↑n125 : Int)))
    (T.req
    (0 ≤ i132 ∧
    i132 <
    (↑n125 : Int))
    (T.sm o124
    fun n133 n134 =>
    T.ldI IntKind.i64
    n133
    (n134 +
    Int.toNat
    i132 *
    1)
    fun i135 =>
    T.call 52
    [Value.pointer
    (some
    (Addr.mk
    n26 0
    none)),
    Value.int
    IntKind.i64
    i135]
    fun v136 =>
    T.asU v136
    fun l137 =>
    T.req
    (List.length
    l137 =
    2)
    (T.asT
    (List.headD
    l137
    (Value.tuple
    (Array.mk
    [])))
    fun
    s138 =>
    T.asI
    IntKind.i64
    (List.headD
    (List.tail
    l137)
    (Value.tuple
    (Array.mk
    [])))
    fun
    i139 =>
    T.ite
    (i139 !=
    0)
    (T.ret
    (Value.tuple
    (Array.mk
    [Value.string
    (ByteArray.mk
    (Array.mk
    [])),
    Value.int
    IntKind.i64
    i139])))
    (T.new
    (Obj.cells
    (Array.mk
    [Value.string
    s138])
    9)
    fun
    n140 =>
    T.run
    (biV
    Builtin.append
    (Array.mk
    [45,
    45])
    45
    (Array.mk
    [Value.slice
    o129
    n130
    n131,
    Value.slice
    (some
    (Addr.mk
    n140
    0
    none))
    1
    1]))
    fun
    v141 =>
    T.asS
    v141
    fun
    o142
    n143
    n144 =>
    T.next
    0
    [Value.slice
    o142
    n143
    n144,
    Value.int
    IntKind.i64
    (IntKind.wrap
    IntKind.i64
    (i132 +
    1))]
    ([Value.pointer
    (some
    (Addr.mk
    n26
    0
    none)),
    Value.slice
    o124
    n125
    n126,
    Value.int
    IntKind.i64
    (↑n125 :
    Int)] =
    [Value.pointer
    (some
    (Addr.mk
    n26
    0
    none)),
    Value.slice
    o124
    n125
    n126,
    Value.int
    IntKind.i64
    (↑n125 :
    Int)] ∧ ([] : List Deferred) = [])))))
    (T.ldI IntKind.i64 n26
    0 fun i145 =>
    T.ldI IntKind.i64
    n26 1 fun i146 =>
    T.ldI IntKind.i64
    n26 2
    fun i147 =>
    T.ldI
    IntKind.i64
    n26 3
    fun i148 =>
    T.ldI
    IntKind.i64
    n26 4
    fun i149 =>
    T.ldS n26 5
    fun o150
    n151
    n152 =>
    T.ldS n26
    6
    fun o153
    n154
    n155 =>
    T.ldS
    n26 7
    fun
    o156
    n157
    n158 =>
    T.ldS
    n26
    8
    fun
    o159
    n160
    n161 =>
    T.ldS
    n26
    9
    fun
    o162
    n163
    n164 =>
    T.ldI
    IntKind.i64
    n26
    10
    fun
    i165 =>
    T.ldI
    IntKind.i64
    n26
    11
    fun
    i166 =>
    T.ldI
    IntKind.i64
    n26
    12
    fun
    i167 =>
    T.ldI
    IntKind.u8
    n26
    13
    fun
    i168 =>
    T.ldI
    IntKind.i64
    n26
    14
    fun
    i169 =>
    T.ldI
    IntKind.i64
    n26
    15
    fun
    i170 =>
    T.call
    53
    [Value.agg
    (Array.mk
    [Value.int
    IntKind.i64
    i145,
    Value.int
    IntKind.i64
    i146,
    Value.int
    IntKind.i64
    i147,
    Value.int
    IntKind.i64
    i148,
    Value.int
    IntKind.i64
    i149,
    Value.slice
    o150
    n151
    n152,
    Value.slice
    o153
    n154
    n155,
    Value.slice
    o156
    n157
    n158,
    Value.slice
    o159
    n160
    n161,
    Value.slice
    o162
    n163
    n164,
    Value.int
    IntKind.i64
    i165,
    Value.int
    IntKind.i64
    i166,
    Value.int
    IntKind.i64
    i167,
    Value.int
    IntKind.u8
    i168,
    Value.int
    IntKind.i64
    i169,
    Value.int
    IntKind.i64
    i170])]
    fun
    v171 =>
    T.asB
    v171
    fun
    b172 =>
    T.ite
    (!b172)
    (T.ret
    (Value.tuple
    (Array.mk
    [Value.string
    (ByteArray.mk
    (Array.mk
    [])),
    Value.int
    IntKind.i64
    1])))
    (T.call
    23
    [Value.slice
    o129
    n130
    n131]
    fun
    v173 =>
    T.asT
    v173
    fun
    s174 =>
    T.ret
    (Value.tuple
    (Array.mk
    [Value.string
    s174,
    Value.int
    IntKind.i64
    0])))))))))))))
    (T.new (Obj.cells (Array.mk [Value.string (ByteArray.mk (Array.mk [])), Value.slice none 0 0]) 89) fun n175 =>
    T.chk [(Addr.mk n26 0 none, Value.int IntKind.i64 i29)]
    (T.call 37 [] fun v176 =>
    T.asA v176 fun l177 =>
    T.req (List.length l177 = 42)
    (T.asT (List.headD l177 (Value.tuple (Array.mk []))) fun s178 =>
    T.asS (List.headD (List.tail l177) (Value.tuple (Array.mk []))) fun o179 n180 n181 =>
    T.asT (List.headD (List.tail (List.tail l177)) (Value.tuple (Array.mk []))) fun s182 =>
    T.asS (List.headD (List.tail (List.tail (List.tail l177))) (Value.tuple (Array.mk []))) fun o183 n184 n185 =>
    T.asT (List.headD (List.tail (List.tail (List.tail (List.tail l177)))) (Value.tuple (Array.mk []))) fun s186 =>
    T.asS (List.headD (List.tail (List.tail (List.tail (List.tail (List.tail l177))))) (Value.tuple (Array.mk [])))
    fun o187 n188 n189 =>
    T.asT (List.headD (List.tail (List.tail (List.tail (List.tail (List.tail (List.tail l177)))))) (Value.tuple (Array.mk [])))
    fun s190 =>
    T.asS
    (List.headD (List.tail (List.tail (List.tail (List.tail (List.tail (List.tail (List.tail l177)))))))
    (Value.tuple (Array.mk [])))
    fun o191 n192 n193 =>
    T.asT
    (List.headD (List.tail (List.tail (List.tail (List.tail (List.tail (List.tail (List.tail (List.tail l177))))))))
    (Value.tuple (Array.mk [])))
    fun s194 =>
    T.asS
    (List.headD
    (List.tail (List.tail (List.tail (List.tail (List.tail (List.tail (List.tail (List.tail (List.tail l177)))))))))
    (Value.tuple (Array.mk [])))
    fun o195 n196 n197 =>
    T.asT
    (List.headD
    (List.tail
    (List.tail
    (List.tail (List.tail (List.tail (List.tail (List.tail (List.tail (List.tail (List.tail l177))))))))))
    (Value.tuple (Array.mk [])))
    fun s198 =>
    T.asS
    (List.headD
    (List.tail
    (List.tail
    (List.tail
    (List.tail (List.tail (List.tail (List.tail (List.tail (List.tail (List.tail (List.tail l177)))))))))))
    (Value.tuple (Array.mk [])))
    fun o199 n200 n201 =>
    T.asT
    (List.headD
    (List.tail
    (List.tail
    (List.tail
    (List.tail
    (List.tail
    (List.tail (List.tail (List.tail (List.tail (List.tail (List.tail (List.tail l177))))))))))))
    (Value.tuple (Array.mk [])))
    fun s202 =>
    T.asS
    (List.headD
    (List.tail
    (List.tail
    (List.tail
    (List.tail
    (List.tail
    (List.tail
    (List.tail (List.tail (List.tail (List.tail (List.tail (List.tail (List.tail l177)))))))))))))
    (Value.tuple (Array.mk [])))
    fun o203 n204 n205 =>
    T.asT
    (List.headD
    (List.tail
    (List.tail
    (List.tail
    (List.tail
    (List.tail
    (List.tail
    (List.tail
    (List.tail
    (List.tail (List.tail (List.tail (List.tail (List.tail (List.tail l177))))))))))))))
    (Value.tuple (Array.mk [])))
    fun s206 =>
    T.asS
    (List.headD
    (List.tail
    (List.tail
    (List.tail
    (List.tail
    (List.tail
    (List.tail
    (List.tail
    (List.tail
    (List.tail
    (List.tail (List.tail (List.tail (List.tail (List.tail (List.tail l177)))))))))))))))
    (Value.tuple (Array.mk [])))
    fun o207 n208 n209 =>
    T.asT
    (List.headD
    (List.tail
    (List.tail
    (List.tail
    (List.tail
    (List.tail
    (List.tail
    (List.tail
    (List.tail
    (List.tail
    (List.tail
    (List.tail
    (List.tail (List.tail (List.tail (List.tail (List.tail l177))))))))))))))))
    (Value.tuple (Array.mk [])))
    fun s210 =>
    T.asS
    (List.headD
    (List.tail
    (List.tail
    (List.tail
    (List.tail
    (List.tail
    (List.tail
    (List.tail
    (List.tail
    (List.tail
    (List.tail
    (List.tail
    (List.tail
    (List.tail (List.tail (List.tail (List.tail (List.tail l177)))))))))))))))))
    (Value.tuple (Array.mk [])))
    fun o211 n212 n213 =>
    T.asT
    (List.headD
    (List.tail
    (List.tail
    (List.tail
    (List.tail
    (List.tail
    (List.tail
    (List.tail
    (List.tail
    (List.tail
    (List.tail
    (List.tail
    (List.tail
    (List.tail
    (List.tail
    (List.tail (List.tail (List.tail (List.tail l177))))))))))))))))))
    (Value.tuple (Array.mk [])))
    fun s214 =>
    T.asS
    (List.headD
    (List.tail
    (List.tail
    (List.tail
    (List.tail
    (List.tail
    (List.tail
    (List.tail
    (List.tail
    (List.tail
    (List.tail
    (List.tail
    (List.tail
    (List.tail
    (List.tail
    (List.tail
    (List.tail
    (List.tail (List.tail (List.tail l177)))))))))))))))))))
    (Value.tuple (Array.mk [])))
    fun o215 n216 n217 =>
    T.asT
    (List.headD
    (List.tail
    (List.tail
    (List.tail
    (List.tail
    (List.tail
    (List.tail
    (List.tail
    (List.tail
    (List.tail
    (List.tail
    (List.tail
    (List.tail
    (List.tail
    (List.tail
    (List.tail
    (List.tail
    (List.tail
    (List.tail (List.tail (List.tail l177))))))))))))))))))))
    (Value.tuple (Array.mk [])))
    fun s218 =>
    T.asS
    (List.headD
    (List.tail
    (List.tail
    (List.tail
    (List.tail
    (List.tail
    (List.tail
    (List.tail
    (List.tail
    (List.tail
    (List.tail
    (List.tail
    (List.tail
    (List.tail
    (List.tail
    (List.tail
    (List.tail
    (List.tail
    (List.tail
    (List.tail
    (List.tail (List.tail l177)))))))))))))))))))))
    (Value.tuple (Array.mk [])))
    fun o219 n220 n221 =>
    T.asT
    (List.headD
    (List.tail
    (List.tail
    (List.tail
    (List.tail
    (List.tail
    (List.tail
    (List.tail
    (List.tail
    (List.tail
    (List.tail
    (List.tail
    (List.tail
    (List.tail
    (List.tail
    (List.tail
    (List.tail
    (List.tail
    (List.tail
    (List.tail
    (List.tail
    (List.tail (List.tail l177))))))))))))))))))))))
    (Value.tuple (Array.mk [])))
    fun s222 =>
    T.asS
    (List.headD
    (List.tail
    (List.tail
    (List.tail
    (List.tail
    (List.tail
    (List.tail
    (List.tail
    (List.tail
    (List.tail
    (List.tail
    (List.tail
    (List.tail
    (List.tail
    (List.tail
    (List.tail
    (List.tail
    (List.tail
    (List.tail
    (List.tail
    (List.tail
    (List.tail
    (List.tail
    (List.tail l177)))))))))))))))))))))))
    (Value.tuple (Array.mk [])))
    fun o223 n224 n225 =>
    T.asT
    (List.headD
    (List.tail
    (List.tail
    (List.tail
    (List.tail
    (List.tail
    (List.tail
    (List.tail
    (List.tail
    (List.tail
    (List.tail
    (List.tail
    (List.tail
    (List.tail
    (List.tail
    (List.tail
    (List.tail
    (List.tail
    (List.tail
    (List.tail
    (List.tail
    (List.tail
    (List.tail
    (List.tail
    (List.tail l177))))))))))))))))))))))))
    (Value.tuple (Array.mk [])))
    fun s226 =>
    T.asS
    (List.headD
    (List.tail
    (List.tail
    (List.tail
    (List.tail
    (List.tail
    (List.tail
    (List.tail
    (List.tail
    (List.tail
    (List.tail
    (List.tail
    (List.tail
    (List.tail
    (List.tail
    (List.tail
    (List.tail
    (List.tail
    (List.tail
    (List.tail
    (List.tail
    (List.tail
    (List.tail
    (List.tail
    (List.tail
    (List.tail
    l177)))))))))))))))))))))))))
    (Value.tuple (Array.mk [])))
    fun o227 n228 n229 =>
    T.asT
    (List.headD
    (List.tail
    (List.tail
    (List.tail
    (List.tail
    (List.tail
    (List.tail
    (List.tail
    (List.tail
    (List.tail
    (List.tail
    (List.tail
    (List.tail
    (List.tail
    (List.tail
    (List.tail
    (List.tail
    (List.tail
    (List.tail
    (List.tail
    (List.tail
    (List.tail
    (List.tail
    (List.tail
    (List.tail
    (List.tail
    (List.tail
    l177))))))))))))))))))))))))))
    (Value.tuple (Array.mk [])))
    fun s230 =>
    T.asS
    (List.headD
    (List.tail
    (List.tail
    (List.tail
    (List.tail
    (List.tail
    (List.tail
    (List.tail
    (List.tail
    (List.tail
    (List.tail
    (List.tail
    (List.tail
    (List.tail
    (List.tail
    (List.tail
    (List.tail
    (List.tail
    (List.tail
    (List.tail
    (List.tail
    (List.tail
    (List.tail
    (List.tail
    (List.tail
    (List.tail
    (List.tail
    (List.tail
    l177)))))))))))))))))))))))))))
    (Value.tuple (Array.mk [])))
    fun o231 n232 n233 =>
    T.asT
    (List.headD
    (List.tail
    (List.tail
    (List.tail
    (List.tail
    (List.tail
    (List.tail
    (List.tail
    (List.tail
    (List.tail
    (List.tail
    (List.tail
    (List.tail
    (List.tail
    (List.tail
    (List.tail
    (List.tail
    (List.tail
    (List.tail
    (List.tail
    (List.tail
    (List.tail
    (List.tail
    (List.tail
    (List.tail
    (List.tail
    (List.tail
    (List.tail
    (List.tail
    l177))))))))))))))))))))))))))))
    (Value.tuple (Array.mk [])))
    fun s234 =>
    T.asS
    (List.headD
    (List.tail
    (List.tail
    (List.tail
    (List.tail
    (List.tail
    (List.tail
    (List.tail
    (List.tail
    (List.tail
    (List.tail
    (List.tail
    (List.tail
    (List.tail
    (List.tail
    (List.tail
    (List.tail
    (List.tail
    (List.tail
    (List.tail
    (List.tail
    (List.tail
    (List.tail
    (List.tail
    (List.tail
    (List.tail
    (List.tail
    (List.tail
    (List.tail
    (List.tail
    l177)))))))))))))))))))))))))))))
    (Value.tuple (Array.mk [])))
    fun o235 n236 n237 =>
    T.asT
    (List.headD
    (List.tail
    (List.tail
    (List.tail
    (List.tail
    (List.tail
    (List.tail
    (List.tail
    (List.tail
    (List.tail
    (List.tail
    (List.tail
    (List.tail
    (List.tail
    (List.tail
    (List.tail
    (List.tail
    (List.tail
    (List.tail
    (List.tail
    (List.tail
    (List.tail
    (List.tail
    (List.tail
    (List.tail
    (List.tail
    (List.tail
    (List.tail
    (List.tail
    (List.tail
    (List.tail
    l177))))))))))))))))))))))))))))))
    (Value.tuple (Array.mk [])))
    fun s238 =>
    T.asS
    (List.headD
    (List.tail
    (List.tail
    (List.tail
    (List.tail
    (List.tail
    (List.tail
    (List.tail
    (List.tail
    (List.tail
    (List.tail
    (List.tail
    (List.tail
    (List.tail
    (List.tail
    (List.tail
    (List.tail
    (List.tail
    (List.tail
    (List.tail
    (List.tail
    (List.tail
    (List.tail
    (List.tail
    (List.tail
    (List.tail
    (List.tail
    (List.tail
    (List.tail
    (List.tail
    (List.tail
    (List.tail
    l177)))))))))))))))))))))))))))))))
    (Value.tuple (Array.mk [])))
    fun o239 n240 n241 =>
    T.asT
    (List.headD
    (List.tail
    (List.tail
    (List.tail
    (List.tail
    (List.tail
    (List.tail
    (List.tail
    (List.tail
    (List.tail
    (List.tail
    (List.tail
    (List.tail
    (List.tail
    (List.tail
    (List.tail
    (List.tail
    (List.tail
    (List.tail
    (List.tail
    (List.tail
    (List.tail
    (List.tail
    (List.tail
    (List.tail
    (List.tail
    (List.tail
    (List.tail
    (List.tail
    (List.tail
    (List.tail
    (List.tail
    (List.tail
    l177))))))))))))))))))))))))))))))))
    (Value.tuple (Array.mk [])))
    fun s242 =>
    T.asS
    (List.headD
    (List.tail
    (List.tail
    (List.tail
    (List.tail
    (List.tail
    (List.tail
    (List.tail
    (List.tail
    (List.tail
    (List.tail
    (List.tail
    (List.tail
    (List.tail
    (List.tail
    (List.tail
    (List.tail
    (List.tail
    (List.tail
    (List.tail
    (List.tail
    (List.tail
    (List.tail
    (List.tail
    (List.tail
    (List.tail
    (List.tail
    (List.tail
    (List.tail
    (List.tail
    (List.tail
    (List.tail
    (List.tail
    (List.tail
    l177)))))))))))))))))))))))))))))))))
    (Value.tuple (Array.mk [])))
    fun o243 n244 n245 =>
    T.asT
    (List.headD
    (List.tail
    (List.tail
    (List.tail
    (List.tail
    (List.tail
    (List.tail
    (List.tail
    (List.tail
    (List.tail
    (List.tail
    (List.tail
    (List.tail
    (List.tail
    (List.tail
    (List.tail
    (List.tail
    (List.tail
    (List.tail
    (List.tail
    (List.tail
    (List.tail
    (List.tail
    (List.tail
    (List.tail
    (List.tail
    (List.tail
    (List.tail
    (List.tail
    (List.tail
    (List.tail
    (List.tail
    (List.tail
    (List.tail
    (List.tail
    l177))))))))))))))))))))))))))))))))))
    (Value.tuple (Array.mk [])))
    fun s246 =>
    T.asS
    (List.headD
    (List.tail
    (List.tail
    (List.tail
    (List.tail
    (List.tail
    (List.tail
    (List.tail
    (List.tail
    (List.tail
    (List.tail
    (List.tail
    (List.tail
    (List.tail
    (List.tail
    (List.tail
    (List.tail
    (List.tail
    (List.tail
    (List.tail
    (List.tail
    (List.tail
    (List.tail
    (List.tail
    (List.tail
    (List.tail
    (List.tail
    (List.tail
    (List.tail
    (List.tail
    (List.tail
    (List.tail
    (List.tail
    (List.tail
    (List.tail
    (List.tail
    l177)))))))))))))))))))))))))))))))))))
    (Value.tuple (Array.mk [])))
    fun o247 n248 n249 =>
    T.asT
    (List.headD
    (List.tail
    (List.tail
    (List.tail
    (List.tail
    (List.tail
    (List.tail
    (List.tail
    (List.tail
    (List.tail
    (List.tail
    (List.tail
    (List.tail
    (List.tail
    (List.tail
    (List.tail
    (List.tail
    (List.tail
    (List.tail
    (List.tail
    (List.tail
    (List.tail
    (List.tail
    (List.tail
    (List.tail
    (List.tail
    (List.tail
    (List.tail
    (List.tail
    (List.tail
    (List.tail
    (List.tail
    (List.tail
    (List.tail
    (List.tail
    (List.tail
    (List.tail
    l177))))))))))))))))))))))))))))))))))))
    (Value.tuple (Array.mk [])))
    fun s250 =>
    T.asS
    (List.headD
    (List.tail
    (List.tail
    (List.tail
    (List.tail
    (List.tail
    (List.tail
    (List.tail
    (List.tail
    (List.tail
    (List.tail
    (List.tail
    (List.tail
    (List.tail
    (List.tail
    (List.tail
    (List.tail
    (List.tail
    (List.tail
    (List.tail
    (List.tail
    (List.tail
    (List.tail
    (List.tail
    (List.tail
    (List.tail
    (List.tail
    (List.tail
    (List.tail
    (List.tail
    (List.tail
    (List.tail
    (List.tail
    (List.tail
    (List.tail
    (List.tail
    (List.tail
    (List.tail
    l177)))))))))))))))))))))))))))))))))))))
    (Value.tuple (Array.mk [])))
    fun o251 n252 n253 =>
    T.asT
    (List.headD
    (List.tail
    (List.tail
    (List.tail
    (List.tail
    (List.tail
    (List.tail
    (List.tail
    (List.tail
    (List.tail
    (List.tail
    (List.tail
    (List.tail
    (List.tail
    (List.tail
    (List.tail
    (List.tail
    (List.tail
    (List.tail
    (List.tail
    (List.tail
    (List.tail
    (List.tail
    (List.tail
    (List.tail
    (List.tail
    (List.tail
    (List.tail
    (List.tail
    (List.tail
    (List.tail
    (List.tail
    (List.tail
    (List.tail
    (List.tail
    (List.tail
    (List.tail
    (List.tail
    (List.tail
    l177))))))))))))))))))))))))))))))))))))))
    (Value.tuple (Array.mk [])))
    fun s254 =>
    T.asS
    (List.headD
    (List.tail
    (List.tail
    (List.tail
    (List.tail
    (List.tail
    (List.tail
    (List.tail
    (List.tail
    (List.tail
    (List.tail
    (List.tail
    (List.tail
    (List.tail
    (List.tail
    (List.tail
    (List.tail
    (List.tail
    (List.tail
    (List.tail
    (List.tail
    (List.tail
    (List.tail
    (List.tail
    (List.tail
    (List.tail
    (List.tail
    (List.tail
    (List.tail
    (List.tail
    (List.tail
    (List.tail
    (List.tail
    (List.tail
    (List.tail
    (List.tail
    (List.tail
    (List.tail
    (List.tail
    (List.tail
    l177)))))))))))))))))))))))))))))))))))))))
    (Value.tuple (Array.mk [])))
    fun o255 n256 n257 =>
    T.asT
    (List.headD
    (List.tail
    (List.tail
    (List.tail
    (List.tail
    (List.tail
    (List.tail
    (List.tail
    (List.tail
    (List.tail
    (List.tail
    (List.tail
    (List.tail
    (List.tail
    (List.tail
    (List.tail
    (List.tail
    (List.tail
    (List.tail
    (List.tail
    (List.tail
    (List.tail
    (List.tail
    (List.tail
    (List.tail
    (List.tail
    (List.tail
    (List.tail
    (List.tail
    (List.tail
    (List.tail
    (List.tail
    (List.tail
    (List.tail
    (List.tail
    (List.tail
    (List.tail
    (List.tail
    (List.tail
    (List.tail
    (List.tail
    l177))))))))))))))))))))))))))))))))))))))))
    (Value.tuple (Array.mk [])))
    fun s258 =>
    T.asS
    (List.headD
    (List.tail
    (List.tail
    (List.tail
    (List.tail
    (List.tail
    (List.tail
    (List.tail
    (List.tail
    (List.tail
    (List.tail
    (List.tail
    (List.tail
    (List.tail
    (List.tail
    (List.tail
    (List.tail
    (List.tail
    (List.tail
    (List.tail
    (List.tail
    (List.tail
    (List.tail
    (List.tail
    (List.tail
    (List.tail
    (List.tail
    (List.tail
    (List.tail
    (List.tail
    (List.tail
    (List.tail
    (List.tail
    (List.tail
    (List.tail
    (List.tail
    (List.tail
    (List.tail
    (List.tail
    (List.tail
    (List.tail
    (List.tail
    l177)))))))))))))))))))))))))))))))))))))))))
    (Value.tuple (Array.mk [])))
    fun o259 n260 n261 =>
    T.chk
    [(Addr.mk n26 0 none, Value.int IntKind.i64 i29)]
    (T.req (0 ≤ i29 ∧ i29 < 21)
    (T.asA
    (Value.agg
    (Array.extract
    (Array.mk
    [Value.string s178,
    Value.slice o179 n180 n181,
    Value.string s182,
    Value.slice o183 n184 n185,
    Value.string s186,
    Value.slice o187 n188 n189,
    Value.string s190,
    Value.slice o191 n192 n193,
    Value.string s194,
    Value.slice o195 n196 n197,
    Value.string s198,
    Value.slice o199 n200 n201,
    Value.string s202,
    Value.slice o203 n204 n205,
    Value.string s206,
    Value.slice o207 n208 n209,
    Value.string s210,
    Value.slice o211 n212 n213,
    Value.string s214,
    Value.slice o215 n216 n217,
    Value.string s218,
    Value.slice o219 n220 n221,
    Value.string s222,
    Value.slice o223 n224 n225,
    Value.string s226,
    Value.slice o227 n228 n229,
    Value.string s230,
    Value.slice o231 n232 n233,
    Value.string s234,
    Value.slice o235 n236 n237,
    Value.string s238,
    Value.slice o239 n240 n241,
    Value.string s242,
    Value.slice o243 n244 n245,
    Value.string s246,
    Value.slice o247 n248 n249,
    Value.string s250,
    Value.slice o251 n252 n253,
    Value.string s254,
    Value.slice o255 n256 n257,
    Value.string s258,
    Value.slice o259 n260 n261])
    (Int.toNat i29 * 2)
    (Int.toNat i29 * 2 + 2)))
    fun l262 =>
    T.req (List.length l262 = 2)
    (T.asT
    (List.headD l262
    (Value.tuple (Array.mk [])))
    fun s263 =>
    T.asS
    (List.headD (List.tail l262)
    (Value.tuple (Array.mk [])))
    fun o264 n265 n266 =>
    T.st n175 0 (Value.string s263)
    (T.st n175 1
    (Value.slice o264 n265 n266)
    (T.chk []
    (T.ldT n175 0 fun s267 =>
    T.new
    (Obj.cells
    (Array.mk [Value.string s267])
    9)
    fun n268 =>
    T.ldS n175 1
    fun o269 n270 n271 =>
    T.loop 0
    [Value.slice
    (some
    (Addr.mk n268 0 none))
    1 1,
    Value.int IntKind.i64 0]
    fun l272 j273 =>
    T.asS
    (List.headD l272
    (Value.tuple
    (Array.mk [])))
    fun o274 n275 n276 =>
    T.asI IntKind.i64
    (List.headD
    (List.tail l272)
    (Value.tuple
    (Array.mk [])))
    fun i277 =>
    T.ite
    (decide
    (i277 <
    (↑n270 : Int)))
    (T.req
    (0 ≤ i277 ∧
    i277 <
    (↑n270 : Int))
    (T.sm o269
    fun n278 n279 =>
    T.ldI IntKind.i64
    n278
    (n279 +
    Int.toNat
    i277 *
    1)
    fun i280 =>
    T.call 52
    [Value.pointer
    (some
    (Addr.mk
    n26 0
    none)),
    Value.int
    IntKind.i64
    i280]
    fun v281 =>
    T.asU v281
    fun l282 =>
    T.req
    (List.length
    l282 =
    2)
    (T.asT
    (List.headD
    l282
    (Value.tuple
    (Array.mk
    [])))
    fun
    s283 =>
    T.asI
    IntKind.i64
    (List.headD
    (List.tail
    l282)
    (Value.tuple
    (Array.mk
    [])))
    fun
    i284 =>
    T.ite
    (i284 !=
    0)
    (T.ret
    (Value.tuple
    (Array.mk
    [Value.string
    (ByteArray.mk
    (Array.mk
    [])),
    Value.int
    IntKind.i64
    i284])))
    (T.new
    (Obj.cells
    (Array.mk
    [Value.string
    s283])
    9)
    fun
    n285 =>
    T.run
    (biV
    Builtin.append
    (Array.mk
    [45,
    45])
    45
    (Array.mk
    [Value.slice
    o274
    n275
    n276,
    Value.slice
    (some
    (Addr.mk
    n285
    0
    none))
    1
    1]))
    fun
    v286 =>
    T.asS
    v286
    fun
    o287
    n288
    n289 =>
    T.next
    0
    [Value.slice
    o287
    n288
    n289,
    Value.int
    IntKind.i64
    (IntKind.wrap
    IntKind.i64
    (i277 +
    1))]
    ([Value.pointer
    (some
    (Addr.mk
    n26
    0
    none)),
    Value.slice
    o269
    n270
    n271,
    Value.int
    IntKind.i64
    (↑n270 :
    Int)] =
    [Value.pointer
    (some
    (Addr.mk
    n26
    0
    none)),
    Value.slice
    o269
    n270
    n271,
    Value.int
    IntKind.i64
    (↑n270 :
    Int)] ∧ ([] : List Deferred) = [])))))
    (T.ldI IntKind.i64 n26
    0 fun i290 =>
    T.ldI IntKind.i64
    n26 1 fun i291 =>
    T.ldI IntKind.i64
    n26 2
    fun i292 =>
    T.ldI
    IntKind.i64
    n26 3
    fun i293 =>
    T.ldI
    IntKind.i64
    n26 4
    fun i294 =>
    T.ldS n26 5
    fun o295
    n296
    n297 =>
    T.ldS n26
    6
    fun o298
    n299
    n300 =>
    T.ldS
    n26 7
    fun
    o301
    n302
    n303 =>
    T.ldS
    n26
    8
    fun
    o304
    n305
    n306 =>
    T.ldS
    n26
    9
    fun
    o307
    n308
    n309 =>
    T.ldI
    IntKind.i64
    n26
    10
    fun
    i310 =>
    T.ldI
    IntKind.i64
    n26
    11
    fun
    i311 =>
    T.ldI
    IntKind.i64
    n26
    12
    fun
    i312 =>
    T.ldI
    IntKind.u8
    n26
    13
    fun
    i313 =>
    T.ldI
    IntKind.i64
    n26
    14
    fun
    i314 =>
    T.ldI
    IntKind.i64
    n26
    15
    fun
    i315 =>
    T.call
    53
    [Value.agg
    (Array.mk
    [Value.int
    IntKind.i64
    i290,
    Value.int
    IntKind.i64
    i291,
    Value.int
    IntKind.i64
    i292,
    Value.int
    IntKind.i64
    i293,
    Value.int
    IntKind.i64
    i294,
    Value.slice
    o295
    n296
    n297,
    Value.slice
    o298
    n299
    n300,
    Value.slice
    o301
    n302
    n303,
    Value.slice
    o304
    n305
    n306,
    Value.slice
    o307
    n308
    n309,
    Value.int
    IntKind.i64
    i310,
    Value.int
    IntKind.i64
    i311,
    Value.int
    IntKind.i64
    i312,
    Value.int
    IntKind.u8
    i313,
    Value.int
    IntKind.i64
    i314,
    Value.int
    IntKind.i64
    i315])]
    fun
    v316 =>
    T.asB
    v316
    fun
    b317 =>
    T.ite
    (!b317)
    (T.ret
    (Value.tuple
    (Array.mk
    [Value.string
    (ByteArray.mk
    (Array.mk
    [])),
    Value.int
    IntKind.i64
    1])))
    (T.call
    23
    [Value.slice
    o274
    n275
    n276]
    fun
    v318 =>
    T.asT
    v318
    fun
    s319 =>
    T.ret
    (Value.tuple
    (Array.mk
    [Value.string
    s319,
    Value.int
    IntKind.i64
    0])))))))))))))))
    (T.ldI IntKind.i64 n26 0 fun i320 =>
    T.ite (decide (i320 < 1)) (T.ret (Value.tuple (Array.mk [Value.string (ByteArray.mk (Array.mk [])), Value.int IntKind.i64 1])))
    (T.ldI IntKind.i64 n26 0 fun i321 =>
    T.ite (decide (i321 > 20)) (T.ret (Value.tuple (Array.mk [Value.string (ByteArray.mk (Array.mk [])), Value.int IntKind.i64 1])))
    (T.next 0 [] ([Value.pointer (some (Addr.mk n26 0 none))] = [Value.pointer (some (Addr.mk n26 0 none))] ∧ ([] : List Deferred) = []))))
theorem e26 (i0 : Int) (i1 : Int) (i2 : Int) (i3 : Int) (i4 : Int) (o5 : Option Addr) (n6 n7 : Nat) (o8 : Option Addr) (n9 n10 : Nat) (o11 : Option Addr) (n12 n13 : Nat) (o14 : Option Addr) (n15 n16 : Nat) (o17 : Option Addr) (n18 n19 : Nat) (i20 : Int) (i21 : Int) (i22 : Int) (i23 : Int) (i24 : Int) (i25 : Int) : treeOf Tryz.prog Tryz.f26 (codeOf Tryz.f26) (.s .n (.c [] [1] .n (.s (.p [1, 2, 0, 3, 4, 5]) (.s .n (.s (.s .n (.u (.l [(5, .slice), (28, .int .i64)] [1, 26, 27] .n))) .n))))) [.v (.agg #[.int .i64 i0, .int .i64 i1, .int .i64 i2, .int .i64 i3, .int .i64 i4, .slice o5 n6 n7, .slice o8 n9 n10, .slice o11 n12 n13, .slice o14 n15 n16, .slice o17 n18 n19, .int .i64 i20, .int .i64 i21, .int .i64 i22, .int .u8 i23, .int .i64 i24, .int .i64 i25])] = (t26 i0 i1 i2 i3 i4 o5 n6 n7 o8 n9 n10 o11 n12 n13 o14 n15 n16 o17 n18 n19 i20 i21 i22 i23 i24 i25) := by kernel_rfl
theorem c26 (i0 : Int) (i1 : Int) (i2 : Int) (i3 : Int) (i4 : Int) (o5 : Option Addr) (n6 n7 : Nat) (o8 : Option Addr) (n9 n10 : Nat) (o11 : Option Addr) (n12 n13 : Nat) (o14 : Option Addr) (n15 n16 : Nat) (o17 : Option Addr) (n18 n19 : Nat) (i20 : Int) (i21 : Int) (i22 : Int) (i23 : Int) (i24 : Int) (i25 : Int) {w : World} {R : Ending → World → Prop} (h : (t26 i0 i1 i2 i3 i4 o5 n6 n7 o8 n9 n10 o11 n12 n13 o14 n15 n16 o17 n18 n19 i20 i21 i22 i23 i24 i25).sem Tryz.prog R ρ0 w) : Calls Tryz.prog 26 #[.agg #[.int .i64 i0, .int .i64 i1, .int .i64 i2, .int .i64 i3, .int .i64 i4, .slice o5 n6 n7, .slice o8 n9 n10, .slice o11 n12 n13, .slice o14 n15 n16, .slice o17 n18 n19, .int .i64 i20, .int .i64 i21, .int .i64 i22, .int .u8 i23, .int .i64 i24, .int .i64 i25]] w R :=
  calls_of mixed Tryz.func26 rfl rfl (e26 i0 i1 i2 i3 i4 o5 n6 n7 o8 n9 n10 o11 n12 n13 o14 n15 n16 o17 n18 n19 i20 i21 i22 i23 i24 i25) h
end Go.Proofs.YtihipcofjpnfbaaGreatDoor
