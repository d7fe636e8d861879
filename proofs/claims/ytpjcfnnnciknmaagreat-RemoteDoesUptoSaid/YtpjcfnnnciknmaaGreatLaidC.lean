/-
  DERIVED: THE SHELF's CONTRACTS AT THIS DUMP, IN PLAIN WORDS (tools/lay-plain.mjs out of 'YtpjcfnnnciknmaaGreatLaidC0.lean', which tools/lay-shelf.mjs wrote): THE SAME DECLARATIONS UNDER THE SAME NAMES: 'import', 'namespace', 'open', 'def', 'theorem' AND NOTHING ELSE: no command of the shelf's: FOR A HAND-IN. Each laying: the table of numbers ('.._ren') and one theorem, a field a fact of the dump's own or the kernel's comparison; each contract: ONE APPLICATION.
-/
import Derived.Shelf.SlMaps.Clone
import Derived.Test.YtpjcfnnnciknmaaGreatProg
namespace Go.Proofs
open Go.Shelf
def YtpjcfnnnciknmaaGreat.cloneN_ren : Go.Shelf.Ren := ⟨fun | 5 => 43 | 7 => 60 | n => n, fun | 23 => 41 | 25 => 32 | 3 => 33 | 4 => 4 | 20 => 20 | n => n, fun | n => n⟩
theorem YtpjcfnnnciknmaaGreat.cloneN : Go.Proofs.SlLaysW.n5 Tryz.prog YtpjcfnnnciknmaaGreat.cloneN_ren := {
  mixed := by kernel_rfl
  f5 := ⟨Tryz.f43.name, by decide, Tryz.func43.trans (congrArg some (by kernel_rfl))⟩
  f7 := Tryz.func60.trans (congrArg some (by kernel_rfl))
  t4 := Tryz.underlying4
  a4 := Tryz.isAgg4
  z4 := Tryz.sizeOf4
  v4 := Tryz.zeroValue4
  t20 := Tryz.underlying20
  a20 := Tryz.isAgg20
  z20 := Tryz.sizeOf20
  v20 := Tryz.zeroValue20
  t23 := Tryz.underlying41
  a23 := Tryz.isAgg41
  z23 := Tryz.sizeOf41
  v23 := Tryz.zeroValue41 }
def YtpjcfnnnciknmaaGreat.cloneC_ren : Go.Shelf.Ren := ⟨fun | 5 => 44 | 7 => 60 | n => n, fun | 23 => 42 | 25 => 72 | 3 => 34 | 4 => 4 | 20 => 20 | n => n, fun | n => n⟩
theorem YtpjcfnnnciknmaaGreat.cloneC : Go.Proofs.SlLaysW.n5 Tryz.prog YtpjcfnnnciknmaaGreat.cloneC_ren := {
  mixed := by kernel_rfl
  f5 := ⟨Tryz.f44.name, by decide, Tryz.func44.trans (congrArg some (by kernel_rfl))⟩
  f7 := Tryz.func60.trans (congrArg some (by kernel_rfl))
  t4 := Tryz.underlying4
  a4 := Tryz.isAgg4
  z4 := Tryz.sizeOf4
  v4 := Tryz.zeroValue4
  t20 := Tryz.underlying20
  a20 := Tryz.isAgg20
  z20 := Tryz.sizeOf20
  v20 := Tryz.zeroValue20
  t23 := Tryz.underlying42
  a23 := Tryz.isAgg42
  z23 := Tryz.sizeOf42
  v23 := Tryz.zeroValue42 }
end Go.Proofs
