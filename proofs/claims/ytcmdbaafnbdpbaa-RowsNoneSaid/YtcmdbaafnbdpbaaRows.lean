/-
  No cell of these rows narrows 'for every input' (looked for: loops, veiled, ifaces, maps, wideKeys, modest, calm, conditions, laid).
  DERIVED. THE GIVEN ROWS OF THIS SEAT. 7 by the template 'for every input the law returns true; each argument reads behind the call as it read before'; 0 by the template 'total and deterministic' (their statements: YtcmdbaafnbdpbaaTotals.lean).
  GIVEN WITH THE SEED: the statements are not yours to turn. If you find one false, say at which input.
  Laid BY PROGRAM, IN A SANDBOX (cutbox-rows.mjs): the forced cells as the released guide's own fill.sh prints them over the translation e953d78e58925a78… (all of the seat's roots in one cut). By AI agents, Wed Nov 11 2026. No macro, syntax, notation, axiom, sorry.
-/
import Derived.Test.YtcmdbaafnbdpbaaChecked
import GoSem.Claim
import GoSem.ClaimJoined
import GoSem.ClaimMapViews
import Derived.JoinedTies
import Derived.KernelRfl
namespace Go.Proofs.Ytcmdbaafnbdpbaa
/- THE CELL 'sum', in the pinned program and in every row, IS THE sha256 OF THE DUMP (.gsa) THAT YtcmdbaafnbdpbaaProg.lean LOADS. Nothing in Lean hashes anything: it is a label: what it is worth is what the hold of that sum in a sandbox is worth. -/
noncomputable def Try.pinned : Pinned := { name := "ytcmdbaafnbdpbaa", sum := "e953d78e58925a78190d0ea54788f68ddbc08f0e8815f3d2766d29481c23b1e3", checked := Try.checked }
namespace Rows
def none {H : Type} : Left H := { results := [], args := [] }

/-- 'trivetlaw20.RowsOnce': WHATEVER THE INPUT: true; the input reads as it did. -/
def rowsOnceSpec : ChangeSpec := { name := "rowsOnce", fn := fun _ => fun
  | [d] => { results := [.lit (.bool true)], args := [d] }
  | _ => none }
def rowsOnceRow : OpenClaim := { program := "ytcmdbaafnbdpbaa", sum := "e953d78e58925a78190d0ea54788f68ddbc08f0e8815f3d2766d29481c23b1e3", func := "trivet/trivetlaw20.RowsOnce", spec := "rowsOnce", inPlace := ["slices.overlaps[int64]"], unfollowed := true, recurses := true, apart := false }
def RowsOnceSaid : Prop := rowsOnceRow.holds Try.pinned (OpenSpec.ofChange rowsOnceSpec)

/-- ITS FALSE NEIGHBOUR: 'it returns false'. Refute it at one input. -/
def rowsOnceWrong : ChangeSpec := { name := "rowsOnce", fn := fun _ => fun
  | [d] => { results := [.lit (.bool false)], args := [d] }
  | _ => none }
def RowsOnceWrongFalsely : Prop := rowsOnceRow.holds Try.pinned (OpenSpec.ofChange rowsOnceWrong)

/-- 'trivetlaw20.RowsFull': WHATEVER THE INPUT: true; the input reads as it did. -/
def rowsFullSpec : ChangeSpec := { name := "rowsFull", fn := fun _ => fun
  | [d1, d2] => { results := [.lit (.bool true)], args := [d1, d2] }
  | _ => none }
def rowsFullRow : OpenClaim := { program := "ytcmdbaafnbdpbaa", sum := "e953d78e58925a78190d0ea54788f68ddbc08f0e8815f3d2766d29481c23b1e3", func := "trivet/trivetlaw20.RowsFull", spec := "rowsFull", inPlace := ["slices.overlaps[int64]"], unfollowed := true, recurses := true, apart := false }
def RowsFullSaid : Prop := rowsFullRow.holds Try.pinned (OpenSpec.ofChange rowsFullSpec)

/-- ITS FALSE NEIGHBOUR: 'it returns false'. Refute it at one input. -/
def rowsFullWrong : ChangeSpec := { name := "rowsFull", fn := fun _ => fun
  | [d1, d2] => { results := [.lit (.bool false)], args := [d1, d2] }
  | _ => none }
def RowsFullWrongFalsely : Prop := rowsFullRow.holds Try.pinned (OpenSpec.ofChange rowsFullWrong)

/-- 'trivetlaw20.RowsOwn': WHATEVER THE INPUT: true; the input reads as it did. -/
def rowsOwnSpec : ChangeSpec := { name := "rowsOwn", fn := fun _ => fun
  | [d] => { results := [.lit (.bool true)], args := [d] }
  | _ => none }
def rowsOwnRow : OpenClaim := { program := "ytcmdbaafnbdpbaa", sum := "e953d78e58925a78190d0ea54788f68ddbc08f0e8815f3d2766d29481c23b1e3", func := "trivet/trivetlaw20.RowsOwn", spec := "rowsOwn", inPlace := ["slices.overlaps[int64]"], unfollowed := true, recurses := true, apart := false }
def RowsOwnSaid : Prop := rowsOwnRow.holds Try.pinned (OpenSpec.ofChange rowsOwnSpec)

/-- ITS FALSE NEIGHBOUR: 'it returns false'. Refute it at one input. -/
def rowsOwnWrong : ChangeSpec := { name := "rowsOwn", fn := fun _ => fun
  | [d] => { results := [.lit (.bool false)], args := [d] }
  | _ => none }
def RowsOwnWrongFalsely : Prop := rowsOwnRow.holds Try.pinned (OpenSpec.ofChange rowsOwnWrong)

/-- 'trivetlaw20.RowsFrom': WHATEVER THE INPUT: true; the input reads as it did. -/
def rowsFromSpec : ChangeSpec := { name := "rowsFrom", fn := fun _ => fun
  | [d] => { results := [.lit (.bool true)], args := [d] }
  | _ => none }
def rowsFromRow : OpenClaim := { program := "ytcmdbaafnbdpbaa", sum := "e953d78e58925a78190d0ea54788f68ddbc08f0e8815f3d2766d29481c23b1e3", func := "trivet/trivetlaw20.RowsFrom", spec := "rowsFrom", inPlace := ["slices.overlaps[int64]"], unfollowed := true, recurses := true, apart := false }
def RowsFromSaid : Prop := rowsFromRow.holds Try.pinned (OpenSpec.ofChange rowsFromSpec)

/-- ITS FALSE NEIGHBOUR: 'it returns false'. Refute it at one input. -/
def rowsFromWrong : ChangeSpec := { name := "rowsFrom", fn := fun _ => fun
  | [d] => { results := [.lit (.bool false)], args := [d] }
  | _ => none }
def RowsFromWrongFalsely : Prop := rowsFromRow.holds Try.pinned (OpenSpec.ofChange rowsFromWrong)

/-- 'trivetlaw20.RowsBack': WHATEVER THE INPUT: true; the input reads as it did. -/
def rowsBackSpec : ChangeSpec := { name := "rowsBack", fn := fun _ => fun
  | [d1, d2] => { results := [.lit (.bool true)], args := [d1, d2] }
  | _ => none }
def rowsBackRow : OpenClaim := { program := "ytcmdbaafnbdpbaa", sum := "e953d78e58925a78190d0ea54788f68ddbc08f0e8815f3d2766d29481c23b1e3", func := "trivet/trivetlaw20.RowsBack", spec := "rowsBack", inPlace := ["slices.overlaps[int64]"], unfollowed := true, recurses := true, apart := false }
def RowsBackSaid : Prop := rowsBackRow.holds Try.pinned (OpenSpec.ofChange rowsBackSpec)

/-- ITS FALSE NEIGHBOUR: 'it returns false'. Refute it at one input. -/
def rowsBackWrong : ChangeSpec := { name := "rowsBack", fn := fun _ => fun
  | [d1, d2] => { results := [.lit (.bool false)], args := [d1, d2] }
  | _ => none }
def RowsBackWrongFalsely : Prop := rowsBackRow.holds Try.pinned (OpenSpec.ofChange rowsBackWrong)

/-- 'trivetlaw20.RowsDoes': WHATEVER THE INPUT: true; the input reads as it did. -/
def rowsDoesSpec : ChangeSpec := { name := "rowsDoes", fn := fun _ => fun
  | [d] => { results := [.lit (.bool true)], args := [d] }
  | _ => none }
def rowsDoesRow : OpenClaim := { program := "ytcmdbaafnbdpbaa", sum := "e953d78e58925a78190d0ea54788f68ddbc08f0e8815f3d2766d29481c23b1e3", func := "trivet/trivetlaw20.RowsDoes", spec := "rowsDoes", inPlace := ["slices.overlaps[int64]"], unfollowed := true, recurses := true, apart := false }
def RowsDoesSaid : Prop := rowsDoesRow.holds Try.pinned (OpenSpec.ofChange rowsDoesSpec)

/-- ITS FALSE NEIGHBOUR: 'it returns false'. Refute it at one input. -/
def rowsDoesWrong : ChangeSpec := { name := "rowsDoes", fn := fun _ => fun
  | [d] => { results := [.lit (.bool false)], args := [d] }
  | _ => none }
def RowsDoesWrongFalsely : Prop := rowsDoesRow.holds Try.pinned (OpenSpec.ofChange rowsDoesWrong)

/-- 'trivetlaw20.RowsNone': WHATEVER THE INPUT: true; the input reads as it did. -/
def rowsNoneSpec : ChangeSpec := { name := "rowsNone", fn := fun _ => fun
  | [d] => { results := [.lit (.bool true)], args := [d] }
  | _ => none }
def rowsNoneRow : OpenClaim := { program := "ytcmdbaafnbdpbaa", sum := "e953d78e58925a78190d0ea54788f68ddbc08f0e8815f3d2766d29481c23b1e3", func := "trivet/trivetlaw20.RowsNone", spec := "rowsNone", inPlace := ["slices.overlaps[int64]"], unfollowed := true, recurses := true, apart := false }
def RowsNoneSaid : Prop := rowsNoneRow.holds Try.pinned (OpenSpec.ofChange rowsNoneSpec)

/-- ITS FALSE NEIGHBOUR: 'it returns false'. Refute it at one input. -/
def rowsNoneWrong : ChangeSpec := { name := "rowsNone", fn := fun _ => fun
  | [d] => { results := [.lit (.bool false)], args := [d] }
  | _ => none }
def RowsNoneWrongFalsely : Prop := rowsNoneRow.holds Try.pinned (OpenSpec.ofChange rowsNoneWrong)

/- THE SECOND FORM. 'bulk': how many values and letters a reading holds, each counted each time it is reached (what is shared counts as often as it is met; a slice's spare places count too). A statement '..UptoSaid' is the law's where the arguments, and the package variables that the reading takes, are together of bulk at most 1048576: NARROWER than '..Said'. Prove '..Said' where nothing that the law and all that it calls make is longer than what came in: it says more and counts as full. Else prove '..UptoSaid'. A law counts once. -/
mutual
def uptoBulk {H : Type} : DataW H → Nat
  | .lit (.string bytes) => bytes.length + 1
  | .lit _ => 1
  | .nil => 1
  | .ptr d => uptoBulk d + 1
  | .slice elems spare => uptoBulkAll elems + uptoBulkAll spare + 1
  | .agg parts => uptoBulkAll parts + 1
  | .iface _ d => uptoBulk d + 1
  | .map entries => uptoBulkEntries entries + 1
  | .held _ => 1
def uptoBulkAll {H : Type} : List (DataW H) → Nat
  | [] => 0
  | d :: r => uptoBulk d + uptoBulkAll r
def uptoBulkEntries {H : Type} : List (Lit × DataW H) → Nat
  | [] => 0
  | x :: r => uptoBulkEntry x + uptoBulkEntries r
def uptoBulkEntry {H : Type} : Lit × DataW H → Nat
  | (.string bytes, d) => bytes.length + uptoBulk d + 1
  | (_, d) => uptoBulk d + 1
 end
def uptoSmall : (H : Type) → List (DataW H) → Bool := fun _ ds => decide (uptoBulkAll ds ≤ 1048576)
def OpenSpec.upto (s : _root_.Go.ChangeSpec) : _root_.Go.OpenSpec := { _root_.Go.OpenSpec.ofChange s with cond := some uptoSmall }

/-- 'trivetlaw20.RowsOnce', WHERE WHAT IT READS IS OF BULK AT MOST 1048576: true; the input reads as it did. -/
def rowsOnceUptoRow : OpenClaim := { program := "ytcmdbaafnbdpbaa", sum := "e953d78e58925a78190d0ea54788f68ddbc08f0e8815f3d2766d29481c23b1e3", func := "trivet/trivetlaw20.RowsOnce", spec := "rowsOnce", inPlace := ["slices.overlaps[int64]"], unfollowed := true, recurses := true, apart := false, narrowed := true }
def RowsOnceUptoSaid : Prop := rowsOnceUptoRow.holds Try.pinned (OpenSpec.upto rowsOnceSpec)

/-- 'trivetlaw20.RowsFull', WHERE WHAT IT READS IS OF BULK AT MOST 1048576: true; the input reads as it did. -/
def rowsFullUptoRow : OpenClaim := { program := "ytcmdbaafnbdpbaa", sum := "e953d78e58925a78190d0ea54788f68ddbc08f0e8815f3d2766d29481c23b1e3", func := "trivet/trivetlaw20.RowsFull", spec := "rowsFull", inPlace := ["slices.overlaps[int64]"], unfollowed := true, recurses := true, apart := false, narrowed := true }
def RowsFullUptoSaid : Prop := rowsFullUptoRow.holds Try.pinned (OpenSpec.upto rowsFullSpec)

/-- 'trivetlaw20.RowsOwn', WHERE WHAT IT READS IS OF BULK AT MOST 1048576: true; the input reads as it did. -/
def rowsOwnUptoRow : OpenClaim := { program := "ytcmdbaafnbdpbaa", sum := "e953d78e58925a78190d0ea54788f68ddbc08f0e8815f3d2766d29481c23b1e3", func := "trivet/trivetlaw20.RowsOwn", spec := "rowsOwn", inPlace := ["slices.overlaps[int64]"], unfollowed := true, recurses := true, apart := false, narrowed := true }
def RowsOwnUptoSaid : Prop := rowsOwnUptoRow.holds Try.pinned (OpenSpec.upto rowsOwnSpec)

/-- 'trivetlaw20.RowsFrom', WHERE WHAT IT READS IS OF BULK AT MOST 1048576: true; the input reads as it did. -/
def rowsFromUptoRow : OpenClaim := { program := "ytcmdbaafnbdpbaa", sum := "e953d78e58925a78190d0ea54788f68ddbc08f0e8815f3d2766d29481c23b1e3", func := "trivet/trivetlaw20.RowsFrom", spec := "rowsFrom", inPlace := ["slices.overlaps[int64]"], unfollowed := true, recurses := true, apart := false, narrowed := true }
def RowsFromUptoSaid : Prop := rowsFromUptoRow.holds Try.pinned (OpenSpec.upto rowsFromSpec)

/-- 'trivetlaw20.RowsBack', WHERE WHAT IT READS IS OF BULK AT MOST 1048576: true; the input reads as it did. -/
def rowsBackUptoRow : OpenClaim := { program := "ytcmdbaafnbdpbaa", sum := "e953d78e58925a78190d0ea54788f68ddbc08f0e8815f3d2766d29481c23b1e3", func := "trivet/trivetlaw20.RowsBack", spec := "rowsBack", inPlace := ["slices.overlaps[int64]"], unfollowed := true, recurses := true, apart := false, narrowed := true }
def RowsBackUptoSaid : Prop := rowsBackUptoRow.holds Try.pinned (OpenSpec.upto rowsBackSpec)

/-- 'trivetlaw20.RowsDoes', WHERE WHAT IT READS IS OF BULK AT MOST 1048576: true; the input reads as it did. -/
def rowsDoesUptoRow : OpenClaim := { program := "ytcmdbaafnbdpbaa", sum := "e953d78e58925a78190d0ea54788f68ddbc08f0e8815f3d2766d29481c23b1e3", func := "trivet/trivetlaw20.RowsDoes", spec := "rowsDoes", inPlace := ["slices.overlaps[int64]"], unfollowed := true, recurses := true, apart := false, narrowed := true }
def RowsDoesUptoSaid : Prop := rowsDoesUptoRow.holds Try.pinned (OpenSpec.upto rowsDoesSpec)

/-- 'trivetlaw20.RowsNone', WHERE WHAT IT READS IS OF BULK AT MOST 1048576: true; the input reads as it did. -/
def rowsNoneUptoRow : OpenClaim := { program := "ytcmdbaafnbdpbaa", sum := "e953d78e58925a78190d0ea54788f68ddbc08f0e8815f3d2766d29481c23b1e3", func := "trivet/trivetlaw20.RowsNone", spec := "rowsNone", inPlace := ["slices.overlaps[int64]"], unfollowed := true, recurses := true, apart := false, narrowed := true }
def RowsNoneUptoSaid : Prop := rowsNoneUptoRow.holds Try.pinned (OpenSpec.upto rowsNoneSpec)

end Rows
end Go.Proofs.Ytcmdbaafnbdpbaa
