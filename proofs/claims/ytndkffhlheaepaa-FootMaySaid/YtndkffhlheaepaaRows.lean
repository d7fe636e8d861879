/-
  No cell of these rows narrows 'for every input' (looked for: loops, veiled, ifaces, maps, wideKeys, modest, calm, conditions, laid).
  DERIVED. THE GIVEN ROWS OF THIS SEAT. 6 by the template 'for every input the law returns true; each argument reads behind the call as it read before'; 0 by the template 'total and deterministic' (their statements: YtndkffhlheaepaaTotals.lean).
  GIVEN WITH THE SEED: the statements are not yours to turn. If you find one false, say at which input.
  Laid BY PROGRAM, IN A SANDBOX (cutbox-rows.mjs): the forced cells as the released guide's own fill.sh prints them over the translation e988b23d50589f92… (all of the seat's roots in one cut). By AI agents, Wed Nov 11 2026. No macro, syntax, notation, axiom, sorry.
-/
import Derived.Test.YtndkffhlheaepaaChecked
import GoSem.Claim
import GoSem.ClaimJoined
import GoSem.ClaimMapViews
import Derived.JoinedTies
import Derived.KernelRfl
namespace Go.Proofs.Ytndkffhlheaepaa
/- THE CELL 'sum', in the pinned program and in every row, IS THE sha256 OF THE DUMP (.gsa) THAT YtndkffhlheaepaaProg.lean LOADS. Nothing in Lean hashes anything: it is a label: what it is worth is what the hold of that sum in a sandbox is worth. -/
noncomputable def Try.pinned : Pinned := { name := "ytndkffhlheaepaa", sum := "e988b23d50589f927a1f46f05573c629f71f1f60a4949440071d92a2773f4f5a", checked := Try.checked }
namespace Rows
def none {H : Type} : Left H := { results := [], args := [] }

/-- 'trivetlaw15.FootOrder': WHATEVER THE INPUT: true; the input reads as it did. -/
def footOrderSpec : ChangeSpec := { name := "footOrder", fn := fun _ => fun
  | [d1, d2] => { results := [.lit (.bool true)], args := [d1, d2] }
  | _ => none }
def footOrderRow : OpenClaim := { program := "ytndkffhlheaepaa", sum := "e988b23d50589f927a1f46f05573c629f71f1f60a4949440071d92a2773f4f5a", func := "trivet/trivetlaw15.FootOrder", spec := "footOrder", unfollowed := true, recurses := true, plainKeys := false, apart := false }
def FootOrderSaid : Prop := footOrderRow.holds Try.pinned (OpenSpec.ofChange footOrderSpec)

/-- ITS FALSE NEIGHBOUR: 'it returns false'. Refute it at one input. -/
def footOrderWrong : ChangeSpec := { name := "footOrder", fn := fun _ => fun
  | [d1, d2] => { results := [.lit (.bool false)], args := [d1, d2] }
  | _ => none }
def FootOrderWrongFalsely : Prop := footOrderRow.holds Try.pinned (OpenSpec.ofChange footOrderWrong)

/-- 'trivetlaw15.FootLevels': WHATEVER THE INPUT: true; the input reads as it did. -/
def footLevelsSpec : ChangeSpec := { name := "footLevels", fn := fun _ => fun
  | [d] => { results := [.lit (.bool true)], args := [d] }
  | _ => none }
def footLevelsRow : OpenClaim := { program := "ytndkffhlheaepaa", sum := "e988b23d50589f927a1f46f05573c629f71f1f60a4949440071d92a2773f4f5a", func := "trivet/trivetlaw15.FootLevels", spec := "footLevels", unfollowed := true, recurses := true, plainKeys := false, apart := false }
def FootLevelsSaid : Prop := footLevelsRow.holds Try.pinned (OpenSpec.ofChange footLevelsSpec)

/-- ITS FALSE NEIGHBOUR: 'it returns false'. Refute it at one input. -/
def footLevelsWrong : ChangeSpec := { name := "footLevels", fn := fun _ => fun
  | [d] => { results := [.lit (.bool false)], args := [d] }
  | _ => none }
def FootLevelsWrongFalsely : Prop := footLevelsRow.holds Try.pinned (OpenSpec.ofChange footLevelsWrong)

/-- 'trivetlaw15.FootAsks': WHATEVER THE INPUT: true; the input reads as it did. -/
def footAsksSpec : ChangeSpec := { name := "footAsks", fn := fun _ => fun
  | [d1, d2, d3] => { results := [.lit (.bool true)], args := [d1, d2, d3] }
  | _ => none }
def footAsksRow : OpenClaim := { program := "ytndkffhlheaepaa", sum := "e988b23d50589f927a1f46f05573c629f71f1f60a4949440071d92a2773f4f5a", func := "trivet/trivetlaw15.FootAsks", spec := "footAsks", unfollowed := true, recurses := true, plainKeys := false, apart := false }
def FootAsksSaid : Prop := footAsksRow.holds Try.pinned (OpenSpec.ofChange footAsksSpec)

/-- ITS FALSE NEIGHBOUR: 'it returns false'. Refute it at one input. -/
def footAsksWrong : ChangeSpec := { name := "footAsks", fn := fun _ => fun
  | [d1, d2, d3] => { results := [.lit (.bool false)], args := [d1, d2, d3] }
  | _ => none }
def FootAsksWrongFalsely : Prop := footAsksRow.holds Try.pinned (OpenSpec.ofChange footAsksWrong)

/-- 'trivetlaw15.FootOwn': WHATEVER THE INPUT: true; the input reads as it did. -/
def footOwnSpec : ChangeSpec := { name := "footOwn", fn := fun _ => fun
  | [d] => { results := [.lit (.bool true)], args := [d] }
  | _ => none }
def footOwnRow : OpenClaim := { program := "ytndkffhlheaepaa", sum := "e988b23d50589f927a1f46f05573c629f71f1f60a4949440071d92a2773f4f5a", func := "trivet/trivetlaw15.FootOwn", spec := "footOwn", unfollowed := true, recurses := true, plainKeys := false, apart := false }
def FootOwnSaid : Prop := footOwnRow.holds Try.pinned (OpenSpec.ofChange footOwnSpec)

/-- ITS FALSE NEIGHBOUR: 'it returns false'. Refute it at one input. -/
def footOwnWrong : ChangeSpec := { name := "footOwn", fn := fun _ => fun
  | [d] => { results := [.lit (.bool false)], args := [d] }
  | _ => none }
def FootOwnWrongFalsely : Prop := footOwnRow.holds Try.pinned (OpenSpec.ofChange footOwnWrong)

/-- 'trivetlaw15.FootMay': WHATEVER THE INPUT: true; the input reads as it did. -/
def footMaySpec : ChangeSpec := { name := "footMay", fn := fun _ => fun
  | [d1, d2, d3] => { results := [.lit (.bool true)], args := [d1, d2, d3] }
  | _ => none }
def footMayRow : OpenClaim := { program := "ytndkffhlheaepaa", sum := "e988b23d50589f927a1f46f05573c629f71f1f60a4949440071d92a2773f4f5a", func := "trivet/trivetlaw15.FootMay", spec := "footMay", unfollowed := true, recurses := true, plainKeys := false, apart := false }
def FootMaySaid : Prop := footMayRow.holds Try.pinned (OpenSpec.ofChange footMaySpec)

/-- ITS FALSE NEIGHBOUR: 'it returns false'. Refute it at one input. -/
def footMayWrong : ChangeSpec := { name := "footMay", fn := fun _ => fun
  | [d1, d2, d3] => { results := [.lit (.bool false)], args := [d1, d2, d3] }
  | _ => none }
def FootMayWrongFalsely : Prop := footMayRow.holds Try.pinned (OpenSpec.ofChange footMayWrong)

/-- 'trivetlaw15.FootWhole': WHATEVER THE INPUT: true; the input reads as it did. -/
def footWholeSpec : ChangeSpec := { name := "footWhole", fn := fun _ => fun
  | [d1, d2] => { results := [.lit (.bool true)], args := [d1, d2] }
  | _ => none }
def footWholeRow : OpenClaim := { program := "ytndkffhlheaepaa", sum := "e988b23d50589f927a1f46f05573c629f71f1f60a4949440071d92a2773f4f5a", func := "trivet/trivetlaw15.FootWhole", spec := "footWhole", unfollowed := true, recurses := true, plainKeys := false, apart := false }
def FootWholeSaid : Prop := footWholeRow.holds Try.pinned (OpenSpec.ofChange footWholeSpec)

/-- ITS FALSE NEIGHBOUR: 'it returns false'. Refute it at one input. -/
def footWholeWrong : ChangeSpec := { name := "footWhole", fn := fun _ => fun
  | [d1, d2] => { results := [.lit (.bool false)], args := [d1, d2] }
  | _ => none }
def FootWholeWrongFalsely : Prop := footWholeRow.holds Try.pinned (OpenSpec.ofChange footWholeWrong)

/- THE SECOND FORM. 'bulk': how many values and letters a reading holds, each counted each time it is reached (what is shared counts as often as it is met; a slice's spare places count too). A statement '..UptoSaid' is the law's where the arguments, and the package variables that the reading takes, are together of bulk at most 1048576: NARROWER than '..Said'. Prove '..Said' where nothing that the law and all that it calls make is longer than what came in: it says more and counts as full. Else prove '..UptoSaid'. A law counts once. -/
mutual
def uptoBulk {H : Type} : DataW H → Nat
  | .lit (.string bytes) => bytes.length + 1
  | .lit _ => 1
  | .nil => 1
  | .ptr d => uptoBulk d + 1
  | .slice elems spare => uptoBulkAll elems + uptoBulkAll spare + 1
  | .agg parts => uptoBulkAll parts + 1
  | .iface _ d => uptoBulk d + 1
  | .map entries => uptoBulkEntries entries + 1
  | .held _ => 1
def uptoBulkAll {H : Type} : List (DataW H) → Nat
  | [] => 0
  | d :: r => uptoBulk d + uptoBulkAll r
def uptoBulkEntries {H : Type} : List (Lit × DataW H) → Nat
  | [] => 0
  | x :: r => uptoBulkEntry x + uptoBulkEntries r
def uptoBulkEntry {H : Type} : Lit × DataW H → Nat
  | (.string bytes, d) => bytes.length + uptoBulk d + 1
  | (_, d) => uptoBulk d + 1
 end
def uptoSmall : (H : Type) → List (DataW H) → Bool := fun _ ds => decide (uptoBulkAll ds ≤ 1048576)
def OpenSpec.upto (s : _root_.Go.ChangeSpec) : _root_.Go.OpenSpec := { _root_.Go.OpenSpec.ofChange s with cond := some uptoSmall }

/-- 'trivetlaw15.FootOrder', WHERE WHAT IT READS IS OF BULK AT MOST 1048576: true; the input reads as it did. -/
def footOrderUptoRow : OpenClaim := { program := "ytndkffhlheaepaa", sum := "e988b23d50589f927a1f46f05573c629f71f1f60a4949440071d92a2773f4f5a", func := "trivet/trivetlaw15.FootOrder", spec := "footOrder", unfollowed := true, recurses := true, plainKeys := false, apart := false, narrowed := true }
def FootOrderUptoSaid : Prop := footOrderUptoRow.holds Try.pinned (OpenSpec.upto footOrderSpec)

/-- 'trivetlaw15.FootLevels', WHERE WHAT IT READS IS OF BULK AT MOST 1048576: true; the input reads as it did. -/
def footLevelsUptoRow : OpenClaim := { program := "ytndkffhlheaepaa", sum := "e988b23d50589f927a1f46f05573c629f71f1f60a4949440071d92a2773f4f5a", func := "trivet/trivetlaw15.FootLevels", spec := "footLevels", unfollowed := true, recurses := true, plainKeys := false, apart := false, narrowed := true }
def FootLevelsUptoSaid : Prop := footLevelsUptoRow.holds Try.pinned (OpenSpec.upto footLevelsSpec)

/-- 'trivetlaw15.FootAsks', WHERE WHAT IT READS IS OF BULK AT MOST 1048576: true; the input reads as it did. -/
def footAsksUptoRow : OpenClaim := { program := "ytndkffhlheaepaa", sum := "e988b23d50589f927a1f46f05573c629f71f1f60a4949440071d92a2773f4f5a", func := "trivet/trivetlaw15.FootAsks", spec := "footAsks", unfollowed := true, recurses := true, plainKeys := false, apart := false, narrowed := true }
def FootAsksUptoSaid : Prop := footAsksUptoRow.holds Try.pinned (OpenSpec.upto footAsksSpec)

/-- 'trivetlaw15.FootOwn', WHERE WHAT IT READS IS OF BULK AT MOST 1048576: true; the input reads as it did. -/
def footOwnUptoRow : OpenClaim := { program := "ytndkffhlheaepaa", sum := "e988b23d50589f927a1f46f05573c629f71f1f60a4949440071d92a2773f4f5a", func := "trivet/trivetlaw15.FootOwn", spec := "footOwn", unfollowed := true, recurses := true, plainKeys := false, apart := false, narrowed := true }
def FootOwnUptoSaid : Prop := footOwnUptoRow.holds Try.pinned (OpenSpec.upto footOwnSpec)

/-- 'trivetlaw15.FootMay', WHERE WHAT IT READS IS OF BULK AT MOST 1048576: true; the input reads as it did. -/
def footMayUptoRow : OpenClaim := { program := "ytndkffhlheaepaa", sum := "e988b23d50589f927a1f46f05573c629f71f1f60a4949440071d92a2773f4f5a", func := "trivet/trivetlaw15.FootMay", spec := "footMay", unfollowed := true, recurses := true, plainKeys := false, apart := false, narrowed := true }
def FootMayUptoSaid : Prop := footMayUptoRow.holds Try.pinned (OpenSpec.upto footMaySpec)

/-- 'trivetlaw15.FootWhole', WHERE WHAT IT READS IS OF BULK AT MOST 1048576: true; the input reads as it did. -/
def footWholeUptoRow : OpenClaim := { program := "ytndkffhlheaepaa", sum := "e988b23d50589f927a1f46f05573c629f71f1f60a4949440071d92a2773f4f5a", func := "trivet/trivetlaw15.FootWhole", spec := "footWhole", unfollowed := true, recurses := true, plainKeys := false, apart := false, narrowed := true }
def FootWholeUptoSaid : Prop := footWholeUptoRow.holds Try.pinned (OpenSpec.upto footWholeSpec)

end Rows
end Go.Proofs.Ytndkffhlheaepaa
