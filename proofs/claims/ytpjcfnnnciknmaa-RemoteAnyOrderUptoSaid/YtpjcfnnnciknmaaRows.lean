/-
  No cell of these rows narrows 'for every input' (looked for: loops, veiled, ifaces, maps, wideKeys, modest, calm, conditions, laid).
  DERIVED. THE GIVEN ROWS OF THIS SEAT. 3 by the template 'for every input the law returns true; each argument reads behind the call as it read before'; 0 by the template 'total and deterministic' (their statements: YtpjcfnnnciknmaaTotals.lean).
  GIVEN WITH THE SEED: the statements are not yours to turn. If you find one false, say at which input.
  Laid BY PROGRAM, IN A SANDBOX (cutbox-rows.mjs): the forced cells as the released guide's own fill.sh prints them over the translation 387479bd6f21882b… (all of the seat's roots in one cut). By AI agents, Wed Nov 11 2026. No macro, syntax, notation, axiom, sorry.
-/
import Derived.Test.YtpjcfnnnciknmaaChecked
import GoSem.Claim
import GoSem.ClaimJoined
import GoSem.ClaimMapViews
import Derived.JoinedTies
import Derived.KernelRfl
namespace Go.Proofs.Ytpjcfnnnciknmaa
/- THE CELL 'sum', in the pinned program and in every row, IS THE sha256 OF THE DUMP (.gsa) THAT YtpjcfnnnciknmaaProg.lean LOADS. Nothing in Lean hashes anything: it is a label: what it is worth is what the hold of that sum in a sandbox is worth. -/
noncomputable def Try.pinned : Pinned := { name := "ytpjcfnnnciknmaa", sum := "387479bd6f21882babd9ecaf03c65ee12e65331c46d71e243552f9055bdfb915", checked := Try.checked }
namespace Rows
def none {H : Type} : Left H := { results := [], args := [] }

/-- 'trivetlaw18.RemoteOther': WHATEVER THE INPUT: true; the input reads as it did. -/
def remoteOtherSpec : ChangeSpec := { name := "remoteOther", fn := fun _ => fun
  | [d1, d2] => { results := [.lit (.bool true)], args := [d1, d2] }
  | _ => none }
def remoteOtherRow : OpenClaim := { program := "ytpjcfnnnciknmaa", sum := "387479bd6f21882babd9ecaf03c65ee12e65331c46d71e243552f9055bdfb915", func := "trivet/trivetlaw18.RemoteOther", spec := "remoteOther", unfollowed := true, recurses := true, plainKeys := false, apart := false }
def RemoteOtherSaid : Prop := remoteOtherRow.holds Try.pinned (OpenSpec.ofChange remoteOtherSpec)

/-- ITS FALSE NEIGHBOUR: 'it returns false'. Refute it at one input. -/
def remoteOtherWrong : ChangeSpec := { name := "remoteOther", fn := fun _ => fun
  | [d1, d2] => { results := [.lit (.bool false)], args := [d1, d2] }
  | _ => none }
def RemoteOtherWrongFalsely : Prop := remoteOtherRow.holds Try.pinned (OpenSpec.ofChange remoteOtherWrong)

/-- 'trivetlaw18.RemoteAnyOrder': WHATEVER THE INPUT: true; the input reads as it did. -/
def remoteAnyOrderSpec : ChangeSpec := { name := "remoteAnyOrder", fn := fun _ => fun
  | [d1, d2, d3] => { results := [.lit (.bool true)], args := [d1, d2, d3] }
  | _ => none }
def remoteAnyOrderRow : OpenClaim := { program := "ytpjcfnnnciknmaa", sum := "387479bd6f21882babd9ecaf03c65ee12e65331c46d71e243552f9055bdfb915", func := "trivet/trivetlaw18.RemoteAnyOrder", spec := "remoteAnyOrder", unfollowed := true, recurses := true, plainKeys := false, apart := false }
def RemoteAnyOrderSaid : Prop := remoteAnyOrderRow.holds Try.pinned (OpenSpec.ofChange remoteAnyOrderSpec)

/-- ITS FALSE NEIGHBOUR: 'it returns false'. Refute it at one input. -/
def remoteAnyOrderWrong : ChangeSpec := { name := "remoteAnyOrder", fn := fun _ => fun
  | [d1, d2, d3] => { results := [.lit (.bool false)], args := [d1, d2, d3] }
  | _ => none }
def RemoteAnyOrderWrongFalsely : Prop := remoteAnyOrderRow.holds Try.pinned (OpenSpec.ofChange remoteAnyOrderWrong)

/-- 'trivetlaw18.RemoteNone': WHATEVER THE INPUT: true; the input reads as it did. -/
def remoteNoneSpec : ChangeSpec := { name := "remoteNone", fn := fun _ => fun
  | [d] => { results := [.lit (.bool true)], args := [d] }
  | _ => none }
def remoteNoneRow : OpenClaim := { program := "ytpjcfnnnciknmaa", sum := "387479bd6f21882babd9ecaf03c65ee12e65331c46d71e243552f9055bdfb915", func := "trivet/trivetlaw18.RemoteNone", spec := "remoteNone", inPlace := ["maps.clone"], unfollowed := true, recurses := true, plainKeys := false, apart := false }
def RemoteNoneSaid : Prop := remoteNoneRow.holds Try.pinned (OpenSpec.ofChange remoteNoneSpec)

/-- ITS FALSE NEIGHBOUR: 'it returns false'. Refute it at one input. -/
def remoteNoneWrong : ChangeSpec := { name := "remoteNone", fn := fun _ => fun
  | [d] => { results := [.lit (.bool false)], args := [d] }
  | _ => none }
def RemoteNoneWrongFalsely : Prop := remoteNoneRow.holds Try.pinned (OpenSpec.ofChange remoteNoneWrong)

/- THE SECOND FORM. 'bulk': how many values and letters a reading holds, each counted each time it is reached (what is shared counts as often as it is met; a slice's spare places count too). A statement '..UptoSaid' is the law's where the arguments, and the package variables that the reading takes, are together of bulk at most 1048576: NARROWER than '..Said'. Prove '..Said' where nothing that the law and all that it calls make is longer than what came in: it says more and counts as full. Else prove '..UptoSaid'. A law counts once. -/
mutual
def uptoBulk {H : Type} : DataW H → Nat
  | .lit (.string bytes) => bytes.length + 1
  | .lit _ => 1
  | .nil => 1
  | .ptr d => uptoBulk d + 1
  | .slice elems spare => uptoBulkAll elems + uptoBulkAll spare + 1
  | .agg parts => uptoBulkAll parts + 1
  | .iface _ d => uptoBulk d + 1
  | .map entries => uptoBulkEntries entries + 1
  | .held _ => 1
def uptoBulkAll {H : Type} : List (DataW H) → Nat
  | [] => 0
  | d :: r => uptoBulk d + uptoBulkAll r
def uptoBulkEntries {H : Type} : List (Lit × DataW H) → Nat
  | [] => 0
  | x :: r => uptoBulkEntry x + uptoBulkEntries r
def uptoBulkEntry {H : Type} : Lit × DataW H → Nat
  | (.string bytes, d) => bytes.length + uptoBulk d + 1
  | (_, d) => uptoBulk d + 1
 end
def uptoSmall : (H : Type) → List (DataW H) → Bool := fun _ ds => decide (uptoBulkAll ds ≤ 1048576)
def OpenSpec.upto (s : _root_.Go.ChangeSpec) : _root_.Go.OpenSpec := { _root_.Go.OpenSpec.ofChange s with cond := some uptoSmall }

/-- 'trivetlaw18.RemoteOther', WHERE WHAT IT READS IS OF BULK AT MOST 1048576: true; the input reads as it did. -/
def remoteOtherUptoRow : OpenClaim := { program := "ytpjcfnnnciknmaa", sum := "387479bd6f21882babd9ecaf03c65ee12e65331c46d71e243552f9055bdfb915", func := "trivet/trivetlaw18.RemoteOther", spec := "remoteOther", unfollowed := true, recurses := true, plainKeys := false, apart := false, narrowed := true }
def RemoteOtherUptoSaid : Prop := remoteOtherUptoRow.holds Try.pinned (OpenSpec.upto remoteOtherSpec)

/-- 'trivetlaw18.RemoteAnyOrder', WHERE WHAT IT READS IS OF BULK AT MOST 1048576: true; the input reads as it did. -/
def remoteAnyOrderUptoRow : OpenClaim := { program := "ytpjcfnnnciknmaa", sum := "387479bd6f21882babd9ecaf03c65ee12e65331c46d71e243552f9055bdfb915", func := "trivet/trivetlaw18.RemoteAnyOrder", spec := "remoteAnyOrder", unfollowed := true, recurses := true, plainKeys := false, apart := false, narrowed := true }
def RemoteAnyOrderUptoSaid : Prop := remoteAnyOrderUptoRow.holds Try.pinned (OpenSpec.upto remoteAnyOrderSpec)

/-- 'trivetlaw18.RemoteNone', WHERE WHAT IT READS IS OF BULK AT MOST 1048576: true; the input reads as it did. -/
def remoteNoneUptoRow : OpenClaim := { program := "ytpjcfnnnciknmaa", sum := "387479bd6f21882babd9ecaf03c65ee12e65331c46d71e243552f9055bdfb915", func := "trivet/trivetlaw18.RemoteNone", spec := "remoteNone", inPlace := ["maps.clone"], unfollowed := true, recurses := true, plainKeys := false, apart := false, narrowed := true }
def RemoteNoneUptoSaid : Prop := remoteNoneUptoRow.holds Try.pinned (OpenSpec.upto remoteNoneSpec)

end Rows
end Go.Proofs.Ytpjcfnnnciknmaa
