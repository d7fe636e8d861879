/-
  No cell of these rows narrows 'for every input' (looked for: loops, veiled, ifaces, maps, wideKeys, modest, calm, conditions, laid).
  DERIVED. THE GIVEN ROWS OF THIS SEAT. 7 by the template 'for every input the law returns true; each argument reads behind the call as it read before'; 0 by the template 'total and deterministic' (their statements: YteimilnigiagjaaTotals.lean).
  GIVEN WITH THE SEED: the statements are not yours to turn. If you find one false, say at which input.
  Laid BY PROGRAM, IN A SANDBOX (cutbox-rows.mjs): the forced cells as the released guide's own fill.sh prints them over the translation 69b49ef53d8ada25… (all of the seat's roots in one cut). By AI agents, Wed Nov 11 2026. No macro, syntax, notation, axiom, sorry.
-/
import Derived.Test.YteimilnigiagjaaChecked
import GoSem.Claim
import GoSem.ClaimJoined
import GoSem.ClaimMapViews
import Derived.JoinedTies
import Derived.KernelRfl
namespace Go.Proofs.Yteimilnigiagjaa
/- THE CELL 'sum', in the pinned program and in every row, IS THE sha256 OF THE DUMP (.gsa) THAT YteimilnigiagjaaProg.lean LOADS. Nothing in Lean hashes anything: it is a label: what it is worth is what the hold of that sum in a sandbox is worth. -/
noncomputable def Try.pinned : Pinned := { name := "yteimilnigiagjaa", sum := "69b49ef53d8ada258f10b3bbbe3501eb634b40ad7c2b3f4baf05f06c5445df4e", checked := Try.checked }
namespace Rows
def none {H : Type} : Left H := { results := [], args := [] }

/-- 'trivetlaw11.ShardOrder': WHATEVER THE INPUT: true; the input reads as it did. -/
def shardOrderSpec : ChangeSpec := { name := "shardOrder", fn := fun _ => fun
  | [d1, d2, d3] => { results := [.lit (.bool true)], args := [d1, d2, d3] }
  | _ => none }
def shardOrderRow : OpenClaim := { program := "yteimilnigiagjaa", sum := "69b49ef53d8ada258f10b3bbbe3501eb634b40ad7c2b3f4baf05f06c5445df4e", func := "trivet/trivetlaw11.ShardOrder", spec := "shardOrder", unfollowed := true, recurses := true, plainKeys := false, apart := false }
def ShardOrderSaid : Prop := shardOrderRow.holds Try.pinned (OpenSpec.ofChange shardOrderSpec)

/-- ITS FALSE NEIGHBOUR: 'it returns false'. Refute it at one input. -/
def shardOrderWrong : ChangeSpec := { name := "shardOrder", fn := fun _ => fun
  | [d1, d2, d3] => { results := [.lit (.bool false)], args := [d1, d2, d3] }
  | _ => none }
def ShardOrderWrongFalsely : Prop := shardOrderRow.holds Try.pinned (OpenSpec.ofChange shardOrderWrong)

/-- 'trivetlaw11.ShardBytes': WHATEVER THE INPUT: true; the input reads as it did. -/
def shardBytesSpec : ChangeSpec := { name := "shardBytes", fn := fun _ => fun
  | [d1, d2, d3] => { results := [.lit (.bool true)], args := [d1, d2, d3] }
  | _ => none }
def shardBytesRow : OpenClaim := { program := "yteimilnigiagjaa", sum := "69b49ef53d8ada258f10b3bbbe3501eb634b40ad7c2b3f4baf05f06c5445df4e", func := "trivet/trivetlaw11.ShardBytes", spec := "shardBytes", unfollowed := true, recurses := true, plainKeys := false, apart := false }
def ShardBytesSaid : Prop := shardBytesRow.holds Try.pinned (OpenSpec.ofChange shardBytesSpec)

/-- ITS FALSE NEIGHBOUR: 'it returns false'. Refute it at one input. -/
def shardBytesWrong : ChangeSpec := { name := "shardBytes", fn := fun _ => fun
  | [d1, d2, d3] => { results := [.lit (.bool false)], args := [d1, d2, d3] }
  | _ => none }
def ShardBytesWrongFalsely : Prop := shardBytesRow.holds Try.pinned (OpenSpec.ofChange shardBytesWrong)

/-- 'trivetlaw11.ShardAsks': WHATEVER THE INPUT: true; the input reads as it did. -/
def shardAsksSpec : ChangeSpec := { name := "shardAsks", fn := fun _ => fun
  | [d1, d2, d3] => { results := [.lit (.bool true)], args := [d1, d2, d3] }
  | _ => none }
def shardAsksRow : OpenClaim := { program := "yteimilnigiagjaa", sum := "69b49ef53d8ada258f10b3bbbe3501eb634b40ad7c2b3f4baf05f06c5445df4e", func := "trivet/trivetlaw11.ShardAsks", spec := "shardAsks", unfollowed := true, recurses := true, plainKeys := false, apart := false }
def ShardAsksSaid : Prop := shardAsksRow.holds Try.pinned (OpenSpec.ofChange shardAsksSpec)

/-- ITS FALSE NEIGHBOUR: 'it returns false'. Refute it at one input. -/
def shardAsksWrong : ChangeSpec := { name := "shardAsks", fn := fun _ => fun
  | [d1, d2, d3] => { results := [.lit (.bool false)], args := [d1, d2, d3] }
  | _ => none }
def ShardAsksWrongFalsely : Prop := shardAsksRow.holds Try.pinned (OpenSpec.ofChange shardAsksWrong)

/-- 'trivetlaw11.ShardWhole': WHATEVER THE INPUT: true; the input reads as it did. -/
def shardWholeSpec : ChangeSpec := { name := "shardWhole", fn := fun _ => fun
  | [d1, d2, d3] => { results := [.lit (.bool true)], args := [d1, d2, d3] }
  | _ => none }
def shardWholeRow : OpenClaim := { program := "yteimilnigiagjaa", sum := "69b49ef53d8ada258f10b3bbbe3501eb634b40ad7c2b3f4baf05f06c5445df4e", func := "trivet/trivetlaw11.ShardWhole", spec := "shardWhole", unfollowed := true, recurses := true, plainKeys := false, apart := false }
def ShardWholeSaid : Prop := shardWholeRow.holds Try.pinned (OpenSpec.ofChange shardWholeSpec)

/-- ITS FALSE NEIGHBOUR: 'it returns false'. Refute it at one input. -/
def shardWholeWrong : ChangeSpec := { name := "shardWhole", fn := fun _ => fun
  | [d1, d2, d3] => { results := [.lit (.bool false)], args := [d1, d2, d3] }
  | _ => none }
def ShardWholeWrongFalsely : Prop := shardWholeRow.holds Try.pinned (OpenSpec.ofChange shardWholeWrong)

/-- 'trivetlaw11.ShardLists': WHATEVER THE INPUT: true; the input reads as it did. -/
def shardListsSpec : ChangeSpec := { name := "shardLists", fn := fun _ => fun
  | [d1, d2, d3] => { results := [.lit (.bool true)], args := [d1, d2, d3] }
  | _ => none }
def shardListsRow : OpenClaim := { program := "yteimilnigiagjaa", sum := "69b49ef53d8ada258f10b3bbbe3501eb634b40ad7c2b3f4baf05f06c5445df4e", func := "trivet/trivetlaw11.ShardLists", spec := "shardLists", unfollowed := true, recurses := true, plainKeys := false, apart := false }
def ShardListsSaid : Prop := shardListsRow.holds Try.pinned (OpenSpec.ofChange shardListsSpec)

/-- ITS FALSE NEIGHBOUR: 'it returns false'. Refute it at one input. -/
def shardListsWrong : ChangeSpec := { name := "shardLists", fn := fun _ => fun
  | [d1, d2, d3] => { results := [.lit (.bool false)], args := [d1, d2, d3] }
  | _ => none }
def ShardListsWrongFalsely : Prop := shardListsRow.holds Try.pinned (OpenSpec.ofChange shardListsWrong)

/-- 'trivetlaw11.ShardOwn': WHATEVER THE INPUT: true; the input reads as it did. -/
def shardOwnSpec : ChangeSpec := { name := "shardOwn", fn := fun _ => fun
  | [d1, d2] => { results := [.lit (.bool true)], args := [d1, d2] }
  | _ => none }
def shardOwnRow : OpenClaim := { program := "yteimilnigiagjaa", sum := "69b49ef53d8ada258f10b3bbbe3501eb634b40ad7c2b3f4baf05f06c5445df4e", func := "trivet/trivetlaw11.ShardOwn", spec := "shardOwn", unfollowed := true, recurses := true, plainKeys := false, apart := false }
def ShardOwnSaid : Prop := shardOwnRow.holds Try.pinned (OpenSpec.ofChange shardOwnSpec)

/-- ITS FALSE NEIGHBOUR: 'it returns false'. Refute it at one input. -/
def shardOwnWrong : ChangeSpec := { name := "shardOwn", fn := fun _ => fun
  | [d1, d2] => { results := [.lit (.bool false)], args := [d1, d2] }
  | _ => none }
def ShardOwnWrongFalsely : Prop := shardOwnRow.holds Try.pinned (OpenSpec.ofChange shardOwnWrong)

/-- 'trivetlaw11.ShardSplits': WHATEVER THE INPUT: true; the input reads as it did. -/
def shardSplitsSpec : ChangeSpec := { name := "shardSplits", fn := fun _ => fun
  | [d1, d2, d3] => { results := [.lit (.bool true)], args := [d1, d2, d3] }
  | _ => none }
def shardSplitsRow : OpenClaim := { program := "yteimilnigiagjaa", sum := "69b49ef53d8ada258f10b3bbbe3501eb634b40ad7c2b3f4baf05f06c5445df4e", func := "trivet/trivetlaw11.ShardSplits", spec := "shardSplits", unfollowed := true, recurses := true, plainKeys := false, apart := false }
def ShardSplitsSaid : Prop := shardSplitsRow.holds Try.pinned (OpenSpec.ofChange shardSplitsSpec)

/-- ITS FALSE NEIGHBOUR: 'it returns false'. Refute it at one input. -/
def shardSplitsWrong : ChangeSpec := { name := "shardSplits", fn := fun _ => fun
  | [d1, d2, d3] => { results := [.lit (.bool false)], args := [d1, d2, d3] }
  | _ => none }
def ShardSplitsWrongFalsely : Prop := shardSplitsRow.holds Try.pinned (OpenSpec.ofChange shardSplitsWrong)

/- THE SECOND FORM. 'bulk': how many values and letters a reading holds, each counted each time it is reached (what is shared counts as often as it is met; a slice's spare places count too). A statement '..UptoSaid' is the law's where the arguments, and the package variables that the reading takes, are together of bulk at most 1048576: NARROWER than '..Said'. Prove '..Said' where nothing that the law and all that it calls make is longer than what came in: it says more and counts as full. Else prove '..UptoSaid'. A law counts once. -/
mutual
def uptoBulk {H : Type} : DataW H → Nat
  | .lit (.string bytes) => bytes.length + 1
  | .lit _ => 1
  | .nil => 1
  | .ptr d => uptoBulk d + 1
  | .slice elems spare => uptoBulkAll elems + uptoBulkAll spare + 1
  | .agg parts => uptoBulkAll parts + 1
  | .iface _ d => uptoBulk d + 1
  | .map entries => uptoBulkEntries entries + 1
  | .held _ => 1
def uptoBulkAll {H : Type} : List (DataW H) → Nat
  | [] => 0
  | d :: r => uptoBulk d + uptoBulkAll r
def uptoBulkEntries {H : Type} : List (Lit × DataW H) → Nat
  | [] => 0
  | x :: r => uptoBulkEntry x + uptoBulkEntries r
def uptoBulkEntry {H : Type} : Lit × DataW H → Nat
  | (.string bytes, d) => bytes.length + uptoBulk d + 1
  | (_, d) => uptoBulk d + 1
 end
def uptoSmall : (H : Type) → List (DataW H) → Bool := fun _ ds => decide (uptoBulkAll ds ≤ 1048576)
def OpenSpec.upto (s : _root_.Go.ChangeSpec) : _root_.Go.OpenSpec := { _root_.Go.OpenSpec.ofChange s with cond := some uptoSmall }

/-- 'trivetlaw11.ShardOrder', WHERE WHAT IT READS IS OF BULK AT MOST 1048576: true; the input reads as it did. -/
def shardOrderUptoRow : OpenClaim := { program := "yteimilnigiagjaa", sum := "69b49ef53d8ada258f10b3bbbe3501eb634b40ad7c2b3f4baf05f06c5445df4e", func := "trivet/trivetlaw11.ShardOrder", spec := "shardOrder", unfollowed := true, recurses := true, plainKeys := false, apart := false, narrowed := true }
def ShardOrderUptoSaid : Prop := shardOrderUptoRow.holds Try.pinned (OpenSpec.upto shardOrderSpec)

/-- 'trivetlaw11.ShardBytes', WHERE WHAT IT READS IS OF BULK AT MOST 1048576: true; the input reads as it did. -/
def shardBytesUptoRow : OpenClaim := { program := "yteimilnigiagjaa", sum := "69b49ef53d8ada258f10b3bbbe3501eb634b40ad7c2b3f4baf05f06c5445df4e", func := "trivet/trivetlaw11.ShardBytes", spec := "shardBytes", unfollowed := true, recurses := true, plainKeys := false, apart := false, narrowed := true }
def ShardBytesUptoSaid : Prop := shardBytesUptoRow.holds Try.pinned (OpenSpec.upto shardBytesSpec)

/-- 'trivetlaw11.ShardAsks', WHERE WHAT IT READS IS OF BULK AT MOST 1048576: true; the input reads as it did. -/
def shardAsksUptoRow : OpenClaim := { program := "yteimilnigiagjaa", sum := "69b49ef53d8ada258f10b3bbbe3501eb634b40ad7c2b3f4baf05f06c5445df4e", func := "trivet/trivetlaw11.ShardAsks", spec := "shardAsks", unfollowed := true, recurses := true, plainKeys := false, apart := false, narrowed := true }
def ShardAsksUptoSaid : Prop := shardAsksUptoRow.holds Try.pinned (OpenSpec.upto shardAsksSpec)

/-- 'trivetlaw11.ShardWhole', WHERE WHAT IT READS IS OF BULK AT MOST 1048576: true; the input reads as it did. -/
def shardWholeUptoRow : OpenClaim := { program := "yteimilnigiagjaa", sum := "69b49ef53d8ada258f10b3bbbe3501eb634b40ad7c2b3f4baf05f06c5445df4e", func := "trivet/trivetlaw11.ShardWhole", spec := "shardWhole", unfollowed := true, recurses := true, plainKeys := false, apart := false, narrowed := true }
def ShardWholeUptoSaid : Prop := shardWholeUptoRow.holds Try.pinned (OpenSpec.upto shardWholeSpec)

/-- 'trivetlaw11.ShardLists', WHERE WHAT IT READS IS OF BULK AT MOST 1048576: true; the input reads as it did. -/
def shardListsUptoRow : OpenClaim := { program := "yteimilnigiagjaa", sum := "69b49ef53d8ada258f10b3bbbe3501eb634b40ad7c2b3f4baf05f06c5445df4e", func := "trivet/trivetlaw11.ShardLists", spec := "shardLists", unfollowed := true, recurses := true, plainKeys := false, apart := false, narrowed := true }
def ShardListsUptoSaid : Prop := shardListsUptoRow.holds Try.pinned (OpenSpec.upto shardListsSpec)

/-- 'trivetlaw11.ShardOwn', WHERE WHAT IT READS IS OF BULK AT MOST 1048576: true; the input reads as it did. -/
def shardOwnUptoRow : OpenClaim := { program := "yteimilnigiagjaa", sum := "69b49ef53d8ada258f10b3bbbe3501eb634b40ad7c2b3f4baf05f06c5445df4e", func := "trivet/trivetlaw11.ShardOwn", spec := "shardOwn", unfollowed := true, recurses := true, plainKeys := false, apart := false, narrowed := true }
def ShardOwnUptoSaid : Prop := shardOwnUptoRow.holds Try.pinned (OpenSpec.upto shardOwnSpec)

/-- 'trivetlaw11.ShardSplits', WHERE WHAT IT READS IS OF BULK AT MOST 1048576: true; the input reads as it did. -/
def shardSplitsUptoRow : OpenClaim := { program := "yteimilnigiagjaa", sum := "69b49ef53d8ada258f10b3bbbe3501eb634b40ad7c2b3f4baf05f06c5445df4e", func := "trivet/trivetlaw11.ShardSplits", spec := "shardSplits", unfollowed := true, recurses := true, plainKeys := false, apart := false, narrowed := true }
def ShardSplitsUptoSaid : Prop := shardSplitsUptoRow.holds Try.pinned (OpenSpec.upto shardSplitsSpec)

end Rows
end Go.Proofs.Yteimilnigiagjaa
