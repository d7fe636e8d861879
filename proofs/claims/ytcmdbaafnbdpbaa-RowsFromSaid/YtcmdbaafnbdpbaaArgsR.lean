/- Rows that are handed in. -/
import Derived.Test.YtcmdbaafnbdpbaaFromW
import Derived.Test.YtcmdbaafnbdpbaaArgs20
set_option linter.unusedVariables false
set_option linter.unusedSimpArgs false
set_option maxRecDepth 100000
namespace Go.Proofs.Ytcmdbaafnbdpbaa
open Go hiding Expr
open Go.RowKit Tr

abbrev lfRow : List DLeaf := [lfI, lfI, lfI, .lst [lfI] 8, lfI, lfI]
theorem ars_of {w : World} (rows : List (List Value)) (h : ∀ r ∈ rows, FitsD w lfRow r) : ∃ X : List AR, rows = X.map arr ∧ ∀ x ∈ X, ValsAt w x.o x.vals ∧ x.vals.length * 8 ≤ 140737488355328 := by
  induction rows with
  | nil => exact ⟨[], rfl, by simp⟩
  | cons r rows ih =>
    obtain ⟨X, rfl, hX⟩ := ih (fun r hr => h r (by simp [hr]))
    obtain ⟨s, _, rfl, ws, h1⟩ := (h r (by simp)).int
    obtain ⟨q, _, rfl, wq, h2⟩ := h1.int
    obtain ⟨e, o, vals, cap, slot, place, _, rfl, hv, hs, h5⟩ := res_of h2
    obtain rfl := h5.nil
    refine ⟨⟨s, q, e, o, cap, vals, slot, place⟩ :: X, rfl, fun x hx => ?_⟩
    rcases List.mem_cons.1 hx with rfl | hx
    · exact ⟨hv, hs⟩
    · exact hX x hx
end Go.Proofs.Ytcmdbaafnbdpbaa
