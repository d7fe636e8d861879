/- Transactions that are handed in, opened: of whatever size their reach lets in. -/
import Derived.Test.YtndkffhlheaepaaArgsT
import Derived.Test.YtndkffhlheaepaaOfLe
set_option linter.unusedVariables false
set_option linter.unusedSimpArgs false
set_option maxRecDepth 100000
namespace Go.Proofs.Ytndkffhlheaepaa
open Go hiding Expr
open Go.RowKit Tr

abbrev lfTxD : List DLeaf := [lfI, lfI, .lst [.flat (.int .u8)] 1, .lst [lfI] 8, .lst lfK 16, .lst lfK 16]
section
variable {w : World}
theorem txD_of {vs : List Value} (h : FitsD w lfTxD vs) : ∃ x : TX, vs = txr x ∧ TxAt w x ∧ TxLe x := by
  obtain ⟨s, _, rfl, _, h1⟩ := h.int
  obtain ⟨q, _, rfl, _, h2⟩ := h1.int
  obtain ⟨oc, nc, cc, rowsc, _, rfl, hcl, _, _, _, _, h3⟩ := h2.lst
  obtain ⟨oa, na, ca, rowsa, _, rfl, hal, _, _, _, _, h4⟩ := h3.lst
  obtain ⟨od, nd, cd, rowsd, _, rfl, hdl, _, hdb, hda, hdf, h5⟩ := h4.lst
  obtain ⟨ow, nw, cw, rowsw, _, rfl, hwl, _, hwb, hwa, hwf, h6⟩ := h5.lst
  obtain rfl := h6.nil
  obtain ⟨rd, rfl, hrd⟩ := keysD_of rowsd hdf
  obtain ⟨wr, rfl, hwr⟩ := keysD_of rowsw hwf
  rw [List.length_map] at hdl hwl
  subst hdl hwl
  simp only [reachBytes] at hdb hwb
  exact ⟨⟨s, q, oc, nc, cc, oa, na, ca, od, cd, rd, ow, cw, wr⟩, rfl, ⟨hda, hwa⟩, ⟨by simp only; omega, by simp only; omega⟩⟩
end
end Go.Proofs.Ytndkffhlheaepaa
