/- Transactions that are handed in, opened. -/
import Derived.Test.YtndkffhlheaepaaTxn
import Derived.Test.YtndkffhlheaepaaOrder
import Derived.Test.YtndkffhlheaepaaDeepU
set_option linter.unusedVariables false
set_option linter.unusedSimpArgs false
set_option maxRecDepth 100000
namespace Go.Proofs.Ytndkffhlheaepaa
open Go hiding Expr
open Go.RowKit Tr

abbrev lfI : DLeaf := .flat (.int .i64)
abbrev lfK : List DLeaf := [.flat (.int .i32), lfI]
abbrev lfTx : List DLeaf := [lfI, lfI, .lst [.flat (.int .u8)] 134217727, .lst [lfI] 134217727, .lst lfK 134217727, .lst lfK 134217727]
section
variable {w : World}
theorem keysD_of (rows : List (List Value)) (h : ∀ r ∈ rows, FitsD w lfK r) : ∃ ks : List K, rows = ks.map kr ∧ ∀ k ∈ ks, InK k := keys_of rows fun r hr => FitsD.toFlat (ls := [.int .i32, .int .i64]) (h r hr)
theorem tx_of {vs : List Value} (h : FitsD w lfTx vs) : ∃ x : TX, vs = txr x ∧ TxAt w x ∧ TxOk x := by
  obtain ⟨s, _, rfl, _, h1⟩ := h.int
  obtain ⟨q, _, rfl, _, h2⟩ := h1.int
  obtain ⟨oc, nc, cc, rowsc, _, rfl, hcl, _, _, _, _, h3⟩ := h2.lst
  obtain ⟨oa, na, ca, rowsa, _, rfl, hal, _, _, _, _, h4⟩ := h3.lst
  obtain ⟨od, nd, cd, rowsd, _, rfl, hdl, _, hdb, hda, hdf, h5⟩ := h4.lst
  obtain ⟨ow, nw, cw, rowsw, _, rfl, hwl, _, hwb, hwa, hwf, h6⟩ := h5.lst
  obtain rfl := h6.nil
  obtain ⟨rd, rfl, hrd⟩ := keysD_of rowsd hdf
  obtain ⟨wr, rfl, hwr⟩ := keysD_of rowsw hwf
  rw [List.length_map] at hdl hwl
  subst hdl hwl
  simp only [reachBytes] at hdb hwb
  exact ⟨⟨s, q, oc, nc, cc, oa, na, ca, od, cd, rd, ow, cw, wr⟩, rfl, ⟨hda, hwa⟩, ⟨by simp only; omega, hrd, hwr⟩⟩
theorem txs_of (rows : List (List Value)) (h : ∀ r ∈ rows, FitsD w lfTx r) : ∃ X : List TX, rows = X.map txr ∧ ∀ x ∈ X, TxAt w x ∧ TxOk x := by
  induction rows with
  | nil => exact ⟨[], rfl, by simp⟩
  | cons r rows ih =>
    obtain ⟨X, rfl, hX⟩ := ih (fun r hr => h r (by simp [hr]))
    obtain ⟨x, rfl, h1, h2⟩ := tx_of (h r (by simp))
    refine ⟨x :: X, rfl, fun y hy => ?_⟩
    rcases List.mem_cons.1 hy with rfl | hy
    · exact ⟨h1, h2⟩
    · exact hX y hy
end
end Go.Proofs.Ytndkffhlheaepaa
