/- Bytes that are handed in, of bounded bulk. -/
import Derived.Test.YtgoecmggbcaoiaaPartsW
import Derived.Test.YtgoecmggbcaoiaaDeepU
set_option linter.unusedVariables false
set_option linter.unusedSimpArgs false
set_option maxRecDepth 100000
namespace Go.Proofs.Ytgoecmggbcaoiaa
open Go hiding Expr
open Go.RowKit Tr
theorem open_bytsU {w : World} {vs : List Value} {ls : List DLeaf} (h : FitsD w (.lst lfB 134217727 :: ls) vs) : ∃ (o : Option Addr) (l : List Int) (cap : Nat) (r : List Value), vs = .slice o l.length cap :: r ∧ l.length ≤ cap ∧ l.length ≤ 1048576 ∧ (∀ x ∈ l, 0 ≤ x ∧ x ≤ 255) ∧ BytAt w o l ∧ FitsD w ls r := by
  obtain ⟨o, len, cap, rows, r, rfl, hl, hc, hb, ha, hr, h2⟩ := h.lst
  obtain ⟨l, rfl, hu⟩ := byts_of rows hr
  rw [List.length_map] at hl
  subst hl
  exact ⟨o, l, cap, r, rfl, hc, by simp only [reachBytes] at hb; omega, hu, ha, h2⟩
end Go.Proofs.Ytgoecmggbcaoiaa
