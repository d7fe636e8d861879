/- Results, rows and operations that are handed in. -/
import Derived.Test.YtcmdbaafnbdpbaaAll
import Derived.Test.YtcmdbaafnbdpbaaDeep
set_option linter.unusedVariables false
set_option linter.unusedSimpArgs false
set_option maxRecDepth 100000
namespace Go.Proofs.Ytcmdbaafnbdpbaa
open Go hiding Expr
open Go.RowKit Tr

abbrev lfI : DLeaf := .flat (.int .i64)
abbrev lfRes : List DLeaf := [lfI, .lst [lfI] 8, lfI, lfI]
theorem inI_of {n : Int} (h : (Lit.int .i64 n).wf = true) : inI n := by
  simp [Lit.wf, IntKind.min, IntKind.max, IntKind.signed, IntKind.bits] at h
  exact ⟨by omega, by omega⟩
section
variable {w : World}
theorem vals_of (rows : List (List Value)) (h : ∀ r ∈ rows, FitsD w [lfI] r) : ∃ vals : List Int, rows = vals.map ir := by
  induction rows with
  | nil => exact ⟨[], rfl⟩
  | cons r rows ih =>
    obtain ⟨vals, rfl⟩ := ih (fun r hr => h r (by simp [hr]))
    obtain ⟨n, r', rfl, _, h'⟩ := (h r (by simp)).int
    obtain rfl := h'.nil
    exact ⟨n :: vals, rfl⟩
/-- A result's leaves. -/
theorem res_of {ls : List DLeaf} {vs : List Value} (h : FitsD w (lfI :: .lst [lfI] 8 :: lfI :: lfI :: ls) vs) : ∃ e o vals cap slot place r, vs = .int .i64 e :: .slice o vals.length cap :: .int .i64 slot :: .int .i64 place :: r ∧ ValsAt w o vals ∧ vals.length * 8 ≤ 140737488355328 ∧ FitsD w ls r := by
  obtain ⟨e, _, rfl, _, h1⟩ := h.int
  obtain ⟨o, len, cap, rows, _, rfl, hl, hc, hb, ha, hr, h2⟩ := h1.lst
  obtain ⟨slot, _, rfl, _, h3⟩ := h2.int
  obtain ⟨place, r, rfl, _, h4⟩ := h3.int
  obtain ⟨vals, rfl⟩ := vals_of rows hr
  rw [List.length_map] at hl
  subst hl
  exact ⟨e, o, vals, cap, slot, place, r, rfl, ha, by simp only [reachBytes] at hb; omega, h4⟩
end
end Go.Proofs.Ytcmdbaafnbdpbaa
