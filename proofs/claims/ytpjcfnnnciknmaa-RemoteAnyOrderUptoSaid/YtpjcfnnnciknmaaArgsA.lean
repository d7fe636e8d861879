/- Lists of lists of pairs that are handed in. -/
import Derived.Test.YtpjcfnnnciknmaaArgs18
import Derived.Test.YtpjcfnnnciknmaaDeepU
import Derived.Test.YtpjcfnnnciknmaaAnyW
set_option linter.unusedVariables false
set_option linter.unusedSimpArgs false
set_option maxRecDepth 100000
namespace Go.Proofs.Ytpjcfnnnciknmaa
open Go hiding Expr
open Go.RowKit Tr

abbrev lfL : List DLeaf := [.lst lfPr 134217727]
abbrev lfB : List DLeaf := [.flat (.int .u8)]
section
variable {w : World}
theorem pls_of (rows : List (List Value)) (h : ∀ r ∈ rows, FitsD w lfL r) : ∃ ls : List PL, rows = ls.map plr ∧ ∀ y ∈ ls, PairsAt w y.o y.l ∧ y.l.length ≤ 1048577 ∧ ∀ q ∈ y.l, InK q.k := by
  induction rows with
  | nil => exact ⟨[], rfl, by simp⟩
  | cons r rows ih =>
    obtain ⟨ls, rfl, hl⟩ := ih (fun r hr => h r (by simp [hr]))
    obtain ⟨o, len, cap, rw', _, rfl, hlen, _, hb, ha, hr, h1⟩ := (h r (by simp)).lst
    obtain rfl := h1.nil
    obtain ⟨l, rfl, hk⟩ := prs_of rw' hr
    rw [List.length_map] at hlen
    subst hlen
    simp only [reachBytes] at hb
    refine ⟨⟨o, cap, l⟩ :: ls, rfl, fun y hy => ?_⟩
    rcases List.mem_cons.1 hy with rfl | hy
    · exact ⟨ha, by simp only; omega, hk⟩
    · exact hl y hy
theorem u8s_of (rows : List (List Value)) (h : ∀ r ∈ rows, FitsD w lfB r) : ∃ l : List Int, rows = l.map u8r ∧ ∀ y ∈ l, 0 ≤ y ∧ y ≤ 255 := by
  induction rows with
  | nil => exact ⟨[], rfl, by simp⟩
  | cons r rows ih =>
    obtain ⟨l, rfl, hl⟩ := ih (fun r hr => h r (by simp [hr]))
    obtain ⟨a, _, rfl, w1, h1⟩ := (h r (by simp)).int
    obtain rfl := h1.nil
    refine ⟨a :: l, rfl, fun y hy => ?_⟩
    rcases List.mem_cons.1 hy with rfl | hy
    · simpa [Lit.wf, IntKind.min, IntKind.max, IntKind.signed, IntKind.bits] using w1
    · exact hl y hy
end
end Go.Proofs.Ytpjcfnnnciknmaa
