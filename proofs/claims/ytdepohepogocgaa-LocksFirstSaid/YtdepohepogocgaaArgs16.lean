/- Operations that are handed in. -/
import Derived.Test.YtdepohepogocgaaLkM
import Derived.Test.YtdepohepogocgaaDeep
set_option linter.unusedVariables false
set_option linter.unusedSimpArgs false
set_option maxRecDepth 100000
namespace Go.Proofs.Ytdepohepogocgaa
open Go hiding Expr
open Go.RowKit Tr

abbrev lfLk : List DLeaf := [.flat (.int .i32), .flat (.int .i64), .flat .bool]
abbrev lfOp : List DLeaf := [.flat (.int .i64), .flat (.int .i64), .flat (.int .i64), .lst lfLk 24]
section
variable {w : World}
theorem locks_of (rows : List (List Value)) (h : ∀ r ∈ rows, FitsD w lfLk r) : ∃ l : List Lk, rows = l.map lr ∧ ∀ y ∈ l, InK y.k := by
  induction rows with
  | nil => exact ⟨[], rfl, by simp⟩
  | cons r rows ih =>
    obtain ⟨l, rfl, hl⟩ := ih (fun r hr => h r (by simp [hr]))
    obtain ⟨a, _, rfl, w1, h1⟩ := (h r (by simp)).int
    obtain ⟨b, _, rfl, w2, h2⟩ := h1.int
    obtain ⟨x, _, rfl, h3⟩ := h2.bool
    obtain rfl := h3.nil
    refine ⟨⟨⟨a, b⟩, x⟩ :: l, rfl, fun y hy => ?_⟩
    rcases List.mem_cons.1 hy with rfl | hy
    · simp [Lit.wf, IntKind.min, IntKind.max, IntKind.signed, IntKind.bits] at w1 w2
      unfold InK
      simp only
      omega
    · exact hl y hy
theorem op_of {vs : List Value} (h : FitsD w lfOp vs) : ∃ (d a b : Int) (o : Option Addr) (l : List Lk) (cap : Nat), vs = [.int .i64 d, .int .i64 a, .int .i64 b, .slice o l.length cap] ∧ InI ⟨a, b⟩ ∧ RowsAt w o 3 (l.map lr) ∧ (∀ y ∈ l, InK y.k) ∧ l.length * 24 ≤ reachBytes := by
  obtain ⟨d, _, rfl, _, h1⟩ := h.int
  obtain ⟨a, _, rfl, w1, h2⟩ := h1.int
  obtain ⟨b, _, rfl, w2, h3⟩ := h2.int
  obtain ⟨o, len, cap, rows, _, rfl, hl, hc, hb, ha, hr, h4⟩ := h3.lst
  obtain rfl := h4.nil
  obtain ⟨l, rfl, hk⟩ := locks_of rows hr
  rw [List.length_map] at hl
  subst hl
  refine ⟨d, a, b, o, l, cap, rfl, ?_, ha, hk, hb⟩
  simp [Lit.wf, IntKind.min, IntKind.max, IntKind.signed, IntKind.bits] at w1 w2
  unfold InI
  simp only
  omega
end
end Go.Proofs.Ytdepohepogocgaa
