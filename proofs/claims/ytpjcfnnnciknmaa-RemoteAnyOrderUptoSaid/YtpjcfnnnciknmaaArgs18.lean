/- Operations that are handed in. -/
import Derived.Test.YtpjcfnnnciknmaaBoxM
import Derived.Test.YtpjcfnnnciknmaaDeep
import Derived.Test.YtpjcfnnnciknmaaInts
import Derived.Test.YtpjcfnnnciknmaaPairsR
set_option linter.unusedVariables false
set_option linter.unusedSimpArgs false
set_option maxRecDepth 100000
namespace Go.Proofs.Ytpjcfnnnciknmaa
open Go hiding Expr
open Go.RowKit Tr

abbrev lfN : List DLeaf := [.flat (.int .i64)]
abbrev lfPr : List DLeaf := [.flat (.int .i32), .flat (.int .i64), .flat (.int .i64)]
abbrev lfOp : List DLeaf := [.flat (.int .i64), .flat (.int .i64), .flat (.int .i64), .flat (.int .i64), .lst lfN 8, .lst lfPr 24]
section
variable {w : World}
theorem nums_of (rows : List (List Value)) (h : ∀ r ∈ rows, FitsD w lfN r) : ∃ l : List Int, rows = l.map ir ∧ ∀ y ∈ l, -9223372036854775808 ≤ y ∧ y ≤ 9223372036854775807 := by
  induction rows with
  | nil => exact ⟨[], rfl, by simp⟩
  | cons r rows ih =>
    obtain ⟨l, rfl, hl⟩ := ih (fun r hr => h r (by simp [hr]))
    obtain ⟨a, _, rfl, w1, h1⟩ := (h r (by simp)).int
    obtain rfl := h1.nil
    refine ⟨a :: l, rfl, fun y hy => ?_⟩
    rcases List.mem_cons.1 hy with rfl | hy
    · simpa [Lit.wf, IntKind.min, IntKind.max, IntKind.signed, IntKind.bits] using w1
    · exact hl y hy
theorem prs_of (rows : List (List Value)) (h : ∀ r ∈ rows, FitsD w lfPr r) : ∃ l : List PR, rows = l.map pr ∧ ∀ y ∈ l, InK y.k := by
  induction rows with
  | nil => exact ⟨[], rfl, by simp⟩
  | cons r rows ih =>
    obtain ⟨l, rfl, hl⟩ := ih (fun r hr => h r (by simp [hr]))
    obtain ⟨a, _, rfl, w1, h1⟩ := (h r (by simp)).int
    obtain ⟨b, _, rfl, w2, h2⟩ := h1.int
    obtain ⟨x, _, rfl, _, h3⟩ := h2.int
    obtain rfl := h3.nil
    refine ⟨⟨⟨a, b⟩, x⟩ :: l, rfl, fun y hy => ?_⟩
    rcases List.mem_cons.1 hy with rfl | hy
    · simp [Lit.wf, IntKind.min, IntKind.max, IntKind.signed, IntKind.bits] at w1 w2
      unfold InK
      simp only
      omega
    · exact hl y hy
structure OpV where
  d : Int
  t : Ix
  x : Int
  o1 : Option Addr
  c1 : Nat
  ns : List Int
  o2 : Option Addr
  c2 : Nat
  ps : List PR
def opr (v : OpV) : List Value := [.int .i64 v.d, .int .i64 v.t.s, .int .i64 v.t.p, .int .i64 v.x, .slice v.o1 v.ns.length v.c1, .slice v.o2 v.ps.length v.c2]
structure OpOk (w : World) (v : OpV) : Prop where
  t : InI v.t
  x : -9223372036854775808 ≤ v.x ∧ v.x ≤ 9223372036854775807
  ns : ValsAt w v.o1 v.ns
  nsz : v.ns.length * 8 ≤ reachBytes
  ps : PairsAt w v.o2 v.ps
  inp : ∀ y ∈ v.ps, InK y.k
  psz : v.ps.length * 24 ≤ reachBytes
theorem op_of {vs : List Value} (h : FitsD w lfOp vs) : ∃ v : OpV, vs = opr v ∧ OpOk w v := by
  obtain ⟨d, _, rfl, _, h1⟩ := h.int
  obtain ⟨a, _, rfl, w1, h2⟩ := h1.int
  obtain ⟨b, _, rfl, w2, h3⟩ := h2.int
  obtain ⟨z, _, rfl, w3, h4⟩ := h3.int
  obtain ⟨o, len, cap, rows, _, rfl, hl, hc, hb, ha, hr, h5⟩ := h4.lst
  obtain ⟨o2, len2, cap2, rows2, _, rfl, hl2, hc2, hb2, ha2, hr2, h6⟩ := h5.lst
  obtain rfl := h6.nil
  obtain ⟨l, rfl, hk⟩ := nums_of rows hr
  obtain ⟨l2, rfl, hk2⟩ := prs_of rows2 hr2
  rw [List.length_map] at hl hl2
  subst hl hl2
  refine ⟨⟨d, ⟨a, b⟩, z, o, cap, l, o2, cap2, l2⟩, rfl, ?_, ?_, ha, hb, ha2, hk2, hb2⟩
  · simp [Lit.wf, IntKind.min, IntKind.max, IntKind.signed, IntKind.bits] at w1 w2
    unfold InI
    simp only
    omega
  · simpa [Lit.wf, IntKind.min, IntKind.max, IntKind.signed, IntKind.bits] using w3
end
end Go.Proofs.Ytpjcfnnnciknmaa
