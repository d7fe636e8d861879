/- Steps and worlds that are handed in, opened. -/
import Derived.Test.YtihipcofjpnfbaaDoorPrint
import Derived.Test.YtihipcofjpnfbaaDoorDeepU
set_option linter.unusedVariables false
set_option linter.unusedSimpArgs false
set_option maxRecDepth 100000
namespace Go.Proofs.YtihipcofjpnfbaaDoor
open Go hiding Expr
open Go.RowKit Tr

abbrev lfI : DLeaf := .flat (.int .i64)
abbrev lfB : DLeaf := .flat (.int .u8)
abbrev lfK : List DLeaf := [.flat (.int .i32), lfI]
abbrev lfST : List DLeaf := [lfI, lfI, lfI, lfI, lfI, .lst [lfB] 134217727, .lst [lfI] 134217727, .lst lfK 134217727, .lst lfK 134217727, .lst lfK 134217727, lfI, lfI, lfI, lfB, lfI, lfI]
abbrev lfCF : List DLeaf := [lfI, lfI, lfI, lfI, .flat (.int .u64)]
theorem in64_wf {n : Int} (h : (Lit.int .i64 n).wf = true) : In64 n := by
  simp [Lit.wf, IntKind.min, IntKind.max, IntKind.signed, IntKind.bits] at h
  exact ⟨by omega, by omega⟩
theorem byte_wf {n : Int} (h : (Lit.int .u8 n).wf = true) : IsByte n := by
  simp [Lit.wf, IntKind.min, IntKind.max, IntKind.signed, IntKind.bits] at h
  exact ⟨by omega, by omega⟩
section
variable {w : World}
theorem bytesD_of (rows : List (List Value)) (h : ∀ r ∈ rows, FitsD w [lfB] r) : ∃ l : List Int, rows = l.map br ∧ ∀ c ∈ l, IsByte c := by
  induction rows with
  | nil => exact ⟨[], rfl, by simp⟩
  | cons r rows ih =>
    obtain ⟨l, rfl, hl⟩ := ih (fun r hr => h r (by simp [hr]))
    obtain ⟨a, _, rfl, w1, h1⟩ := (h r (by simp)).int
    obtain rfl := h1.nil
    refine ⟨a :: l, rfl, fun y hy => ?_⟩
    rcases List.mem_cons.1 hy with rfl | hy
    · exact byte_wf w1
    · exact hl y hy
theorem intsD_of (rows : List (List Value)) (h : ∀ r ∈ rows, FitsD w [lfI] r) : ∃ l : List Int, rows = l.map ir ∧ ∀ c ∈ l, In64 c := by
  induction rows with
  | nil => exact ⟨[], rfl, by simp⟩
  | cons r rows ih =>
    obtain ⟨l, rfl, hl⟩ := ih (fun r hr => h r (by simp [hr]))
    obtain ⟨a, _, rfl, w1, h1⟩ := (h r (by simp)).int
    obtain rfl := h1.nil
    refine ⟨a :: l, rfl, fun y hy => ?_⟩
    rcases List.mem_cons.1 hy with rfl | hy
    · exact in64_wf w1
    · exact hl y hy
theorem keysD_of (rows : List (List Value)) (h : ∀ r ∈ rows, FitsD w lfK r) : ∃ l : List K, rows = l.map kr ∧ ∀ k ∈ l, InK k := by
  induction rows with
  | nil => exact ⟨[], rfl, by simp⟩
  | cons r rows ih =>
    obtain ⟨l, rfl, hl⟩ := ih (fun r hr => h r (by simp [hr]))
    obtain ⟨a, _, rfl, w1, h1⟩ := (h r (by simp)).int
    obtain ⟨b, _, rfl, w2, h2⟩ := h1.int
    obtain rfl := h2.nil
    refine ⟨⟨a, b⟩ :: l, rfl, fun y hy => ?_⟩
    rcases List.mem_cons.1 hy with rfl | hy
    · simp [Lit.wf, IntKind.min, IntKind.max, IntKind.signed, IntKind.bits] at w1
      exact ⟨by simp only; omega, by simp only; omega, in64_wf w2⟩
    · exact hl y hy
theorem step_of {vs : List Value} (h : FitsD w lfST vs) : ∃ p : SX, vs = sxr p ∧ StAt w p.x p.v ∧ StOk p.x := by
  obtain ⟨kind, _, rfl, wk, h⟩ := h.int
  obtain ⟨at_, _, rfl, wa, h⟩ := h.int
  obtain ⟨client, _, rfl, wcl, h⟩ := h.int
  obtain ⟨s, _, rfl, ws, h⟩ := h.int
  obtain ⟨q, _, rfl, wq, h⟩ := h.int
  obtain ⟨oc, nc, cc, rc, _, rfl, hc1, _, hc2, hc3, hc4, h⟩ := h.lst
  obtain ⟨oa, na, ca, ra, _, rfl, ha1, _, ha2, ha3, ha4, h⟩ := h.lst
  obtain ⟨od, nd, cd, rd, _, rfl, hd1, _, hd2, hd3, hd4, h⟩ := h.lst
  obtain ⟨ow, nw, cw, rw', _, rfl, hw1, _, hw2, hw3, hw4, h⟩ := h.lst
  obtain ⟨ok, nk, ck, rk, _, rfl, hk1, _, hk2, hk3, hk4, h⟩ := h.lst
  obtain ⟨frm, _, rfl, wf, h⟩ := h.int
  obtain ⟨dst, _, rfl, wd, h⟩ := h.int
  obtain ⟨place, _, rfl, wp, h⟩ := h.int
  obtain ⟨wth, _, rfl, ww, h⟩ := h.int
  obtain ⟨keep, _, rfl, wkp, h⟩ := h.int
  obtain ⟨count, _, rfl, wct, h⟩ := h.int
  obtain rfl := h.nil
  obtain ⟨code, rfl, hcode⟩ := bytesD_of rc hc4
  obtain ⟨args, rfl, hargs⟩ := intsD_of ra ha4
  obtain ⟨rd, rfl, hrd⟩ := keysD_of rd hd4
  obtain ⟨wr, rfl, hwr⟩ := keysD_of rw' hw4
  obtain ⟨keys, rfl, hkeys⟩ := keysD_of rk hk4
  rw [List.length_map] at hc1 ha1 hd1 hw1 hk1
  subst hc1 ha1 hd1 hw1 hk1
  simp only [reachBytes] at hc2 ha2 hd2 hw2 hk2
  refine ⟨⟨⟨kind, at_, client, ⟨s, q, code, args, rd, wr⟩, keys, frm, dst, place, wth, keep, count⟩, ⟨⟨oc, cc, oa, ca, od, cd, ow, cw⟩, ok, ck⟩⟩, rfl, ⟨⟨hc3, ha3, hd3, hw3⟩, hk3⟩, ?_⟩
  exact ⟨in64_wf wk, in64_wf wa, in64_wf wcl, ⟨in64_wf ws, in64_wf wq, hcode, hargs, hrd, hwr, by simp only; omega, by simp only; omega, by simp only; omega, by simp only; omega⟩, hkeys, by simp only; omega, in64_wf wf, in64_wf wd, in64_wf wp, byte_wf ww, in64_wf wkp, in64_wf wct⟩
theorem steps_of (rows : List (List Value)) (h : ∀ r ∈ rows, FitsD w lfST r) : ∃ X : List SX, rows = X.map sxr ∧ (∀ p ∈ X, StAt w p.x p.v) ∧ StepsOk X := by
  induction rows with
  | nil => exact ⟨[], rfl, by simp, by intro p hp; cases hp⟩
  | cons r rows ih =>
    obtain ⟨X, rfl, h1, h2⟩ := ih (fun r hr => h r (by simp [hr]))
    obtain ⟨x, rfl, h3, h4⟩ := step_of (h r (by simp))
    refine ⟨x :: X, rfl, fun y hy => ?_, fun y hy => ?_⟩
    · rcases List.mem_cons.1 hy with rfl | hy
      · exact h3
      · exact h1 y hy
    · rcases List.mem_cons.1 hy with rfl | hy
      · exact h4
      · exact h2 y hy
theorem cf_of {vs : List Value} (h : FitsD w lfCF vs) : ∃ c : CF, vs = cfv c ∧ CfOk c := by
  obtain ⟨n, _, rfl, w1, h⟩ := h.int
  obtain ⟨p, _, rfl, w2, h⟩ := h.int
  obtain ⟨b, _, rfl, w3, h⟩ := h.int
  obtain ⟨c, _, rfl, w4, h⟩ := h.int
  obtain ⟨s, _, rfl, w5, h⟩ := h.int
  obtain rfl := h.nil
  simp [Lit.wf, IntKind.min, IntKind.max, IntKind.signed, IntKind.bits] at w5
  obtain ⟨k, rfl⟩ : ∃ k : Nat, s = k := ⟨s.toNat, by omega⟩
  exact ⟨⟨n, p, b, c, k⟩, rfl, in64_wf w1, in64_wf w2, in64_wf w3, in64_wf w4, by simp only; omega⟩
end
end Go.Proofs.YtihipcofjpnfbaaDoor
