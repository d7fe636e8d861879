/- Both New functions: what they make, or that they refuse. -/
import Derived.Test.YteebkalajidehaaRef
set_option linter.unusedVariables false
set_option maxRecDepth 100000

namespace Go.Proofs.Yteebkalajidehaa
open Go.RowKit Tr

def okNew (n self term voted : Int) : Bool :=
  decide (1 ≤ n) && decide (n ≤ 5) && decide (0 ≤ self) && decide (self < n) && decide (0 ≤ term) && decide (term ≤ maxT) && decide (-1 ≤ voted) && decide (voted < n)
def mkV (n self term voted : Int) : VS := ⟨n, self, term, voted, false, List.replicate n.toNat false⟩

theorem mkV_ok {n self term voted : Int} (h : okNew n self term voted = true) : (mkV n self term voted).Ok := by
  simp only [okNew, Bool.and_eq_true, decide_eq_true_eq] at h
  obtain ⟨⟨⟨⟨⟨⟨⟨a, b⟩, c⟩, d⟩, e⟩, f⟩, g⟩, i⟩ := h
  exact ⟨a, b, c, d, e, f, g, i, by simp [mkV]; omega, fun _ => rfl, fun h => by cases h⟩

section
variable {w : World}
theorem new_c (n self term voted : Int) : Calls Try.prog 6 #[.agg #[.int .i64 n, .int .i64 self], .int .i64 term, .int .i64 voted] w fun e w' =>
    Fr [] w w' ∧ ((okNew n self term voted = false ∧ e = .returned (.tuple #[.pointer none, .int .i64 1])) ∨
      (okNew n self term voted = true ∧ ∃ b, e = .returned (.tuple #[.pointer (some ⟨b, 0, none⟩), .int .i64 0]) ∧ w.heap.size ≤ b ∧ Cells w' b 57 (pv (mkV n self term voted)))) := by
  apply c6
  refine s_new fun r w1 hr hz hf1 hc => ?_
  refine s_ldI hc rfl (s_ite (fun g1 => ?_) (fun g1 => s_ldI hc rfl (s_ite (fun g2 => ?_) (fun g2 => s_ldI hc rfl (s_ite (fun g3 => ?_) (fun g3 => s_ldI hc rfl (s_ldI hc rfl (s_ite (fun g4 => ?_) (fun g4 => s_ite (fun g5 => ?_) (fun g5 => s_ite (fun g6 => ?_) (fun g6 => s_ite (fun g7 => ?_) (fun g7 => s_ldI hc rfl (s_ite (fun g8 => ?_) (fun g8 => ?_))))))))))))))
  all_goals first
    | (refine s_ret ⟨hf1, .inl ⟨?_, rfl⟩⟩
       simp only [decide_eq_true_eq, decide_eq_false_iff_not] at *
       simp only [okNew, Bool.and_eq_false_iff, decide_eq_false_iff_not]; simp only [maxT]
       omega)
    | skip
  refine s_ldI hc rfl (s_ldI hc rfl ?_)
  refine s_new fun r2 w2 hr2 hz2 hf2 hc2 => s_ret ⟨hf1.trans hf2, .inr ⟨?_, r2, rfl, by omega, ?_⟩⟩
  · simp only [decide_eq_false_iff_not] at *
    simp only [okNew, Bool.and_eq_true, decide_eq_true_eq]; simp only [maxT]
    omega
  · simpa [pv, mkV, bits_zero] using hc2
theorem rnew_c (n self term voted : Int) : Calls Try.prog 15 #[.agg #[.int .i64 n, .int .i64 self], .int .i64 term, .int .i64 voted] w fun e w' =>
    Fr [] w w' ∧ ((okNew n self term voted = false ∧ e = .returned (.tuple #[.pointer none, .int .i64 1])) ∨
      (okNew n self term voted = true ∧ ∃ b b2, e = .returned (.tuple #[.pointer (some ⟨b, 0, none⟩), .int .i64 0]) ∧ w.heap.size ≤ b ∧ w.heap.size ≤ b2 ∧ RefAt w' b b2 (mkV n self term voted))) := by
  apply c15
  refine s_new fun r w1 hr hz hf1 hc => ?_
  refine s_ldI hc rfl (s_ite (fun g1 => ?_) (fun g1 => s_ldI hc rfl (s_ite (fun g2 => ?_) (fun g2 => s_ldI hc rfl (s_ite (fun g3 => ?_) (fun g3 => s_ldI hc rfl (s_ldI hc rfl (s_ite (fun g4 => ?_) (fun g4 => s_ite (fun g5 => ?_) (fun g5 => s_ite (fun g6 => ?_) (fun g6 => s_ite (fun g7 => ?_) (fun g7 => s_ldI hc rfl (s_ite (fun g8 => ?_) (fun g8 => ?_))))))))))))))
  all_goals first
    | (refine s_ret ⟨hf1, .inl ⟨?_, rfl⟩⟩
       simp only [decide_eq_true_eq, decide_eq_false_iff_not] at *
       simp only [okNew, Bool.and_eq_false_iff, decide_eq_false_iff_not]; simp only [maxT]
       omega)
    | skip
  simp only [decide_eq_false_iff_not] at g1 g2 g3 g4 g5 g6 g7 g8
  have hn : n.toNat ≤ 5 := by omega
  refine s_drew fun w1' hq hfd => ?_
  have hqs : w1'.heap.size = w1.heap.size := by rw [hq]
  have hc := hfd.cells hc (by simp)
  refine s_ldI hc rfl (s_ldI hc rfl (s_ldI hc rfl ?_))
  refine s_make elem68 (by omega) (by omega) (by omega) ?_
  intro b2 w2 hr2 hz2 hf2 hm
  rw [made_one _ _ rfl] at hm
  have hc2 := hf2.cells hc (by simp)
  refine s_asS (s_chk (c_cons hc2 rfl (c_cons hc2 rfl c_nil)) ?_)
  refine s_new fun r3 w3 hr3 hz3 hf3 hc3 => ?_
  have hc4 := hf3.cells hc2 (by simp)
  refine s_chk (c_cons hc4 rfl (c_cons hc4 rfl c_nil)) (s_ret ⟨((hf1.trans hfd).trans hf2).trans hf3, .inr ⟨?_, r3, b2, rfl, by omega, by omega, ?_⟩⟩)
  · simp only [okNew, Bool.and_eq_true, decide_eq_true_eq]; simp only [maxT]
    omega
  · refine ⟨⟨n.toNat, by simpa [rv, mkV] using hc3⟩, ⟨[], ?_⟩, by omega⟩
    simpa [mkV, bv] using hf3.cells hm (by simp)
end
end Go.Proofs.Yteebkalajidehaa
