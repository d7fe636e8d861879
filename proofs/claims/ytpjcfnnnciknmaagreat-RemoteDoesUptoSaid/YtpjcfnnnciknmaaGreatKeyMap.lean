/- Maps keyed by keys. -/
import Derived.Test.YtpjcfnnnciknmaaGreatSortK
import Derived.DeepKeys3
import Derived.Maps.Keyed
set_option linter.unusedVariables false
set_option linter.unusedSimpArgs false
set_option maxRecDepth 100000
namespace Go.Proofs.YtpjcfnnnciknmaaGreat
open Go hiding Expr
open Go.RowKit Tr

theorem keyedK : Maps.Keyed Tryz.prog 51 := Maps.Keyed.of_law (deep_law (m := 2) (by omega) (by kernel_rfl) (by kernel_rfl) (by kernel_rfl))
abbrev kfK (k : K) : Value := .agg ⟨kr k⟩
theorem kfK_inj {a b : K} (h : kfK a = kfK b) : a = b := by
  simp [kfK, kr] at h
  exact K.ext' h.1 h.2
def InK (k : K) : Prop := -2147483648 ≤ k.t ∧ k.t ≤ 2147483647 ∧ -9223372036854775808 ≤ k.r ∧ k.r ≤ 9223372036854775807
theorem types_pos : ∃ m, Tryz.prog.types.size = m + 1 := ⟨Tryz.prog.types.size - 1, by have : 0 < Tryz.prog.types.size := of_decide_eq_true (by kernel_rfl); omega⟩
theorem keyOfK {k : K} (h : InK k) : ∃ l, keyOf Tryz.prog 51 (kfK k) = some l := by
  obtain ⟨h1, h2, h3, h4⟩ := h
  have wa : (Lit.int .i32 k.t).wf = true := by simp [Lit.wf, IntKind.min, IntKind.max, IntKind.signed, IntKind.bits]; omega
  have wb : (Lit.int .i64 k.r).wf = true := by simp [Lit.wf, IntKind.min, IntKind.max, IntKind.signed, IntKind.bits]; omega
  have hkt : Tryz.prog.keyType 51 = true := by kernel_rfl
  have hsz : Tryz.prog.cellsOf 51 = 2 := by kernel_rfl
  obtain ⟨m, hm⟩ := types_pos
  unfold keyOf
  simp only [Tryz.underlying51]
  rw [if_pos (by simp [hkt, Value.formed, Tryz.underlying51, hsz, kr]), hm]
  unfold Program.keyLits
  simp only [Tryz.underlying51, Value.cells]
  have e1 : Tryz.prog.cellsOf 21 = 1 := by kernel_rfl
  have e2 : Tryz.prog.cellsOf 2 = 1 := by kernel_rfl
  have c2 : (⟨kr k⟩ : Array Value).toList.length = 2 := rfl
  simp [hsz, c2, kr, Program.keyLits, Tryz.underlying21, Tryz.underlying2, wa, wb, e1, e2, List.mapM_cons]
end Go.Proofs.YtpjcfnnnciknmaaGreat
