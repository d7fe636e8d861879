/- The law's walk: ScriptApart. -/
import Derived.Test.YtihipcofjpnfbaaDoorApartP
import Derived.Test.YtihipcofjpnfbaaDoorLiveW
set_option linter.unusedVariables false
set_option linter.unusedSimpArgs false
set_option maxRecDepth 100000
set_option maxHeartbeats 8000000
namespace Go.Proofs.YtihipcofjpnfbaaDoor
open Go hiding Expr
open Go.RowKit Tr

theorem lawApart_c {w : World} {x y : ST} {v v' : SV27} (hT : Tab w) (hx : StAt w x v) (hy : StAt w y v') (ox : StOk x) (oy : StOk y) :
    Calls Tryd.prog 4 #[.agg ⟨stv x v⟩, .agg ⟨stv y v'⟩] w fun e w' => e = .returned (.bool true) ∧ Fr [] w w' := by
  apply c4
  refine h_new (Has.init w) fun n52 u H => h_new H fun n53 u H => ?_
  simp only [stv] at H
  iterate 5 refine h_ldI H (b := n52) (by repeat (first | exact pick_head | apply pick_tail | apply pick_app)) rfl ?_
  iterate 5 refine h_ldS H (b := n52) (by repeat (first | exact pick_head | apply pick_tail | apply pick_app)) rfl ?_
  iterate 6 refine h_ldI H (b := n52) (by repeat (first | exact pick_head | apply pick_tail | apply pick_app)) rfl ?_
  refine s_call (step_c (x := x) (v := v) (hT.fr H.base) (stFr hx H.base) ox) ?_
  rintro _ u ⟨rfl, f⟩
  have H := H.fr0 f
  refine ⟨_, rfl, s_asU (s_req rfl (s_asT (s_asI ?_)))⟩
  iterate 5 refine h_ldI H (b := n53) (by repeat (first | exact pick_head | apply pick_tail | apply pick_app)) rfl ?_
  iterate 5 refine h_ldS H (b := n53) (by repeat (first | exact pick_head | apply pick_tail | apply pick_app)) rfl ?_
  iterate 6 refine h_ldI H (b := n53) (by repeat (first | exact pick_head | apply pick_tail | apply pick_app)) rfl ?_
  refine s_call (step_c (x := y) (v := v') (hT.fr H.base) (stFr hy H.base) oy) ?_
  rintro _ u ⟨rfl, f⟩
  have H := H.fr0 f
  refine ⟨_, rfl, s_asU (s_req rfl (s_asT (s_asI ?_)))⟩
  iterate 5 refine h_ldI H (b := n52) (by repeat (first | exact pick_head | apply pick_tail | apply pick_app)) rfl ?_
  iterate 5 refine h_ldS H (b := n52) (by repeat (first | exact pick_head | apply pick_tail | apply pick_app)) rfl ?_
  iterate 6 refine h_ldI H (b := n52) (by repeat (first | exact pick_head | apply pick_tail | apply pick_app)) rfl ?_
  refine s_call (rstep_c (x := x) (v := v) (hT.fr H.base) (stFr hx H.base) ox) ?_
  rintro _ u ⟨rfl, f⟩
  have H := H.fr0 f
  refine ⟨_, rfl, s_asU (s_req rfl (s_asT (s_asI ?_)))⟩
  iterate 5 refine h_ldI H (b := n53) (by repeat (first | exact pick_head | apply pick_tail | apply pick_app)) rfl ?_
  iterate 5 refine h_ldS H (b := n53) (by repeat (first | exact pick_head | apply pick_tail | apply pick_app)) rfl ?_
  iterate 6 refine h_ldI H (b := n53) (by repeat (first | exact pick_head | apply pick_tail | apply pick_app)) rfl ?_
  refine s_call (rstep_c (x := y) (v := v') (hT.fr H.base) (stFr hy H.base) oy) ?_
  rintro _ u ⟨rfl, f⟩
  have H := H.fr0 f
  refine ⟨_, rfl, s_asU (s_req rfl (s_asT (s_asI ?_)))⟩
  rw [← step_eq, ← step_eq]
  refine s_blk (fun vs W => vs = [] ∧ Has w W [cl n53 40 (stv y v'), cl n52 40 (stv x v)]) ?_ ?_
  · clear H f
    rintro _ j W ⟨rfl, H⟩
    simp only [stv] at H
    refine s_ite (fun g => s_ret ⟨rfl, H.base⟩) (fun g1 => s_ite (fun g => s_ret ⟨rfl, H.base⟩) (fun g2 => ?_))
    have g1 : (stepR x).2 = 0 := by simpa using g1
    have g2 : (stepR y).2 = 0 := by simpa using g2
    iterate 5 refine h_ldI H (b := n52) (by repeat (first | exact pick_head | apply pick_tail | apply pick_app)) rfl ?_
    iterate 5 refine h_ldS H (b := n52) (by repeat (first | exact pick_head | apply pick_tail | apply pick_app)) rfl ?_
    iterate 6 refine h_ldI H (b := n52) (by repeat (first | exact pick_head | apply pick_tail | apply pick_app)) rfl ?_
    iterate 5 refine h_ldI H (b := n53) (by repeat (first | exact pick_head | apply pick_tail | apply pick_app)) rfl ?_
    iterate 5 refine h_ldS H (b := n53) (by repeat (first | exact pick_head | apply pick_tail | apply pick_app)) rfl ?_
    iterate 6 refine h_ldI H (b := n53) (by repeat (first | exact pick_head | apply pick_tail | apply pick_app)) rfl ?_
    refine s_call (same_step_c (x := x) (y := y) (v := v) (v' := v') (stFr hx H.base) (stFr hy H.base) ox oy) ?_
    rintro _ u ⟨rfl, f⟩
    refine ⟨_, rfl, s_asB (s_ret ⟨?_, H.base.trans f⟩)⟩
    have hi := step_inj ox oy g1 g2
    have : ((S (stepR x).1).toList == (S (stepR y).1).toList) = decide (x = y) := by
      rw [S_toList, S_toList, Bool.eq_iff_iff, beq_iff_eq, decide_eq_true_iff]
      exact hi
    rw [this, beq_self_eq_true]
  · refine s_false (by simp) (s_false (by simp) (s_call (live_c (hT.fr H.base)) ?_))
    rintro _ u ⟨rfl, f⟩
    have H := H.fr0 f
    exact ⟨_, rfl, s_asB (s_false rfl (s_next ⟨rfl, rfl⟩ ⟨rfl, H.sub (by repeat (first | exact sb_refl | exact sb_nil | refine sb_cons (by repeat (first | exact pick_head | apply pick_tail | apply pick_app)) ?_ | refine sb_app (by repeat (first | exact cut_head | exact cut_all | apply cut_tail | apply cut_app)) ?_ | exact sb_one (by repeat (first | exact cut_head | exact cut_all | apply cut_tail | apply cut_app))))⟩))⟩
end Go.Proofs.YtihipcofjpnfbaaDoor
