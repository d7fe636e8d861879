/- begun, walked. -/
import Derived.Test.YtdepohepogocgaaLkE
import Derived.Test.YtdepohepogocgaaLkF
set_option linter.unusedVariables false
set_option linter.unusedSimpArgs false
set_option maxRecDepth 100000
set_option maxHeartbeats 8000000
namespace Go.Proofs.Ytdepohepogocgaa
open Go hiding Expr
open Go.RowKit Tr

def bi (n : Int) : Ix := ⟨n, 0⟩
def bl (x : Bool) : List Lk := [⟨⟨0, 1⟩, x⟩]
def B1 : St := [(bi 1, bl false)]
def B2 : St := [(bi 1, bl false), (bi 2, bl false)]
def B3 : St := [(bi 1, bl false), (bi 2, bl false), (bi 3, bl true)]
def B4 : St := [(bi 2, bl false), (bi 3, bl true)]
theorem b_e1 : reqE [] (bi 1) (bl false) = 0 ∧ reqS [] (bi 1) (bl false) = B1 := by decide
theorem b_e2 : reqE B1 (bi 2) (bl false) = 0 ∧ reqS B1 (bi 2) (bl false) = B2 := by decide
theorem b_e3 : reqE B2 (bi 3) (bl true) = 0 ∧ reqS B2 (bi 3) (bl true) = B3 := by decide
theorem b_r : readyA B3 (bi 3) = false ∧ readyA B3 (bi 2) = true := by decide
theorem b_l1 : relL B3 (bi 1) = [] ∧ relE B3 (bi 1) = 0 ∧ relA B3 (bi 1) = B4 := by decide
theorem b_l2 : relL B4 (bi 2) = [bi 3] ∧ relE B4 (bi 2) = 0 := by decide
theorem b_in {n : Int} (h : 0 ≤ n ∧ n ≤ 10) : InI (bi n) := by unfold InI bi; simp only; omega
theorem b_k {x : Bool} : ∀ y ∈ bl x, InK y.k := by
  intro y hy
  simp [bl] at hy
  subst hy
  unfold InK
  simp only
  omega
section
variable {w : World}
theorem id_c {n : Int} : Calls Try.prog 14 #[.int .i64 n] w fun e w' => e = .returned (.agg ⟨ir (bi n)⟩) ∧ Fr [] w w' := by
  apply c14
  refine h_new (Has.init w) fun n1 u H => h_st H (by repeat (first | exact pick_head | apply pick_tail | apply pick_app)) (by simp) rfl fun u H => h_st H (by repeat (first | exact pick_head | apply pick_tail | apply pick_app)) (by simp) rfl fun u H => h_ldI H (by repeat (first | exact pick_head | apply pick_tail | apply pick_app)) rfl (h_ldI H (by repeat (first | exact pick_head | apply pick_tail | apply pick_app)) rfl (s_ret ⟨rfl, H.base⟩))
theorem begun_c : Calls Try.prog 9 #[] w fun e w' => e = .returned (.bool true) ∧ Fr [] w w' := by
  apply c9
  refine s_call new_c ?_
  rintro _ u ⟨r, c, rfl, hL, H⟩
  refine ⟨_, rfl, s_asP ?_⟩
  (refine h_new H fun n2 u H => ?_)
  iterate 2 refine h_st H (by repeat (first | exact pick_head | apply pick_tail | apply pick_app)) (by first | (simp; done) | exact Nat.le_of_ble_eq_true rfl) rfl fun u H => ?_
  have H : Has w u (cl n2 39 [.int .i32 0, .int .i64 1] :: (c ++ [])) := by rw [List.append_nil]; exact H
  refine s_blk (fun vs W => ∃ c m, LkAt r B3 c ∧ Has w W (c ++ m)) ?_ ?_
  · clear H hL
    rintro vs j W ⟨c, m, hL, H⟩
    refine s_call (id_c (n := 1)) ?_
    rintro _ u ⟨rfl, f⟩
    have H := H.fr0 f
    refine ⟨_, rfl, s_asA (s_req rfl (s_asI (s_asI (s_call (rel_c (t := bi 1) H cut_head hL (by unfold Sz; decide) (b_in (by omega))) ?_))))⟩
    rintro _ u ⟨o1, cap1, cv1, c1, rfl, ho1, hL1, H⟩
    rw [b_l1.1] at ho1 ⊢
    rw [b_l1.2.1]
    rw [b_l1.2.2] at hL1
    refine ⟨_, rfl, s_asU (s_req rfl (s_asS (s_asI (s_call (id_c (n := 2)) ?_))))⟩
    rintro _ u ⟨rfl, f⟩
    have H := H.fr0 f
    refine ⟨_, rfl, s_asA (s_req rfl (s_asI (s_asI (s_call (rel_c (t := bi 2) H (by repeat (first | exact cut_head | exact cut_all | apply cut_tail | apply cut_app)) hL1 (by unfold Sz; decide) (b_in (by omega))) ?_))))⟩
    rintro _ u ⟨o2, cap2, cv2, c2, rfl, ho2, hL2, H⟩
    rw [b_l2.1] at ho2 ⊢
    rw [b_l2.2]
    refine ⟨_, rfl, s_asU (s_req rfl (s_asS (s_asI (s_true rfl (s_true rfl (s_call (id_c (n := 3)) ?_))))))⟩
    rintro _ u ⟨rfl, f⟩
    have H := H.fr0 f
    refine ⟨_, rfl, s_asA (s_req rfl (s_asI (s_asI ?_)))⟩
    (refine h_new H fun n29 u H => ?_)
    refine s_call (eqI_c (l1 := [bi 3]) (l2 := [bi 3]) (rowsAt_own (ir2 _) (by decide) ho2 H (by repeat (first | exact cut_head | exact cut_all | apply cut_tail | apply cut_app))) (rowsAt_cells (ty := 27) (sp := []) (ir2 [bi 3]) (H.cells (by repeat (first | exact pick_head | apply pick_tail | apply pick_app)))) rfl rfl (by decide)) ?_
    rintro _ u ⟨rfl, f⟩
    have H := H.fr0 f
    exact ⟨_, rfl, s_asB (s_true (by decide) (s_ret ⟨rfl, H.base⟩))⟩
  · refine h_drew H fun u H => s_false rfl (h_ldI H (by repeat (first | exact pick_head | apply pick_tail | apply pick_app)) rfl (h_ldI H (by repeat (first | exact pick_head | apply pick_tail | apply pick_app)) rfl (s_both ?_ ?_)))
    all_goals
      first
        | (refine s_call (id_c (n := 1)) ?_
           rintro _ u ⟨rfl, f⟩
           have H := H.fr0 f
           refine ⟨_, rfl, s_asA (s_req rfl (s_asI (s_asI (s_chk (by repeat (first | exact c_nil | refine hc_cons H (by repeat (first | exact pick_head | apply pick_tail | apply pick_app)) rfl ?_)) ?_))))⟩
           refine h_new H fun nn u H => s_chk (by repeat (first | exact c_nil | refine hc_cons H (by repeat (first | exact pick_head | apply pick_tail | apply pick_app)) rfl ?_)) ?_
           refine s_call (req_c (A := []) (t := bi 1) (l := bl false) H (cut_tail (cut_tail cut_head)) hL (by decide) (b_in (by omega)) rfl b_k (fun u2 H2 => rowsAt_cells (ty := 63) (sp := []) (lr3 (bl false)) (H2.cells pick_head))) ?_
           rintro _ u ⟨rfl, c, hL, H⟩
           rw [b_e1.1]
           rw [b_e1.2] at hL
           refine ⟨_, rfl, s_asI (s_chk (by repeat (first | exact c_nil | refine hc_cons H (by repeat (first | exact pick_head | apply pick_tail | apply pick_app)) rfl ?_)) (s_false rfl ?_))⟩)
        | (refine h_new H fun nn u H => s_chk (by repeat (first | exact c_nil | refine hc_cons H (by repeat (first | exact pick_head | apply pick_tail | apply pick_app)) rfl ?_)) ?_
           refine s_call (id_c (n := 1)) ?_
           rintro _ u ⟨rfl, f⟩
           have H := H.fr0 f
           refine ⟨_, rfl, s_asA (s_req rfl (s_asI (s_asI (s_chk (by repeat (first | exact c_nil | refine hc_cons H (by repeat (first | exact pick_head | apply pick_tail | apply pick_app)) rfl ?_)) ?_))))⟩
           refine s_call (req_c (A := []) (t := bi 1) (l := bl false) H (cut_tail (cut_tail cut_head)) hL (by decide) (b_in (by omega)) rfl b_k (fun u2 H2 => rowsAt_cells (ty := 63) (sp := []) (lr3 (bl false)) (H2.cells pick_head))) ?_
           rintro _ u ⟨rfl, c, hL, H⟩
           rw [b_e1.1]
           rw [b_e1.2] at hL
           refine ⟨_, rfl, s_asI (s_chk (by repeat (first | exact c_nil | refine hc_cons H (by repeat (first | exact pick_head | apply pick_tail | apply pick_app)) rfl ?_)) (s_false rfl ?_))⟩)
    all_goals refine h_ldI H (by repeat (first | exact pick_head | apply pick_tail | apply pick_app)) rfl (h_ldI H (by repeat (first | exact pick_head | apply pick_tail | apply pick_app)) rfl (s_both ?_ ?_))
    all_goals
      first
        | (refine s_call (id_c (n := 2)) ?_
           rintro _ u ⟨rfl, f⟩
           have H := H.fr0 f
           refine ⟨_, rfl, s_asA (s_req rfl (s_asI (s_asI (s_chk (by repeat (first | exact c_nil | refine hc_cons H (by repeat (first | exact pick_head | apply pick_tail | apply pick_app)) rfl ?_)) ?_))))⟩
           refine h_new H fun nn u H => s_chk (by repeat (first | exact c_nil | refine hc_cons H (by repeat (first | exact pick_head | apply pick_tail | apply pick_app)) rfl ?_)) ?_
           refine s_call (req_c (A := B1) (t := bi 2) (l := bl false) H (cut_tail cut_head) hL (by decide) (b_in (by omega)) rfl b_k (fun u2 H2 => rowsAt_cells (ty := 63) (sp := []) (lr3 (bl false)) (H2.cells pick_head))) ?_
           rintro _ u ⟨rfl, c, hL, H⟩
           rw [b_e2.1]
           rw [b_e2.2] at hL
           refine ⟨_, rfl, s_asI (s_chk (by repeat (first | exact c_nil | refine hc_cons H (by repeat (first | exact pick_head | apply pick_tail | apply pick_app)) rfl ?_)) (s_false rfl ?_))⟩)
        | (refine h_new H fun nn u H => s_chk (by repeat (first | exact c_nil | refine hc_cons H (by repeat (first | exact pick_head | apply pick_tail | apply pick_app)) rfl ?_)) ?_
           refine s_call (id_c (n := 2)) ?_
           rintro _ u ⟨rfl, f⟩
           have H := H.fr0 f
           refine ⟨_, rfl, s_asA (s_req rfl (s_asI (s_asI (s_chk (by repeat (first | exact c_nil | refine hc_cons H (by repeat (first | exact pick_head | apply pick_tail | apply pick_app)) rfl ?_)) ?_))))⟩
           refine s_call (req_c (A := B1) (t := bi 2) (l := bl false) H (cut_tail cut_head) hL (by decide) (b_in (by omega)) rfl b_k (fun u2 H2 => rowsAt_cells (ty := 63) (sp := []) (lr3 (bl false)) (H2.cells pick_head))) ?_
           rintro _ u ⟨rfl, c, hL, H⟩
           rw [b_e2.1]
           rw [b_e2.2] at hL
           refine ⟨_, rfl, s_asI (s_chk (by repeat (first | exact c_nil | refine hc_cons H (by repeat (first | exact pick_head | apply pick_tail | apply pick_app)) rfl ?_)) (s_false rfl ?_))⟩)
    all_goals refine h_ldI H (by repeat (first | exact pick_head | apply pick_tail | apply pick_app)) rfl (h_ldI H (by repeat (first | exact pick_head | apply pick_tail | apply pick_app)) rfl (s_both ?_ ?_))
    all_goals
      first
        | (refine s_call (id_c (n := 3)) ?_
           rintro _ u ⟨rfl, f⟩
           have H := H.fr0 f
           refine ⟨_, rfl, s_asA (s_req rfl (s_asI (s_asI (s_chk (by repeat (first | exact c_nil | refine hc_cons H (by repeat (first | exact pick_head | apply pick_tail | apply pick_app)) rfl ?_)) ?_))))⟩
           refine h_new H fun nn u H => s_chk (by repeat (first | exact c_nil | refine hc_cons H (by repeat (first | exact pick_head | apply pick_tail | apply pick_app)) rfl ?_)) ?_
           refine s_call (req_c (A := B2) (t := bi 3) (l := bl true) H (cut_tail cut_head) hL (by decide) (b_in (by omega)) rfl b_k (fun u2 H2 => rowsAt_cells (ty := 63) (sp := []) (lr3 (bl true)) (H2.cells pick_head))) ?_
           rintro _ u ⟨rfl, c, hL, H⟩
           rw [b_e3.1]
           rw [b_e3.2] at hL
           refine ⟨_, rfl, s_asI (s_chk (by repeat (first | exact c_nil | refine hc_cons H (by repeat (first | exact pick_head | apply pick_tail | apply pick_app)) rfl ?_)) (s_false rfl ?_))⟩)
        | (refine h_new H fun nn u H => s_chk (by repeat (first | exact c_nil | refine hc_cons H (by repeat (first | exact pick_head | apply pick_tail | apply pick_app)) rfl ?_)) ?_
           refine s_call (id_c (n := 3)) ?_
           rintro _ u ⟨rfl, f⟩
           have H := H.fr0 f
           refine ⟨_, rfl, s_asA (s_req rfl (s_asI (s_asI (s_chk (by repeat (first | exact c_nil | refine hc_cons H (by repeat (first | exact pick_head | apply pick_tail | apply pick_app)) rfl ?_)) ?_))))⟩
           refine s_call (req_c (A := B2) (t := bi 3) (l := bl true) H (cut_tail cut_head) hL (by decide) (b_in (by omega)) rfl b_k (fun u2 H2 => rowsAt_cells (ty := 63) (sp := []) (lr3 (bl true)) (H2.cells pick_head))) ?_
           rintro _ u ⟨rfl, c, hL, H⟩
           rw [b_e3.1]
           rw [b_e3.2] at hL
           refine ⟨_, rfl, s_asI (s_chk (by repeat (first | exact c_nil | refine hc_cons H (by repeat (first | exact pick_head | apply pick_tail | apply pick_app)) rfl ?_)) (s_false rfl ?_))⟩)
    all_goals
      refine s_call (id_c (n := 3)) ?_
      rintro _ u ⟨rfl, f⟩
      have H := H.fr0 f
      refine ⟨_, rfl, s_asA (s_req rfl (s_asI (s_asI (s_chk (by repeat (first | exact c_nil | refine hc_cons H (by repeat (first | exact pick_head | apply pick_tail | apply pick_app)) rfl ?_)) (s_call (ready_c (t := bi 3) (LkW.of H cut_head hL) (by unfold Sz; decide) (b_in (by omega))) ?_)))))⟩
      rintro _ u ⟨rfl, f⟩
      have H := H.fr0 f
      rw [b_r.1]
      refine ⟨_, rfl, s_asB (s_chk (by repeat (first | exact c_nil | refine hc_cons H (by repeat (first | exact pick_head | apply pick_tail | apply pick_app)) rfl ?_)) (s_false rfl (s_call (id_c (n := 2)) ?_)))⟩
      rintro _ u ⟨rfl, f⟩
      have H := H.fr0 f
      refine ⟨_, rfl, s_asA (s_req rfl (s_asI (s_asI (s_chk (by repeat (first | exact c_nil | refine hc_cons H (by repeat (first | exact pick_head | apply pick_tail | apply pick_app)) rfl ?_)) (s_call (ready_c (t := bi 2) (LkW.of H cut_head hL) (by unfold Sz; decide) (b_in (by omega))) ?_)))))⟩
      rintro _ u ⟨rfl, f⟩
      have H := H.fr0 f
      rw [b_r.2]
      refine ⟨_, rfl, s_asB (s_chk (by repeat (first | exact c_nil | refine hc_cons H (by repeat (first | exact pick_head | apply pick_tail | apply pick_app)) rfl ?_)) (s_false rfl (s_next (by first | exact ⟨rfl, rfl⟩ | trivial) ?_)))⟩
      simp (config := { decide := true }) only [if_true, if_false]
      exact ⟨c, _, hL, H⟩
end
end Go.Proofs.Ytdepohepogocgaa
