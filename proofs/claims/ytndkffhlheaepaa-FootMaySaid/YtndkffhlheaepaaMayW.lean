/- The walk of FootMay; the branches of the drawn order are printed by genmay.py. -/
import Derived.Test.YtndkffhlheaepaaOfLe
import Derived.Test.YtndkffhlheaepaaMayT
set_option linter.unusedVariables false
set_option linter.unusedSimpArgs false
set_option maxRecDepth 100000
set_option maxHeartbeats 4000000
namespace Go.Proofs.Ytndkffhlheaepaa
open Go hiding Expr
open Go.RowKit Tr

section
variable {w : World} {x y : TX} {k : K}
theorem maytail_c {u : World} {na nb n30 n31 n32 : Nat} {L1 L2 : List Value} {k1 k2 : Hp} {ρ : Lv} (h : TxAt w x) (hx : TxLe x) (h2 : TxAt w y) (hx2 : TxLe y) (hC1 : FootC 3 x L1 k1) (hC2 : FootC 3 y L2 k2)
    (H : Has w u (cl na 45 L1 :: cl nb 45 L2 :: (k2 ++ (k1 ++ [cl n32 39 (txr y), cl n31 50 (kr k), cl n30 39 (txr x)])))) :
    (t7tail na nb n30 n31).sem Try.prog (fun en w' => en = .returned (.bool true) ∧ Fr [] w w') ρ u := by
  have hrd1 : ∀ {u : World} {m : Hp}, Has w u m → Sb k1 m → FootRd u L1 (FP 3 (KS x.rd)) (FP 3 (KS x.wr)) (partsOf 3 x) (activeOf 3 x) := fun H hs => hC1.rd H hs
  have hrd2 : ∀ {u : World} {m : Hp}, Has w u m → Sb k2 m → FootRd u L2 (FP 3 (KS y.rd)) (FP 3 (KS y.wr)) (partsOf 3 y) (activeOf 3 y) := fun H hs => hC2.rd H hs
  obtain ⟨s1, s2⟩ := hx
  have hrl : ∀ p, p < 8 → (FP 3 (KS x.rd) p).length < 9223372036854775807 := fun p _ => by have := FP_len 3 (KS x.rd) p; have := KS_len x.rd; omega
  have hwl : ∀ p, p < 8 → (FP 3 (KS x.wr) p).length < 9223372036854775807 := fun p _ => by have := FP_len 3 (KS x.wr) p; have := KS_len x.wr; omega
  have hpl := partsOf_len 3 x
  have hal := activeOf_len 3 x
  obtain ⟨f, g, o1, o2, c1, c2, cr, cw, cp, ca, rfl, -, -, -, -, -⟩ := hC1
  obtain ⟨f', g', o1', o2', c1', c2', cr', cw', cp', ca', rfl, -, -, -, -, -⟩ := hC2
  unfold footAll at *
  rw [foot_lits] at hrd1 hrd2
  rw [foot_lits, foot_lits] at H
  unfold t7tail
  refine h_drew H fun u H => ?_
  refine s_call live_c ?_
  rintro _ u ⟨rfl, f0⟩
  have H := H.fr0 f0
  refine ⟨_, rfl, s_asB ?_⟩
  refine s_chk (by repeat (first | exact c_nil | refine hc_cons H (by repeat (first | exact pick_head | apply pick_tail | apply pick_app)) rfl ?_)) ?_
  refine s_true rfl ?_
  iterate 2 refine h_ldI H (by repeat (first | exact pick_head | apply pick_tail | apply pick_app)) rfl ?_
  iterate 4 refine h_ldS H (by repeat (first | exact pick_head | apply pick_tail | apply pick_app)) rfl ?_
  iterate 2 refine h_ldI H (by repeat (first | exact pick_head | apply pick_tail | apply pick_app)) rfl ?_
  refine h_ldS H (by repeat (first | exact pick_head | apply pick_tail | apply pick_app)) rfl ?_
  iterate 2 refine h_ldI H (by repeat (first | exact pick_head | apply pick_tail | apply pick_app)) rfl ?_
  refine s_call (mayr_le_c (h.fr0 H.base) ⟨s1, s2⟩ k) ?_
  rintro _ u ⟨rfl, f0⟩
  have H := H.fr0 f0
  refine ⟨_, rfl, s_asB ?_⟩
  refine s_chk (by repeat (first | exact c_nil | refine hc_cons H (by repeat (first | exact pick_head | apply pick_tail | apply pick_app)) rfl ?_)) ?_
  refine s_call (rhas_c (h.rd.fr0 H.base) rfl (by omega) k) ?_
  rintro _ u ⟨rfl, f0⟩
  have H := H.fr0 f0
  refine ⟨_, rfl, s_asB ?_⟩
  refine s_chk (by repeat (first | exact c_nil | refine hc_cons H (by repeat (first | exact pick_head | apply pick_tail | apply pick_app)) rfl ?_)) ?_
  refine s_true (by simp) ?_
  iterate 2 refine h_ldI H (by repeat (first | exact pick_head | apply pick_tail | apply pick_app)) rfl ?_
  iterate 4 refine h_ldS H (by repeat (first | exact pick_head | apply pick_tail | apply pick_app)) rfl ?_
  iterate 2 refine h_ldI H (by repeat (first | exact pick_head | apply pick_tail | apply pick_app)) rfl ?_
  refine h_ldS H (by repeat (first | exact pick_head | apply pick_tail | apply pick_app)) rfl ?_
  iterate 2 refine h_ldI H (by repeat (first | exact pick_head | apply pick_tail | apply pick_app)) rfl ?_
  refine s_call (mayw_le_c (h.fr0 H.base) ⟨s1, s2⟩ k) ?_
  rintro _ u ⟨rfl, f0⟩
  have H := H.fr0 f0
  refine ⟨_, rfl, s_asB ?_⟩
  refine s_chk (by repeat (first | exact c_nil | refine hc_cons H (by repeat (first | exact pick_head | apply pick_tail | apply pick_app)) rfl ?_)) ?_
  refine s_call (rhas_c (h.wr.fr0 H.base) rfl (by omega) k) ?_
  rintro _ u ⟨rfl, f0⟩
  have H := H.fr0 f0
  refine ⟨_, rfl, s_asB ?_⟩
  refine s_chk (by repeat (first | exact c_nil | refine hc_cons H (by repeat (first | exact pick_head | apply pick_tail | apply pick_app)) rfl ?_)) ?_
  refine s_true (by simp) ?_
  iterate 72 refine h_ldS H (by repeat (first | exact pick_head | apply pick_tail | apply pick_app)) rfl ?_
  refine s_call (fsame_c (hrd1 H (by repeat (first | exact sb_refl | exact sb_nil | refine sb_cons (by repeat (first | exact pick_head | apply pick_tail | apply pick_app)) ?_ | refine sb_app (by repeat (first | exact cut_head | exact cut_all | apply cut_tail | apply cut_app)) ?_ | exact sb_one (by repeat (first | exact cut_head | exact cut_all | apply cut_tail | apply cut_app))))) (hrd2 H (by repeat (first | exact sb_refl | exact sb_nil | refine sb_cons (by repeat (first | exact pick_head | apply pick_tail | apply pick_app)) ?_ | refine sb_app (by repeat (first | exact cut_head | exact cut_all | apply cut_tail | apply cut_app)) ?_ | exact sb_one (by repeat (first | exact cut_head | exact cut_all | apply cut_tail | apply cut_app))))) hrl hwl (by omega) (by omega)) ?_
  rintro _ u ⟨rfl, f0⟩
  have H := H.fr0 f0
  refine ⟨_, rfl, s_asB ?_⟩
  refine s_chk (by repeat (first | exact c_nil | refine hc_cons H (by repeat (first | exact pick_head | apply pick_tail | apply pick_app)) rfl ?_)) ?_
  refine s_call (same_c (hrd1 H (by repeat (first | exact sb_refl | exact sb_nil | refine sb_cons (by repeat (first | exact pick_head | apply pick_tail | apply pick_app)) ?_ | refine sb_app (by repeat (first | exact cut_head | exact cut_all | apply cut_tail | apply cut_app)) ?_ | exact sb_one (by repeat (first | exact cut_head | exact cut_all | apply cut_tail | apply cut_app))))) (hrd2 H (by repeat (first | exact sb_refl | exact sb_nil | refine sb_cons (by repeat (first | exact pick_head | apply pick_tail | apply pick_app)) ?_ | refine sb_app (by repeat (first | exact cut_head | exact cut_all | apply cut_tail | apply cut_app)) ?_ | exact sb_one (by repeat (first | exact cut_head | exact cut_all | apply cut_tail | apply cut_app))))) hrl hwl (by omega) (by omega)) ?_
  rintro _ u ⟨rfl, f0⟩
  have H := H.fr0 f0
  refine ⟨_, rfl, s_asB ?_⟩
  refine s_chk (by repeat (first | exact c_nil | refine hc_cons H (by repeat (first | exact pick_head | apply pick_tail | apply pick_app)) rfl ?_)) ?_
  refine s_true (by simp) ?_
  iterate 36 refine h_ldS H (by repeat (first | exact pick_head | apply pick_tail | apply pick_app)) rfl ?_
  refine s_call (fsame_c (hrd1 H (by repeat (first | exact sb_refl | exact sb_nil | refine sb_cons (by repeat (first | exact pick_head | apply pick_tail | apply pick_app)) ?_ | refine sb_app (by repeat (first | exact cut_head | exact cut_all | apply cut_tail | apply cut_app)) ?_ | exact sb_one (by repeat (first | exact cut_head | exact cut_all | apply cut_tail | apply cut_app))))) (hrd1 H (by repeat (first | exact sb_refl | exact sb_nil | refine sb_cons (by repeat (first | exact pick_head | apply pick_tail | apply pick_app)) ?_ | refine sb_app (by repeat (first | exact cut_head | exact cut_all | apply cut_tail | apply cut_app)) ?_ | exact sb_one (by repeat (first | exact cut_head | exact cut_all | apply cut_tail | apply cut_app))))) hrl hwl (by omega) (by omega)) ?_
  rintro _ u ⟨rfl, f0⟩
  have H := H.fr0 f0
  rw [sameF_self]
  refine ⟨_, rfl, s_asB ?_⟩
  refine s_chk (by repeat (first | exact c_nil | refine hc_cons H (by repeat (first | exact pick_head | apply pick_tail | apply pick_app)) rfl ?_)) ?_
  exact s_ret ⟨rfl, H.base⟩
theorem fmay_c (h : TxAt w x) (hx : TxLe x) (h2 : TxAt w y) (hx2 : TxLe y) : Calls Try.prog 7 #[.agg ⟨txr x⟩, .agg ⟨kr k⟩, .agg ⟨txr y⟩] w fun en w' => en = .returned (.bool true) ∧ Fr [] w w' := by
  apply c7
  refine h_new (Has.init w) fun n30 u H => ?_
  refine h_new H fun n31 u H => ?_
  refine h_new H fun n32 u H => ?_
  refine h_drew H fun u H => ?_
  refine h_ldI H (by repeat (first | exact pick_head | apply pick_tail | apply pick_app)) rfl ?_
  refine h_ldI H (by repeat (first | exact pick_head | apply pick_tail | apply pick_app)) rfl ?_
  refine h_ldS H (by repeat (first | exact pick_head | apply pick_tail | apply pick_app)) rfl ?_
  refine h_ldS H (by repeat (first | exact pick_head | apply pick_tail | apply pick_app)) rfl ?_
  refine h_ldS H (by repeat (first | exact pick_head | apply pick_tail | apply pick_app)) rfl ?_
  refine h_ldS H (by repeat (first | exact pick_head | apply pick_tail | apply pick_app)) rfl ?_
  refine h_ldI H (by repeat (first | exact pick_head | apply pick_tail | apply pick_app)) rfl ?_
  refine h_ldI H (by repeat (first | exact pick_head | apply pick_tail | apply pick_app)) rfl ?_
  refine h_ldS H (by repeat (first | exact pick_head | apply pick_tail | apply pick_app)) rfl ?_
  refine h_ldS H (by repeat (first | exact pick_head | apply pick_tail | apply pick_app)) rfl ?_
  refine h_ldS H (by repeat (first | exact pick_head | apply pick_tail | apply pick_app)) rfl ?_
  refine h_ldS H (by repeat (first | exact pick_head | apply pick_tail | apply pick_app)) rfl ?_
  constructor
  · skip
    refine s_call (of_le_c (h.fr0 H.base) hx 3) ?_
    rintro _ u ⟨l1, k1, rfl, hC1, Hc1⟩
    have H := H.join Hc1
    have hC := hC1
    obtain ⟨f, g, o1, o2, c1, c2, cr, cw, cp, ca, rfl, -, -, -, -, -⟩ := hC
    refine ⟨_, rfl, s_asA (s_req rfl ?_)⟩
    unfold footAll at hC1 ⊢
    rw [foot_lits] at hC1 ⊢
    iterate 18 refine s_asS ?_
    refine s_chk (by repeat (first | exact c_nil | refine hc_cons H (by repeat (first | exact pick_head | apply pick_tail | apply pick_app)) rfl ?_)) ?_
    constructor
    · skip
      refine s_call (of_le_c (h2.fr0 H.base) hx2 3) ?_
      rintro _ u ⟨l2, k2, rfl, hC2, Hc2⟩
      have H := H.join Hc2
      have hC := hC2
      obtain ⟨f', g', o1', o2', c1', c2', cr', cw', cp', ca', rfl, -, -, -, -, -⟩ := hC
      refine ⟨_, rfl, s_asA (s_req rfl ?_)⟩
      unfold footAll at hC2 ⊢
      rw [foot_lits] at hC2 ⊢
      iterate 18 refine s_asS ?_
      refine s_chk (by repeat (first | exact c_nil | refine hc_cons H (by repeat (first | exact pick_head | apply pick_tail | apply pick_app)) rfl ?_)) ?_
      constructor
      · skip
        refine h_new H fun n173 u H => ?_
        refine s_chk (by repeat (first | exact c_nil | refine hc_cons H (by repeat (first | exact pick_head | apply pick_tail | apply pick_app)) rfl ?_)) ?_
        refine h_new H fun n174 u H => ?_
        refine s_chk (by repeat (first | exact c_nil | refine hc_cons H (by repeat (first | exact pick_head | apply pick_tail | apply pick_app)) rfl ?_)) ?_
        iterate 18 (refine h_st H (by repeat (first | exact pick_head | apply pick_tail | apply pick_app)) (bst _ _ rfl) rfl fun u H => ?_; simp only [List.set_cons_zero, List.set_cons_succ] at H)
        refine s_chk (by repeat (first | exact c_nil | refine hc_cons H (by repeat (first | exact pick_head | apply pick_tail | apply pick_app)) rfl ?_)) ?_
        iterate 18 (refine h_st H (by repeat (first | exact pick_head | apply pick_tail | apply pick_app)) (bst _ _ rfl) rfl fun u H => ?_; simp only [List.set_cons_zero, List.set_cons_succ] at H)
        refine s_chk (by repeat (first | exact c_nil | refine hc_cons H (by repeat (first | exact pick_head | apply pick_tail | apply pick_app)) rfl ?_)) ?_
        exact maytail_c (w := w) (na := n173) (nb := n174) h hx h2 hx2 hC1 hC2 (H.sub (by repeat (first | exact sb_refl | exact sb_nil | refine sb_cons (by repeat (first | exact pick_head | apply pick_tail | apply pick_app)) ?_ | refine sb_app (by repeat (first | exact cut_head | exact cut_all | apply cut_tail | apply cut_app)) ?_ | exact sb_one (by repeat (first | exact cut_head | exact cut_all | apply cut_tail | apply cut_app)))))
      · skip
        refine h_new H fun n557 u H => ?_
        refine s_chk (by repeat (first | exact c_nil | refine hc_cons H (by repeat (first | exact pick_head | apply pick_tail | apply pick_app)) rfl ?_)) ?_
        refine h_new H fun n558 u H => ?_
        refine s_chk (by repeat (first | exact c_nil | refine hc_cons H (by repeat (first | exact pick_head | apply pick_tail | apply pick_app)) rfl ?_)) ?_
        iterate 18 (refine h_st H (by repeat (first | exact pick_head | apply pick_tail | apply pick_app)) (bst _ _ rfl) rfl fun u H => ?_; simp only [List.set_cons_zero, List.set_cons_succ] at H)
        refine s_chk (by repeat (first | exact c_nil | refine hc_cons H (by repeat (first | exact pick_head | apply pick_tail | apply pick_app)) rfl ?_)) ?_
        iterate 18 (refine h_st H (by repeat (first | exact pick_head | apply pick_tail | apply pick_app)) (bst _ _ rfl) rfl fun u H => ?_; simp only [List.set_cons_zero, List.set_cons_succ] at H)
        refine s_chk (by repeat (first | exact c_nil | refine hc_cons H (by repeat (first | exact pick_head | apply pick_tail | apply pick_app)) rfl ?_)) ?_
        exact maytail_c (w := w) (na := n558) (nb := n557) h hx h2 hx2 hC1 hC2 (H.sub (by repeat (first | exact sb_refl | exact sb_nil | refine sb_cons (by repeat (first | exact pick_head | apply pick_tail | apply pick_app)) ?_ | refine sb_app (by repeat (first | exact cut_head | exact cut_all | apply cut_tail | apply cut_app)) ?_ | exact sb_one (by repeat (first | exact cut_head | exact cut_all | apply cut_tail | apply cut_app)))))
    · skip
      constructor
      · skip
        refine h_new H fun n941 u H => ?_
        refine s_chk (by repeat (first | exact c_nil | refine hc_cons H (by repeat (first | exact pick_head | apply pick_tail | apply pick_app)) rfl ?_)) ?_
        constructor
        · skip
          refine s_call (of_le_c (h2.fr0 H.base) hx2 3) ?_
          rintro _ u ⟨l2, k2, rfl, hC2, Hc2⟩
          have H := H.join Hc2
          have hC := hC2
          obtain ⟨f', g', o1', o2', c1', c2', cr', cw', cp', ca', rfl, -, -, -, -, -⟩ := hC
          refine ⟨_, rfl, s_asA (s_req rfl ?_)⟩
          unfold footAll at hC2 ⊢
          rw [foot_lits] at hC2 ⊢
          iterate 18 refine s_asS ?_
          refine s_chk (by repeat (first | exact c_nil | refine hc_cons H (by repeat (first | exact pick_head | apply pick_tail | apply pick_app)) rfl ?_)) ?_
          refine h_new H fun n998 u H => ?_
          refine s_chk (by repeat (first | exact c_nil | refine hc_cons H (by repeat (first | exact pick_head | apply pick_tail | apply pick_app)) rfl ?_)) ?_
          iterate 18 (refine h_st H (by repeat (first | exact pick_head | apply pick_tail | apply pick_app)) (bst _ _ rfl) rfl fun u H => ?_; simp only [List.set_cons_zero, List.set_cons_succ] at H)
          refine s_chk (by repeat (first | exact c_nil | refine hc_cons H (by repeat (first | exact pick_head | apply pick_tail | apply pick_app)) rfl ?_)) ?_
          iterate 18 (refine h_st H (by repeat (first | exact pick_head | apply pick_tail | apply pick_app)) (bst _ _ rfl) rfl fun u H => ?_; simp only [List.set_cons_zero, List.set_cons_succ] at H)
          refine s_chk (by repeat (first | exact c_nil | refine hc_cons H (by repeat (first | exact pick_head | apply pick_tail | apply pick_app)) rfl ?_)) ?_
          exact maytail_c (w := w) (na := n941) (nb := n998) h hx h2 hx2 hC1 hC2 (H.sub (by repeat (first | exact sb_refl | exact sb_nil | refine sb_cons (by repeat (first | exact pick_head | apply pick_tail | apply pick_app)) ?_ | refine sb_app (by repeat (first | exact cut_head | exact cut_all | apply cut_tail | apply cut_app)) ?_ | exact sb_one (by repeat (first | exact cut_head | exact cut_all | apply cut_tail | apply cut_app)))))
        · skip
          refine h_new H fun n1381 u H => ?_
          refine s_chk (by repeat (first | exact c_nil | refine hc_cons H (by repeat (first | exact pick_head | apply pick_tail | apply pick_app)) rfl ?_)) ?_
          refine s_call (of_le_c (h2.fr0 H.base) hx2 3) ?_
          rintro _ u ⟨l2, k2, rfl, hC2, Hc2⟩
          have H := H.join Hc2
          have hC := hC2
          obtain ⟨f', g', o1', o2', c1', c2', cr', cw', cp', ca', rfl, -, -, -, -, -⟩ := hC
          refine ⟨_, rfl, s_asA (s_req rfl ?_)⟩
          unfold footAll at hC2 ⊢
          rw [foot_lits] at hC2 ⊢
          iterate 18 refine s_asS ?_
          refine s_chk (by repeat (first | exact c_nil | refine hc_cons H (by repeat (first | exact pick_head | apply pick_tail | apply pick_app)) rfl ?_)) ?_
          iterate 18 (refine h_st H (by repeat (first | exact pick_head | apply pick_tail | apply pick_app)) (bst _ _ rfl) rfl fun u H => ?_; simp only [List.set_cons_zero, List.set_cons_succ] at H)
          refine s_chk (by repeat (first | exact c_nil | refine hc_cons H (by repeat (first | exact pick_head | apply pick_tail | apply pick_app)) rfl ?_)) ?_
          iterate 18 (refine h_st H (by repeat (first | exact pick_head | apply pick_tail | apply pick_app)) (bst _ _ rfl) rfl fun u H => ?_; simp only [List.set_cons_zero, List.set_cons_succ] at H)
          refine s_chk (by repeat (first | exact c_nil | refine hc_cons H (by repeat (first | exact pick_head | apply pick_tail | apply pick_app)) rfl ?_)) ?_
          exact maytail_c (w := w) (na := n941) (nb := n1381) h hx h2 hx2 hC1 hC2 (H.sub (by repeat (first | exact sb_refl | exact sb_nil | refine sb_cons (by repeat (first | exact pick_head | apply pick_tail | apply pick_app)) ?_ | refine sb_app (by repeat (first | exact cut_head | exact cut_all | apply cut_tail | apply cut_app)) ?_ | exact sb_one (by repeat (first | exact cut_head | exact cut_all | apply cut_tail | apply cut_app)))))
      · skip
        refine h_new H fun n1820 u H => ?_
        refine s_chk (by repeat (first | exact c_nil | refine hc_cons H (by repeat (first | exact pick_head | apply pick_tail | apply pick_app)) rfl ?_)) ?_
        constructor
        · skip
          refine s_call (of_le_c (h2.fr0 H.base) hx2 3) ?_
          rintro _ u ⟨l2, k2, rfl, hC2, Hc2⟩
          have H := H.join Hc2
          have hC := hC2
          obtain ⟨f', g', o1', o2', c1', c2', cr', cw', cp', ca', rfl, -, -, -, -, -⟩ := hC
          refine ⟨_, rfl, s_asA (s_req rfl ?_)⟩
          unfold footAll at hC2 ⊢
          rw [foot_lits] at hC2 ⊢
          iterate 18 refine s_asS ?_
          refine s_chk (by repeat (first | exact c_nil | refine hc_cons H (by repeat (first | exact pick_head | apply pick_tail | apply pick_app)) rfl ?_)) ?_
          refine h_new H fun n1877 u H => ?_
          refine s_chk (by repeat (first | exact c_nil | refine hc_cons H (by repeat (first | exact pick_head | apply pick_tail | apply pick_app)) rfl ?_)) ?_
          iterate 18 (refine h_st H (by repeat (first | exact pick_head | apply pick_tail | apply pick_app)) (bst _ _ rfl) rfl fun u H => ?_; simp only [List.set_cons_zero, List.set_cons_succ] at H)
          refine s_chk (by repeat (first | exact c_nil | refine hc_cons H (by repeat (first | exact pick_head | apply pick_tail | apply pick_app)) rfl ?_)) ?_
          iterate 18 (refine h_st H (by repeat (first | exact pick_head | apply pick_tail | apply pick_app)) (bst _ _ rfl) rfl fun u H => ?_; simp only [List.set_cons_zero, List.set_cons_succ] at H)
          refine s_chk (by repeat (first | exact c_nil | refine hc_cons H (by repeat (first | exact pick_head | apply pick_tail | apply pick_app)) rfl ?_)) ?_
          exact maytail_c (w := w) (na := n1877) (nb := n1820) h hx h2 hx2 hC1 hC2 (H.sub (by repeat (first | exact sb_refl | exact sb_nil | refine sb_cons (by repeat (first | exact pick_head | apply pick_tail | apply pick_app)) ?_ | refine sb_app (by repeat (first | exact cut_head | exact cut_all | apply cut_tail | apply cut_app)) ?_ | exact sb_one (by repeat (first | exact cut_head | exact cut_all | apply cut_tail | apply cut_app)))))
        · skip
          refine h_new H fun n2260 u H => ?_
          refine s_chk (by repeat (first | exact c_nil | refine hc_cons H (by repeat (first | exact pick_head | apply pick_tail | apply pick_app)) rfl ?_)) ?_
          refine s_call (of_le_c (h2.fr0 H.base) hx2 3) ?_
          rintro _ u ⟨l2, k2, rfl, hC2, Hc2⟩
          have H := H.join Hc2
          have hC := hC2
          obtain ⟨f', g', o1', o2', c1', c2', cr', cw', cp', ca', rfl, -, -, -, -, -⟩ := hC
          refine ⟨_, rfl, s_asA (s_req rfl ?_)⟩
          unfold footAll at hC2 ⊢
          rw [foot_lits] at hC2 ⊢
          iterate 18 refine s_asS ?_
          refine s_chk (by repeat (first | exact c_nil | refine hc_cons H (by repeat (first | exact pick_head | apply pick_tail | apply pick_app)) rfl ?_)) ?_
          iterate 18 (refine h_st H (by repeat (first | exact pick_head | apply pick_tail | apply pick_app)) (bst _ _ rfl) rfl fun u H => ?_; simp only [List.set_cons_zero, List.set_cons_succ] at H)
          refine s_chk (by repeat (first | exact c_nil | refine hc_cons H (by repeat (first | exact pick_head | apply pick_tail | apply pick_app)) rfl ?_)) ?_
          iterate 18 (refine h_st H (by repeat (first | exact pick_head | apply pick_tail | apply pick_app)) (bst _ _ rfl) rfl fun u H => ?_; simp only [List.set_cons_zero, List.set_cons_succ] at H)
          refine s_chk (by repeat (first | exact c_nil | refine hc_cons H (by repeat (first | exact pick_head | apply pick_tail | apply pick_app)) rfl ?_)) ?_
          exact maytail_c (w := w) (na := n2260) (nb := n1820) h hx h2 hx2 hC1 hC2 (H.sub (by repeat (first | exact sb_refl | exact sb_nil | refine sb_cons (by repeat (first | exact pick_head | apply pick_tail | apply pick_app)) ?_ | refine sb_app (by repeat (first | exact cut_head | exact cut_all | apply cut_tail | apply cut_app)) ?_ | exact sb_one (by repeat (first | exact cut_head | exact cut_all | apply cut_tail | apply cut_app)))))
  · skip
    constructor
    · skip
      refine h_new H fun n2699 u H => ?_
      refine s_chk (by repeat (first | exact c_nil | refine hc_cons H (by repeat (first | exact pick_head | apply pick_tail | apply pick_app)) rfl ?_)) ?_
      constructor
      · skip
        refine s_call (of_le_c (h.fr0 H.base) hx 3) ?_
        rintro _ u ⟨l1, k1, rfl, hC1, Hc1⟩
        have H := H.join Hc1
        have hC := hC1
        obtain ⟨f, g, o1, o2, c1, c2, cr, cw, cp, ca, rfl, -, -, -, -, -⟩ := hC
        refine ⟨_, rfl, s_asA (s_req rfl ?_)⟩
        unfold footAll at hC1 ⊢
        rw [foot_lits] at hC1 ⊢
        iterate 18 refine s_asS ?_
        refine s_chk (by repeat (first | exact c_nil | refine hc_cons H (by repeat (first | exact pick_head | apply pick_tail | apply pick_app)) rfl ?_)) ?_
        constructor
        · skip
          refine s_call (of_le_c (h2.fr0 H.base) hx2 3) ?_
          rintro _ u ⟨l2, k2, rfl, hC2, Hc2⟩
          have H := H.join Hc2
          have hC := hC2
          obtain ⟨f', g', o1', o2', c1', c2', cr', cw', cp', ca', rfl, -, -, -, -, -⟩ := hC
          refine ⟨_, rfl, s_asA (s_req rfl ?_)⟩
          unfold footAll at hC2 ⊢
          rw [foot_lits] at hC2 ⊢
          iterate 18 refine s_asS ?_
          refine s_chk (by repeat (first | exact c_nil | refine hc_cons H (by repeat (first | exact pick_head | apply pick_tail | apply pick_app)) rfl ?_)) ?_
          refine h_new H fun n2812 u H => ?_
          refine s_chk (by repeat (first | exact c_nil | refine hc_cons H (by repeat (first | exact pick_head | apply pick_tail | apply pick_app)) rfl ?_)) ?_
          iterate 18 (refine h_st H (by repeat (first | exact pick_head | apply pick_tail | apply pick_app)) (bst _ _ rfl) rfl fun u H => ?_; simp only [List.set_cons_zero, List.set_cons_succ] at H)
          refine s_chk (by repeat (first | exact c_nil | refine hc_cons H (by repeat (first | exact pick_head | apply pick_tail | apply pick_app)) rfl ?_)) ?_
          iterate 18 (refine h_st H (by repeat (first | exact pick_head | apply pick_tail | apply pick_app)) (bst _ _ rfl) rfl fun u H => ?_; simp only [List.set_cons_zero, List.set_cons_succ] at H)
          refine s_chk (by repeat (first | exact c_nil | refine hc_cons H (by repeat (first | exact pick_head | apply pick_tail | apply pick_app)) rfl ?_)) ?_
          exact maytail_c (w := w) (na := n2699) (nb := n2812) h hx h2 hx2 hC1 hC2 (H.sub (by repeat (first | exact sb_refl | exact sb_nil | refine sb_cons (by repeat (first | exact pick_head | apply pick_tail | apply pick_app)) ?_ | refine sb_app (by repeat (first | exact cut_head | exact cut_all | apply cut_tail | apply cut_app)) ?_ | exact sb_one (by repeat (first | exact cut_head | exact cut_all | apply cut_tail | apply cut_app)))))
        · skip
          refine h_new H fun n3195 u H => ?_
          refine s_chk (by repeat (first | exact c_nil | refine hc_cons H (by repeat (first | exact pick_head | apply pick_tail | apply pick_app)) rfl ?_)) ?_
          refine s_call (of_le_c (h2.fr0 H.base) hx2 3) ?_
          rintro _ u ⟨l2, k2, rfl, hC2, Hc2⟩
          have H := H.join Hc2
          have hC := hC2
          obtain ⟨f', g', o1', o2', c1', c2', cr', cw', cp', ca', rfl, -, -, -, -, -⟩ := hC
          refine ⟨_, rfl, s_asA (s_req rfl ?_)⟩
          unfold footAll at hC2 ⊢
          rw [foot_lits] at hC2 ⊢
          iterate 18 refine s_asS ?_
          refine s_chk (by repeat (first | exact c_nil | refine hc_cons H (by repeat (first | exact pick_head | apply pick_tail | apply pick_app)) rfl ?_)) ?_
          iterate 18 (refine h_st H (by repeat (first | exact pick_head | apply pick_tail | apply pick_app)) (bst _ _ rfl) rfl fun u H => ?_; simp only [List.set_cons_zero, List.set_cons_succ] at H)
          refine s_chk (by repeat (first | exact c_nil | refine hc_cons H (by repeat (first | exact pick_head | apply pick_tail | apply pick_app)) rfl ?_)) ?_
          iterate 18 (refine h_st H (by repeat (first | exact pick_head | apply pick_tail | apply pick_app)) (bst _ _ rfl) rfl fun u H => ?_; simp only [List.set_cons_zero, List.set_cons_succ] at H)
          refine s_chk (by repeat (first | exact c_nil | refine hc_cons H (by repeat (first | exact pick_head | apply pick_tail | apply pick_app)) rfl ?_)) ?_
          exact maytail_c (w := w) (na := n2699) (nb := n3195) h hx h2 hx2 hC1 hC2 (H.sub (by repeat (first | exact sb_refl | exact sb_nil | refine sb_cons (by repeat (first | exact pick_head | apply pick_tail | apply pick_app)) ?_ | refine sb_app (by repeat (first | exact cut_head | exact cut_all | apply cut_tail | apply cut_app)) ?_ | exact sb_one (by repeat (first | exact cut_head | exact cut_all | apply cut_tail | apply cut_app)))))
      · skip
        refine h_new H fun n3634 u H => ?_
        refine s_chk (by repeat (first | exact c_nil | refine hc_cons H (by repeat (first | exact pick_head | apply pick_tail | apply pick_app)) rfl ?_)) ?_
        refine s_call (of_le_c (h.fr0 H.base) hx 3) ?_
        rintro _ u ⟨l1, k1, rfl, hC1, Hc1⟩
        have H := H.join Hc1
        have hC := hC1
        obtain ⟨f, g, o1, o2, c1, c2, cr, cw, cp, ca, rfl, -, -, -, -, -⟩ := hC
        refine ⟨_, rfl, s_asA (s_req rfl ?_)⟩
        unfold footAll at hC1 ⊢
        rw [foot_lits] at hC1 ⊢
        iterate 18 refine s_asS ?_
        refine s_chk (by repeat (first | exact c_nil | refine hc_cons H (by repeat (first | exact pick_head | apply pick_tail | apply pick_app)) rfl ?_)) ?_
        refine s_call (of_le_c (h2.fr0 H.base) hx2 3) ?_
        rintro _ u ⟨l2, k2, rfl, hC2, Hc2⟩
        have H := H.join Hc2
        have hC := hC2
        obtain ⟨f', g', o1', o2', c1', c2', cr', cw', cp', ca', rfl, -, -, -, -, -⟩ := hC
        refine ⟨_, rfl, s_asA (s_req rfl ?_)⟩
        unfold footAll at hC2 ⊢
        rw [foot_lits] at hC2 ⊢
        iterate 18 refine s_asS ?_
        refine s_chk (by repeat (first | exact c_nil | refine hc_cons H (by repeat (first | exact pick_head | apply pick_tail | apply pick_app)) rfl ?_)) ?_
        iterate 18 (refine h_st H (by repeat (first | exact pick_head | apply pick_tail | apply pick_app)) (bst _ _ rfl) rfl fun u H => ?_; simp only [List.set_cons_zero, List.set_cons_succ] at H)
        refine s_chk (by repeat (first | exact c_nil | refine hc_cons H (by repeat (first | exact pick_head | apply pick_tail | apply pick_app)) rfl ?_)) ?_
        iterate 18 (refine h_st H (by repeat (first | exact pick_head | apply pick_tail | apply pick_app)) (bst _ _ rfl) rfl fun u H => ?_; simp only [List.set_cons_zero, List.set_cons_succ] at H)
        refine s_chk (by repeat (first | exact c_nil | refine hc_cons H (by repeat (first | exact pick_head | apply pick_tail | apply pick_app)) rfl ?_)) ?_
        exact maytail_c (w := w) (na := n2699) (nb := n3634) h hx h2 hx2 hC1 hC2 (H.sub (by repeat (first | exact sb_refl | exact sb_nil | refine sb_cons (by repeat (first | exact pick_head | apply pick_tail | apply pick_app)) ?_ | refine sb_app (by repeat (first | exact cut_head | exact cut_all | apply cut_tail | apply cut_app)) ?_ | exact sb_one (by repeat (first | exact cut_head | exact cut_all | apply cut_tail | apply cut_app)))))
    · skip
      refine h_new H fun n4129 u H => ?_
      refine s_chk (by repeat (first | exact c_nil | refine hc_cons H (by repeat (first | exact pick_head | apply pick_tail | apply pick_app)) rfl ?_)) ?_
      constructor
      · skip
        refine s_call (of_le_c (h.fr0 H.base) hx 3) ?_
        rintro _ u ⟨l1, k1, rfl, hC1, Hc1⟩
        have H := H.join Hc1
        have hC := hC1
        obtain ⟨f, g, o1, o2, c1, c2, cr, cw, cp, ca, rfl, -, -, -, -, -⟩ := hC
        refine ⟨_, rfl, s_asA (s_req rfl ?_)⟩
        unfold footAll at hC1 ⊢
        rw [foot_lits] at hC1 ⊢
        iterate 18 refine s_asS ?_
        refine s_chk (by repeat (first | exact c_nil | refine hc_cons H (by repeat (first | exact pick_head | apply pick_tail | apply pick_app)) rfl ?_)) ?_
        constructor
        · skip
          refine s_call (of_le_c (h2.fr0 H.base) hx2 3) ?_
          rintro _ u ⟨l2, k2, rfl, hC2, Hc2⟩
          have H := H.join Hc2
          have hC := hC2
          obtain ⟨f', g', o1', o2', c1', c2', cr', cw', cp', ca', rfl, -, -, -, -, -⟩ := hC
          refine ⟨_, rfl, s_asA (s_req rfl ?_)⟩
          unfold footAll at hC2 ⊢
          rw [foot_lits] at hC2 ⊢
          iterate 18 refine s_asS ?_
          refine s_chk (by repeat (first | exact c_nil | refine hc_cons H (by repeat (first | exact pick_head | apply pick_tail | apply pick_app)) rfl ?_)) ?_
          refine h_new H fun n4242 u H => ?_
          refine s_chk (by repeat (first | exact c_nil | refine hc_cons H (by repeat (first | exact pick_head | apply pick_tail | apply pick_app)) rfl ?_)) ?_
          iterate 18 (refine h_st H (by repeat (first | exact pick_head | apply pick_tail | apply pick_app)) (bst _ _ rfl) rfl fun u H => ?_; simp only [List.set_cons_zero, List.set_cons_succ] at H)
          refine s_chk (by repeat (first | exact c_nil | refine hc_cons H (by repeat (first | exact pick_head | apply pick_tail | apply pick_app)) rfl ?_)) ?_
          iterate 18 (refine h_st H (by repeat (first | exact pick_head | apply pick_tail | apply pick_app)) (bst _ _ rfl) rfl fun u H => ?_; simp only [List.set_cons_zero, List.set_cons_succ] at H)
          refine s_chk (by repeat (first | exact c_nil | refine hc_cons H (by repeat (first | exact pick_head | apply pick_tail | apply pick_app)) rfl ?_)) ?_
          exact maytail_c (w := w) (na := n4242) (nb := n4129) h hx h2 hx2 hC1 hC2 (H.sub (by repeat (first | exact sb_refl | exact sb_nil | refine sb_cons (by repeat (first | exact pick_head | apply pick_tail | apply pick_app)) ?_ | refine sb_app (by repeat (first | exact cut_head | exact cut_all | apply cut_tail | apply cut_app)) ?_ | exact sb_one (by repeat (first | exact cut_head | exact cut_all | apply cut_tail | apply cut_app)))))
        · skip
          refine h_new H fun n4625 u H => ?_
          refine s_chk (by repeat (first | exact c_nil | refine hc_cons H (by repeat (first | exact pick_head | apply pick_tail | apply pick_app)) rfl ?_)) ?_
          refine s_call (of_le_c (h2.fr0 H.base) hx2 3) ?_
          rintro _ u ⟨l2, k2, rfl, hC2, Hc2⟩
          have H := H.join Hc2
          have hC := hC2
          obtain ⟨f', g', o1', o2', c1', c2', cr', cw', cp', ca', rfl, -, -, -, -, -⟩ := hC
          refine ⟨_, rfl, s_asA (s_req rfl ?_)⟩
          unfold footAll at hC2 ⊢
          rw [foot_lits] at hC2 ⊢
          iterate 18 refine s_asS ?_
          refine s_chk (by repeat (first | exact c_nil | refine hc_cons H (by repeat (first | exact pick_head | apply pick_tail | apply pick_app)) rfl ?_)) ?_
          iterate 18 (refine h_st H (by repeat (first | exact pick_head | apply pick_tail | apply pick_app)) (bst _ _ rfl) rfl fun u H => ?_; simp only [List.set_cons_zero, List.set_cons_succ] at H)
          refine s_chk (by repeat (first | exact c_nil | refine hc_cons H (by repeat (first | exact pick_head | apply pick_tail | apply pick_app)) rfl ?_)) ?_
          iterate 18 (refine h_st H (by repeat (first | exact pick_head | apply pick_tail | apply pick_app)) (bst _ _ rfl) rfl fun u H => ?_; simp only [List.set_cons_zero, List.set_cons_succ] at H)
          refine s_chk (by repeat (first | exact c_nil | refine hc_cons H (by repeat (first | exact pick_head | apply pick_tail | apply pick_app)) rfl ?_)) ?_
          exact maytail_c (w := w) (na := n4625) (nb := n4129) h hx h2 hx2 hC1 hC2 (H.sub (by repeat (first | exact sb_refl | exact sb_nil | refine sb_cons (by repeat (first | exact pick_head | apply pick_tail | apply pick_app)) ?_ | refine sb_app (by repeat (first | exact cut_head | exact cut_all | apply cut_tail | apply cut_app)) ?_ | exact sb_one (by repeat (first | exact cut_head | exact cut_all | apply cut_tail | apply cut_app)))))
      · skip
        refine h_new H fun n5064 u H => ?_
        refine s_chk (by repeat (first | exact c_nil | refine hc_cons H (by repeat (first | exact pick_head | apply pick_tail | apply pick_app)) rfl ?_)) ?_
        refine s_call (of_le_c (h.fr0 H.base) hx 3) ?_
        rintro _ u ⟨l1, k1, rfl, hC1, Hc1⟩
        have H := H.join Hc1
        have hC := hC1
        obtain ⟨f, g, o1, o2, c1, c2, cr, cw, cp, ca, rfl, -, -, -, -, -⟩ := hC
        refine ⟨_, rfl, s_asA (s_req rfl ?_)⟩
        unfold footAll at hC1 ⊢
        rw [foot_lits] at hC1 ⊢
        iterate 18 refine s_asS ?_
        refine s_chk (by repeat (first | exact c_nil | refine hc_cons H (by repeat (first | exact pick_head | apply pick_tail | apply pick_app)) rfl ?_)) ?_
        refine s_call (of_le_c (h2.fr0 H.base) hx2 3) ?_
        rintro _ u ⟨l2, k2, rfl, hC2, Hc2⟩
        have H := H.join Hc2
        have hC := hC2
        obtain ⟨f', g', o1', o2', c1', c2', cr', cw', cp', ca', rfl, -, -, -, -, -⟩ := hC
        refine ⟨_, rfl, s_asA (s_req rfl ?_)⟩
        unfold footAll at hC2 ⊢
        rw [foot_lits] at hC2 ⊢
        iterate 18 refine s_asS ?_
        refine s_chk (by repeat (first | exact c_nil | refine hc_cons H (by repeat (first | exact pick_head | apply pick_tail | apply pick_app)) rfl ?_)) ?_
        iterate 18 (refine h_st H (by repeat (first | exact pick_head | apply pick_tail | apply pick_app)) (bst _ _ rfl) rfl fun u H => ?_; simp only [List.set_cons_zero, List.set_cons_succ] at H)
        refine s_chk (by repeat (first | exact c_nil | refine hc_cons H (by repeat (first | exact pick_head | apply pick_tail | apply pick_app)) rfl ?_)) ?_
        iterate 18 (refine h_st H (by repeat (first | exact pick_head | apply pick_tail | apply pick_app)) (bst _ _ rfl) rfl fun u H => ?_; simp only [List.set_cons_zero, List.set_cons_succ] at H)
        refine s_chk (by repeat (first | exact c_nil | refine hc_cons H (by repeat (first | exact pick_head | apply pick_tail | apply pick_app)) rfl ?_)) ?_
        exact maytail_c (w := w) (na := n5064) (nb := n4129) h hx h2 hx2 hC1 hC2 (H.sub (by repeat (first | exact sb_refl | exact sb_nil | refine sb_cons (by repeat (first | exact pick_head | apply pick_tail | apply pick_app)) ?_ | refine sb_app (by repeat (first | exact cut_head | exact cut_all | apply cut_tail | apply cut_app)) ?_ | exact sb_one (by repeat (first | exact cut_head | exact cut_all | apply cut_tail | apply cut_app)))))
end
end Go.Proofs.Ytndkffhlheaepaa
