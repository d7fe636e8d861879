/- What a transaction may touch, as the reference has it. -/
import Derived.Test.YtndkffhlheaepaaSame
set_option linter.unusedVariables false
set_option linter.unusedSimpArgs false
set_option maxRecDepth 100000
set_option maxHeartbeats 8000000
namespace Go.Proofs.Ytndkffhlheaepaa
open Go hiding Expr
open Go.RowKit Tr

section
variable {w : World}
theorem rof_c {x : TX} (h : TxAt w x) (hx : TxOk x) (parts : Int) : Calls Try.prog 20 #[.agg ⟨txr x⟩, .int .i64 parts] w fun en w' =>
    ∃ l c, en = .returned (.agg ⟨l⟩) ∧ FootC parts x l c ∧ Has w w' c := by
  have hsz := hx.sz
  apply c20
  refine h_new (Has.init w) fun n15 u H => h_new H fun n16 u H => h_drew H fun u H => h_ldS H (by repeat (first | exact pick_head | apply pick_tail | apply pick_app)) rfl (h_ldS H (by repeat (first | exact pick_head | apply pick_tail | apply pick_app)) rfl ?_)
  constructor
  · skip
    refine s_call (side_c parts (h.rd.fr0 H.base) rfl (by omega)) ?_
    rintro _ u ⟨f, cs, rfl, hfo, Hs⟩
    have H := H.join Hs
    rw [footL_lits]
    refine ⟨_, rfl, s_asA (s_req rfl ?_)⟩
    iterate 8 refine s_asS ?_
    refine s_chk (by repeat (first | exact c_nil | refine hc_cons H (by repeat (first | exact pick_head | apply pick_tail | apply pick_app)) rfl ?_)) ?_
    constructor
    · skip
      refine s_call (side_c parts (h.wr.fr0 H.base) rfl (by omega)) ?_
      rintro _ u ⟨g, cs', rfl, hgo, Hs'⟩
      have H := H.join Hs'
      rw [footL_lits]
      refine ⟨_, rfl, s_asA (s_req rfl ?_)⟩
      iterate 8 refine s_asS ?_
      refine s_chk (by repeat (first | exact c_nil | refine hc_cons H (by repeat (first | exact pick_head | apply pick_tail | apply pick_app)) rfl ?_)) ?_
      (refine h_new H fun n75 u H => ?_)
      refine s_chk (by repeat (first | exact c_nil | refine hc_cons H (by repeat (first | exact pick_head | apply pick_tail | apply pick_app)) rfl ?_)) ?_
      iterate 18 (refine h_st H (by repeat (first | exact pick_head | apply pick_tail | apply pick_app)) (bst _ _ rfl) rfl fun u H => ?_; simp only [List.set_cons_zero, List.set_cons_succ] at H)
      as_aux_lemma =>
        have H : Has w u (cl n75 45 (footL f (FP parts (KS x.rd)) ++ footL g (FP parts (KS x.wr)) ++ [nilS, nilS]) :: (cl n16 45 (List.replicate 18 nilS) :: (cs.flatten ++ cs'.flatten))) := by
          rw [foot_lits, nil_lits]
          exact H.sub (by repeat (first | exact sb_refl | exact sb_nil | refine sb_cons (by repeat (first | exact pick_head | apply pick_tail | apply pick_app)) ?_ | refine sb_app (by repeat (first | exact cut_head | exact cut_all | apply cut_tail | apply cut_app)) ?_ | exact sb_one (by repeat (first | exact cut_head | exact cut_all | apply cut_tail | apply cut_app))))
        refine s_chk (by repeat (first | exact c_nil | refine hc_cons H (by repeat (first | exact pick_head | apply pick_tail | apply pick_app)) rfl ?_)) ?_
        generalize hA : FP parts (KS x.rd) = FA at *
        generalize hB : FP parts (KS x.wr) = FB at *
        have hAl : ∀ p, (FA p).length ≤ x.rd.length := fun p => by rw [← hA]; have := FP_len parts (KS x.rd) p; have := KS_len x.rd; omega
        have hBl : ∀ p, (FB p).length ≤ x.wr.length := fun p => by rw [← hB]; have := FP_len parts (KS x.wr) p; have := KS_len x.wr; omega
        refine s_loop (fun vs W => ∃ (k : Nat) (o1 o2 : Option Addr) (c1 c2 : Nat) (cp ca : Hp), vs = [.int .i64 k] ∧ k ≤ 8 ∧ OwnC 3 1 (.slice o1 (partsU (touchN parts x) k).length c1) (partsU (touchN parts x) k).length (ints (partsU (touchN parts x) k)) cp ∧
            OwnC 3 1 (.slice o2 (partsU (actN parts x) k).length c2) (partsU (actN parts x) k).length (ints (partsU (actN parts x) k)) ca ∧
            Has w W (cl n75 45 (footL f FA ++ footL g FB ++ [.slice o1 (partsU (touchN parts x) k).length c1, .slice o2 (partsU (actN parts x) k).length c2]) :: (cp ++ (ca ++ (cl n16 45 (List.replicate 18 nilS) :: (cs.flatten ++ cs'.flatten))))))
          (fun vs _ => 8 - (intOf (vs.getD 0 undef)).toNat) ⟨0, none, none, 0, 0, [], [], rfl, by omega, OwnC.nil, OwnC.nil, H⟩ ?_
        clear H
        rintro _ j W ⟨k, o1, o2, c1, c2, cp, ca, rfl, hk, hop, hoa, H⟩
        refine s_asI (s_ite (fun g1 => ?_) (fun g1 => ?_))
        · have g1 : (k : Int) < 8 := by simpa using g1
          have hk8 : k < 8 := by omega
          have hgr : ∀ (vp va : Value), (footL f FA ++ footL g FB ++ [vp, va])[0 + Int.toNat (k : Int) * 1]? = some (.slice (f.o k) (FA k).length (f.c k)) := by
            intro vp va
            rw [Int.toNat_natCast, Nat.zero_add, Nat.mul_one, List.append_assoc, List.getElem?_append_left (by rw [footL_len]; exact hk8), footL_get hk8]
          have hgw : ∀ (vp va : Value), (footL f FA ++ footL g FB ++ [vp, va])[8 + Int.toNat (k : Int) * 1]? = some (.slice (g.o k) (FB k).length (g.c k)) := by
            intro vp va
            rw [Int.toNat_natCast, Nat.mul_one, List.append_assoc, List.getElem?_append_right (by rw [footL_len]; omega), footL_len, show 8 + k - 8 = k by omega, List.getElem?_append_left (by rw [footL_len]; exact hk8), footL_get hk8]
          have ha := hAl k
          have hb := hBl k
          have hpl := partsU_len (touchN parts x) k
          have hal := partsU_len (actN parts x) k
          refine s_blk (fun _ W => ∃ (o1 : Option Addr) (c1 : Nat) (cp : Hp), OwnC 3 1 (.slice o1 (partsU (touchN parts x) (k + 1)).length c1) (partsU (touchN parts x) (k + 1)).length (ints (partsU (touchN parts x) (k + 1))) cp ∧
            Has w W (cl n75 45 (footL f FA ++ footL g FB ++ [.slice o1 (partsU (touchN parts x) (k + 1)).length c1, .slice o2 (partsU (actN parts x) k).length c2]) :: (cp ++ (ca ++ (cl n16 45 (List.replicate 18 nilS) :: (cs.flatten ++ cs'.flatten)))))) ?_ ?_
          · clear H hop
            rintro _ _ W ⟨o1, c1, cp, hop, H⟩
            refine s_req ⟨by omega, g1⟩ (h_ldS H (by repeat (first | exact pick_head | apply pick_tail | apply pick_app)) (hgw _ _) (s_ite (fun g2 => ?_) (fun g2 => s_next (by first | exact ⟨rfl, rfl⟩ | trivial) ?_)))
            · have g2 : 0 < (FB k).length := by simpa using g2
              refine h_ldS H (by repeat (first | exact pick_head | apply pick_tail | apply pick_app)) rfl ?_
              (refine h_new H fun n47 u H => ?_)
              refine h_app1 elemN H (cut_tail (cut_tail (cut_app cut_head))) hoa (by repeat (first | exact pick_head | apply pick_tail | apply pick_app)) rfl (ints_one [(k : Int)]) (by omega) (by omega) ?_
              intro v' c' u ho' H
              obtain ⟨o', cap', rfl⟩ := ho'.slice
              refine s_asS (h_st H (by repeat (first | exact pick_head | apply pick_tail | apply pick_app)) (by simp [footL]) rfl fun u H => s_next (by first | exact ⟨rfl, rfl⟩ | trivial) ?_)
              simp (config := { decide := true }) only [if_true, if_false]
              have hs : actN parts x k = true := by unfold actN; rw [hB]; simpa using g2
              have hu : partsU (actN parts x) (k + 1) = partsU (actN parts x) k ++ [(k : Int)] := by rw [partsU_succ, hs, if_pos rfl]
              refine ⟨⟨k + 1, o1, o', c1, cap', cp, c', by rw [w_succ (by omega)], by omega, hop, ?_, ?_⟩, by rw [w_succ (by omega)]; simp [intOf] <;> omega⟩
              · rw [hu, List.length_append, ints_append]
                exact ho'
              · rw [hu, List.length_append]
                exact H.sub (by repeat (first | exact sb_refl | exact sb_nil | refine sb_cons (by repeat (first | exact pick_head | apply pick_tail | apply pick_app)) ?_ | refine sb_app (by repeat (first | exact cut_head | exact cut_all | apply cut_tail | apply cut_app)) ?_ | exact sb_one (by repeat (first | exact cut_head | exact cut_all | apply cut_tail | apply cut_app))))
            · have g2 : ¬ 0 < (FB k).length := by simpa using g2
              simp (config := { decide := true }) only [if_true, if_false]
              have hs : actN parts x k = false := by unfold actN; rw [hB]; simpa using g2
              have hu : partsU (actN parts x) (k + 1) = partsU (actN parts x) k := by rw [partsU_succ, hs, if_neg (by simp), List.append_nil]
              exact ⟨⟨k + 1, o1, o2, c1, c2, cp, ca, by rw [w_succ (by omega)], by omega, hop, by rw [hu]; exact hoa, by rw [hu]; exact H⟩, by rw [w_succ (by omega)]; simp [intOf] <;> omega⟩
          · refine h_drew H fun u H => s_req ⟨by omega, g1⟩ (h_ldS H (by repeat (first | exact pick_head | apply pick_tail | apply pick_app)) (hgr _ _) (s_req ⟨by omega, g1⟩ (h_ldS H (by repeat (first | exact pick_head | apply pick_tail | apply pick_app)) (hgw _ _) ?_)))
            rw [w_add (by omega)]
            refine s_ite (fun g2 => ?_) (fun g2 => s_next (by first | exact ⟨rfl, rfl⟩ | trivial) ?_)
            · have g2 : 0 < (FA k).length + (FB k).length := by
                have : (0 : Int) < (((FA k).length + (FB k).length : Nat) : Int) := by simpa using g2
                omega
              refine h_ldS H (by repeat (first | exact pick_head | apply pick_tail | apply pick_app)) rfl ?_
              (refine h_new H fun n61 u H => ?_)
              refine h_app1 elemN H (cut_tail (cut_tail cut_head)) hop (by repeat (first | exact pick_head | apply pick_tail | apply pick_app)) rfl (ints_one [(k : Int)]) (by omega) (by omega) ?_
              intro v' c' u ho' H
              obtain ⟨o', cap', rfl⟩ := ho'.slice
              refine s_asS (h_st H (by repeat (first | exact pick_head | apply pick_tail | apply pick_app)) (by simp [footL]) rfl fun u H => s_next (by first | exact ⟨rfl, rfl⟩ | trivial) ?_)
              simp (config := { decide := true }) only [if_true, if_false]
              have hs : touchN parts x k = true := by unfold touchN; rw [hA, hB]; simpa using g2
              have hu : partsU (touchN parts x) (k + 1) = partsU (touchN parts x) k ++ [(k : Int)] := by rw [partsU_succ, hs, if_pos rfl]
              refine ⟨o', cap', c', ?_, ?_⟩
              · rw [hu, List.length_append, ints_append]
                exact ho'
              · rw [hu, List.length_append]
                exact H.sub (by repeat (first | exact sb_refl | exact sb_nil | refine sb_cons (by repeat (first | exact pick_head | apply pick_tail | apply pick_app)) ?_ | refine sb_app (by repeat (first | exact cut_head | exact cut_all | apply cut_tail | apply cut_app)) ?_ | exact sb_one (by repeat (first | exact cut_head | exact cut_all | apply cut_tail | apply cut_app))))
            · have g2 : ¬ 0 < (FA k).length + (FB k).length := by
                have : ¬ (0 : Int) < (((FA k).length + (FB k).length : Nat) : Int) := by simpa using g2
                omega
              simp (config := { decide := true }) only [if_true, if_false]
              have hs : touchN parts x k = false := by unfold touchN; rw [hA, hB]; exact decide_eq_false g2
              have hu : partsU (touchN parts x) (k + 1) = partsU (touchN parts x) k := by rw [partsU_succ, hs, if_neg (by simp), List.append_nil]
              exact ⟨o1, c1, cp, by rw [hu]; exact hop, by rw [hu]; exact H⟩
        · have g1 : ¬ (k : Int) < 8 := by simpa using g1
          obtain rfl : k = 8 := by omega
          have hpl := partsU_len (touchN parts x) 8
          have hal := partsU_len (actN parts x) 8
          refine s_blk (fun _ W => ∃ (o1 : Option Addr) (c1 : Nat) (cp : Hp), OwnC 3 1 (.slice o1 (partsOf parts x).length c1) (partsOf parts x).length (ints (partsOf parts x)) cp ∧
            Has w W (cl n75 45 (footL f FA ++ footL g FB ++ [.slice o1 (partsOf parts x).length c1, .slice o2 (partsU (actN parts x) 8).length c2]) :: (cp ++ (ca ++ (cl n16 45 (List.replicate 18 nilS) :: (cs.flatten ++ cs'.flatten)))))) ?_ ?_
          · clear H hop
            rintro _ _ W ⟨o1, c1, cp, hop, H⟩
            have hpp := partsOf_pos parts x
            have hfin : ∀ {u : World} {o2 : Option Addr} {c2 : Nat} {ca : Hp}, OwnC 3 1 (.slice o2 (activeOf parts x).length c2) (activeOf parts x).length (ints (activeOf parts x)) ca → Has w u (cs.flatten ++ (cs'.flatten ++ (cp ++ ca))) →
                ∃ l c, Ending.returned (.agg ⟨footL f FA ++ footL g FB ++ [.slice o1 (partsOf parts x).length c1, .slice o2 (activeOf parts x).length c2]⟩) = Ending.returned (.agg ⟨l⟩) ∧ FootC parts x l c ∧ Has w u c := by
              intro u o2 c2 ca hoa H
              exact ⟨_, _, rfl, ⟨f, g, o1, o2, c1, c2, _, _, cp, ca, by unfold footAll; rw [hA, hB], rfl, by rw [hA]; exact hfo, by rw [hB]; exact hgo, hop, hoa⟩, H⟩
            refine h_ldS H (by repeat (first | exact pick_head | apply pick_tail | apply pick_app)) rfl (s_ite (fun g2 => ?_) (fun g2 => ?_))
            · have g2 : (partsU (actN parts x) 8).length = 0 := by
                have : ((partsU (actN parts x) 8).length : Int) = 0 := by simpa using g2
                omega
              obtain ⟨z, hz⟩ : ∃ z, (partsOf parts x)[0]? = some z := ⟨_, List.getElem?_eq_getElem hpp⟩
              have hp0 : partsU (actN parts x) 8 = [] := List.eq_nil_of_length_eq_zero g2
              have hact : activeOf parts x = [z] := by
                unfold activeOf
                rw [if_pos g2]
                congr 1
                cases hq : partsOf parts x with
                | nil => rw [hq] at hz; simp at hz
                | cons a l => rw [hq] at hz; simpa using hz
              refine h_drew H fun u H => h_ldS H (by repeat (first | exact pick_head | apply pick_tail | apply pick_app)) rfl (h_ldS H (by repeat (first | exact pick_head | apply pick_tail | apply pick_app)) rfl ?_)
              obtain ⟨ga, offa, hea, p1⟩ := (valsAt_own hop H (by repeat (first | exact cut_head | exact cut_all | apply cut_tail | apply cut_app))).get hz
              refine s_req ⟨by omega, by omega⟩ ⟨ga, offa, hea, s_loadI (by simpa using p1) ?_⟩
              (refine h_new H fun n77 u H => ?_)
              refine s_chk (by repeat (first | exact c_nil | refine hc_cons H (by repeat (first | exact pick_head | apply pick_tail | apply pick_app)) rfl ?_)) ?_
              refine h_app1 elemN H (cut_tail (cut_tail (cut_app cut_head))) hoa (by repeat (first | exact pick_head | apply pick_tail | apply pick_app)) rfl (ints_one [z]) (by omega) (by omega) ?_
              intro v' c' u ho' H
              obtain ⟨o', cap', rfl⟩ := ho'.slice
              refine s_asS ?_
              refine s_chk (by repeat (first | exact c_nil | refine hc_cons H (by repeat (first | exact pick_head | apply pick_tail | apply pick_app)) rfl ?_)) ?_
              refine h_st H (by repeat (first | exact pick_head | apply pick_tail | apply pick_app)) (by simp [footL]) rfl fun u H => ?_
              refine s_chk (by repeat (first | exact c_nil | refine hc_cons H (by repeat (first | exact pick_head | apply pick_tail | apply pick_app)) rfl ?_)) ?_
              rw [hp0] at ho' H
              have ho' : OwnC 3 1 (.slice o' (activeOf parts x).length cap') (activeOf parts x).length (ints (activeOf parts x)) c' := by rw [hact]; exact ho'
              have hal1 : (activeOf parts x).length = 1 := by rw [hact]; rfl
              rw [show ([] : List Int).length + 1 = (activeOf parts x).length from by rw [hal1]; rfl] at H
              rw [nil_lits] at H
              simp only [foot_lits, List.set_cons_zero, List.set_cons_succ] at H
              iterate 18 refine h_ldS H (by repeat (first | exact pick_head | apply pick_tail | apply pick_app)) rfl ?_
              iterate 18 (refine h_st H (by repeat (first | exact pick_head | apply pick_tail | apply pick_app)) (bst _ _ rfl) rfl fun u H => ?_; simp only [List.set_cons_zero, List.set_cons_succ] at H)
              iterate 18 refine h_ldS H (by repeat (first | exact pick_head | apply pick_tail | apply pick_app)) rfl ?_
              have := hfin ho' (u := u) (H.sub (by repeat (first | exact sb_refl | exact sb_nil | refine sb_cons (by repeat (first | exact pick_head | apply pick_tail | apply pick_app)) ?_ | refine sb_app (by repeat (first | exact cut_head | exact cut_all | apply cut_tail | apply cut_app)) ?_ | exact sb_one (by repeat (first | exact cut_head | exact cut_all | apply cut_tail | apply cut_app)))))
              rw [foot_lits] at this
              exact s_ret this
            · have g2 : ¬ (partsU (actN parts x) 8).length = 0 := by
                have : ¬ ((partsU (actN parts x) 8).length : Int) = 0 := by simpa using g2
                omega
              have hact : activeOf parts x = partsU (actN parts x) 8 := by unfold activeOf; rw [if_neg g2]
              rw [← hact] at hoa H
              rw [nil_lits] at H
              simp only [foot_lits, List.set_cons_zero, List.set_cons_succ] at H
              iterate 18 refine h_ldS H (by repeat (first | exact pick_head | apply pick_tail | apply pick_app)) rfl ?_
              iterate 18 (refine h_st H (by repeat (first | exact pick_head | apply pick_tail | apply pick_app)) (bst _ _ rfl) rfl fun u H => ?_; simp only [List.set_cons_zero, List.set_cons_succ] at H)
              iterate 18 refine h_ldS H (by repeat (first | exact pick_head | apply pick_tail | apply pick_app)) rfl ?_
              have := hfin hoa (u := u) (H.sub (by repeat (first | exact sb_refl | exact sb_nil | refine sb_cons (by repeat (first | exact pick_head | apply pick_tail | apply pick_app)) ?_ | refine sb_app (by repeat (first | exact cut_head | exact cut_all | apply cut_tail | apply cut_app)) ?_ | exact sb_one (by repeat (first | exact cut_head | exact cut_all | apply cut_tail | apply cut_app)))))
              rw [foot_lits] at this
              exact s_ret this
          · refine h_ldS H (by repeat (first | exact pick_head | apply pick_tail | apply pick_app)) rfl (s_ite (fun g2 => ?_) (fun g2 => s_next (by simp) ?_))
            · have g2 : (partsU (touchN parts x) 8).length = 0 := by
                have : ((partsU (touchN parts x) 8).length : Int) = 0 := by simpa using g2
                omega
              have hp0 : partsU (touchN parts x) 8 = [] := List.eq_nil_of_length_eq_zero g2
              have hpo : partsOf parts x = [0] := by unfold partsOf; rw [if_pos g2]
              refine h_ldS H (by repeat (first | exact pick_head | apply pick_tail | apply pick_app)) rfl ?_
              (refine h_new H fun n297 u H => ?_)
              refine h_app1 elemN H (cut_tail (cut_tail cut_head)) hop (by repeat (first | exact pick_head | apply pick_tail | apply pick_app)) rfl (ints_one [(0 : Int)]) (by omega) (by omega) ?_
              intro v' c' u ho' H
              obtain ⟨o', cap', rfl⟩ := ho'.slice
              refine s_asS (h_st H (by repeat (first | exact pick_head | apply pick_tail | apply pick_app)) (by simp [footL]) rfl fun u H => s_next (by simp) ?_)
              simp (config := { decide := true }) only [if_true, if_false]
              rw [hp0] at ho' H
              refine ⟨o', cap', c', ?_, ?_⟩
              · rw [hpo]
                exact ho'
              · rw [hpo]
                exact H.sub (by repeat (first | exact sb_refl | exact sb_nil | refine sb_cons (by repeat (first | exact pick_head | apply pick_tail | apply pick_app)) ?_ | refine sb_app (by repeat (first | exact cut_head | exact cut_all | apply cut_tail | apply cut_app)) ?_ | exact sb_one (by repeat (first | exact cut_head | exact cut_all | apply cut_tail | apply cut_app))))
            · have g2 : ¬ (partsU (touchN parts x) 8).length = 0 := by
                have : ¬ ((partsU (touchN parts x) 8).length : Int) = 0 := by simpa using g2
                omega
              have hpo : partsOf parts x = partsU (touchN parts x) 8 := by unfold partsOf; rw [if_neg g2]
              simp (config := { decide := true }) only [if_true, if_false]
              exact ⟨o1, c1, cp, by rw [hpo]; exact hop, by rw [hpo]; exact H⟩
    · skip
      (refine h_new H fun n75 u H => ?_)
      refine s_chk (by repeat (first | exact c_nil | refine hc_cons H (by repeat (first | exact pick_head | apply pick_tail | apply pick_app)) rfl ?_)) ?_
      refine s_call (side_c parts (h.wr.fr0 H.base) rfl (by omega)) ?_
      rintro _ u ⟨g, cs', rfl, hgo, Hs'⟩
      have H := H.join Hs'
      rw [footL_lits]
      refine ⟨_, rfl, s_asA (s_req rfl ?_)⟩
      iterate 8 refine s_asS ?_
      refine s_chk (by repeat (first | exact c_nil | refine hc_cons H (by repeat (first | exact pick_head | apply pick_tail | apply pick_app)) rfl ?_)) ?_
      iterate 18 (refine h_st H (by repeat (first | exact pick_head | apply pick_tail | apply pick_app)) (bst _ _ rfl) rfl fun u H => ?_; simp only [List.set_cons_zero, List.set_cons_succ] at H)
      as_aux_lemma =>
        have H : Has w u (cl n75 45 (footL f (FP parts (KS x.rd)) ++ footL g (FP parts (KS x.wr)) ++ [nilS, nilS]) :: (cl n16 45 (List.replicate 18 nilS) :: (cs.flatten ++ cs'.flatten))) := by
          rw [foot_lits, nil_lits]
          exact H.sub (by repeat (first | exact sb_refl | exact sb_nil | refine sb_cons (by repeat (first | exact pick_head | apply pick_tail | apply pick_app)) ?_ | refine sb_app (by repeat (first | exact cut_head | exact cut_all | apply cut_tail | apply cut_app)) ?_ | exact sb_one (by repeat (first | exact cut_head | exact cut_all | apply cut_tail | apply cut_app))))
        refine s_chk (by repeat (first | exact c_nil | refine hc_cons H (by repeat (first | exact pick_head | apply pick_tail | apply pick_app)) rfl ?_)) ?_
        generalize hA : FP parts (KS x.rd) = FA at *
        generalize hB : FP parts (KS x.wr) = FB at *
        have hAl : ∀ p, (FA p).length ≤ x.rd.length := fun p => by rw [← hA]; have := FP_len parts (KS x.rd) p; have := KS_len x.rd; omega
        have hBl : ∀ p, (FB p).length ≤ x.wr.length := fun p => by rw [← hB]; have := FP_len parts (KS x.wr) p; have := KS_len x.wr; omega
        refine s_loop (fun vs W => ∃ (k : Nat) (o1 o2 : Option Addr) (c1 c2 : Nat) (cp ca : Hp), vs = [.int .i64 k] ∧ k ≤ 8 ∧ OwnC 3 1 (.slice o1 (partsU (touchN parts x) k).length c1) (partsU (touchN parts x) k).length (ints (partsU (touchN parts x) k)) cp ∧
            OwnC 3 1 (.slice o2 (partsU (actN parts x) k).length c2) (partsU (actN parts x) k).length (ints (partsU (actN parts x) k)) ca ∧
            Has w W (cl n75 45 (footL f FA ++ footL g FB ++ [.slice o1 (partsU (touchN parts x) k).length c1, .slice o2 (partsU (actN parts x) k).length c2]) :: (cp ++ (ca ++ (cl n16 45 (List.replicate 18 nilS) :: (cs.flatten ++ cs'.flatten))))))
          (fun vs _ => 8 - (intOf (vs.getD 0 undef)).toNat) ⟨0, none, none, 0, 0, [], [], rfl, by omega, OwnC.nil, OwnC.nil, H⟩ ?_
        clear H
        rintro _ j W ⟨k, o1, o2, c1, c2, cp, ca, rfl, hk, hop, hoa, H⟩
        refine s_asI (s_ite (fun g1 => ?_) (fun g1 => ?_))
        · have g1 : (k : Int) < 8 := by simpa using g1
          have hk8 : k < 8 := by omega
          have hgr : ∀ (vp va : Value), (footL f FA ++ footL g FB ++ [vp, va])[0 + Int.toNat (k : Int) * 1]? = some (.slice (f.o k) (FA k).length (f.c k)) := by
            intro vp va
            rw [Int.toNat_natCast, Nat.zero_add, Nat.mul_one, List.append_assoc, List.getElem?_append_left (by rw [footL_len]; exact hk8), footL_get hk8]
          have hgw : ∀ (vp va : Value), (footL f FA ++ footL g FB ++ [vp, va])[8 + Int.toNat (k : Int) * 1]? = some (.slice (g.o k) (FB k).length (g.c k)) := by
            intro vp va
            rw [Int.toNat_natCast, Nat.mul_one, List.append_assoc, List.getElem?_append_right (by rw [footL_len]; omega), footL_len, show 8 + k - 8 = k by omega, List.getElem?_append_left (by rw [footL_len]; exact hk8), footL_get hk8]
          have ha := hAl k
          have hb := hBl k
          have hpl := partsU_len (touchN parts x) k
          have hal := partsU_len (actN parts x) k
          refine s_blk (fun _ W => ∃ (o1 : Option Addr) (c1 : Nat) (cp : Hp), OwnC 3 1 (.slice o1 (partsU (touchN parts x) (k + 1)).length c1) (partsU (touchN parts x) (k + 1)).length (ints (partsU (touchN parts x) (k + 1))) cp ∧
            Has w W (cl n75 45 (footL f FA ++ footL g FB ++ [.slice o1 (partsU (touchN parts x) (k + 1)).length c1, .slice o2 (partsU (actN parts x) k).length c2]) :: (cp ++ (ca ++ (cl n16 45 (List.replicate 18 nilS) :: (cs.flatten ++ cs'.flatten)))))) ?_ ?_
          · clear H hop
            rintro _ _ W ⟨o1, c1, cp, hop, H⟩
            refine s_req ⟨by omega, g1⟩ (h_ldS H (by repeat (first | exact pick_head | apply pick_tail | apply pick_app)) (hgw _ _) (s_ite (fun g2 => ?_) (fun g2 => s_next (by first | exact ⟨rfl, rfl⟩ | trivial) ?_)))
            · have g2 : 0 < (FB k).length := by simpa using g2
              refine h_ldS H (by repeat (first | exact pick_head | apply pick_tail | apply pick_app)) rfl ?_
              (refine h_new H fun n47 u H => ?_)
              refine h_app1 elemN H (cut_tail (cut_tail (cut_app cut_head))) hoa (by repeat (first | exact pick_head | apply pick_tail | apply pick_app)) rfl (ints_one [(k : Int)]) (by omega) (by omega) ?_
              intro v' c' u ho' H
              obtain ⟨o', cap', rfl⟩ := ho'.slice
              refine s_asS (h_st H (by repeat (first | exact pick_head | apply pick_tail | apply pick_app)) (by simp [footL]) rfl fun u H => s_next (by first | exact ⟨rfl, rfl⟩ | trivial) ?_)
              simp (config := { decide := true }) only [if_true, if_false]
              have hs : actN parts x k = true := by unfold actN; rw [hB]; simpa using g2
              have hu : partsU (actN parts x) (k + 1) = partsU (actN parts x) k ++ [(k : Int)] := by rw [partsU_succ, hs, if_pos rfl]
              refine ⟨⟨k + 1, o1, o', c1, cap', cp, c', by rw [w_succ (by omega)], by omega, hop, ?_, ?_⟩, by rw [w_succ (by omega)]; simp [intOf] <;> omega⟩
              · rw [hu, List.length_append, ints_append]
                exact ho'
              · rw [hu, List.length_append]
                exact H.sub (by repeat (first | exact sb_refl | exact sb_nil | refine sb_cons (by repeat (first | exact pick_head | apply pick_tail | apply pick_app)) ?_ | refine sb_app (by repeat (first | exact cut_head | exact cut_all | apply cut_tail | apply cut_app)) ?_ | exact sb_one (by repeat (first | exact cut_head | exact cut_all | apply cut_tail | apply cut_app))))
            · have g2 : ¬ 0 < (FB k).length := by simpa using g2
              simp (config := { decide := true }) only [if_true, if_false]
              have hs : actN parts x k = false := by unfold actN; rw [hB]; simpa using g2
              have hu : partsU (actN parts x) (k + 1) = partsU (actN parts x) k := by rw [partsU_succ, hs, if_neg (by simp), List.append_nil]
              exact ⟨⟨k + 1, o1, o2, c1, c2, cp, ca, by rw [w_succ (by omega)], by omega, hop, by rw [hu]; exact hoa, by rw [hu]; exact H⟩, by rw [w_succ (by omega)]; simp [intOf] <;> omega⟩
          · refine h_drew H fun u H => s_req ⟨by omega, g1⟩ (h_ldS H (by repeat (first | exact pick_head | apply pick_tail | apply pick_app)) (hgr _ _) (s_req ⟨by omega, g1⟩ (h_ldS H (by repeat (first | exact pick_head | apply pick_tail | apply pick_app)) (hgw _ _) ?_)))
            rw [w_add (by omega)]
            refine s_ite (fun g2 => ?_) (fun g2 => s_next (by first | exact ⟨rfl, rfl⟩ | trivial) ?_)
            · have g2 : 0 < (FA k).length + (FB k).length := by
                have : (0 : Int) < (((FA k).length + (FB k).length : Nat) : Int) := by simpa using g2
                omega
              refine h_ldS H (by repeat (first | exact pick_head | apply pick_tail | apply pick_app)) rfl ?_
              (refine h_new H fun n61 u H => ?_)
              refine h_app1 elemN H (cut_tail (cut_tail cut_head)) hop (by repeat (first | exact pick_head | apply pick_tail | apply pick_app)) rfl (ints_one [(k : Int)]) (by omega) (by omega) ?_
              intro v' c' u ho' H
              obtain ⟨o', cap', rfl⟩ := ho'.slice
              refine s_asS (h_st H (by repeat (first | exact pick_head | apply pick_tail | apply pick_app)) (by simp [footL]) rfl fun u H => s_next (by first | exact ⟨rfl, rfl⟩ | trivial) ?_)
              simp (config := { decide := true }) only [if_true, if_false]
              have hs : touchN parts x k = true := by unfold touchN; rw [hA, hB]; simpa using g2
              have hu : partsU (touchN parts x) (k + 1) = partsU (touchN parts x) k ++ [(k : Int)] := by rw [partsU_succ, hs, if_pos rfl]
              refine ⟨o', cap', c', ?_, ?_⟩
              · rw [hu, List.length_append, ints_append]
                exact ho'
              · rw [hu, List.length_append]
                exact H.sub (by repeat (first | exact sb_refl | exact sb_nil | refine sb_cons (by repeat (first | exact pick_head | apply pick_tail | apply pick_app)) ?_ | refine sb_app (by repeat (first | exact cut_head | exact cut_all | apply cut_tail | apply cut_app)) ?_ | exact sb_one (by repeat (first | exact cut_head | exact cut_all | apply cut_tail | apply cut_app))))
            · have g2 : ¬ 0 < (FA k).length + (FB k).length := by
                have : ¬ (0 : Int) < (((FA k).length + (FB k).length : Nat) : Int) := by simpa using g2
                omega
              simp (config := { decide := true }) only [if_true, if_false]
              have hs : touchN parts x k = false := by unfold touchN; rw [hA, hB]; exact decide_eq_false g2
              have hu : partsU (touchN parts x) (k + 1) = partsU (touchN parts x) k := by rw [partsU_succ, hs, if_neg (by simp), List.append_nil]
              exact ⟨o1, c1, cp, by rw [hu]; exact hop, by rw [hu]; exact H⟩
        · have g1 : ¬ (k : Int) < 8 := by simpa using g1
          obtain rfl : k = 8 := by omega
          have hpl := partsU_len (touchN parts x) 8
          have hal := partsU_len (actN parts x) 8
          refine s_blk (fun _ W => ∃ (o1 : Option Addr) (c1 : Nat) (cp : Hp), OwnC 3 1 (.slice o1 (partsOf parts x).length c1) (partsOf parts x).length (ints (partsOf parts x)) cp ∧
            Has w W (cl n75 45 (footL f FA ++ footL g FB ++ [.slice o1 (partsOf parts x).length c1, .slice o2 (partsU (actN parts x) 8).length c2]) :: (cp ++ (ca ++ (cl n16 45 (List.replicate 18 nilS) :: (cs.flatten ++ cs'.flatten)))))) ?_ ?_
          · clear H hop
            rintro _ _ W ⟨o1, c1, cp, hop, H⟩
            have hpp := partsOf_pos parts x
            have hfin : ∀ {u : World} {o2 : Option Addr} {c2 : Nat} {ca : Hp}, OwnC 3 1 (.slice o2 (activeOf parts x).length c2) (activeOf parts x).length (ints (activeOf parts x)) ca → Has w u (cs.flatten ++ (cs'.flatten ++ (cp ++ ca))) →
                ∃ l c, Ending.returned (.agg ⟨footL f FA ++ footL g FB ++ [.slice o1 (partsOf parts x).length c1, .slice o2 (activeOf parts x).length c2]⟩) = Ending.returned (.agg ⟨l⟩) ∧ FootC parts x l c ∧ Has w u c := by
              intro u o2 c2 ca hoa H
              exact ⟨_, _, rfl, ⟨f, g, o1, o2, c1, c2, _, _, cp, ca, by unfold footAll; rw [hA, hB], rfl, by rw [hA]; exact hfo, by rw [hB]; exact hgo, hop, hoa⟩, H⟩
            refine h_ldS H (by repeat (first | exact pick_head | apply pick_tail | apply pick_app)) rfl (s_ite (fun g2 => ?_) (fun g2 => ?_))
            · have g2 : (partsU (actN parts x) 8).length = 0 := by
                have : ((partsU (actN parts x) 8).length : Int) = 0 := by simpa using g2
                omega
              obtain ⟨z, hz⟩ : ∃ z, (partsOf parts x)[0]? = some z := ⟨_, List.getElem?_eq_getElem hpp⟩
              have hp0 : partsU (actN parts x) 8 = [] := List.eq_nil_of_length_eq_zero g2
              have hact : activeOf parts x = [z] := by
                unfold activeOf
                rw [if_pos g2]
                congr 1
                cases hq : partsOf parts x with
                | nil => rw [hq] at hz; simp at hz
                | cons a l => rw [hq] at hz; simpa using hz
              refine h_drew H fun u H => h_ldS H (by repeat (first | exact pick_head | apply pick_tail | apply pick_app)) rfl (h_ldS H (by repeat (first | exact pick_head | apply pick_tail | apply pick_app)) rfl ?_)
              obtain ⟨ga, offa, hea, p1⟩ := (valsAt_own hop H (by repeat (first | exact cut_head | exact cut_all | apply cut_tail | apply cut_app))).get hz
              refine s_req ⟨by omega, by omega⟩ ⟨ga, offa, hea, s_loadI (by simpa using p1) ?_⟩
              (refine h_new H fun n77 u H => ?_)
              refine s_chk (by repeat (first | exact c_nil | refine hc_cons H (by repeat (first | exact pick_head | apply pick_tail | apply pick_app)) rfl ?_)) ?_
              refine h_app1 elemN H (cut_tail (cut_tail (cut_app cut_head))) hoa (by repeat (first | exact pick_head | apply pick_tail | apply pick_app)) rfl (ints_one [z]) (by omega) (by omega) ?_
              intro v' c' u ho' H
              obtain ⟨o', cap', rfl⟩ := ho'.slice
              refine s_asS ?_
              refine s_chk (by repeat (first | exact c_nil | refine hc_cons H (by repeat (first | exact pick_head | apply pick_tail | apply pick_app)) rfl ?_)) ?_
              refine h_st H (by repeat (first | exact pick_head | apply pick_tail | apply pick_app)) (by simp [footL]) rfl fun u H => ?_
              refine s_chk (by repeat (first | exact c_nil | refine hc_cons H (by repeat (first | exact pick_head | apply pick_tail | apply pick_app)) rfl ?_)) ?_
              rw [hp0] at ho' H
              have ho' : OwnC 3 1 (.slice o' (activeOf parts x).length cap') (activeOf parts x).length (ints (activeOf parts x)) c' := by rw [hact]; exact ho'
              have hal1 : (activeOf parts x).length = 1 := by rw [hact]; rfl
              rw [show ([] : List Int).length + 1 = (activeOf parts x).length from by rw [hal1]; rfl] at H
              rw [nil_lits] at H
              simp only [foot_lits, List.set_cons_zero, List.set_cons_succ] at H
              iterate 18 refine h_ldS H (by repeat (first | exact pick_head | apply pick_tail | apply pick_app)) rfl ?_
              iterate 18 (refine h_st H (by repeat (first | exact pick_head | apply pick_tail | apply pick_app)) (bst _ _ rfl) rfl fun u H => ?_; simp only [List.set_cons_zero, List.set_cons_succ] at H)
              iterate 18 refine h_ldS H (by repeat (first | exact pick_head | apply pick_tail | apply pick_app)) rfl ?_
              have := hfin ho' (u := u) (H.sub (by repeat (first | exact sb_refl | exact sb_nil | refine sb_cons (by repeat (first | exact pick_head | apply pick_tail | apply pick_app)) ?_ | refine sb_app (by repeat (first | exact cut_head | exact cut_all | apply cut_tail | apply cut_app)) ?_ | exact sb_one (by repeat (first | exact cut_head | exact cut_all | apply cut_tail | apply cut_app)))))
              rw [foot_lits] at this
              exact s_ret this
            · have g2 : ¬ (partsU (actN parts x) 8).length = 0 := by
                have : ¬ ((partsU (actN parts x) 8).length : Int) = 0 := by simpa using g2
                omega
              have hact : activeOf parts x = partsU (actN parts x) 8 := by unfold activeOf; rw [if_neg g2]
              rw [← hact] at hoa H
              rw [nil_lits] at H
              simp only [foot_lits, List.set_cons_zero, List.set_cons_succ] at H
              iterate 18 refine h_ldS H (by repeat (first | exact pick_head | apply pick_tail | apply pick_app)) rfl ?_
              iterate 18 (refine h_st H (by repeat (first | exact pick_head | apply pick_tail | apply pick_app)) (bst _ _ rfl) rfl fun u H => ?_; simp only [List.set_cons_zero, List.set_cons_succ] at H)
              iterate 18 refine h_ldS H (by repeat (first | exact pick_head | apply pick_tail | apply pick_app)) rfl ?_
              have := hfin hoa (u := u) (H.sub (by repeat (first | exact sb_refl | exact sb_nil | refine sb_cons (by repeat (first | exact pick_head | apply pick_tail | apply pick_app)) ?_ | refine sb_app (by repeat (first | exact cut_head | exact cut_all | apply cut_tail | apply cut_app)) ?_ | exact sb_one (by repeat (first | exact cut_head | exact cut_all | apply cut_tail | apply cut_app)))))
              rw [foot_lits] at this
              exact s_ret this
          · refine h_ldS H (by repeat (first | exact pick_head | apply pick_tail | apply pick_app)) rfl (s_ite (fun g2 => ?_) (fun g2 => s_next (by simp) ?_))
            · have g2 : (partsU (touchN parts x) 8).length = 0 := by
                have : ((partsU (touchN parts x) 8).length : Int) = 0 := by simpa using g2
                omega
              have hp0 : partsU (touchN parts x) 8 = [] := List.eq_nil_of_length_eq_zero g2
              have hpo : partsOf parts x = [0] := by unfold partsOf; rw [if_pos g2]
              refine h_ldS H (by repeat (first | exact pick_head | apply pick_tail | apply pick_app)) rfl ?_
              (refine h_new H fun n297 u H => ?_)
              refine h_app1 elemN H (cut_tail (cut_tail cut_head)) hop (by repeat (first | exact pick_head | apply pick_tail | apply pick_app)) rfl (ints_one [(0 : Int)]) (by omega) (by omega) ?_
              intro v' c' u ho' H
              obtain ⟨o', cap', rfl⟩ := ho'.slice
              refine s_asS (h_st H (by repeat (first | exact pick_head | apply pick_tail | apply pick_app)) (by simp [footL]) rfl fun u H => s_next (by simp) ?_)
              simp (config := { decide := true }) only [if_true, if_false]
              rw [hp0] at ho' H
              refine ⟨o', cap', c', ?_, ?_⟩
              · rw [hpo]
                exact ho'
              · rw [hpo]
                exact H.sub (by repeat (first | exact sb_refl | exact sb_nil | refine sb_cons (by repeat (first | exact pick_head | apply pick_tail | apply pick_app)) ?_ | refine sb_app (by repeat (first | exact cut_head | exact cut_all | apply cut_tail | apply cut_app)) ?_ | exact sb_one (by repeat (first | exact cut_head | exact cut_all | apply cut_tail | apply cut_app))))
            · have g2 : ¬ (partsU (touchN parts x) 8).length = 0 := by
                have : ¬ ((partsU (touchN parts x) 8).length : Int) = 0 := by simpa using g2
                omega
              have hpo : partsOf parts x = partsU (touchN parts x) 8 := by unfold partsOf; rw [if_neg g2]
              simp (config := { decide := true }) only [if_true, if_false]
              exact ⟨o1, c1, cp, by rw [hpo]; exact hop, by rw [hpo]; exact H⟩
  · skip
    (refine h_new H fun n75 u H => ?_)
    refine s_chk (by repeat (first | exact c_nil | refine hc_cons H (by repeat (first | exact pick_head | apply pick_tail | apply pick_app)) rfl ?_)) ?_
    refine s_call (side_c parts (h.rd.fr0 H.base) rfl (by omega)) ?_
    rintro _ u ⟨f, cs, rfl, hfo, Hs⟩
    have H := H.join Hs
    rw [footL_lits]
    refine ⟨_, rfl, s_asA (s_req rfl ?_)⟩
    iterate 8 refine s_asS ?_
    refine s_chk (by repeat (first | exact c_nil | refine hc_cons H (by repeat (first | exact pick_head | apply pick_tail | apply pick_app)) rfl ?_)) ?_
    refine s_call (side_c parts (h.wr.fr0 H.base) rfl (by omega)) ?_
    rintro _ u ⟨g, cs', rfl, hgo, Hs'⟩
    have H := H.join Hs'
    rw [footL_lits]
    refine ⟨_, rfl, s_asA (s_req rfl ?_)⟩
    iterate 8 refine s_asS ?_
    refine s_chk (by repeat (first | exact c_nil | refine hc_cons H (by repeat (first | exact pick_head | apply pick_tail | apply pick_app)) rfl ?_)) ?_
    iterate 18 (refine h_st H (by repeat (first | exact pick_head | apply pick_tail | apply pick_app)) (bst _ _ rfl) rfl fun u H => ?_; simp only [List.set_cons_zero, List.set_cons_succ] at H)
    as_aux_lemma =>
      have H : Has w u (cl n75 45 (footL f (FP parts (KS x.rd)) ++ footL g (FP parts (KS x.wr)) ++ [nilS, nilS]) :: (cl n16 45 (List.replicate 18 nilS) :: (cs.flatten ++ cs'.flatten))) := by
        rw [foot_lits, nil_lits]
        exact H.sub (by repeat (first | exact sb_refl | exact sb_nil | refine sb_cons (by repeat (first | exact pick_head | apply pick_tail | apply pick_app)) ?_ | refine sb_app (by repeat (first | exact cut_head | exact cut_all | apply cut_tail | apply cut_app)) ?_ | exact sb_one (by repeat (first | exact cut_head | exact cut_all | apply cut_tail | apply cut_app))))
      refine s_chk (by repeat (first | exact c_nil | refine hc_cons H (by repeat (first | exact pick_head | apply pick_tail | apply pick_app)) rfl ?_)) ?_
      generalize hA : FP parts (KS x.rd) = FA at *
      generalize hB : FP parts (KS x.wr) = FB at *
      have hAl : ∀ p, (FA p).length ≤ x.rd.length := fun p => by rw [← hA]; have := FP_len parts (KS x.rd) p; have := KS_len x.rd; omega
      have hBl : ∀ p, (FB p).length ≤ x.wr.length := fun p => by rw [← hB]; have := FP_len parts (KS x.wr) p; have := KS_len x.wr; omega
      refine s_loop (fun vs W => ∃ (k : Nat) (o1 o2 : Option Addr) (c1 c2 : Nat) (cp ca : Hp), vs = [.int .i64 k] ∧ k ≤ 8 ∧ OwnC 3 1 (.slice o1 (partsU (touchN parts x) k).length c1) (partsU (touchN parts x) k).length (ints (partsU (touchN parts x) k)) cp ∧
          OwnC 3 1 (.slice o2 (partsU (actN parts x) k).length c2) (partsU (actN parts x) k).length (ints (partsU (actN parts x) k)) ca ∧
          Has w W (cl n75 45 (footL f FA ++ footL g FB ++ [.slice o1 (partsU (touchN parts x) k).length c1, .slice o2 (partsU (actN parts x) k).length c2]) :: (cp ++ (ca ++ (cl n16 45 (List.replicate 18 nilS) :: (cs.flatten ++ cs'.flatten))))))
        (fun vs _ => 8 - (intOf (vs.getD 0 undef)).toNat) ⟨0, none, none, 0, 0, [], [], rfl, by omega, OwnC.nil, OwnC.nil, H⟩ ?_
      clear H
      rintro _ j W ⟨k, o1, o2, c1, c2, cp, ca, rfl, hk, hop, hoa, H⟩
      refine s_asI (s_ite (fun g1 => ?_) (fun g1 => ?_))
      · have g1 : (k : Int) < 8 := by simpa using g1
        have hk8 : k < 8 := by omega
        have hgr : ∀ (vp va : Value), (footL f FA ++ footL g FB ++ [vp, va])[0 + Int.toNat (k : Int) * 1]? = some (.slice (f.o k) (FA k).length (f.c k)) := by
          intro vp va
          rw [Int.toNat_natCast, Nat.zero_add, Nat.mul_one, List.append_assoc, List.getElem?_append_left (by rw [footL_len]; exact hk8), footL_get hk8]
        have hgw : ∀ (vp va : Value), (footL f FA ++ footL g FB ++ [vp, va])[8 + Int.toNat (k : Int) * 1]? = some (.slice (g.o k) (FB k).length (g.c k)) := by
          intro vp va
          rw [Int.toNat_natCast, Nat.mul_one, List.append_assoc, List.getElem?_append_right (by rw [footL_len]; omega), footL_len, show 8 + k - 8 = k by omega, List.getElem?_append_left (by rw [footL_len]; exact hk8), footL_get hk8]
        have ha := hAl k
        have hb := hBl k
        have hpl := partsU_len (touchN parts x) k
        have hal := partsU_len (actN parts x) k
        refine s_blk (fun _ W => ∃ (o1 : Option Addr) (c1 : Nat) (cp : Hp), OwnC 3 1 (.slice o1 (partsU (touchN parts x) (k + 1)).length c1) (partsU (touchN parts x) (k + 1)).length (ints (partsU (touchN parts x) (k + 1))) cp ∧
          Has w W (cl n75 45 (footL f FA ++ footL g FB ++ [.slice o1 (partsU (touchN parts x) (k + 1)).length c1, .slice o2 (partsU (actN parts x) k).length c2]) :: (cp ++ (ca ++ (cl n16 45 (List.replicate 18 nilS) :: (cs.flatten ++ cs'.flatten)))))) ?_ ?_
        · clear H hop
          rintro _ _ W ⟨o1, c1, cp, hop, H⟩
          refine s_req ⟨by omega, g1⟩ (h_ldS H (by repeat (first | exact pick_head | apply pick_tail | apply pick_app)) (hgw _ _) (s_ite (fun g2 => ?_) (fun g2 => s_next (by first | exact ⟨rfl, rfl⟩ | trivial) ?_)))
          · have g2 : 0 < (FB k).length := by simpa using g2
            refine h_ldS H (by repeat (first | exact pick_head | apply pick_tail | apply pick_app)) rfl ?_
            (refine h_new H fun n47 u H => ?_)
            refine h_app1 elemN H (cut_tail (cut_tail (cut_app cut_head))) hoa (by repeat (first | exact pick_head | apply pick_tail | apply pick_app)) rfl (ints_one [(k : Int)]) (by omega) (by omega) ?_
            intro v' c' u ho' H
            obtain ⟨o', cap', rfl⟩ := ho'.slice
            refine s_asS (h_st H (by repeat (first | exact pick_head | apply pick_tail | apply pick_app)) (by simp [footL]) rfl fun u H => s_next (by first | exact ⟨rfl, rfl⟩ | trivial) ?_)
            simp (config := { decide := true }) only [if_true, if_false]
            have hs : actN parts x k = true := by unfold actN; rw [hB]; simpa using g2
            have hu : partsU (actN parts x) (k + 1) = partsU (actN parts x) k ++ [(k : Int)] := by rw [partsU_succ, hs, if_pos rfl]
            refine ⟨⟨k + 1, o1, o', c1, cap', cp, c', by rw [w_succ (by omega)], by omega, hop, ?_, ?_⟩, by rw [w_succ (by omega)]; simp [intOf] <;> omega⟩
            · rw [hu, List.length_append, ints_append]
              exact ho'
            · rw [hu, List.length_append]
              exact H.sub (by repeat (first | exact sb_refl | exact sb_nil | refine sb_cons (by repeat (first | exact pick_head | apply pick_tail | apply pick_app)) ?_ | refine sb_app (by repeat (first | exact cut_head | exact cut_all | apply cut_tail | apply cut_app)) ?_ | exact sb_one (by repeat (first | exact cut_head | exact cut_all | apply cut_tail | apply cut_app))))
          · have g2 : ¬ 0 < (FB k).length := by simpa using g2
            simp (config := { decide := true }) only [if_true, if_false]
            have hs : actN parts x k = false := by unfold actN; rw [hB]; simpa using g2
            have hu : partsU (actN parts x) (k + 1) = partsU (actN parts x) k := by rw [partsU_succ, hs, if_neg (by simp), List.append_nil]
            exact ⟨⟨k + 1, o1, o2, c1, c2, cp, ca, by rw [w_succ (by omega)], by omega, hop, by rw [hu]; exact hoa, by rw [hu]; exact H⟩, by rw [w_succ (by omega)]; simp [intOf] <;> omega⟩
        · refine h_drew H fun u H => s_req ⟨by omega, g1⟩ (h_ldS H (by repeat (first | exact pick_head | apply pick_tail | apply pick_app)) (hgr _ _) (s_req ⟨by omega, g1⟩ (h_ldS H (by repeat (first | exact pick_head | apply pick_tail | apply pick_app)) (hgw _ _) ?_)))
          rw [w_add (by omega)]
          refine s_ite (fun g2 => ?_) (fun g2 => s_next (by first | exact ⟨rfl, rfl⟩ | trivial) ?_)
          · have g2 : 0 < (FA k).length + (FB k).length := by
              have : (0 : Int) < (((FA k).length + (FB k).length : Nat) : Int) := by simpa using g2
              omega
            refine h_ldS H (by repeat (first | exact pick_head | apply pick_tail | apply pick_app)) rfl ?_
            (refine h_new H fun n61 u H => ?_)
            refine h_app1 elemN H (cut_tail (cut_tail cut_head)) hop (by repeat (first | exact pick_head | apply pick_tail | apply pick_app)) rfl (ints_one [(k : Int)]) (by omega) (by omega) ?_
            intro v' c' u ho' H
            obtain ⟨o', cap', rfl⟩ := ho'.slice
            refine s_asS (h_st H (by repeat (first | exact pick_head | apply pick_tail | apply pick_app)) (by simp [footL]) rfl fun u H => s_next (by first | exact ⟨rfl, rfl⟩ | trivial) ?_)
            simp (config := { decide := true }) only [if_true, if_false]
            have hs : touchN parts x k = true := by unfold touchN; rw [hA, hB]; simpa using g2
            have hu : partsU (touchN parts x) (k + 1) = partsU (touchN parts x) k ++ [(k : Int)] := by rw [partsU_succ, hs, if_pos rfl]
            refine ⟨o', cap', c', ?_, ?_⟩
            · rw [hu, List.length_append, ints_append]
              exact ho'
            · rw [hu, List.length_append]
              exact H.sub (by repeat (first | exact sb_refl | exact sb_nil | refine sb_cons (by repeat (first | exact pick_head | apply pick_tail | apply pick_app)) ?_ | refine sb_app (by repeat (first | exact cut_head | exact cut_all | apply cut_tail | apply cut_app)) ?_ | exact sb_one (by repeat (first | exact cut_head | exact cut_all | apply cut_tail | apply cut_app))))
          · have g2 : ¬ 0 < (FA k).length + (FB k).length := by
              have : ¬ (0 : Int) < (((FA k).length + (FB k).length : Nat) : Int) := by simpa using g2
              omega
            simp (config := { decide := true }) only [if_true, if_false]
            have hs : touchN parts x k = false := by unfold touchN; rw [hA, hB]; exact decide_eq_false g2
            have hu : partsU (touchN parts x) (k + 1) = partsU (touchN parts x) k := by rw [partsU_succ, hs, if_neg (by simp), List.append_nil]
            exact ⟨o1, c1, cp, by rw [hu]; exact hop, by rw [hu]; exact H⟩
      · have g1 : ¬ (k : Int) < 8 := by simpa using g1
        obtain rfl : k = 8 := by omega
        have hpl := partsU_len (touchN parts x) 8
        have hal := partsU_len (actN parts x) 8
        refine s_blk (fun _ W => ∃ (o1 : Option Addr) (c1 : Nat) (cp : Hp), OwnC 3 1 (.slice o1 (partsOf parts x).length c1) (partsOf parts x).length (ints (partsOf parts x)) cp ∧
          Has w W (cl n75 45 (footL f FA ++ footL g FB ++ [.slice o1 (partsOf parts x).length c1, .slice o2 (partsU (actN parts x) 8).length c2]) :: (cp ++ (ca ++ (cl n16 45 (List.replicate 18 nilS) :: (cs.flatten ++ cs'.flatten)))))) ?_ ?_
        · clear H hop
          rintro _ _ W ⟨o1, c1, cp, hop, H⟩
          have hpp := partsOf_pos parts x
          have hfin : ∀ {u : World} {o2 : Option Addr} {c2 : Nat} {ca : Hp}, OwnC 3 1 (.slice o2 (activeOf parts x).length c2) (activeOf parts x).length (ints (activeOf parts x)) ca → Has w u (cs.flatten ++ (cs'.flatten ++ (cp ++ ca))) →
              ∃ l c, Ending.returned (.agg ⟨footL f FA ++ footL g FB ++ [.slice o1 (partsOf parts x).length c1, .slice o2 (activeOf parts x).length c2]⟩) = Ending.returned (.agg ⟨l⟩) ∧ FootC parts x l c ∧ Has w u c := by
            intro u o2 c2 ca hoa H
            exact ⟨_, _, rfl, ⟨f, g, o1, o2, c1, c2, _, _, cp, ca, by unfold footAll; rw [hA, hB], rfl, by rw [hA]; exact hfo, by rw [hB]; exact hgo, hop, hoa⟩, H⟩
          refine h_ldS H (by repeat (first | exact pick_head | apply pick_tail | apply pick_app)) rfl (s_ite (fun g2 => ?_) (fun g2 => ?_))
          · have g2 : (partsU (actN parts x) 8).length = 0 := by
              have : ((partsU (actN parts x) 8).length : Int) = 0 := by simpa using g2
              omega
            obtain ⟨z, hz⟩ : ∃ z, (partsOf parts x)[0]? = some z := ⟨_, List.getElem?_eq_getElem hpp⟩
            have hp0 : partsU (actN parts x) 8 = [] := List.eq_nil_of_length_eq_zero g2
            have hact : activeOf parts x = [z] := by
              unfold activeOf
              rw [if_pos g2]
              congr 1
              cases hq : partsOf parts x with
              | nil => rw [hq] at hz; simp at hz
              | cons a l => rw [hq] at hz; simpa using hz
            refine h_drew H fun u H => h_ldS H (by repeat (first | exact pick_head | apply pick_tail | apply pick_app)) rfl (h_ldS H (by repeat (first | exact pick_head | apply pick_tail | apply pick_app)) rfl ?_)
            obtain ⟨ga, offa, hea, p1⟩ := (valsAt_own hop H (by repeat (first | exact cut_head | exact cut_all | apply cut_tail | apply cut_app))).get hz
            refine s_req ⟨by omega, by omega⟩ ⟨ga, offa, hea, s_loadI (by simpa using p1) ?_⟩
            (refine h_new H fun n77 u H => ?_)
            refine s_chk (by repeat (first | exact c_nil | refine hc_cons H (by repeat (first | exact pick_head | apply pick_tail | apply pick_app)) rfl ?_)) ?_
            refine h_app1 elemN H (cut_tail (cut_tail (cut_app cut_head))) hoa (by repeat (first | exact pick_head | apply pick_tail | apply pick_app)) rfl (ints_one [z]) (by omega) (by omega) ?_
            intro v' c' u ho' H
            obtain ⟨o', cap', rfl⟩ := ho'.slice
            refine s_asS ?_
            refine s_chk (by repeat (first | exact c_nil | refine hc_cons H (by repeat (first | exact pick_head | apply pick_tail | apply pick_app)) rfl ?_)) ?_
            refine h_st H (by repeat (first | exact pick_head | apply pick_tail | apply pick_app)) (by simp [footL]) rfl fun u H => ?_
            refine s_chk (by repeat (first | exact c_nil | refine hc_cons H (by repeat (first | exact pick_head | apply pick_tail | apply pick_app)) rfl ?_)) ?_
            rw [hp0] at ho' H
            have ho' : OwnC 3 1 (.slice o' (activeOf parts x).length cap') (activeOf parts x).length (ints (activeOf parts x)) c' := by rw [hact]; exact ho'
            have hal1 : (activeOf parts x).length = 1 := by rw [hact]; rfl
            rw [show ([] : List Int).length + 1 = (activeOf parts x).length from by rw [hal1]; rfl] at H
            rw [nil_lits] at H
            simp only [foot_lits, List.set_cons_zero, List.set_cons_succ] at H
            iterate 18 refine h_ldS H (by repeat (first | exact pick_head | apply pick_tail | apply pick_app)) rfl ?_
            iterate 18 (refine h_st H (by repeat (first | exact pick_head | apply pick_tail | apply pick_app)) (bst _ _ rfl) rfl fun u H => ?_; simp only [List.set_cons_zero, List.set_cons_succ] at H)
            iterate 18 refine h_ldS H (by repeat (first | exact pick_head | apply pick_tail | apply pick_app)) rfl ?_
            have := hfin ho' (u := u) (H.sub (by repeat (first | exact sb_refl | exact sb_nil | refine sb_cons (by repeat (first | exact pick_head | apply pick_tail | apply pick_app)) ?_ | refine sb_app (by repeat (first | exact cut_head | exact cut_all | apply cut_tail | apply cut_app)) ?_ | exact sb_one (by repeat (first | exact cut_head | exact cut_all | apply cut_tail | apply cut_app)))))
            rw [foot_lits] at this
            exact s_ret this
          · have g2 : ¬ (partsU (actN parts x) 8).length = 0 := by
              have : ¬ ((partsU (actN parts x) 8).length : Int) = 0 := by simpa using g2
              omega
            have hact : activeOf parts x = partsU (actN parts x) 8 := by unfold activeOf; rw [if_neg g2]
            rw [← hact] at hoa H
            rw [nil_lits] at H
            simp only [foot_lits, List.set_cons_zero, List.set_cons_succ] at H
            iterate 18 refine h_ldS H (by repeat (first | exact pick_head | apply pick_tail | apply pick_app)) rfl ?_
            iterate 18 (refine h_st H (by repeat (first | exact pick_head | apply pick_tail | apply pick_app)) (bst _ _ rfl) rfl fun u H => ?_; simp only [List.set_cons_zero, List.set_cons_succ] at H)
            iterate 18 refine h_ldS H (by repeat (first | exact pick_head | apply pick_tail | apply pick_app)) rfl ?_
            have := hfin hoa (u := u) (H.sub (by repeat (first | exact sb_refl | exact sb_nil | refine sb_cons (by repeat (first | exact pick_head | apply pick_tail | apply pick_app)) ?_ | refine sb_app (by repeat (first | exact cut_head | exact cut_all | apply cut_tail | apply cut_app)) ?_ | exact sb_one (by repeat (first | exact cut_head | exact cut_all | apply cut_tail | apply cut_app)))))
            rw [foot_lits] at this
            exact s_ret this
        · refine h_ldS H (by repeat (first | exact pick_head | apply pick_tail | apply pick_app)) rfl (s_ite (fun g2 => ?_) (fun g2 => s_next (by simp) ?_))
          · have g2 : (partsU (touchN parts x) 8).length = 0 := by
              have : ((partsU (touchN parts x) 8).length : Int) = 0 := by simpa using g2
              omega
            have hp0 : partsU (touchN parts x) 8 = [] := List.eq_nil_of_length_eq_zero g2
            have hpo : partsOf parts x = [0] := by unfold partsOf; rw [if_pos g2]
            refine h_ldS H (by repeat (first | exact pick_head | apply pick_tail | apply pick_app)) rfl ?_
            (refine h_new H fun n297 u H => ?_)
            refine h_app1 elemN H (cut_tail (cut_tail cut_head)) hop (by repeat (first | exact pick_head | apply pick_tail | apply pick_app)) rfl (ints_one [(0 : Int)]) (by omega) (by omega) ?_
            intro v' c' u ho' H
            obtain ⟨o', cap', rfl⟩ := ho'.slice
            refine s_asS (h_st H (by repeat (first | exact pick_head | apply pick_tail | apply pick_app)) (by simp [footL]) rfl fun u H => s_next (by simp) ?_)
            simp (config := { decide := true }) only [if_true, if_false]
            rw [hp0] at ho' H
            refine ⟨o', cap', c', ?_, ?_⟩
            · rw [hpo]
              exact ho'
            · rw [hpo]
              exact H.sub (by repeat (first | exact sb_refl | exact sb_nil | refine sb_cons (by repeat (first | exact pick_head | apply pick_tail | apply pick_app)) ?_ | refine sb_app (by repeat (first | exact cut_head | exact cut_all | apply cut_tail | apply cut_app)) ?_ | exact sb_one (by repeat (first | exact cut_head | exact cut_all | apply cut_tail | apply cut_app))))
          · have g2 : ¬ (partsU (touchN parts x) 8).length = 0 := by
              have : ¬ ((partsU (touchN parts x) 8).length : Int) = 0 := by simpa using g2
              omega
            have hpo : partsOf parts x = partsU (touchN parts x) 8 := by unfold partsOf; rw [if_neg g2]
            simp (config := { decide := true }) only [if_true, if_false]
            exact ⟨o1, c1, cp, by rw [hpo]; exact hop, by rw [hpo]; exact H⟩
end
end Go.Proofs.Ytndkffhlheaepaa
