/- The walk of FootWhole. -/
import Derived.Test.YtndkffhlheaepaaWholeP
import Derived.Test.YtndkffhlheaepaaWrite
set_option linter.unusedVariables false
set_option linter.unusedSimpArgs false
set_option maxRecDepth 100000
set_option maxHeartbeats 4000000
namespace Go.Proofs.Ytndkffhlheaepaa
open Go hiding Expr
open Go.RowKit Tr

section
variable {w : World}
theorem fwhole_c {x : TX} (h : TxAt w x) (hx : TxOk x) (parts : Int) : Calls Try.prog 8 #[.agg ⟨txr x⟩, .int .i64 parts] w fun en w' => en = .returned (.bool true) ∧ Fr [] w w' := by
  have hsz := hx.sz
  have hll := locksOf_len x
  apply c8
  refine h_new (Has.init w) fun n15 u H => ?_
  have H : Has w u [cl n15 39 (txr x)] := H
  iterate 2 refine h_ldI H (by repeat (first | exact pick_head | apply pick_tail | apply pick_app)) rfl ?_
  iterate 4 refine h_ldS H (by repeat (first | exact pick_head | apply pick_tail | apply pick_app)) rfl ?_
  refine s_call (of_c (h.fr0 H.base) hx parts) ?_
  rintro _ u ⟨l, c, rfl, ⟨f, g, o1, o2, c1, c2, cr, cw, cp, ca, rfl, rfl, hfo, hgo, hop, hoa⟩, Hc⟩
  have H := H.join Hc
  have hF : ∀ p, (FP parts (KS x.rd) p).length ≤ x.rd.length := fun p => by have := FP_len parts (KS x.rd) p; have := KS_len x.rd; omega
  have hG : ∀ p, (FP parts (KS x.wr) p).length ≤ x.wr.length := fun p => by have := FP_len parts (KS x.wr) p; have := KS_len x.wr; omega
  have htch : ∀ p : Nat, decide (0 < (atOf x (p : Int) parts).length) = decide (0 < (FP parts (KS x.rd) p).length + (FP parts (KS x.wr) p).length) := fun p => at_touch x parts p
  have hpos := partsOf_pos parts x
  have hpol := partsOf_len parts x
  have hapos := activeOf_pos parts x
  have hal := activeOf_len parts x
  refine ⟨_, rfl, s_asA (s_req rfl ?_)⟩
  unfold footAll at *
  have htp : ∀ p : Nat, p < 8 → 0 < (atOf x (p : Int) parts).length → (p : Int) ∈ partsOf parts x := fun p hp h => touch_parts hp (by rw [← at_touch]; exact decide_eq_true h)
  generalize FP parts (KS x.rd) = F at *
  generalize FP parts (KS x.wr) = G at *
  rw [foot_lits]
  iterate 18 refine s_asS ?_
  refine h_new H fun n86 u H => ?_
  iterate 18 (refine h_st H (by repeat (first | exact pick_head | apply pick_tail | apply pick_app)) (bst _ _ rfl) rfl fun u H => ?_; simp only [List.set_cons_zero, List.set_cons_succ] at H)
  have H : Has w u (cl n86 45 (footL f F ++ footL g G ++ [.slice o1 (partsOf parts x).length c1, .slice o2 (activeOf parts x).length c2]) :: (cp ++ (ca ++ [cl n15 39 (txr x)]))) := by
    rw [foot_lits]
    simp only [List.append_assoc] at H
    exact H.sub (by repeat (first | exact sb_refl | exact sb_nil | refine sb_cons (by repeat (first | exact pick_head | apply pick_tail | apply pick_app)) ?_ | refine sb_app (by repeat (first | exact cut_head | exact cut_all | apply cut_tail | apply cut_app)) ?_ | exact sb_one (by repeat (first | exact cut_head | exact cut_all | apply cut_tail | apply cut_app))))
  generalize hL : footL f F ++ footL g G ++ [.slice o1 (partsOf parts x).length c1, .slice o2 (activeOf parts x).length c2] = L at *
  have hget : ∀ i : Nat, i < 8 → L[0 + Int.toNat (i : Int) * 1]? = some (.slice (f.o i) (F i).length (f.c i)) := by
    intro i hi
    rw [← hL, Int.toNat_natCast, Nat.zero_add, Nat.mul_one, List.append_assoc, List.getElem?_append_left (by rw [footL_len]; exact hi), footL_get hi]
  have hget8 : ∀ i : Nat, i < 8 → L[8 + Int.toNat (i : Int) * 1]? = some (.slice (g.o i) (G i).length (g.c i)) := by
    intro i hi
    rw [← hL, Int.toNat_natCast, Nat.mul_one, List.append_assoc, List.getElem?_append_right (by rw [footL_len]; omega), footL_len, show 8 + i - 8 = i by omega, List.getElem?_append_left (by rw [footL_len]; exact hi), footL_get hi]
  have hL16 : L[16]? = some (.slice o1 (partsOf parts x).length c1) := by rw [← hL]; rfl
  have hL17 : L[17]? = some (.slice o2 (activeOf parts x).length c2) := by rw [← hL]; rfl
  clear hL hfo hgo
  refine s_loop (fun xs W => ∃ (p : Nat) (v : Value) (c : Hp), xs = [v, .int .i64 p] ∧ p ≤ 8 ∧ OwnC 52 3 v (allU x parts p).length (encL (allU x parts p)) c ∧ Has w W (c ++ (cl n86 45 L :: (cp ++ (ca ++ [cl n15 39 (txr x)])))))
    (fun xs _ => 8 - (intOf (xs.getD 1 undef)).toNat) ⟨0, _, [], rfl, by omega, OwnC.nil, H⟩ ?_
  clear H
  rintro _ j W ⟨p, v, c, rfl, hp, ho, H⟩
  obtain ⟨ov, cv, rfl⟩ := ho.slice
  refine s_asS (s_asI (s_ite (fun g1 => ?_) (fun g1 => ?_)))
  · have g1 : (p : Int) < 8 := by simpa using g1
    have hp8 : p < 8 := by omega
    have hFp := hF p
    have hGp := hG p
    iterate 2 refine h_ldI H (by repeat (first | exact pick_head | apply pick_tail | apply pick_app)) rfl ?_
    iterate 4 refine h_ldS H (by repeat (first | exact pick_head | apply pick_tail | apply pick_app)) rfl ?_
    refine s_call (at_c (h.fr0 H.base) hx (p : Int) parts) ?_
    rintro _ u ⟨v2, k2, rfl, hoa, H2⟩
    have H := H.join H2
    obtain ⟨q2, d2, rfl⟩ := hoa.slice
    have hsum : (allU x parts p).length + (atOf x (p : Int) parts).length ≤ (locksOf x).length := by
      have := allU_le x parts (p + 1)
      rw [allU_succ, List.length_append] at this
      exact this
    have e1 := hget p hp8
    have e2 := hget8 p hp8
    refine ⟨_, rfl, s_asS (h_drew H fun u H => s_req ⟨by omega, g1⟩ (h_ldS H (by repeat (first | exact pick_head | apply pick_tail | apply pick_app)) e1 (s_req ⟨by omega, g1⟩ (h_ldS H (by repeat (first | exact pick_head | apply pick_tail | apply pick_app)) e2 ?_))))⟩
    rw [w_add (by omega)]
    have ht := htch p
    refine s_ite (fun g2 => ?_) (fun g2 => s_ite (fun g3 => ?_) (fun g3 => ?_))
    · exfalso
      have : decide (((atOf x (p : Int) parts).length : Int) > 0) = decide ((((F p).length + (G p).length : Nat) : Int) > 0) := by
        have hti := decide_eq_decide.1 ht
        exact decide_eq_decide.2 ⟨fun h => by have := hti.1 (by omega); omega, fun h => by have := hti.2 (by omega); omega⟩
      rw [this] at g2
      simp at g2
    · have g3 : 0 < (atOf x (p : Int) parts).length := by
        have : ((atOf x (p : Int) parts).length : Int) > 0 := by simpa using g3
        omega
      refine h_ldS H (by repeat (first | exact pick_head | apply pick_tail | apply pick_app)) hL16 ?_
      refine s_call (conti_c (valsAt_own hop H (by repeat (first | exact cut_head | exact cut_all | apply cut_tail | apply cut_app))) rfl (by omega) (p : Int)) ?_
      rintro _ u ⟨rfl, f0⟩
      have H := H.fr0 f0
      rw [decide_eq_true (htp p hp8 g3)]
      refine ⟨_, rfl, s_asB ?_⟩
      refine s_chk (by repeat (first | exact c_nil | refine hc_cons H (by repeat (first | exact pick_head | apply pick_tail | apply pick_app)) ‹_› ?_ | refine hc_cons H (by repeat (first | exact pick_head | apply pick_tail | apply pick_app)) rfl ?_)) ?_
      refine s_false rfl ?_
      refine h_appAll elemL (by decide) H (by repeat (first | exact cut_head | exact cut_all | apply cut_tail | apply cut_app)) ho (lr3 (atOf x (p : Int) parts)) (lr_one (atOf x (p : Int) parts)) (locksAt_own (l := atOf x (p : Int) parts) hoa H (by repeat (first | exact cut_head | exact cut_all | apply cut_tail | apply cut_app))) (by rw [List.length_map]) (by omega) (by omega) ?_
      intro v' c' u ho' H
      obtain ⟨o', cap', rfl⟩ := ho'.slice
      refine s_asS (s_next (by first | exact ⟨rfl, rfl⟩ | trivial) ?_)
      simp (config := { decide := true }) only [if_true, if_false]
      refine ⟨⟨p + 1, _, c', by rw [w_succ (by omega)], by omega, ?_, H.sub (by repeat (first | exact sb_refl | exact sb_nil | refine sb_cons (by repeat (first | exact pick_head | apply pick_tail | apply pick_app)) ?_ | refine sb_app (by repeat (first | exact cut_head | exact cut_all | apply cut_tail | apply cut_app)) ?_ | exact sb_one (by repeat (first | exact cut_head | exact cut_all | apply cut_tail | apply cut_app))))⟩, by rw [w_succ (by omega)]; simp [intOf] <;> omega⟩
      rw [allU_succ, List.length_append, encL_append]
      exact ho'
    · skip
      refine s_chk (by repeat (first | exact c_nil | refine hc_cons H (by repeat (first | exact pick_head | apply pick_tail | apply pick_app)) ‹_› ?_ | refine hc_cons H (by repeat (first | exact pick_head | apply pick_tail | apply pick_app)) rfl ?_)) ?_
      refine h_appAll elemL (by decide) H (by repeat (first | exact cut_head | exact cut_all | apply cut_tail | apply cut_app)) ho (lr3 (atOf x (p : Int) parts)) (lr_one (atOf x (p : Int) parts)) (locksAt_own (l := atOf x (p : Int) parts) hoa H (by repeat (first | exact cut_head | exact cut_all | apply cut_tail | apply cut_app))) (by rw [List.length_map]) (by omega) (by omega) ?_
      intro v' c' u ho' H
      obtain ⟨o', cap', rfl⟩ := ho'.slice
      refine s_asS (s_next (by first | exact ⟨rfl, rfl⟩ | trivial) ?_)
      simp (config := { decide := true }) only [if_true, if_false]
      refine ⟨⟨p + 1, _, c', by rw [w_succ (by omega)], by omega, ?_, H.sub (by repeat (first | exact sb_refl | exact sb_nil | refine sb_cons (by repeat (first | exact pick_head | apply pick_tail | apply pick_app)) ?_ | refine sb_app (by repeat (first | exact cut_head | exact cut_all | apply cut_tail | apply cut_app)) ?_ | exact sb_one (by repeat (first | exact cut_head | exact cut_all | apply cut_tail | apply cut_app))))⟩, by rw [w_succ (by omega)]; simp [intOf] <;> omega⟩
      rw [allU_succ, List.length_append, encL_append]
      exact ho'
  · have g1 : ¬ (p : Int) < 8 := by simpa using g1
    obtain rfl : p = 8 := by omega
    have hall := allU_full x parts
    have hmem : ∀ {y : Lk}, y ∈ locksOf x → y ∈ allU x parts 8 := fun h => allU_mem h
    rw [hall] at ho ⊢
    generalize allU x parts 8 = all at *
    iterate 2 refine h_ldI H (by repeat (first | exact pick_head | apply pick_tail | apply pick_app)) rfl ?_
    iterate 4 refine h_ldS H (by repeat (first | exact pick_head | apply pick_tail | apply pick_app)) rfl ?_
    refine s_call (locks_c (h.fr0 H.base) hx) ?_
    rintro _ u ⟨v3, k3, rfl, ho3, H3⟩
    have H := H.join H3
    obtain ⟨q3, d3, rfl⟩ := ho3.slice
    refine ⟨_, rfl, s_asS ?_⟩
    refine s_loop (fun xs W => ∃ (i : Nat), xs = [.int .i64 i] ∧ i ≤ (locksOf x).length ∧ Has w W (k3 ++ (c ++ (cl n86 45 L :: (cp ++ (ca ++ [cl n15 39 (txr x)]))))))
      (fun xs _ => (locksOf x).length - (intOf (xs.getD 0 undef)).toNat) ⟨0, rfl, by omega, H.sub (by repeat (first | exact sb_refl | exact sb_nil | refine sb_cons (by repeat (first | exact pick_head | apply pick_tail | apply pick_app)) ?_ | refine sb_app (by repeat (first | exact cut_head | exact cut_all | apply cut_tail | apply cut_app)) ?_ | exact sb_one (by repeat (first | exact cut_head | exact cut_all | apply cut_tail | apply cut_app))))⟩ ?_
    clear H
    rintro _ j2 W2 ⟨i, rfl, hi, H⟩
    refine s_asI (s_ite (fun g2 => ?_) (fun g2 => ?_))
    · simp only [decide_eq_true_eq] at g2
      obtain ⟨y, hy⟩ : ∃ y, (locksOf x)[i]? = some y := ⟨_, List.getElem?_eq_getElem (by omega)⟩
      have hym := List.mem_of_getElem? hy
      obtain ⟨hyk, hyx⟩ := locks_iff.1 hym
      obtain ⟨g', off', he', p1, p2, p3⟩ := (locksAt_own ho3 H (by repeat (first | exact cut_head | exact cut_all | apply cut_tail | apply cut_app))).get hy
      refine s_req ⟨by omega, g2⟩ ⟨g', off', he', s_loadI p1 (s_loadI p2 (s_loadB p3 ?_))⟩
      refine h_new H fun n156 u H => ?_
      iterate 3 refine h_st H (by repeat (first | exact pick_head | apply pick_tail | apply pick_app)) (by first | (simp; done) | exact Nat.le_of_ble_eq_true rfl) rfl fun u H => ?_
      have H : Has w u (cl n156 52 (lr y) :: (k3 ++ (c ++ (cl n86 45 L :: (cp ++ (ca ++ [cl n15 39 (txr x)])))))) := H
      refine h_drew H fun u H => h_ldI H (by repeat (first | exact pick_head | apply pick_tail | apply pick_app)) rfl (h_ldI H (by repeat (first | exact pick_head | apply pick_tail | apply pick_app)) rfl (h_ldB H (by repeat (first | exact pick_head | apply pick_tail | apply pick_app)) rfl ?_))
      have ho9 : OwnC 52 3 (.slice ov all.length cv) all.length (encL all) c := by rw [hall]; exact ho
      refine s_call (contl_c (locksAt_own (l := all) ho9 H (by repeat (first | exact cut_head | exact cut_all | apply cut_tail | apply cut_app))) hall.symm (by omega) y) ?_
      rintro _ u ⟨rfl, f0⟩
      have H := H.fr0 f0
      rw [decide_eq_true (hmem hym)]
      refine ⟨_, rfl, s_asB ?_⟩
      refine s_chk (by repeat (first | exact c_nil | refine hc_cons H (by repeat (first | exact pick_head | apply pick_tail | apply pick_app)) ‹_› ?_ | refine hc_cons H (by repeat (first | exact pick_head | apply pick_tail | apply pick_app)) rfl ?_)) ?_
      refine s_false rfl (h_ldB H (by repeat (first | exact pick_head | apply pick_tail | apply pick_app)) rfl ?_)
      iterate 2 refine h_ldI H (by repeat (first | exact pick_head | apply pick_tail | apply pick_app)) rfl ?_
      iterate 4 refine h_ldS H (by repeat (first | exact pick_head | apply pick_tail | apply pick_app)) rfl ?_
      refine h_ldI H (by repeat (first | exact pick_head | apply pick_tail | apply pick_app)) rfl (h_ldI H (by repeat (first | exact pick_head | apply pick_tail | apply pick_app)) rfl ?_)
      refine s_call (mayw_c (h.fr0 H.base) hx y.k) ?_
      rintro _ u ⟨rfl, f0⟩
      have H := H.fr0 f0
      rw [← hyx]
      refine ⟨_, rfl, s_asB ?_⟩
      refine s_chk (by repeat (first | exact c_nil | refine hc_cons H (by repeat (first | exact pick_head | apply pick_tail | apply pick_app)) ‹_› ?_ | refine hc_cons H (by repeat (first | exact pick_head | apply pick_tail | apply pick_app)) rfl ?_)) ?_
      refine s_false (by cases y.x <;> rfl) (h_ldB H (by repeat (first | exact pick_head | apply pick_tail | apply pick_app)) rfl ?_)
      refine s_ite (fun g3 => ?_) (fun g3 => ?_)
      · have g3 : y.x = false := by simpa using g3
        iterate 2 refine h_ldI H (by repeat (first | exact pick_head | apply pick_tail | apply pick_app)) rfl ?_
        iterate 4 refine h_ldS H (by repeat (first | exact pick_head | apply pick_tail | apply pick_app)) rfl ?_
        refine h_ldI H (by repeat (first | exact pick_head | apply pick_tail | apply pick_app)) rfl (h_ldI H (by repeat (first | exact pick_head | apply pick_tail | apply pick_app)) rfl ?_)
        refine s_call (mayr_c (h.fr0 H.base) hx y.k) ?_
        rintro _ u ⟨rfl, f0⟩
        have H := H.fr0 f0
        have hrd : y.k ∈ x.rd := by
          rw [g3] at hyx
          rcases List.mem_append.1 hyk with h | h
          · exact h
          · exact absurd h (of_decide_eq_false hyx.symm)
        rw [decide_eq_true hrd]
        refine ⟨_, rfl, s_asB ?_⟩
        refine s_chk (by repeat (first | exact c_nil | refine hc_cons H (by repeat (first | exact pick_head | apply pick_tail | apply pick_app)) ‹_› ?_ | refine hc_cons H (by repeat (first | exact pick_head | apply pick_tail | apply pick_app)) rfl ?_)) ?_
        refine s_false rfl (s_next (by first | exact ⟨rfl, rfl⟩ | trivial) ?_)
        simp (config := { decide := true }) only [if_true, if_false]
        exact ⟨⟨i + 1, by rw [w_succ (by omega)], by omega, H.sub (by repeat (first | exact sb_refl | exact sb_nil | refine sb_cons (by repeat (first | exact pick_head | apply pick_tail | apply pick_app)) ?_ | refine sb_app (by repeat (first | exact cut_head | exact cut_all | apply cut_tail | apply cut_app)) ?_ | exact sb_one (by repeat (first | exact cut_head | exact cut_all | apply cut_tail | apply cut_app))))⟩, by rw [w_succ (by omega)]; simp [intOf] <;> omega⟩
      · skip
        refine s_chk (by repeat (first | exact c_nil | refine hc_cons H (by repeat (first | exact pick_head | apply pick_tail | apply pick_app)) ‹_› ?_ | refine hc_cons H (by repeat (first | exact pick_head | apply pick_tail | apply pick_app)) rfl ?_)) ?_
        refine s_next (by first | exact ⟨rfl, rfl⟩ | trivial) ?_
        simp (config := { decide := true }) only [if_true, if_false]
        exact ⟨⟨i + 1, by rw [w_succ (by omega)], by omega, H.sub (by repeat (first | exact sb_refl | exact sb_nil | refine sb_cons (by repeat (first | exact pick_head | apply pick_tail | apply pick_app)) ?_ | refine sb_app (by repeat (first | exact cut_head | exact cut_all | apply cut_tail | apply cut_app)) ?_ | exact sb_one (by repeat (first | exact cut_head | exact cut_all | apply cut_tail | apply cut_app))))⟩, by rw [w_succ (by omega)]; simp [intOf] <;> omega⟩
    · refine h_ldS H (by repeat (first | exact pick_head | apply pick_tail | apply pick_app)) hL17 ?_
      refine s_loop (fun xs W => ∃ (i : Nat), xs = [.int .i64 i] ∧ i ≤ (activeOf parts x).length ∧ Has w W (k3 ++ (c ++ (cl n86 45 L :: (cp ++ (ca ++ [cl n15 39 (txr x)]))))))
        (fun xs _ => (activeOf parts x).length - (intOf (xs.getD 0 undef)).toNat) ⟨0, rfl, by omega, H⟩ ?_
      clear H
      rintro _ j3 W3 ⟨i, rfl, hi, H⟩
      refine s_asI (s_ite (fun g3 => ?_) (fun g3 => ?_))
      · simp only [decide_eq_true_eq] at g3
        obtain ⟨z, hz⟩ : ∃ z, (activeOf parts x)[i]? = some z := ⟨_, List.getElem?_eq_getElem (by omega)⟩
        obtain ⟨g', off', he', p1⟩ := (valsAt_own hoa H (by repeat (first | exact cut_head | exact cut_all | apply cut_tail | apply cut_app))).get hz
        refine s_req ⟨by omega, g3⟩ ⟨g', off', he', s_loadI (by simpa using p1) (h_ldS H (by repeat (first | exact pick_head | apply pick_tail | apply pick_app)) hL16 ?_)⟩
        refine s_call (conti_c (valsAt_own hop H (by repeat (first | exact cut_head | exact cut_all | apply cut_tail | apply cut_app))) rfl (by omega) z) ?_
        rintro _ u ⟨rfl, f0⟩
        have H := H.fr0 f0
        rw [decide_eq_true (active_parts (List.mem_of_getElem? hz))]
        refine ⟨_, rfl, s_asB (s_false rfl (s_next (by first | exact ⟨rfl, rfl⟩ | trivial) ?_))⟩
        simp (config := { decide := true }) only [if_true, if_false]
        exact ⟨⟨i + 1, by rw [w_succ (by omega)], by omega, H⟩, by rw [w_succ (by omega)]; simp [intOf] <;> omega⟩
      · refine s_call live_c ?_
        rintro _ u ⟨rfl, f0⟩
        have H := H.fr0 f0
        refine ⟨_, rfl, s_asB (s_true rfl (s_true (by simp) (h_ldS H (by repeat (first | exact pick_head | apply pick_tail | apply pick_app)) hL16 (s_true (decide_eq_true (by omega)) (h_ldS H (by repeat (first | exact pick_head | apply pick_tail | apply pick_app)) hL17 (s_ret ⟨?_, H.base⟩))))))⟩
        rw [decide_eq_true (show (((activeOf parts x).length : Nat) : Int) > 0 by omega)]
end
end Go.Proofs.Ytndkffhlheaepaa
