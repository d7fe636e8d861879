/- A step's line, by the reference (printed by genrs.py). -/
import Derived.Test.YtihipcofjpnfbaaGreatDoorBare
set_option linter.unusedVariables false
set_option linter.unusedSimpArgs false
set_option maxRecDepth 100000
set_option maxHeartbeats 8000000
namespace Go.Proofs.YtihipcofjpnfbaaGreatDoor
open Go hiding Expr
open Go.RowKit Tr

def rline (x : ST) : List UInt8 × Int :=
  if x.kind = 1 ∨ x.kind = 6 ∨ x.kind = 13 ∨ x.kind = 11 then (wordK x.kind ++ 32 :: dI x.at_, 0)
  else if x.kind = 2 then if (resT x.tx).2 ≠ 0 then ([], (resT x.tx).2) else (wordK x.kind ++ (32 :: dI x.client ++ (32 :: dI x.at_ ++ (32 :: (resT x.tx).1))), 0)
  else if x.kind = 3 ∨ x.kind = 16 ∨ x.kind = 17 then (wordK x.kind ++ 32 :: dI x.client, 0)
  else if x.kind = 4 then (wordK x.kind ++ (32 :: dI x.client ++ (32 :: dI x.at_ ++ (32 :: keysL x.keys))), 0)
  else if x.kind = 5 then (wordK x.kind ++ (32 :: dI x.at_ ++ (32 :: dI x.count)), 0)
  else if x.kind = 7 ∨ x.kind = 8 ∨ x.kind = 9 ∨ x.kind = 18 ∨ x.kind = 19 ∨ x.kind = 20 then (wordK x.kind ++ (32 :: dI x.frm ++ (32 :: dI x.dst)), 0)
  else if x.kind = 10 then (wordK x.kind ++ (32 :: dI x.frm ++ (32 :: dI x.dst ++ (32 :: dI x.place ++ (32 :: dI x.wth)))), 0)
  else if x.kind = 12 then (wordK x.kind ++ (32 :: dI x.at_ ++ (32 :: dI x.count ++ (32 :: dI x.keep))), 0)
  else (wordK x.kind, 0)
def rstepR (x : ST) : List UInt8 × Int := if wordK x.kind = [] ∨ bareS x ≠ x then ([], 1) else rline x
theorem forms_len : ∀ p ∈ forms, p.1.length ≤ 7 := by decide
theorem word_len (k : Int) : (wordK k).length ≤ 7 := by
  unfold wordK
  split
  · rw [List.getD_eq_getElem?_getD]
    cases h : forms[k.toNat]? with
    | none => simp
    | some p => exact (forms_len p (List.mem_of_getElem? h))
  · simp

theorem rstep_c {w : World} {x : ST} {v : SV27} (hT : Tab w) (h : StAt w x v) (hx : StOk x) : Calls Tryz.prog 29 #[.agg ⟨stv x v⟩] w fun e w' => e = .returned (.tuple #[.string (S (rstepR x).1), .int .i64 (rstepR x).2]) ∧ Fr [] w w' := by
  have wl := word_len x.kind
  have hw64 : In64 x.wth := ⟨by have := hx.wth.1; omega, by have := hx.wth.2; omega⟩
  have b1 := dI_len hx.at_
  have b2 := dI_len hx.client
  have b3 := dI_len hx.frm
  have b4 := dI_len hx.dst
  have b5 := dI_len hx.place
  have b6 := dI_len hw64
  have b7 := dI_len hx.keep
  have b8 := dI_len hx.count
  have b9 := keysL_len hx.keys hx.szk
  have b10 : (resT x.tx).1.length ≤ 134217728 := by
    unfold resT
    split
    · simp
    · exact txnL_len hx.tx
  apply c29
  refine h_new (Has.init w) fun n26 u H => ?_
  simp only [stv] at H
  iterate 5 refine h_ldI H (b := n26) (by repeat (first | exact pick_head | apply pick_tail | apply pick_app)) rfl ?_
  iterate 5 refine h_ldS H (b := n26) (by repeat (first | exact pick_head | apply pick_tail | apply pick_app)) rfl ?_
  iterate 6 refine h_ldI H (b := n26) (by repeat (first | exact pick_head | apply pick_tail | apply pick_app)) rfl ?_
  refine s_call bare_c ?_
  rintro _ u ⟨v1, rfl, h1, f⟩
  have hA1 := H.base
  have H := H.fr0 f
  refine ⟨_, rfl, s_asU (s_req rfl (s_asA (s_req rfl ?_)))⟩
  iterate 5 refine s_asI ?_
  iterate 5 refine s_asS ?_
  iterate 6 refine s_asI ?_
  refine s_asT (s_asB (h_new H fun n84 u2 H => ?_))
  iterate 16 (refine h_st H (b := n84) (by repeat (first | exact pick_head | apply pick_tail | apply pick_app)) (by first | (simp; done) | exact Nat.le_of_ble_eq_true rfl) rfl fun u2 H => ?_; simp only [List.set_cons_zero, List.set_cons_succ] at H)
  refine s_blk (fun vs W => vs = [] ∧ wordK x.kind ≠ [] ∧ bareS x = x ∧ Has w W [cl n26 56 (stv x v)]) ?_ ?_
  · clear H hA1 f h1
    rintro _ j W ⟨rfl, hw, hb, H⟩
    have hres : rstepR x = rline x := by rw [rstepR, if_neg]; simp [hw, hb]
    refine s_blk (fun vs W => vs = [.string (S (rline x).1)] ∧ (rline x).2 = 0 ∧ Fr [] w W) ?_ ?_
    · clear H
      rintro _ j W ⟨rfl, he, f⟩
      refine s_asT (s_ret ⟨?_, f⟩)
      rw [hres, he]
    · simp only [stv] at H
      rw [hres]
      clear hres
      refine h_ldI H (b := n26) (by repeat (first | exact pick_head | apply pick_tail | apply pick_app)) rfl ?_
      refine s_blk (fun vs W1 => vs = [.bool (decide (x.kind = 1 ∨ x.kind = 6 ∨ x.kind = 13 ∨ x.kind = 11))] ∧ W1 = W) ?_ ?_
      · rintro _ j W1 ⟨rfl, rfl⟩
        refine s_asB (s_ite (fun g1 => ?_) (fun g1 => ?_))
        · simp only [decide_eq_true_eq] at g1
          refine h_ldI H (b := n26) (by repeat (first | exact pick_head | apply pick_tail | apply pick_app)) rfl ?_
          refine s_call (itoa_c (hT.fr H.base) hx.at_) ?_
          rintro _ u ⟨rfl, f⟩
          have H := H.fr0 f
          refine ⟨_, rfl, s_asT ?_⟩
          simp only [S_app, S_size, List.length_append, List.length_cons, List.length_nil, List.cons_append, List.nil_append]
          iterate 2 refine s_req (by omega) ?_
          refine s_next (by first | exact ⟨rfl, rfl⟩ | trivial) ?_
          simp (config := { decide := true }) only [if_true, if_false]
          exact ⟨by rw [rline, if_pos g1] <;> simp, by rw [rline, if_pos g1], H.base⟩
        · simp only [decide_eq_false_iff_not] at g1
          refine s_ite (fun g2 => ?_) (fun g2 => ?_)
          · have g2 := eq_of_beq g2
            refine h_ldI H (b := n26) (by repeat (first | exact pick_head | apply pick_tail | apply pick_app)) rfl ?_
            refine h_ldI H (b := n26) (by repeat (first | exact pick_head | apply pick_tail | apply pick_app)) rfl ?_
            refine h_ldS H (b := n26) (by repeat (first | exact pick_head | apply pick_tail | apply pick_app)) rfl ?_
            refine h_ldS H (b := n26) (by repeat (first | exact pick_head | apply pick_tail | apply pick_app)) rfl ?_
            refine h_ldS H (b := n26) (by repeat (first | exact pick_head | apply pick_tail | apply pick_app)) rfl ?_
            refine h_ldS H (b := n26) (by repeat (first | exact pick_head | apply pick_tail | apply pick_app)) rfl ?_
            refine s_call (rtxn_c (v := v.v) (hT.fr H.base) (txFr h.tx H.base) hx.tx) ?_
            rintro _ u ⟨rfl, f⟩
            have H := H.fr0 f
            refine ⟨_, rfl, s_asU (s_req rfl (s_asT (s_asI (s_ite (fun g3 => ?_) (fun g3 => ?_)))))⟩
            · have g3 : (resT x.tx).2 ≠ 0 := by simpa using g3
              exact s_ret ⟨by rw [rline, if_neg g1, if_pos g2, if_pos g3], H.base⟩
            · have g3 : (resT x.tx).2 = 0 := by simpa using g3
              refine h_drew H fun u H => ?_
              refine h_ldI H (b := n26) (by repeat (first | exact pick_head | apply pick_tail | apply pick_app)) rfl ?_
              refine h_ldI H (b := n26) (by repeat (first | exact pick_head | apply pick_tail | apply pick_app)) rfl ?_
              refine s_call (itoa_c (hT.fr H.base) hx.client) ?_
              rintro _ u ⟨rfl, f⟩
              have H := H.fr0 f
              refine ⟨_, rfl, s_asT ?_⟩
              refine s_chk (by repeat (first | exact c_nil | refine hc_cons H (b := n26) (by repeat (first | exact pick_head | apply pick_tail | apply pick_app)) rfl ?_)) ?_
              simp only [S_app, S_size, List.length_append, List.length_cons, List.length_nil, List.cons_append, List.nil_append]
              iterate 2 refine s_req (by omega) ?_
              refine s_call (itoa_c (hT.fr H.base) hx.at_) ?_
              rintro _ u ⟨rfl, f⟩
              have H := H.fr0 f
              refine ⟨_, rfl, s_asT ?_⟩
              refine s_chk (by repeat (first | exact c_nil | refine hc_cons H (b := n26) (by repeat (first | exact pick_head | apply pick_tail | apply pick_app)) rfl ?_)) ?_
              simp only [S_app, S_size, List.length_append, List.length_cons, List.length_nil, List.cons_append, List.nil_append]
              iterate 4 refine s_req (by omega) ?_
              refine s_next (by first | exact ⟨rfl, rfl⟩ | trivial) ?_
              simp (config := { decide := true }) only [if_true, if_false]
              exact ⟨by rw [rline, if_neg g1, if_pos g2, if_neg (by simpa using g3)] <;> simp, by rw [rline, if_neg g1, if_pos g2, if_neg (by simpa using g3)], H.base⟩
          · have g2 := ne_of_beq_false g2
            refine s_blk (fun vs W2 => vs = [.bool (decide (x.kind = 3 ∨ x.kind = 16 ∨ x.kind = 17))] ∧ W2 = W1) ?_ ?_
            · rintro _ j W2 ⟨rfl, rfl⟩
              refine s_asB (s_ite (fun g3 => ?_) (fun g3 => ?_))
              · simp only [decide_eq_true_eq] at g3
                refine h_ldI H (b := n26) (by repeat (first | exact pick_head | apply pick_tail | apply pick_app)) rfl ?_
                refine s_call (itoa_c (hT.fr H.base) hx.client) ?_
                rintro _ u ⟨rfl, f⟩
                have H := H.fr0 f
                refine ⟨_, rfl, s_asT ?_⟩
                simp only [S_app, S_size, List.length_append, List.length_cons, List.length_nil, List.cons_append, List.nil_append]
                iterate 2 refine s_req (by omega) ?_
                refine s_next (by first | exact ⟨rfl, rfl⟩ | trivial) ?_
                simp (config := { decide := true }) only [if_true, if_false]
                exact ⟨by rw [rline, if_neg g1, if_neg g2, if_pos g3] <;> simp, by rw [rline, if_neg g1, if_neg g2, if_pos g3], H.base⟩
              · simp only [decide_eq_false_iff_not] at g3
                refine s_ite (fun g4 => ?_) (fun g4 => ?_)
                · have g4 := eq_of_beq g4
                  refine h_drew H fun u H => ?_
                  refine h_ldI H (b := n26) (by repeat (first | exact pick_head | apply pick_tail | apply pick_app)) rfl ?_
                  refine h_ldI H (b := n26) (by repeat (first | exact pick_head | apply pick_tail | apply pick_app)) rfl ?_
                  refine h_ldS H (b := n26) (by repeat (first | exact pick_head | apply pick_tail | apply pick_app)) rfl ?_
                  refine s_call (itoa_c (hT.fr H.base) hx.client) ?_
                  rintro _ u ⟨rfl, f⟩
                  have H := H.fr0 f
                  refine ⟨_, rfl, s_asT ?_⟩
                  refine s_chk (by repeat (first | exact c_nil | refine hc_cons H (b := n26) (by repeat (first | exact pick_head | apply pick_tail | apply pick_app)) rfl ?_)) ?_
                  simp only [S_app, S_size, List.length_append, List.length_cons, List.length_nil, List.cons_append, List.nil_append]
                  iterate 2 refine s_req (by omega) ?_
                  refine s_call (itoa_c (hT.fr H.base) hx.at_) ?_
                  rintro _ u ⟨rfl, f⟩
                  have H := H.fr0 f
                  refine ⟨_, rfl, s_asT ?_⟩
                  refine s_chk (by repeat (first | exact c_nil | refine hc_cons H (b := n26) (by repeat (first | exact pick_head | apply pick_tail | apply pick_app)) rfl ?_)) ?_
                  simp only [S_app, S_size, List.length_append, List.length_cons, List.length_nil, List.cons_append, List.nil_append]
                  iterate 2 refine s_req (by omega) ?_
                  refine s_call (rkeys_c (hT.fr H.base) (h.keys.fr H.base) rfl hx.keys hx.szk) ?_
                  rintro _ u ⟨rfl, f⟩
                  have H := H.fr0 f
                  refine ⟨_, rfl, s_asT ?_⟩
                  refine s_chk (by repeat (first | exact c_nil | refine hc_cons H (b := n26) (by repeat (first | exact pick_head | apply pick_tail | apply pick_app)) rfl ?_)) ?_
                  simp only [S_app, S_size, List.length_append, List.length_cons, List.length_nil, List.cons_append, List.nil_append]
                  iterate 2 refine s_req (by omega) ?_
                  refine s_next (by first | exact ⟨rfl, rfl⟩ | trivial) ?_
                  simp (config := { decide := true }) only [if_true, if_false]
                  exact ⟨by rw [rline, if_neg g1, if_neg g2, if_neg g3, if_pos g4] <;> simp, by rw [rline, if_neg g1, if_neg g2, if_neg g3, if_pos g4], H.base⟩
                · have g4 := ne_of_beq_false g4
                  refine s_ite (fun g5 => ?_) (fun g5 => ?_)
                  · have g5 := eq_of_beq g5
                    refine h_drew H fun u H => ?_
                    refine h_ldI H (b := n26) (by repeat (first | exact pick_head | apply pick_tail | apply pick_app)) rfl ?_
                    refine h_ldI H (b := n26) (by repeat (first | exact pick_head | apply pick_tail | apply pick_app)) rfl ?_
                    refine s_call (itoa_c (hT.fr H.base) hx.at_) ?_
                    rintro _ u ⟨rfl, f⟩
                    have H := H.fr0 f
                    refine ⟨_, rfl, s_asT ?_⟩
                    refine s_chk (by repeat (first | exact c_nil | refine hc_cons H (b := n26) (by repeat (first | exact pick_head | apply pick_tail | apply pick_app)) rfl ?_)) ?_
                    simp only [S_app, S_size, List.length_append, List.length_cons, List.length_nil, List.cons_append, List.nil_append]
                    iterate 2 refine s_req (by omega) ?_
                    refine s_call (itoa_c (hT.fr H.base) hx.count) ?_
                    rintro _ u ⟨rfl, f⟩
                    have H := H.fr0 f
                    refine ⟨_, rfl, s_asT ?_⟩
                    refine s_chk (by repeat (first | exact c_nil | refine hc_cons H (b := n26) (by repeat (first | exact pick_head | apply pick_tail | apply pick_app)) rfl ?_)) ?_
                    simp only [S_app, S_size, List.length_append, List.length_cons, List.length_nil, List.cons_append, List.nil_append]
                    iterate 2 refine s_req (by omega) ?_
                    refine s_next (by first | exact ⟨rfl, rfl⟩ | trivial) ?_
                    simp (config := { decide := true }) only [if_true, if_false]
                    exact ⟨by rw [rline, if_neg g1, if_neg g2, if_neg g3, if_neg g4, if_pos g5] <;> simp, by rw [rline, if_neg g1, if_neg g2, if_neg g3, if_neg g4, if_pos g5], H.base⟩
                  · have g5 := ne_of_beq_false g5
                    refine s_blk (fun vs W3 => vs = [.bool (decide (x.kind = 7 ∨ x.kind = 8 ∨ x.kind = 9 ∨ x.kind = 18 ∨ x.kind = 19 ∨ x.kind = 20))] ∧ W3 = W2) ?_ ?_
                    · rintro _ j W3 ⟨rfl, rfl⟩
                      refine s_asB (s_ite (fun g6 => ?_) (fun g6 => ?_))
                      · simp only [decide_eq_true_eq] at g6
                        refine h_drew H fun u H => ?_
                        refine h_ldI H (b := n26) (by repeat (first | exact pick_head | apply pick_tail | apply pick_app)) rfl ?_
                        refine h_ldI H (b := n26) (by repeat (first | exact pick_head | apply pick_tail | apply pick_app)) rfl ?_
                        refine s_call (itoa_c (hT.fr H.base) hx.frm) ?_
                        rintro _ u ⟨rfl, f⟩
                        have H := H.fr0 f
                        refine ⟨_, rfl, s_asT ?_⟩
                        refine s_chk (by repeat (first | exact c_nil | refine hc_cons H (b := n26) (by repeat (first | exact pick_head | apply pick_tail | apply pick_app)) rfl ?_)) ?_
                        simp only [S_app, S_size, List.length_append, List.length_cons, List.length_nil, List.cons_append, List.nil_append]
                        iterate 2 refine s_req (by omega) ?_
                        refine s_call (itoa_c (hT.fr H.base) hx.dst) ?_
                        rintro _ u ⟨rfl, f⟩
                        have H := H.fr0 f
                        refine ⟨_, rfl, s_asT ?_⟩
                        refine s_chk (by repeat (first | exact c_nil | refine hc_cons H (b := n26) (by repeat (first | exact pick_head | apply pick_tail | apply pick_app)) rfl ?_)) ?_
                        simp only [S_app, S_size, List.length_append, List.length_cons, List.length_nil, List.cons_append, List.nil_append]
                        iterate 2 refine s_req (by omega) ?_
                        refine s_next (by first | exact ⟨rfl, rfl⟩ | trivial) ?_
                        simp (config := { decide := true }) only [if_true, if_false]
                        exact ⟨by rw [rline, if_neg g1, if_neg g2, if_neg g3, if_neg g4, if_neg g5, if_pos g6] <;> simp, by rw [rline, if_neg g1, if_neg g2, if_neg g3, if_neg g4, if_neg g5, if_pos g6], H.base⟩
                      · simp only [decide_eq_false_iff_not] at g6
                        refine s_ite (fun g7 => ?_) (fun g7 => ?_)
                        · have g7 := eq_of_beq g7
                          refine h_drew H fun u H => ?_
                          refine h_ldI H (b := n26) (by repeat (first | exact pick_head | apply pick_tail | apply pick_app)) rfl ?_
                          refine h_ldI H (b := n26) (by repeat (first | exact pick_head | apply pick_tail | apply pick_app)) rfl ?_
                          refine h_ldI H (b := n26) (by repeat (first | exact pick_head | apply pick_tail | apply pick_app)) rfl ?_
                          refine h_ldI H (b := n26) (by repeat (first | exact pick_head | apply pick_tail | apply pick_app)) rfl ?_
                          refine s_call (itoa_c (hT.fr H.base) hx.frm) ?_
                          rintro _ u ⟨rfl, f⟩
                          have H := H.fr0 f
                          refine ⟨_, rfl, s_asT ?_⟩
                          refine s_chk (by repeat (first | exact c_nil | refine hc_cons H (b := n26) (by repeat (first | exact pick_head | apply pick_tail | apply pick_app)) rfl ?_)) ?_
                          simp only [S_app, S_size, List.length_append, List.length_cons, List.length_nil, List.cons_append, List.nil_append]
                          iterate 2 refine s_req (by omega) ?_
                          refine s_call (itoa_c (hT.fr H.base) hx.dst) ?_
                          rintro _ u ⟨rfl, f⟩
                          have H := H.fr0 f
                          refine ⟨_, rfl, s_asT ?_⟩
                          refine s_chk (by repeat (first | exact c_nil | refine hc_cons H (b := n26) (by repeat (first | exact pick_head | apply pick_tail | apply pick_app)) rfl ?_)) ?_
                          simp only [S_app, S_size, List.length_append, List.length_cons, List.length_nil, List.cons_append, List.nil_append]
                          iterate 2 refine s_req (by omega) ?_
                          refine s_call (itoa_c (hT.fr H.base) hx.place) ?_
                          rintro _ u ⟨rfl, f⟩
                          have H := H.fr0 f
                          refine ⟨_, rfl, s_asT ?_⟩
                          refine s_chk (by repeat (first | exact c_nil | refine hc_cons H (b := n26) (by repeat (first | exact pick_head | apply pick_tail | apply pick_app)) rfl ?_)) ?_
                          simp only [S_app, S_size, List.length_append, List.length_cons, List.length_nil, List.cons_append, List.nil_append]
                          iterate 2 refine s_req (by omega) ?_
                          rw [wrapI hw64.1 hw64.2]
                          refine s_call (itoa_c (hT.fr H.base) hw64) ?_
                          rintro _ u ⟨rfl, f⟩
                          have H := H.fr0 f
                          refine ⟨_, rfl, s_asT ?_⟩
                          refine s_chk (by repeat (first | exact c_nil | refine hc_cons H (b := n26) (by repeat (first | exact pick_head | apply pick_tail | apply pick_app)) rfl ?_)) ?_
                          simp only [S_app, S_size, List.length_append, List.length_cons, List.length_nil, List.cons_append, List.nil_append]
                          iterate 2 refine s_req (by omega) ?_
                          refine s_next (by first | exact ⟨rfl, rfl⟩ | trivial) ?_
                          simp (config := { decide := true }) only [if_true, if_false]
                          exact ⟨by rw [rline, if_neg g1, if_neg g2, if_neg g3, if_neg g4, if_neg g5, if_neg g6, if_pos g7] <;> simp, by rw [rline, if_neg g1, if_neg g2, if_neg g3, if_neg g4, if_neg g5, if_neg g6, if_pos g7], H.base⟩
                        · have g7 := ne_of_beq_false g7
                          refine s_ite (fun g8 => ?_) (fun g8 => ?_)
                          · have g8 := eq_of_beq g8
                            refine h_drew H fun u H => ?_
                            refine h_ldI H (b := n26) (by repeat (first | exact pick_head | apply pick_tail | apply pick_app)) rfl ?_
                            refine h_ldI H (b := n26) (by repeat (first | exact pick_head | apply pick_tail | apply pick_app)) rfl ?_
                            refine h_ldI H (b := n26) (by repeat (first | exact pick_head | apply pick_tail | apply pick_app)) rfl ?_
                            refine s_call (itoa_c (hT.fr H.base) hx.at_) ?_
                            rintro _ u ⟨rfl, f⟩
                            have H := H.fr0 f
                            refine ⟨_, rfl, s_asT ?_⟩
                            refine s_chk (by repeat (first | exact c_nil | refine hc_cons H (b := n26) (by repeat (first | exact pick_head | apply pick_tail | apply pick_app)) rfl ?_)) ?_
                            simp only [S_app, S_size, List.length_append, List.length_cons, List.length_nil, List.cons_append, List.nil_append]
                            iterate 2 refine s_req (by omega) ?_
                            refine s_call (itoa_c (hT.fr H.base) hx.count) ?_
                            rintro _ u ⟨rfl, f⟩
                            have H := H.fr0 f
                            refine ⟨_, rfl, s_asT ?_⟩
                            refine s_chk (by repeat (first | exact c_nil | refine hc_cons H (b := n26) (by repeat (first | exact pick_head | apply pick_tail | apply pick_app)) rfl ?_)) ?_
                            simp only [S_app, S_size, List.length_append, List.length_cons, List.length_nil, List.cons_append, List.nil_append]
                            iterate 2 refine s_req (by omega) ?_
                            refine s_call (itoa_c (hT.fr H.base) hx.keep) ?_
                            rintro _ u ⟨rfl, f⟩
                            have H := H.fr0 f
                            refine ⟨_, rfl, s_asT ?_⟩
                            refine s_chk (by repeat (first | exact c_nil | refine hc_cons H (b := n26) (by repeat (first | exact pick_head | apply pick_tail | apply pick_app)) rfl ?_)) ?_
                            simp only [S_app, S_size, List.length_append, List.length_cons, List.length_nil, List.cons_append, List.nil_append]
                            iterate 2 refine s_req (by omega) ?_
                            refine s_next (by first | exact ⟨rfl, rfl⟩ | trivial) ?_
                            simp (config := { decide := true }) only [if_true, if_false]
                            exact ⟨by rw [rline, if_neg g1, if_neg g2, if_neg g3, if_neg g4, if_neg g5, if_neg g6, if_neg g7, if_pos g8] <;> simp, by rw [rline, if_neg g1, if_neg g2, if_neg g3, if_neg g4, if_neg g5, if_neg g6, if_neg g7, if_pos g8], H.base⟩
                          · have g8 := ne_of_beq_false g8
                            refine s_next (by first | exact ⟨rfl, rfl⟩ | trivial) ?_
                            simp (config := { decide := true }) only [if_true, if_false]
                            exact ⟨by rw [rline, if_neg g1, if_neg g2, if_neg g3, if_neg g4, if_neg g5, if_neg g6, if_neg g7, if_neg g8], by rw [rline, if_neg g1, if_neg g2, if_neg g3, if_neg g4, if_neg g5, if_neg g6, if_neg g7, if_neg g8], H.base⟩
                    · iterate 5 refine s_ite (fun g => s_next ⟨rfl, rfl⟩ ⟨by rw [g, decide_eq_true (by have := eq_of_beq g; omega)], rfl⟩) (fun g => ?_)
                      refine s_next ⟨rfl, rfl⟩ ⟨?_, rfl⟩
                      congr 2
                      simp only [beq_eq_false_iff_ne] at *
                      by_cases e : x.kind = 20 <;> simp_all
            · iterate 2 refine s_ite (fun g => s_next ⟨rfl, rfl⟩ ⟨by rw [g, decide_eq_true (by have := eq_of_beq g; omega)], rfl⟩) (fun g => ?_)
              refine s_next ⟨rfl, rfl⟩ ⟨?_, rfl⟩
              congr 2
              simp only [beq_eq_false_iff_ne] at *
              by_cases e : x.kind = 17 <;> simp_all
      · iterate 3 refine s_ite (fun g => s_next ⟨rfl, rfl⟩ ⟨by rw [g, decide_eq_true (by have := eq_of_beq g; omega)], rfl⟩) (fun g => ?_)
        refine s_next ⟨rfl, rfl⟩ ⟨?_, rfl⟩
        congr 2
        simp only [beq_eq_false_iff_ne] at *
        by_cases e : x.kind = 11 <;> simp_all
  · have hB := hA1.trans f
    refine s_ite (fun g => ?_) (fun g => ?_)
    · have hw : wordK x.kind = [] := by simpa using g
      exact s_ret ⟨by rw [rstepR, if_pos (.inl hw)], H.base⟩
    · have hw : wordK x.kind ≠ [] := by simpa using g
      iterate 5 refine h_ldI H (b := n26) (by repeat (first | exact pick_head | apply pick_tail | apply pick_app)) rfl ?_
      iterate 5 refine h_ldS H (b := n26) (by repeat (first | exact pick_head | apply pick_tail | apply pick_app)) rfl ?_
      iterate 6 refine h_ldI H (b := n26) (by repeat (first | exact pick_head | apply pick_tail | apply pick_app)) rfl ?_
      iterate 5 refine h_ldI H (b := n84) (by repeat (first | exact pick_head | apply pick_tail | apply pick_app)) rfl ?_
      iterate 5 refine h_ldS H (b := n84) (by repeat (first | exact pick_head | apply pick_tail | apply pick_app)) rfl ?_
      iterate 6 refine h_ldI H (b := n84) (by repeat (first | exact pick_head | apply pick_tail | apply pick_app)) rfl ?_
      refine s_call (same_step_c (x := x) (y := bareS x) (v := v) (v' := v1) (stFr h H.base) (h1 _ (stFr h H.base)) hx (bareOk hx)) ?_
      rintro _ u3 ⟨rfl, f3⟩
      have H := H.fr0 f3
      refine ⟨_, rfl, s_asB (s_ite (fun g2 => ?_) (fun g2 => ?_))⟩
      · have hne : ¬ x = bareS x := by simpa using g2
        exact s_ret ⟨by rw [rstepR, if_pos (.inr fun e => hne e.symm)], H.base⟩
      · have he : x = bareS x := by simpa using g2
        exact s_next ⟨rfl, rfl⟩ ⟨rfl, hw, he.symm, H.sub (by repeat (first | exact sb_refl | exact sb_nil | refine sb_cons (by repeat (first | exact pick_head | apply pick_tail | apply pick_app)) ?_ | refine sb_app (by repeat (first | exact cut_head | exact cut_all | apply cut_tail | apply cut_app)) ?_ | exact sb_one (by repeat (first | exact cut_head | exact cut_all | apply cut_tail | apply cut_app))))⟩
end Go.Proofs.YtihipcofjpnfbaaGreatDoor
