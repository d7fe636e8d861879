/- A script, by the reference; answers that the document fixes; the law's walk. -/
import Derived.Test.YtihipcofjpnfbaaGreatDoorPrint
import Derived.Test.YtihipcofjpnfbaaGreatDoorBO
import Derived.Test.YtihipcofjpnfbaaGreatDoorTreesF
set_option linter.unusedVariables false
set_option linter.unusedSimpArgs false
set_option maxRecDepth 100000
set_option maxHeartbeats 8000000
namespace Go.Proofs.YtihipcofjpnfbaaGreatDoor
open Go hiding Expr
open Go.RowKit Tr

section
variable {w : World} {c : CF} {o : Option Addr} {l : List SX} {n cap : Nat}
theorem rworld_c (hT : Tab w) (hc : CfOk c) : Calls Tryz.prog 28 #[.agg ⟨cfv c⟩] w fun e w' => e = .returned (.string (S (worldL c))) ∧ Fr [] w w' := by
  have b1 := dI_len hc.hn
  have b2 := dI_len hc.hp
  have b3 := dI_len hc.hb
  have b4 := dI_len hc.hc
  have b5 := dU_len hc.hs
  apply c28
  refine h_new (Has.init w) fun n5 u H => h_drew H fun u H => ?_
  simp only [cfv] at H
  iterate 5 refine h_ldI H (b := n5) (by repeat (first | exact pick_head | apply pick_tail | apply pick_app)) rfl ?_
  refine s_call (itoa_c (hT.fr H.base) hc.hn) ?_
  rintro _ u ⟨rfl, f⟩
  have H := H.fr0 f
  refine ⟨_, rfl, s_asT (s_chk (by repeat (first | exact c_nil | refine hc_cons H (b := n5) (by repeat (first | exact pick_head | apply pick_tail | apply pick_app)) rfl ?_)) ?_)⟩
  simp only [S_app, S_size, List.length_append, List.length_cons, List.length_nil, List.cons_append, List.nil_append]
  iterate 2 refine s_req (by omega) ?_
  refine s_call (itoa_c (hT.fr H.base) hc.hp) ?_
  rintro _ u ⟨rfl, f⟩
  have H := H.fr0 f
  refine ⟨_, rfl, s_asT (s_chk (by repeat (first | exact c_nil | refine hc_cons H (b := n5) (by repeat (first | exact pick_head | apply pick_tail | apply pick_app)) rfl ?_)) ?_)⟩
  simp only [S_app, S_size, List.length_append, List.length_cons, List.length_nil, List.cons_append, List.nil_append]
  iterate 2 refine s_req (by omega) ?_
  refine s_call (itoa_c (hT.fr H.base) hc.hb) ?_
  rintro _ u ⟨rfl, f⟩
  have H := H.fr0 f
  refine ⟨_, rfl, s_asT (s_chk (by repeat (first | exact c_nil | refine hc_cons H (b := n5) (by repeat (first | exact pick_head | apply pick_tail | apply pick_app)) rfl ?_)) ?_)⟩
  simp only [S_app, S_size, List.length_append, List.length_cons, List.length_nil, List.cons_append, List.nil_append]
  iterate 2 refine s_req (by omega) ?_
  refine s_call (itoa_c (hT.fr H.base) hc.hc) ?_
  rintro _ u ⟨rfl, f⟩
  have H := H.fr0 f
  refine ⟨_, rfl, s_asT (s_chk (by repeat (first | exact c_nil | refine hc_cons H (b := n5) (by repeat (first | exact pick_head | apply pick_tail | apply pick_app)) rfl ?_)) ?_)⟩
  simp only [S_app, S_size, List.length_append, List.length_cons, List.length_nil, List.cons_append, List.nil_append]
  iterate 2 refine s_req (by omega) ?_
  refine s_call (fuint_c (hT.fr H.base) hc.hs) ?_
  rintro _ u ⟨rfl, f⟩
  have H := H.fr0 f
  refine ⟨_, rfl, s_asT (s_chk c_nil ?_)⟩
  simp only [S_app, S_size, List.length_append, List.length_cons, List.length_nil, List.cons_append, List.nil_append]
  iterate 1 refine s_req (by omega) ?_
  refine s_ret ⟨?_, H.base⟩
  rw [worldL, joinL_jt]
  simp [jt]

theorem rprint_c (hT : Tab w) (hc : CfOk c) (h : StepsAt w o l) (hl : StepsOk l) (hn : n = l.length) (hsz : l.length ≤ 1048576) :
    Calls Tryz.prog 10 #[.agg ⟨cfv c⟩, .slice o n cap] w fun e w' => e = .returned (.tuple #[.string (S (printR c (l.map (·.x))).1), .int .i64 (printR c (l.map (·.x))).2]) ∧ Fr [] w w' := by
  subst hn
  have wlen := worldL_len hc
  apply c10
  refine h_new (Has.init w) fun n8 u H => s_ite (fun g => ?_) (fun g => ?_)
  · simp only [decide_eq_true_eq] at g
    exact s_ret ⟨by rw [printR, if_pos (by rw [List.length_map]; omega)], H.base⟩
  · simp only [decide_eq_false_iff_not] at g
    have hpr : printR c (l.map (·.x)) = printF (worldL c ++ [10]) (l.map (·.x)) := by rw [printR, if_neg (by rw [List.length_map]; omega)]
    rw [hpr]
    clear hpr
    simp only [cfv] at H
    iterate 5 refine h_ldI H (b := n8) (by repeat (first | exact pick_head | apply pick_tail | apply pick_app)) rfl ?_
    refine s_call (rworld_c (c := c) (hT.fr H.base) hc) ?_
    rintro _ u ⟨rfl, f⟩
    have hF := H.base.trans f
    clear H f
    refine ⟨_, rfl, s_asT ?_⟩
    simp only [S_app, S_size]
    refine s_req (by omega) (s_toBytes (B := w.heap.size) hF.size (by rw [List.length_append]; simp; omega) fun o1 n1 cap1 u1 hb f1 => s_asS ?_)
    have hF := hF.trans f1
    clear f1
    refine s_loop (fun vs W => ∃ (i : Nat) (acc : List UInt8) (o1 : Option Addr) (n1 cap1 : Nat), vs = [.slice o1 n1 cap1, .int .i64 i] ∧ i ≤ l.length ∧ printF acc ((l.map (·.x)).drop i) = printF (worldL c ++ [10]) (l.map (·.x)) ∧ acc.length ≤ 201 + i * 1073741824 ∧ Fr [] w W ∧ BO w.heap.size W o1 n1 cap1 acc)
      (fun vs _ => l.length - (intOf (vs.getD 1 undef)).toNat) ⟨0, worldL c ++ [10], o1, n1, cap1, rfl, by omega, rfl, by rw [List.length_append]; simp; omega, hF, hb⟩ ?_
    clear hb hF
    rintro _ j W ⟨i, acc, o1, n1, cap1, rfl, hi, hacc, hal, hF, hb⟩
    refine s_asS (s_asI (s_ite (fun g1 => ?_) (fun g1 => ?_)))
    · simp only [decide_eq_true_eq] at g1
      obtain ⟨p, hp⟩ : ∃ c, l[i]? = some c := ⟨_, List.getElem?_eq_getElem (by omega)⟩
      have hpm := List.mem_of_getElem? hp
      obtain ⟨g2, off, rfl, _, hcell⟩ := RowsAt.at (h.rows.fr hF) (j := i) (r := sxr p) (by simp [hp])
      have hdrop : (l.map (·.x)).drop i = p.x :: (l.map (·.x)).drop (i + 1) := by
        have hp2 : (l.map (·.x))[i]? = some p.x := by rw [List.getElem?_map, hp]; rfl
        obtain ⟨ha, hb⟩ := List.getElem?_eq_some_iff.1 hp2
        rw [List.drop_eq_getElem_cons ha, hb]
      rw [hdrop, printF] at hacc
      refine s_req ⟨by omega, by omega⟩ (s_sm (s_loadI (hcell 0 _ rfl) (s_loadI (hcell 1 _ rfl) (s_loadI (hcell 2 _ rfl) (s_loadI (hcell 3 _ rfl) (s_loadI (hcell 4 _ rfl) (s_loadS (hcell 5 _ rfl) (s_loadS (hcell 6 _ rfl) (s_loadS (hcell 7 _ rfl) (s_loadS (hcell 8 _ rfl) (s_loadS (hcell 9 _ rfl) (s_loadI (hcell 10 _ rfl) (s_loadI (hcell 11 _ rfl) (s_loadI (hcell 12 _ rfl) (s_loadI (hcell 13 _ rfl) (s_loadI (hcell 14 _ rfl) (s_loadI (hcell 15 _ rfl) ?_)))))))))))))))))
      refine s_call (rstep_c (x := p.x) (v := p.v) (hT.fr hF) (stFr (h.at_ p hpm) hF) (hl p hpm)) ?_
      rintro _ u3 ⟨rfl, f3⟩
      rw [← step_eq]
      have hsl := stepR_len (hl p hpm)
      have hn1 := hb.len
      refine ⟨_, rfl, s_asU (s_req rfl (s_asT (s_asI (s_ite (fun g4 => ?_) (fun g4 => ?_)))))⟩
      · have g4 : (stepR p.x).2 ≠ 0 := by simpa using g4
        rw [if_pos g4] at hacc
        exact s_ret ⟨by rw [← hacc], hF.trans f3⟩
      · have g4 : (stepR p.x).2 = 0 := by simpa using g4
        rw [if_neg (by simpa using g4)] at hacc
        have hF3 := hF.trans f3
        refine s_boStr (hb.fr f3) hF3.size (by omega) fun o4 cap4 u4 hb4 f4 => s_asS ?_
        have hF4 : Fr [] w u4 := Fr.of_below ((hF3.below (Nat.le_refl _)).trans f4)
        refine s_new fun r u5 hr hz f5 hc5 => ?_
        have hF5 := hF4.trans f5
        have hrd : Reads u5 ⟨r, 0, none⟩ (Lib.byteCells [10]) := hc5.reads
        refine s_boCells (s := [10]) (hb4.fr f5) hF5.size rfl hrd (by simp; omega) fun o6 cap6 u6 hb6 f6 => s_asS (s_next (by first | exact ⟨rfl, rfl⟩ | trivial) ?_)
        simp (config := { decide := true }) only [if_true, if_false]
        refine ⟨⟨i + 1, acc ++ ((stepR p.x).1 ++ [10]), o6, _, cap6, by rw [w_succ (by omega)], by omega, hacc, ?_, Fr.of_below ((hF5.below (Nat.le_refl _)).trans f6), ?_⟩, by rw [w_succ (by omega)]; simp [intOf] <;> omega⟩
        · rw [List.length_append, List.length_append, Nat.add_mul]
          simp
          omega
        · rw [← List.append_assoc]
          exact hb6
    · simp only [decide_eq_false_iff_not] at g1
      rw [List.drop_eq_nil_of_le (by rw [List.length_map]; omega), printF] at hacc
      refine s_str bytesT byteT strT hb.at (by rw [u8_len]; exact hb.len) ?_
      rw [str_u8]
      exact s_asT (s_ret ⟨by rw [← hacc], hF⟩)
end
end Go.Proofs.YtihipcofjpnfbaaGreatDoor
