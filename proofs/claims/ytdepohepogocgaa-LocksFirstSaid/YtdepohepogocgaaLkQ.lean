/- A key's queue, walked. -/
import Derived.Test.YtdepohepogocgaaLkR
import Derived.Test.YtdepohepogocgaaWrite
set_option linter.unusedVariables false
set_option linter.unusedSimpArgs false
set_option maxRecDepth 100000
set_option maxHeartbeats 1000000
namespace Go.Proofs.Ytdepohepogocgaa
open Go hiding Expr
open Go.RowKit Tr

/-- The first i entries told, the others as they lie. -/
def halfQ (q : Qu) (i : Nat) : List Wt := heldGo true true (q.take i) ++ (q.drop i).map (fun p => ⟨p.1, p.2, false⟩)
def shQ (q : Qu) (i : Nat) : Bool := (q.take i).all (fun p => !p.2)
theorem half_step {q : Qu} {i : Nat} {p : Ix × Bool} (h : q[i]? = some p) : ((halfQ q i).map wtr).flatten.set (i * 4 + 3) (.bool (i == 0 || shQ q (i + 1))) = ((halfQ q (i + 1)).map wtr).flatten := by
  obtain ⟨hlt, rfl⟩ := List.getElem?_eq_some_iff.1 h
  have hl : (heldGo true true (q.take i)).length = i := by rw [heldGo_len, List.length_take]; omega
  have hd : q.drop i = q[i] :: q.drop (i + 1) := List.drop_eq_getElem_cons hlt
  have hg : ((halfQ q i).map wtr)[i]? = some (wtr ⟨q[i].1, q[i].2, false⟩) := by
    rw [List.getElem?_map]
    unfold halfQ
    rw [List.getElem?_append_right (by omega), hl, Nat.sub_self, hd]
    rfl
  rw [flat_set (wtr4 _) hg (by omega)]
  congr 1
  rw [show (wtr ⟨q[i].1, q[i].2, false⟩).set 3 (.bool (i == 0 || shQ q (i + 1))) = wtr ⟨q[i].1, q[i].2, i == 0 || shQ q (i + 1)⟩ from rfl, ← List.map_set]
  congr 1
  have ht : q.take (i + 1) = q.take i ++ [q[i]] := by rw [List.take_add_one, List.getElem?_eq_getElem hlt, Option.toList_some]
  have hv : hasGo (q.take i) q[i].2 = (i == 0 || shQ q (i + 1)) := by
    rw [hasGo_eq]
    unfold shQ
    rw [ht, List.all_append]
    by_cases h0 : i = 0
    · subst h0; simp
    · have : q.take i ≠ [] := by
        intro h
        have := congrArg List.length h
        rw [List.length_take, List.length_nil] at this
        omega
      rw [if_neg this]
      simp [h0]
  unfold halfQ
  rw [List.set_append_right _ _ (by omega), hl, Nat.sub_self, hd, List.map_cons, List.set_cons_zero, ht, heldGo_snoc, hv, List.append_assoc]
  rfl
theorem shQ_step {q : Qu} {i : Nat} {p : Ix × Bool} (h : q[i]? = some p) : shQ q (i + 1) = (shQ q i && !p.2) := by
  unfold shQ
  rw [List.take_add_one, h, Option.toList_some, List.all_append]
  simp
theorem half_len {q : Qu} {i : Nat} (h : i ≤ q.length) : (halfQ q i).length = q.length := by
  unfold halfQ
  rw [List.length_append, heldGo_len, List.length_take, List.length_map, List.length_drop]
  omega
theorem half_zero (q : Qu) : (halfQ q 0).map wtr = q.map wr := by simp [halfQ, heldGo, wr]
theorem half_all (q : Qu) : halfQ q q.length = heldGo true true q := by unfold halfQ; simp

section
variable {w : World} {p : Nat} {A : St}
theorem queue_c (h : LkW w p A) (hz : Sz A) {k : K} (hk : InK k) : Calls Try.prog 13 #[.pointer (some ⟨p, 0, none⟩), .agg ⟨kr k⟩] w fun e w' =>
    ∃ v c, e = .returned v ∧ OwnC 43 4 v (queueA A k).length ((queueA A k).map wtr).flatten c ∧ Has w w' c := by
  have hh := h
  obtain ⟨c, ⟨bq, bw, oq, ow, so, cq, cw, co, rfl, hq, hw, ho, hg, hi⟩, HL⟩ := h
  obtain ⟨s, c2, hx, e1, e2, e3⟩ := open_q (k := k) hq HL (by repeat (first | exact cut_head | exact cut_all | apply cut_tail | apply cut_app))
  have hlen := len_queue (A := A) (k := k)
  have hdef : queueA A k = heldGo true true (queueOf A k) := rfl
  generalize queueOf A k = q at *
  unfold Sz at hz
  apply c13
  refine h_new (Has.init w) fun n4 u H => ?_
  refine s_call (none_c (hh.fr0 H.base)) ?_
  rintro _ _ ⟨rfl, rfl⟩
  refine ⟨_, rfl, s_asB (s_false rfl (h_drew H fun u H => ?_))⟩
  have HL := HL.fr0 H.base
  obtain ⟨lk, hlk⟩ := keyOfK hk
  refine h_ldM HL (by repeat (first | exact pick_head | apply pick_tail | apply pick_app)) rfl (h_ldI H (by repeat (first | exact pick_head | apply pick_tail | apply pick_app)) rfl (h_ldI H (by repeat (first | exact pick_head | apply pick_tail | apply pick_app)) rfl ?_))
  refine f_look1 HL (bk := bq) (o := oq) (a := k) (kf := kfK) (by repeat (first | exact pick_head | apply pick_tail | apply pick_app)) hx keyedK map68 (zero40 u) (fun x => kfK_inj) hlk ?_
  rw [e1]
  unfold vS
  refine s_asS (s_chk c_nil (s_call (cloneW_c (l := q) (RowsAt.fr e3 H.base) e2 (by omega)) ?_))
  rintro _ u ⟨o', cap', c, rfl, ho', H2⟩
  have H := H.join H2
  refine ⟨_, rfl, s_asS (s_chk c_nil ?_)⟩
  rw [← half_zero] at ho'
  refine s_loop (fun vs W => ∃ (i : Nat) (c m : Hp), vs = [.bool (shQ q i), .int .i64 i] ∧ i ≤ q.length ∧ OwnC 43 4 (.slice o' q.length cap') q.length ((halfQ q i).map wtr).flatten c ∧ Has w W (c ++ m)) (fun vs _ => q.length - (intOf (vs.getD 1 undef)).toNat)
    ⟨0, c, _, rfl, by omega, ho', H⟩ ?_
  clear H H2 HL
  rintro _ j W ⟨i, c, mm, rfl, hil, hov, H⟩
  refine s_asB (s_asI (s_ite (fun g1 => ?_) (fun g1 => ?_)))
  · simp only [decide_eq_true_eq] at g1
    have hlt : i < q.length := by omega
    obtain ⟨x, hx⟩ : ∃ x, q[i]? = some x := ⟨_, List.getElem?_eq_getElem hlt⟩
    have hst := half_step hx
    have hss := shQ_step hx
    have hlx : ((halfQ q i).map wtr).flatten.length = q.length * 4 := by rw [flat_len (wtr4 _), List.length_map, half_len hil]
    have hg2 : ((halfQ q i).map wtr)[i]? = some (wtr ⟨x.1, x.2, false⟩) := by
      rw [List.getElem?_map]
      have hl : (heldGo true true (q.take i)).length = i := by rw [heldGo_len, List.length_take]; omega
      unfold halfQ
      rw [List.getElem?_append_right (by omega), hl, Nat.sub_self, List.getElem?_map, List.getElem?_drop, Nat.add_zero, hx]
      rfl
    obtain ⟨g, cap2, sp, he, rfl, h1, h2, h3⟩ := hov.pos (by omega)
    cases he
    have hback : OwnC 43 4 (.slice (some ⟨g, 0, none⟩) q.length cap') q.length ((halfQ q i).map wtr).flatten [cl g 43 (((halfQ q i).map wtr).flatten ++ sp)] := hov
    refine h_blk (fun vs => vs = [.bool (shQ q (i + 1))]) H ?_ ?_
    · refine s_ite (fun g2 => ?_) (fun g2 => s_next (by first | exact ⟨rfl, rfl⟩ | trivial) ?_)
      · refine s_req ⟨by omega, g1⟩ (s_sm (h_ldB H (by repeat (first | exact pick_head | apply pick_tail | apply pick_app)) (n := x.2) ?_ (s_next (by first | exact ⟨rfl, rfl⟩ | trivial) ?_)))
        · have := flat_get (wtr4 _) hg2 (j := 2) (v := .bool x.2) rfl
          rw [List.getElem?_append_left (by omega), show (0 : Nat) + Int.toNat (i : Int) * 4 + 2 = i * 4 + 2 by omega]
          exact this
        · simp (config := { decide := true }) only [if_true, if_false]
          exact ⟨H, by rw [hss, g2]; rfl⟩
      · simp (config := { decide := true }) only [if_true, if_false]
        exact ⟨H, by rw [hss, g2]; rfl⟩
    · rintro _ j' W H rfl
      have key : ∀ {Q : Ending → World → Prop} {ρ : Lv} {b : Bool} {X : T}, b = (i == 0 || shQ q (i + 1)) → (∀ c' u, OwnC 43 4 (.slice (some ⟨g, 0, none⟩) q.length cap') q.length ((halfQ q (i + 1)).map wtr).flatten c' → Has w u (c' ++ mm) → X.sem Try.prog Q ρ u) →
          (T.st g (0 + Int.toNat (i : Int) * 4 + 3) (.bool b) X).sem Try.prog Q ρ W := by
        intro Q ρ b X hb hX
        refine h_stC (off := 0) (i := i) (f := 3) H (by repeat (first | exact cut_head | exact cut_all | apply cut_tail | apply cut_app)) hback (by rw [hlx]; omega) rfl fun c' u ho2 H2 => ?_
        rw [hb, hst] at ho2
        exact hX c' u ho2 H2
      refine s_asB (s_ite (fun g2 => ?_) (fun g2 => ?_))
      · have g2 : (i : Int) = 0 := by simpa using g2
        refine s_req ⟨by omega, g1⟩ (s_sm (key (by have h0 : i = 0 := (by omega); subst h0; rfl) fun c' u ho2 H2 => s_next (by first | exact ⟨rfl, rfl⟩ | trivial) ?_))
        simp (config := { decide := true }) only [if_true, if_false]
        exact ⟨⟨i + 1, c', mm, by rw [w_succ (by omega)], by omega, ho2, H2⟩, by rw [w_succ (by omega)]; simp [intOf] <;> omega⟩
      · have g2 : ¬ i = 0 := by intro e; subst e; simp at g2
        refine s_req ⟨by omega, g1⟩ (s_sm (key (by simp [g2]) fun c' u ho2 H2 => s_next (by first | exact ⟨rfl, rfl⟩ | trivial) ?_))
        simp (config := { decide := true }) only [if_true, if_false]
        exact ⟨⟨i + 1, c', mm, by rw [w_succ (by omega)], by omega, ho2, H2⟩, by rw [w_succ (by omega)]; simp [intOf] <;> omega⟩
  · simp only [decide_eq_false_iff_not] at g1
    obtain rfl : i = q.length := by omega
    rw [half_all] at hov
    rw [hdef]
    have hl : (heldGo true true q).length = q.length := heldGo_len ..
    exact s_ret ⟨_, c, rfl, by rw [hl]; exact hov, H.sub (by repeat (first | exact sb_refl | exact sb_nil | refine sb_cons (by repeat (first | exact pick_head | apply pick_tail | apply pick_app)) ?_ | refine sb_app (by repeat (first | exact cut_head | exact cut_all | apply cut_tail | apply cut_app)) ?_ | exact sb_one (by repeat (first | exact cut_head | exact cut_all | apply cut_tail | apply cut_app))))⟩
end
end Go.Proofs.Ytdepohepogocgaa
