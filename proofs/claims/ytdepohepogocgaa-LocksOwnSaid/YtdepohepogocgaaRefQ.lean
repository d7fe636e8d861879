/- The document's Queue, walked. -/
import Derived.Test.YtdepohepogocgaaRefA
set_option linter.unusedVariables false
set_option linter.unusedSimpArgs false
set_option maxRecDepth 100000
set_option maxHeartbeats 4000000
namespace Go.Proofs.Ytdepohepogocgaa
open Go hiding Expr
open Go.RowKit Tr

theorem queue_step {X : List AW} {i : Nat} {x : AW} {k : K} (hx : X[i]? = some x) : queueOf ((X.take (i + 1)).map AW.row) k = queueOf ((X.take i).map AW.row) k ++ if (lockOf x.w k).isSome then [(x.t, (lockV x.w k).x)] else [] := by
  rw [List.take_add_one, hx, Option.toList_some, List.map_append, queue_append]
  congr 1
  show queueOf [(x.t, x.w)] k = _
  rw [queue_one]
  unfold lockV
  cases lockOf x.w k <;> rfl
theorem held_step {X : List AW} {i : Nat} {x : AW} {k : K} (hx : X[i]? = some x) (h : (lockOf x.w k).isSome = true) :
    heldGo true true (queueOf ((X.take (i + 1)).map AW.row) k) = heldGo true true (queueOf ((X.take i).map AW.row) k) ++ [⟨x.t, (lockV x.w k).x, hasR X i x k⟩] := by
  rw [queue_step hx, if_pos h, heldGo_snoc]
  unfold hasR
  rw [clash_all]
section
variable {w : World} {p : Nat} {X : List AW}
theorem rQueue_c (h : RV w p X) (hmax : X.length ≤ 1099511627776) (hmw : ∀ x ∈ X, x.w.length ≤ 5864062014805) (k : K) :
    Calls Try.prog 55 #[.pointer (some ⟨p, 0, none⟩), .agg ⟨kr k⟩] w fun e w' => ∃ v c, e = .returned v ∧ OwnC 43 4 v (queueA (X.map AW.row) k).length ((queueA (X.map AW.row) k).map wtr).flatten c ∧ Has w w' c := by
  have hh := h
  obtain ⟨o, cap, h1, h2, h3⟩ := h
  apply c55
  refine h_new (Has.init w) fun n4 u H => ?_
  refine s_loop (fun vs W => ∃ (i : Nat) (v : Value) (c m : Hp), vs = [v, .int .i64 i] ∧ i ≤ X.length ∧ OwnC 43 4 v (heldGo true true (queueOf ((X.take i).map AW.row) k)).length ((heldGo true true (queueOf ((X.take i).map AW.row) k)).map wtr).flatten c ∧ Has w W (cl n4 39 (kr k) :: (c ++ m))) (fun vs _ => X.length - (intOf (vs.getD 1 undef)).toNat)
    ⟨0, _, [], [], rfl, by omega, OwnC.nil, H⟩ ?_
  clear H
  rintro _ j W ⟨i, v, cv, mm, rfl, hi, hov, H⟩
  obtain ⟨o', c', rfl⟩ := hov.slice
  refine s_asS (s_asI (s_ldS (H.base.cells h1 (by simp)) rfl (s_ite (fun g1 => ?_) (fun g1 => ?_))))
  · simp only [decide_eq_true_eq] at g1
    have hlt : i < X.length := by omega
    obtain ⟨x, hx⟩ : ∃ x, X[i]? = some x := ⟨_, List.getElem?_eq_getElem hlt⟩
    have hql : (heldGo true true (queueOf ((X.take i).map AW.row) k)).length ≤ i := by
      rw [heldGo_len]
      have := len_queue (A := (X.take i).map AW.row) (k := k)
      rw [List.length_map, List.length_take] at this
      omega
    obtain ⟨g, off, he, _, hc⟩ := h2.at (j := i) (r := ar x) (by rw [List.getElem?_map, hx]; rfl)
    refine h_drew H fun u H => s_ldS (H.base.cells h1 (by simp)) rfl (s_req ⟨by omega, by omega⟩ ⟨g, off, he, s_loadI (H.cell0 (hc 0 _ rfl)) (s_loadI (H.cell0 (hc 1 _ rfl)) (s_loadS (H.cell0 (hc 2 _ rfl)) (h_ldI H (by repeat (first | exact pick_head | apply pick_tail | apply pick_app)) rfl (h_ldI H (by repeat (first | exact pick_head | apply pick_tail | apply pick_app)) rfl (s_both ?_ ?_)))))⟩)
    all_goals
      first
        | (refine s_call (lock_c (x := x) (k := k) (RowsAt.fr (h3 x (List.mem_of_getElem? hx)) H.base) (hmw x (List.mem_of_getElem? hx))) ?_
           rintro _ u ⟨rfl, f⟩
           have H := H.fr0 f
           refine ⟨_, rfl, s_asU (s_req rfl (s_asA (s_req rfl (s_asI (s_asI (s_asB (s_asB (s_chk ⟨(H.base.cells h1 (by simp)).cell rfl, trivial⟩ ?_))))))))⟩
           refine h_new H fun nx u H => s_chk ⟨(H.base.cells h1 (by simp)).cell rfl, trivial⟩ ?_)
        | (refine h_new H fun nx u H => s_chk ⟨(H.cells (by repeat (first | exact pick_head | apply pick_tail | apply pick_app))).cell rfl, (H.cells (by repeat (first | exact pick_head | apply pick_tail | apply pick_app))).cell rfl, H.cell0 (hc 0 _ rfl), H.cell0 (hc 1 _ rfl), H.cell0 (hc 2 _ rfl), (H.base.cells h1 (by simp)).cell rfl, trivial⟩ ?_
           refine s_call (lock_c (x := x) (k := k) (RowsAt.fr (h3 x (List.mem_of_getElem? hx)) H.base) (hmw x (List.mem_of_getElem? hx))) ?_
           rintro _ u ⟨rfl, f⟩
           have H := H.fr0 f
           refine ⟨_, rfl, s_asU (s_req rfl (s_asA (s_req rfl (s_asI (s_asI (s_asB (s_asB (s_chk ⟨(H.base.cells h1 (by simp)).cell rfl, trivial⟩ ?_))))))))⟩)
      iterate 3 refine h_st H (by repeat (first | exact pick_head | apply pick_tail | apply pick_app)) (by first | (simp; done) | exact Nat.le_of_ble_eq_true rfl) rfl fun u H => ?_
      refine s_chk c_nil (s_ite (fun g2 => ?_) (fun g2 => s_next (by first | exact ⟨rfl, rfl⟩ | trivial) ?_))
      · have hst := held_step (k := k) hx g2
        refine h_drew H fun u H => s_ldS (H.base.cells h1 (by simp)) rfl (s_req ⟨by omega, by omega⟩ ⟨g, off, he, s_loadI (H.cell0 (hc 0 _ rfl)) (s_loadI (H.cell0 (hc 1 _ rfl)) (h_ldB H (by repeat (first | exact pick_head | apply pick_tail | apply pick_app)) rfl (h_ldI H (by repeat (first | exact pick_head | apply pick_tail | apply pick_app)) rfl (h_ldI H (by repeat (first | exact pick_head | apply pick_tail | apply pick_app)) rfl (s_call (has_c (hh.fr0 H.base) hmax hmw hx k) ?_)))))⟩)
        rintro _ u ⟨rfl, f⟩
        have H := H.fr0 f
        refine ⟨_, rfl, s_asB (s_chk ⟨(H.cells (by repeat (first | exact pick_head | apply pick_tail | apply pick_app))).cell rfl, H.cell0 (hc 0 _ rfl), H.cell0 (hc 1 _ rfl), (H.base.cells h1 (by simp)).cell rfl, trivial⟩ ?_)⟩
        refine h_new H fun n46 u H => s_chk ⟨(H.cells (by repeat (first | exact pick_head | apply pick_tail | apply pick_app))).cell rfl, H.cell0 (hc 0 _ rfl), H.cell0 (hc 1 _ rfl), (H.base.cells h1 (by simp)).cell rfl, trivial⟩ ?_
        refine h_app1 elemW H (by repeat (first | exact cut_head | exact cut_all | apply cut_tail | apply cut_app)) hov (r := n46) (l := wtr ⟨x.t, (lockV x.w k).x, hasR X i x k⟩) (by repeat (first | exact pick_head | apply pick_tail | apply pick_app)) rfl (by intro u hu; simp [wtr] at hu; rcases hu with rfl | rfl | rfl | rfl <;> rfl) (by omega) (by omega) ?_
        intro v' c' u ho' H
        obtain ⟨o3, c3, rfl⟩ := ho'.slice
        refine s_asS (s_chk ⟨(H.cells (by repeat (first | exact pick_head | apply pick_tail | apply pick_app))).cell rfl, H.cell0 (hc 0 _ rfl), H.cell0 (hc 1 _ rfl), (H.base.cells h1 (by simp)).cell rfl, trivial⟩ (s_next (by first | exact ⟨rfl, rfl⟩ | trivial) ?_))
        simp (config := { decide := true }) only [if_true, if_false]
        refine ⟨⟨i + 1, _, c', _, by rw [w_succ (by omega)], by omega, ?_, H.sub (by repeat (first | exact sb_refl | exact sb_nil | refine sb_cons (by repeat (first | exact pick_head | apply pick_tail | apply pick_app)) ?_ | refine sb_app (by repeat (first | exact cut_head | exact cut_all | apply cut_tail | apply cut_app)) ?_ | exact sb_one (by repeat (first | exact cut_head | exact cut_all | apply cut_tail | apply cut_app))))⟩, by rw [w_succ (by omega)]; simp [intOf] <;> omega⟩
        rw [hst, List.length_append, List.map_append, List.flatten_append]
        simpa using ho'
      · have hst := queue_step (k := k) hx
        rw [if_neg (by rw [g2]; simp), List.append_nil] at hst
        simp (config := { decide := true }) only [if_true, if_false]
        exact ⟨⟨i + 1, _, cv, _, by rw [w_succ (by omega)], by omega, by rw [hst]; exact hov, H.sub (by repeat (first | exact sb_refl | exact sb_nil | refine sb_cons (by repeat (first | exact pick_head | apply pick_tail | apply pick_app)) ?_ | refine sb_app (by repeat (first | exact cut_head | exact cut_all | apply cut_tail | apply cut_app)) ?_ | exact sb_one (by repeat (first | exact cut_head | exact cut_all | apply cut_tail | apply cut_app))))⟩, by rw [w_succ (by omega)]; simp [intOf] <;> omega⟩
  · simp only [decide_eq_false_iff_not] at g1
    rw [List.take_of_length_le (by omega)] at hov ⊢
    exact s_ret ⟨_, cv, rfl, hov, H.sub (by repeat (first | exact sb_refl | exact sb_nil | refine sb_cons (by repeat (first | exact pick_head | apply pick_tail | apply pick_app)) ?_ | refine sb_app (by repeat (first | exact cut_head | exact cut_all | apply cut_tail | apply cut_app)) ?_ | exact sb_one (by repeat (first | exact cut_head | exact cut_all | apply cut_tail | apply cut_app))))⟩
end
end Go.Proofs.Ytdepohepogocgaa
