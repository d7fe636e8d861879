/- A list that is a map in order already; begun. -/
import Derived.Test.YtpjcfnnnciknmaaGreatBoxV
set_option linter.unusedVariables false
set_option linter.unusedSimpArgs false
set_option maxRecDepth 100000
set_option maxHeartbeats 4000000
namespace Go.Proofs.YtpjcfnnnciknmaaGreat
open Go hiding Expr
open Go.RowKit Tr

theorem IsPairs.self {l : List PR} (h : Rising (l.map (fun p : PR => p.k))) : IsPairs l l := by
  have key : ∀ i, i ≤ l.length → IsPairs (l.take i) (l.take i) := by
    intro i
    induction i with
    | zero => intro _; simpa using IsPairs.nil
    | succ i ih =>
      intro hi
      have hx : l[i]? = some (l[i]'(by omega)) := List.getElem?_eq_getElem _
      have hsub : Rising ((l.take (i + 1)).map (fun p : PR => p.k)) := h.sublist ((List.take_sublist _ _).map _)
      rw [List.take_add_one, hx, Option.toList_some] at hsub ⊢
      generalize l[i]'(by omega) = x at hsub
      rw [List.map_append] at hsub
      have hlow := (List.pairwise_append.1 hsub).2.2
      have hlen : (l.take i).length = i := by rw [List.length_take]; omega
      have h1 := (ih (by omega)).ins (p := x) (k := i) ⟨by rw [List.length_map, hlen]; omega, fun y hy => hlow y (List.mem_of_mem_take hy) x.k (by simp), fun y hy => by
        rw [List.getElem?_eq_none (by rw [List.length_map, hlen]; omega)] at hy; cases hy⟩ (by rw [List.getElem?_eq_none (by rw [List.length_map, hlen]; omega)]; simp)
      have e1 : (l.take i).take i = l.take i := List.take_of_length_le (by omega)
      have e2 : (l.take i).drop i = [] := List.drop_eq_nil_of_le (by omega)
      rw [e1, e2, List.append_nil] at h1
      exact h1
  have := key l.length (Nat.le_refl _)
  rwa [List.take_length] at this
theorem IsPairs.idem {l out : List PR} (h : IsPairs l out) : IsPairs out out := IsPairs.self h.1

def pB : PR := ⟨⟨0, 1⟩, 5⟩
def tB : Ix := ⟨7, 0⟩
def B1 : BX := cameB (emptyB 3) (tB, 1) [pB]
def B2 : BX := needB B1 tB [1, 2]
def B3 : BX := cameB B2 (tB, 2) []
theorem rel_b : IsPairs [pB] [pB] := IsPairs.self (by simp)
theorem inI_b : InI tB := by unfold InI tB; decide
theorem sz1 : BxSz (emptyB 3) := fun k l h => by cases h
theorem came2 {k : Fx} {l : List PR} (h : B2.came k = some l) : l = [pB] := by
  have h : upd (emptyB 3).came (tB, 1) (some [pB]) k = some l := h
  unfold upd at h
  split at h
  · exact (Option.some.inj h).symm
  · cases h
theorem sz2 : BxSz B2 := fun k l h => by rw [came2 h]; decide
theorem none2 : B2.came (tB, 2) = none := rfl
theorem begun_c {w : World} : Calls Tryz.prog 6 #[] w fun e w' => e = .returned (.bool true) ∧ Fr [] w w' := by
  apply c6
  refine s_call (new_c (n := 3) (by decide) (by decide)) ?_
  rintro _ u ⟨p, c, rfl, hB, H⟩
  refine ⟨_, rfl, s_asU (s_req rfl (s_asP (s_asI ?_)))⟩
  (refine h_new H fun n4 u H => ?_)
  iterate 2 refine h_st H (by repeat (first | exact pick_head | apply pick_tail | apply pick_app)) (by first | (simp; done) | exact Nat.le_of_ble_eq_true rfl) rfl fun u H => ?_
  refine s_blk (fun vs W => Has w W (c ++ [cl n4 32 (ixr tB)])) ?_ ?_
  · clear H
    rintro _ j W H
    refine h_ldI H (b := n4) (by repeat (first | exact pick_head | apply pick_tail | apply pick_app)) rfl (h_ldI H (b := n4) (by repeat (first | exact pick_head | apply pick_tail | apply pick_app)) rfl ?_)
    (refine h_new H fun n9 u H => ?_)
    have H1 : Has w u (c ++ [cl n9 53 (encP [pB]), cl n4 32 (ixr tB)]) := H.sub (by repeat (first | exact sb_refl | exact sb_nil | refine sb_cons (by repeat (first | exact pick_head | apply pick_tail | apply pick_app)) ?_ | refine sb_app (by repeat (first | exact cut_head | exact cut_all | apply cut_tail | apply cut_app)) ?_ | exact sb_one (by repeat (first | exact cut_head | exact cut_all | apply cut_tail | apply cut_app))))
    refine s_call (put_c (t := tB) (n := 1) H1 hB sz1 inI_b (by omega) (l := [pB]) (fun u Hm => rowsAt_cells (pr3 _) (sp := []) (Hm.cells (b := n9) (by rw [List.append_nil]; exact pick_head))) (by intro q hq; simp at hq; subst hq; unfold InK pB; decide) rfl (by decide)) ?_
    rintro _ u (⟨hv, _, _⟩ | ⟨_, out, hp, (⟨⟨l0, hl0, _⟩, _, _⟩ | ⟨_, c1, rfl, hB1, H⟩)⟩)
    · exact absurd ⟨by omega, by decide⟩ hv
    · cases hl0
    have e := hp.uniq rel_b
    subst e
    clear hB H1
    refine ⟨_, rfl, s_asU (s_req rfl (s_asB (s_asI ?_)))⟩
    refine h_ldI H (b := n4) (by repeat (first | exact pick_head | apply pick_tail | apply pick_app)) rfl (h_ldI H (b := n4) (by repeat (first | exact pick_head | apply pick_tail | apply pick_app)) rfl ?_)
    (refine h_new H fun n16 u H => ?_)
    have H1 : Has w u (c1 ++ [cl n16 3 (ints [1, 2]), cl n4 32 (ixr tB)]) := H.sub (by repeat (first | exact sb_refl | exact sb_nil | refine sb_cons (by repeat (first | exact pick_head | apply pick_tail | apply pick_app)) ?_ | refine sb_app (by repeat (first | exact cut_head | exact cut_all | apply cut_tail | apply cut_app)) ?_ | exact sb_one (by repeat (first | exact cut_head | exact cut_all | apply cut_tail | apply cut_app))))
    refine s_call (need_c (X := B1) (t := tB) H1 hB1 inI_b (l := [1, 2]) (fun u Hm => rowsAt_cells (ir1 _) (sp := []) (Hm.cells (b := n16) (by rw [List.append_nil]; exact pick_head))) rfl (by decide)) ?_
    rintro _ u (⟨hv, _, _⟩ | ⟨_, hs, _, _⟩ | ⟨_, _, s, c2, hris, rfl, hB2, H⟩)
    · exact absurd (by decide) hv
    · cases hs
    have e := hris.uniq ⟨by decide, fun x => Iff.rfl⟩
    subst e
    clear hB1 H1
    refine ⟨_, rfl, s_asI ?_⟩
    refine h_ldI H (b := n4) (by repeat (first | exact pick_head | apply pick_tail | apply pick_app)) rfl (h_ldI H (b := n4) (by repeat (first | exact pick_head | apply pick_tail | apply pick_app)) rfl ?_)
    refine s_call (put_c (X := B2) (t := tB) (n := 2) H hB2 sz2 inI_b (by omega) (l := []) (fun u Hm => .inl rfl) (by simp) rfl (by decide)) ?_
    rintro _ u (⟨hv, _, _⟩ | ⟨_, out, hp, (⟨⟨l0, hl0, _⟩, _, _⟩ | ⟨_, c3, rfl, hB3, H⟩)⟩)
    · exact absurd ⟨by omega, by decide⟩ hv
    · rw [none2] at hl0; cases hl0
    have e := hp.uniq IsPairs.nil
    subst e
    clear hB2
    refine ⟨_, rfl, s_asU (s_req rfl (s_asB (s_asI ?_)))⟩
    refine h_ldI H (b := n4) (by repeat (first | exact pick_head | apply pick_tail | apply pick_app)) rfl (h_ldI H (b := n4) (by repeat (first | exact pick_head | apply pick_tail | apply pick_app)) rfl ?_)
    refine s_call (values_c (X := B3) (t := tB) (boxW_of H (by repeat (first | exact cut_head | exact cut_all | apply cut_tail | apply cut_app)) hB3) inI_b (by decide)) ?_
    rintro _ u (⟨hr, _, _⟩ | ⟨_, out, v, c4, hp, rfl, ho, H4⟩)
    · exact absurd hr (by decide)
    have e := hp.uniq (show IsPairs (flatV B3 tB) [pB] from rel_b)
    subst e
    obtain ⟨o2, cap2, rfl⟩ := ho.slice
    have H := H.join H4
    refine ⟨_, rfl, s_asU (s_req rfl (s_asS (s_asI (s_true (by decide) (s_true rfl (s_true rfl (s_true (by decide) (s_true rfl (s_true rfl (s_true rfl (s_req (by simp) ?_)))))))))))⟩
    obtain ⟨g, off, rfl, _, _, q3⟩ := (pairsAt_own (l := [pB]) ho H (by repeat (first | exact cut_head | exact cut_all | apply cut_tail | apply cut_app))).get (i := 0) rfl
    refine s_sm (s_loadI q3 (s_ret ⟨rfl, H.base⟩))
  · refine s_false rfl (s_false rfl (s_next ⟨rfl, rfl⟩ (H.sub (by repeat (first | exact sb_refl | exact sb_nil | refine sb_cons (by repeat (first | exact pick_head | apply pick_tail | apply pick_app)) ?_ | refine sb_app (by repeat (first | exact cut_head | exact cut_all | apply cut_tail | apply cut_app)) ?_ | exact sb_one (by repeat (first | exact cut_head | exact cut_all | apply cut_tail | apply cut_app)))))))
end Go.Proofs.YtpjcfnnnciknmaaGreat
