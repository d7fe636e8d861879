/- A box: Need, Values. -/
import Derived.Test.YtpjcfnnnciknmaaGreatBoxP
set_option linter.unusedVariables false
set_option linter.unusedSimpArgs false
set_option maxRecDepth 100000
set_option maxHeartbeats 8000000
namespace Go.Proofs.YtpjcfnnnciknmaaGreat
open Go hiding Expr
open Go.RowKit Tr

section
variable {w0 w : World} {p : Nat} {X : BX} {c m : Hp} {o : Option Addr} {n cap : Nat} {l : List Int}
theorem cloneI_c (h : ValsAt w o l) (hn : n = l.length) (hsz : l.length * 8 ≤ 140737488355328) : Calls Tryz.prog 30 #[.slice o n cap] w fun e w' => ∃ v c, e = .returned v ∧ OwnC 3 1 v l.length (ints l) c ∧ Has w w' c := by
  subst hn
  apply c30
  refine s_ite (fun g => ?_) (fun g => ?_)
  · have ho : o = none := by simpa using g
    subst ho
    have hl : l = [] := by have := RowsAt.none h; simpa using this
    subst hl
    exact s_ret ⟨_, [], rfl, OwnC.nil, Has.init w⟩
  · refine h_new (Has.init w) fun n3 u H => ?_
    refine h_appAll elemN (by decide) H (cut_one (by repeat (first | exact pick_head | apply pick_tail | apply pick_app))) (OwnC.zero 3 1 n3) (ir1 l) (ir_one l) (RowsAt.fr h H.base) (by rw [List.length_map]) (by omega) (by omega) ?_
    intro v' c' u ho' H
    obtain ⟨o', cap', rfl⟩ := ho'.slice
    refine s_asS (s_ret ⟨_, c', rfl, ?_, H.sub (by repeat (first | exact sb_refl | exact sb_nil | refine sb_cons (by repeat (first | exact pick_head | apply pick_tail | apply pick_app)) ?_ | refine sb_app (by repeat (first | exact cut_head | exact cut_all | apply cut_tail | apply cut_app)) ?_ | exact sb_one (by repeat (first | exact cut_head | exact cut_all | apply cut_tail | apply cut_app))))⟩)
    have e : 0 + l.length = l.length := by omega
    rw [e] at ho' ⊢
    rw [List.nil_append] at ho'
    exact ho'

/-- A clone of numbers, put in order, each once. -/
theorem needB_ok {t : Ix} {s : List Int} (h : BxOk X) (hr : s.Pairwise (· < ·)) (hv : ∀ n ∈ s, 0 ≤ n ∧ n < X.parts) : BxOk (needB X t s) := by
  refine ⟨h.p0, h.p1, fun t' l' hl' => ?_, h.came⟩
  have hl' : upd X.needs t (some s) t' = some l' := hl'
  unfold upd at hl'
  split at hl'
  · cases hl'
    exact ⟨hr, hv⟩
  · exact h.needs t' l' hl'

theorem keepN {c1 cn cn' cc : Hp} (hperm : (c1 ++ cn).Perm cn') : Keeps (cn ++ cc) (cn' ++ cc) [] := by
  refine ⟨c1, ?_⟩
  rw [List.append_nil]
  refine (hperm.symm.append_right cc).trans ?_
  rw [List.append_assoc]
  exact List.perm_append_comm
theorem need_k {h l1 : Hp} (H : Has w0 w (h ++ (l1 ++ m))) (hB : BoxK p X h l1) {t : Ix} (ht : InI t) (hl : ∀ u, Has w0 u m → ValsAt u o l) (hlen : n = l.length) (hsz : l.length * 8 ≤ 140737488355328) :
    Calls Tryz.prog 10 #[.pointer (some ⟨p, 0, none⟩), .agg ⟨ixr t⟩, .slice o n cap] w fun e w' =>
      ((¬ ∀ x ∈ l, 0 ≤ x ∧ x < X.parts) ∧ e = .returned (.int .i64 1) ∧ Has w0 w' (h ++ (l1 ++ m))) ∨
      ((∀ x ∈ l, 0 ≤ x ∧ x < X.parts) ∧ (X.needs t).isSome = true ∧ e = .returned (.int .i64 5) ∧ Has w0 w' (h ++ (l1 ++ m))) ∨
      ((∀ x ∈ l, 0 ≤ x ∧ x < X.parts) ∧ X.needs t = none ∧ ∃ s h' l', IsRis l s ∧ e = .returned (.int .i64 0) ∧ BoxK p (needB X t s) h' l' ∧ Keeps l1 l' [] ∧ Has w0 w' (h' ++ (l' ++ m))) := by
  subst hlen
  have hB0 := hB.at
  obtain ⟨bn, bc, on, oc, cn, cc, rfl, rfl, hn, hc, hok⟩ := hB
  have H : Has w0 w ((cl p 44 (remC X bn bc) :: (bn, on) :: (bc, oc) :: (cn ++ cc)) ++ m) := by
    simp only [List.cons_append, List.append_assoc, List.nil_append] at H ⊢
    exact H
  have hB0 : BoxAt p X (cl p 44 (remC X bn bc) :: (bn, on) :: (bc, oc) :: (cn ++ cc)) := hB0
  obtain ⟨ln, hln⟩ := keyOfI ht
  apply c10
  refine h_new H fun n7 u H => ?_
  refine s_call (none_c (boxW_of H (cut_tail cut_head) hB0)) ?_
  rintro _ _ ⟨rfl, rfl⟩
  refine ⟨_, rfl, s_asB (s_false rfl ?_)⟩
  refine s_loop (fun vs W => ∃ i : Nat, vs = [.int .i64 i] ∧ i ≤ l.length ∧ (∀ x ∈ l.take i, 0 ≤ x ∧ x < X.parts) ∧ Has w0 W (cl n7 32 (ixr t) :: ((cl p 44 (remC X bn bc) :: (bn, on) :: (bc, oc) :: (cn ++ cc)) ++ m))) (fun vs _ => l.length - (intOf (vs.getD 0 undef)).toNat)
    ⟨0, rfl, by omega, by simp, H⟩ ?_
  clear H
  rintro _ j W ⟨i, rfl, hi, hpre, H⟩
  refine s_asI (s_ite (fun g1 => ?_) (fun g1 => ?_))
  · simp only [decide_eq_true_eq] at g1
    obtain ⟨x, hx⟩ : ∃ x, l[i]? = some x := ⟨_, List.getElem?_eq_getElem (by omega)⟩
    obtain ⟨g2, off, he, q1⟩ := (hl W (H.sub (sb_one (cut_tail (cut_app cut_all))))).get hx
    refine s_req ⟨by omega, by omega⟩ ⟨g2, off, he, s_loadI q1 (s_call (rpart_c (boxW_of H (cut_tail cut_head) hB0)) ?_)⟩
    rintro _ _ ⟨rfl, rfl⟩
    refine ⟨_, rfl, s_asB (s_ite (fun g => ?_) (fun g => ?_))⟩
    · have hv : ¬ (0 ≤ x ∧ x < X.parts) := by simp at g; omega
      exact s_ret (.inl ⟨fun h => hv (h x (List.mem_of_getElem? hx)), rfl, by
        simp only [List.cons_append, List.append_assoc, List.nil_append] at H ⊢
        exact H.sub (sb_one (cut_tail cut_all))⟩)
    · have hv : 0 ≤ x ∧ x < X.parts := by simpa using g
      refine s_next (by first | exact ⟨rfl, rfl⟩ | trivial) ?_
      simp (config := { decide := true }) only [if_true, if_false]
      refine ⟨⟨i + 1, by rw [w_succ (by omega)], by omega, fun y hy => ?_, H⟩, by rw [w_succ (by omega)]; simp [intOf] <;> omega⟩
      rw [List.take_add_one, hx, Option.toList_some] at hy
      rcases List.mem_append.1 hy with hy | hy
      · exact hpre y hy
      · simp at hy
        subst hy
        exact hv
  · simp only [decide_eq_false_iff_not] at g1
    rw [List.take_of_length_le (by omega)] at hpre
    have hall := hpre
    simp only [List.cons_append, List.append_assoc] at H
    refine h_drew H fun u H => ?_
    obtain ⟨s, c2, hx, e1, e2, e3, e4⟩ := open_n (t := t) hn H (by repeat (first | exact cut_head | exact cut_all | apply cut_tail | apply cut_app))
    refine h_ldM H (b := p) (by repeat (first | exact pick_head | apply pick_tail | apply pick_app)) rfl (h_ldI H (b := n7) (by repeat (first | exact pick_head | apply pick_tail | apply pick_app)) rfl (h_ldI H (b := n7) (by repeat (first | exact pick_head | apply pick_tail | apply pick_app)) rfl ?_))
    refine f_look2 H (bk := bn) (o := on) (a := t) (kf := kfI) (by repeat (first | exact pick_head | apply pick_tail | apply pick_app)) hx keyedI mapN (zeroN u) (fun x => kfI_inj) hln ?_
    rw [e1, e2]
    unfold vS
    refine s_asU (s_req rfl (s_asS (s_asB (s_chk c_nil ?_))))
    cases hq : X.needs t with
    | some l0 =>
      refine s_true rfl (s_ret (.inr (.inl ⟨hall, rfl, rfl, ?_⟩)))
      simp only [List.cons_append, List.append_assoc, List.nil_append]
      exact H.sub (by repeat (first | exact sb_refl | exact sb_nil | refine sb_cons (by repeat (first | exact pick_head | apply pick_tail | apply pick_app)) ?_ | refine sb_app (by repeat (first | exact cut_head | exact cut_all | apply cut_tail | apply cut_app)) ?_ | exact sb_one (by repeat (first | exact cut_head | exact cut_all | apply cut_tail | apply cut_app))))
    | none =>
      have hx := hn.openN (a := t) hq
      refine s_false rfl (s_call (cloneI_c (hl u (H.sub (by repeat (first | exact sb_refl | exact sb_nil | refine sb_cons (by repeat (first | exact pick_head | apply pick_tail | apply pick_app)) ?_ | refine sb_app (by repeat (first | exact cut_head | exact cut_all | apply cut_tail | apply cut_app)) ?_ | exact sb_one (by repeat (first | exact cut_head | exact cut_all | apply cut_tail | apply cut_app)))))) rfl hsz) ?_)
      rintro _ u ⟨v1, c1, rfl, ho1, H1⟩
      have H := H.join H1
      clear H1 e1 e2 e3 e4
      rcases ho1.2 with ⟨rfl, hl0, rfl⟩ | ⟨g, cap1, sp, rfl, rfl, hle, hcm, hcap⟩
      · have hnil : l = [] := List.eq_nil_of_length_eq_zero hl0
        subst hnil
        refine ⟨_, rfl, s_asS (s_call sortI_none ?_)⟩
        rintro _ _ ⟨⟨v, rfl⟩, rfl⟩
        refine ⟨_, rfl, ?_⟩
        refine h_drew H fun u H => h_ldM H (b := p) (by repeat (first | exact pick_head | apply pick_tail | apply pick_app)) rfl (h_ldI H (b := n7) (by repeat (first | exact pick_head | apply pick_tail | apply pick_app)) rfl (h_ldI H (b := n7) (by repeat (first | exact pick_head | apply pick_tail | apply pick_app)) rfl ?_))
        refine s_call (R := fun e w' => e = .returned (.slice none 0 0) ∧ u = w') ?_ ?_
        · apply c32
          exact s_true (by decide) (s_ret ⟨rfl, rfl⟩)
        rintro _ _ ⟨rfl, rfl⟩
        refine ⟨_, rfl, s_asS (s_chk (hc_cons H (b := n7) (by repeat (first | exact pick_head | apply pick_tail | apply pick_app)) rfl (hc_cons H (b := n7) (by repeat (first | exact pick_head | apply pick_tail | apply pick_app)) rfl (hc_cons H (b := p) (by repeat (first | exact pick_head | apply pick_tail | apply pick_app)) rfl c_nil))) ?_)⟩
        refine f_put (s := ⟨none, 0, 0⟩) (vf := vS) H (bk := bn) (o := on) (a := t) (kf := kfI) (by repeat (first | exact pick_head | apply pick_tail | apply pick_app)) hx keyedI mapN (fun x => kfI_inj) hln fun on' u2 hx' H => ?_
        obtain ⟨cn', hperm, hmf⟩ := hx'.close (c1 := []) (b := []) ⟨rfl, OwnC.nil⟩
        refine s_chk c_nil (s_ret (.inr (.inr ⟨hall, rfl, [], [cl p 44 (remC X bn bc), (bn, on'), (bc, oc)], cn' ++ cc, IsRis.nil, rfl, ⟨bn, bc, on', oc, cn', cc, rfl, rfl, hmf, hc, needB_ok hok List.Pairwise.nil (by simp)⟩, keepN hperm, ?_⟩)))
        have H1 : Has w0 u2 ([] ++ (cn ++ (cl p 44 (remC X bn bc) :: (bn, on') :: (bc, oc) :: (cc ++ m)))) := H.sub (by repeat (first | exact sb_refl | exact sb_nil | refine sb_cons (by repeat (first | exact pick_head | apply pick_tail | apply pick_app)) ?_ | refine sb_app (by repeat (first | exact cut_head | exact cut_all | apply cut_tail | apply cut_app)) ?_ | exact sb_one (by repeat (first | exact cut_head | exact cut_all | apply cut_tail | apply cut_app))))
        rw [← List.append_assoc] at H1
        have H2 : Has w0 u2 (cn' ++ (cl p 44 (remC X bn bc) :: (bn, on') :: (bc, oc) :: (cc ++ m))) := H1.perm (hperm.append_right _)
        simp only [List.cons_append, List.append_assoc, List.nil_append]
        exact H2.sub (by repeat (first | exact sb_refl | exact sb_nil | refine sb_cons (by repeat (first | exact pick_head | apply pick_tail | apply pick_app)) ?_ | refine sb_app (by repeat (first | exact cut_head | exact cut_all | apply cut_tail | apply cut_app)) ?_ | exact sb_one (by repeat (first | exact cut_head | exact cut_all | apply cut_tail | apply cut_app))))
      · refine ⟨_, rfl, s_asS (s_call (sortI_c (H.cells (by repeat (first | exact pick_head | apply pick_tail | apply pick_app))) (by omega)) ?_)⟩
        rintro _ u ⟨⟨v, rfl⟩, f2, s2, hperm2, hsorted, hcells⟩
        have H := H.updc (by repeat (first | exact pick_head | apply pick_tail | apply pick_app)) f2 hcells
        have hsl : s2.length = l.length := hperm2.length_eq
        refine ⟨_, rfl, h_drew H fun u H => h_ldM H (b := p) (by repeat (first | exact pick_head | apply pick_tail | apply pick_app)) rfl (h_ldI H (b := n7) (by repeat (first | exact pick_head | apply pick_tail | apply pick_app)) rfl (h_ldI H (b := n7) (by repeat (first | exact pick_head | apply pick_tail | apply pick_app)) rfl ?_))⟩
        rw [← hsl]
        have h3' : (ints l ++ sp).length = cap1 := by rw [hcap, Nat.mul_one]
        refine s_call (compactI_c (l := s2) (cap := cap1) (H.cells (by repeat (first | exact pick_head | apply pick_tail | apply pick_app))) (by rw [is_len, hsl, ← is_len]; exact h3') (by omega) (by omega)) ?_
        rintro _ u ⟨sp2, rfl, f3, hcs, hcap2⟩
        have H := H.updc (by repeat (first | exact pick_head | apply pick_tail | apply pick_app)) f3 hcs
        have hris : IsRis l (compN none s2) := comp_ris hperm2 hsorted
        have hcl := hris.len
        have hown : OwnN (compN none s2) ⟨some ⟨g, 0, none⟩, (compN none s2).length, cap1⟩ [cl g 3 (ints (compN none s2) ++ sp2)] := ⟨rfl, by rw [ints_len, Nat.mul_one], .inr ⟨g, cap1, sp2, rfl, rfl, by omega, hcm, by rw [hcap2, Nat.mul_one]⟩⟩
        refine ⟨_, rfl, s_asS (s_chk (hc_cons H (b := n7) (by repeat (first | exact pick_head | apply pick_tail | apply pick_app)) rfl (hc_cons H (b := n7) (by repeat (first | exact pick_head | apply pick_tail | apply pick_app)) rfl (hc_cons H (b := p) (by repeat (first | exact pick_head | apply pick_tail | apply pick_app)) rfl c_nil))) ?_)⟩
        refine f_put (s := ⟨some ⟨g, 0, none⟩, (compN none s2).length, cap1⟩) (vf := vS) H (bk := bn) (o := on) (a := t) (kf := kfI) (by repeat (first | exact pick_head | apply pick_tail | apply pick_app)) hx keyedI mapN (fun x => kfI_inj) hln fun on' u2 hx' H => ?_
        obtain ⟨cn', hperm, hmf⟩ := hx'.close (c1 := [cl g 3 (ints (compN none s2) ++ sp2)]) (b := compN none s2) hown
        refine s_chk c_nil (s_ret (.inr (.inr ⟨hall, rfl, compN none s2, [cl p 44 (remC X bn bc), (bn, on'), (bc, oc)], cn' ++ cc, hris, rfl, ⟨bn, bc, on', oc, cn', cc, rfl, rfl, hmf, hc, needB_ok hok hris.1 (fun x hx => hall x ((hris.2 x).1 hx))⟩, keepN hperm, ?_⟩)))
        have H1 : Has w0 u2 ([cl g 3 (ints (compN none s2) ++ sp2)] ++ (cn ++ (cl p 44 (remC X bn bc) :: (bn, on') :: (bc, oc) :: (cc ++ m)))) := H.sub (by repeat (first | exact sb_refl | exact sb_nil | refine sb_cons (by repeat (first | exact pick_head | apply pick_tail | apply pick_app)) ?_ | refine sb_app (by repeat (first | exact cut_head | exact cut_all | apply cut_tail | apply cut_app)) ?_ | exact sb_one (by repeat (first | exact cut_head | exact cut_all | apply cut_tail | apply cut_app))))
        rw [← List.append_assoc] at H1
        have H2 : Has w0 u2 (cn' ++ (cl p 44 (remC X bn bc) :: (bn, on') :: (bc, oc) :: (cc ++ m))) := H1.perm (hperm.append_right _)
        simp only [List.cons_append, List.append_assoc, List.nil_append]
        exact H2.sub (by repeat (first | exact sb_refl | exact sb_nil | refine sb_cons (by repeat (first | exact pick_head | apply pick_tail | apply pick_app)) ?_ | refine sb_app (by repeat (first | exact cut_head | exact cut_all | apply cut_tail | apply cut_app)) ?_ | exact sb_one (by repeat (first | exact cut_head | exact cut_all | apply cut_tail | apply cut_app))))
theorem need_c (H : Has w0 w (c ++ m)) (hB : BoxAt p X c) {t : Ix} (ht : InI t) (hl : ∀ u, Has w0 u m → ValsAt u o l) (hlen : n = l.length) (hsz : l.length * 8 ≤ 140737488355328) :
    Calls Tryz.prog 10 #[.pointer (some ⟨p, 0, none⟩), .agg ⟨ixr t⟩, .slice o n cap] w fun e w' =>
      ((¬ ∀ x ∈ l, 0 ≤ x ∧ x < X.parts) ∧ e = .returned (.int .i64 1) ∧ Has w0 w' (c ++ m)) ∨
      ((∀ x ∈ l, 0 ≤ x ∧ x < X.parts) ∧ (X.needs t).isSome = true ∧ e = .returned (.int .i64 5) ∧ Has w0 w' (c ++ m)) ∨
      ((∀ x ∈ l, 0 ≤ x ∧ x < X.parts) ∧ X.needs t = none ∧ ∃ s c', IsRis l s ∧ e = .returned (.int .i64 0) ∧ BoxAt p (needB X t s) c' ∧ Has w0 w' (c' ++ m)) := by
  obtain ⟨h, l1, rfl, hk⟩ := hB.k
  rw [List.append_assoc] at H ⊢
  refine (need_k H hk ht hl hlen hsz).mono ?_
  rintro e u (h1 | h1 | ⟨h1, h2, s, h', l', h3, h4, h5, _, h6⟩)
  · exact .inl h1
  · exact .inr (.inl h1)
  · exact .inr (.inr ⟨h1, h2, s, h' ++ l', h3, h4, h5.at, by rw [List.append_assoc]; exact h6⟩)
end
end Go.Proofs.YtpjcfnnnciknmaaGreat
