/- RemoteOther: the walk. -/
import Derived.Test.YtpjcfnnnciknmaaBegun
import Derived.Test.YtpjcfnnnciknmaaPairsR
set_option linter.unusedVariables false
set_option linter.unusedSimpArgs false
set_option maxRecDepth 100000
set_option maxHeartbeats 8000000
namespace Go.Proofs.Ytpjcfnnnciknmaa
open Go hiding Expr
open Go.RowKit Tr

theorem encP_setV {l : List PR} {i : Nat} {x : PR} {v : Int} (h : l[i]? = some x) : (encP l).set (i * 3 + 2) (.int .i64 v) = encP (l.set i ⟨x.k, v⟩) := by
  induction l generalizing i with
  | nil => simp at h
  | cons y r ih =>
    cases i with
    | zero =>
      simp at h
      subst h
      simp [encP, pr]
    | succ i =>
      simp only [List.getElem?_cons_succ] at h
      have := ih h
      have e : (i + 1) * 3 + 2 = (i * 3 + 2) + 1 + 1 + 1 := by omega
      rw [e]
      simp only [encP, List.map_cons, List.flatten_cons, pr, List.cons_append, List.nil_append, List.set_cons_succ] at this ⊢
      rw [this]
def tO : Ix := ⟨1, 0⟩
theorem inI_o : InI tO := by unfold InI tO; decide
def O1 (a : List PR) : BX := cameB (emptyB 2) (tO, 1) a
def O2 (a : List PR) : BX := needB (O1 a) tO [1]
theorem o1_came (a : List PR) : (O1 a).came (tO, 1) = some a := by
  show upd (emptyB 2).came (tO, 1) (some a) (tO, 1) = some a
  unfold upd
  rw [if_pos rfl]
theorem o1_all {a : List PR} {k : Fx} {l : List PR} (h : (O1 a).came k = some l) : l = a := by
  have h : upd (emptyB 2).came (tO, 1) (some a) k = some l := h
  unfold upd at h
  split at h
  · exact (Option.some.inj h).symm
  · cases h
theorem o1_idem (a : List PR) : cameB (O1 a) (tO, 1) a = O1 a := by
  have : upd (O1 a).came (tO, 1) (some a) = (O1 a).came := by
    funext k
    show upd (upd (emptyB 2).came (tO, 1) (some a)) (tO, 1) (some a) k = upd (emptyB 2).came (tO, 1) (some a) k
    unfold upd
    split <;> rfl
  unfold cameB
  rw [this]
theorem o1_sz {a : List PR} (h : a.length ≤ 5864062014805) : BxSz (O1 a) := fun k l hl => by rw [o1_all hl]; exact h
theorem o1_ready (a : List PR) : readyB (O1 a) tO = false := rfl
theorem o2_ready (a : List PR) : readyB (O2 a) tO = true := by
  have h1 : (O2 a).needs tO = some [1] := by
    show upd (O1 a).needs tO (some [1]) tO = some [1]
    unfold upd
    rw [if_pos rfl]
  have h2 : (O2 a).came (tO, 1) = some a := o1_came a
  unfold readyB missL
  rw [h1]
  simp [h2]
theorem o2_flat (a : List PR) : flatV (O2 a) tO = a := by
  have h1 : (O2 a).needs tO = some [1] := by
    show upd (O1 a).needs tO (some [1]) tO = some [1]
    unfold upd
    rw [if_pos rfl]
  have h2 : (O2 a).came (tO, 1) = some a := o1_came a
  unfold flatV valsL
  rw [h1]
  simp [h2]

section
variable {w : World} {oa ob : Option Addr} {a b : List PR}
theorem other_c {na ca nb cb : Nat} (ha : PairsAt w oa a) (ina : ∀ p ∈ a, InK p.k) (hna : na = a.length) (fa : a.length * 24 ≤ 140737488355328) (hb : PairsAt w ob b) (inb : ∀ p ∈ b, InK p.k) (hnb : nb = b.length) (fb : b.length * 24 ≤ 140737488355328) :
    Calls Try.prog 3 #[.slice oa na ca, .slice ob nb cb] w fun e w' => e = .returned (.bool true) ∧ Fr [] w w' := by
  apply c3
  refine s_call (new_c (n := 2) (by decide) (by decide)) ?_
  rintro _ u ⟨p, c, rfl, hB, H⟩
  refine ⟨_, rfl, s_asU (s_req rfl (s_asP (s_asI ?_)))⟩
  (refine h_new H fun n10 u H => ?_)
  iterate 2 refine h_st H (by repeat (first | exact pick_head | apply pick_tail | apply pick_app)) (by first | (simp; done) | exact Nat.le_of_ble_eq_true rfl) rfl fun u H => ?_
  refine s_blk (fun vs W => Has w W (c ++ [cl n10 28 (ixr tO)])) ?_ ?_
  · clear H
    rintro _ j W H
    refine h_ldI H (b := n10) (by repeat (first | exact pick_head | apply pick_tail | apply pick_app)) rfl (h_ldI H (b := n10) (by repeat (first | exact pick_head | apply pick_tail | apply pick_app)) rfl ?_)
    have H0 : Has W W [] := Has.init W
    refine s_call (put_c (t := tO) (n := 1) H hB (fun k l h => by cases h) inI_o (by omega) (l := a) (fun u Hm => ha.fr0 Hm.base) ina hna fa) ?_
    rintro _ u (⟨hv, _, _⟩ | ⟨_, A, hpA, (⟨⟨l0, hl0, _⟩, _, _⟩ | ⟨_, c1, rfl, hB1, H⟩)⟩)
    · exact absurd ⟨by omega, by decide⟩ hv
    · cases hl0
    have hAl : A.length ≤ 5864062014805 := by have := hpA.len; omega
    clear hB
    refine ⟨_, rfl, s_asU (s_req rfl (s_asB (s_asI ?_)))⟩
    refine h_ldI H (b := n10) (by repeat (first | exact pick_head | apply pick_tail | apply pick_app)) rfl (h_ldI H (b := n10) (by repeat (first | exact pick_head | apply pick_tail | apply pick_app)) rfl ?_)
    have hB1 : BoxAt p (O1 A) c1 := hB1
    have step : ∀ {R : Ending → World → Prop}, True → True := fun _ => trivial
    refine s_call (R := fun e w' => ∃ B, IsPairs b B ∧ ∃ c2, e = .returned (.tuple #[.bool false, .int .i64 (if A = B then 0 else 180)]) ∧ BoxAt p (O1 A) c2 ∧ Has w w' (c2 ++ [cl n10 28 (ixr tO)])) ?_ ?_
    · refine (put_c (t := tO) (n := 1) H hB1 (o1_sz hAl) inI_o (by omega) (l := b) (fun u Hm => hb.fr0 Hm.base) inb hnb fb).mono ?_
      rintro e u (⟨hv, _, _⟩ | ⟨_, B, hpB, (⟨⟨l0, hl0, hne⟩, rfl, H⟩ | ⟨hsame, c2, rfl, hB2, H⟩)⟩)
      · exact absurd ⟨by omega, by show (1 : Int) < 2; decide⟩ hv
      · have e1 := (o1_all hl0).symm
        subst e1
        exact ⟨B, hpB, c1, by rw [if_neg hne], hB1, H⟩
      · have e1 := hsame A (o1_came A)
        subst e1
        rw [o1_idem] at hB2
        exact ⟨A, hpB, c2, by rw [if_pos rfl, o1_idem, o1_ready], hB2, H⟩
    clear H0 step
    rintro _ u ⟨B, hpB, c2, rfl, hB2, H⟩
    refine ⟨_, rfl, s_asU (s_req rfl (s_asB (s_asI ?_)))⟩
    refine s_call (rpairs_c (ha.fr0 H.base) hna fa) ?_
    rintro _ u ⟨A', vA, cA, hpA', rfl, hoA, HA⟩
    have e1 := hpA.uniq hpA'
    subst e1
    have H := H.join HA
    obtain ⟨o26, cap26, rfl⟩ := hoA.slice
    refine ⟨_, rfl, s_asS (s_call (rpairs_c (hb.fr0 H.base) hnb fb) ?_)⟩
    rintro _ u ⟨B', vB, cB, hpB', rfl, hoB, HB⟩
    have e1 := hpB.uniq hpB'
    subst e1
    have H := H.join HB
    obtain ⟨o30, cap30, rfl⟩ := hoB.slice
    refine ⟨_, rfl, s_asS (s_call (same_pairs_c (pairsAt_own hoA H (by repeat (first | exact cut_head | exact cut_all | apply cut_tail | apply cut_app))) (pairsAt_own hoB H (by repeat (first | exact cut_head | exact cut_all | apply cut_tail | apply cut_app))) rfl rfl (by omega)) ?_)⟩
    rintro _ u ⟨rfl, f⟩
    have H := H.fr0 f
    refine ⟨_, rfl, s_asB ?_⟩
    have H : Has w u (c2 ++ [cl n10 28 (ixr tO)]) := H.sub (by repeat (first | exact sb_refl | exact sb_nil | refine sb_cons (by repeat (first | exact pick_head | apply pick_tail | apply pick_app)) ?_ | refine sb_app (by repeat (first | exact cut_head | exact cut_all | apply cut_tail | apply cut_app)) ?_ | exact sb_one (by repeat (first | exact cut_head | exact cut_all | apply cut_tail | apply cut_app))))
    clear hoA HA hoB HB hB1
    refine s_blk (fun vs W => vs = [] ∧ ∃ c3, BoxAt p (O2 A) c3 ∧ Has w W (c3 ++ [cl n10 28 (ixr tO)])) ?_ ?_
    · clear H hB2
      rintro _ j W ⟨rfl, c3, hB3, H⟩
      have hsz : (flatV (O2 A) tO).length * 24 ≤ 140737488355328 := by rw [o2_flat]; omega
      refine h_ldI H (b := n10) (by repeat (first | exact pick_head | apply pick_tail | apply pick_app)) rfl (h_ldI H (b := n10) (by repeat (first | exact pick_head | apply pick_tail | apply pick_app)) rfl ?_)
      refine s_call (values_c (X := O2 A) (t := tO) (boxW_of H (by repeat (first | exact cut_head | exact cut_all | apply cut_tail | apply cut_app)) hB3) inI_o hsz) ?_
      rintro _ u (⟨hr, _, _⟩ | ⟨_, out, v, c4, hp, rfl, ho, H4⟩)
      · rw [o2_ready] at hr; cases hr
      rw [o2_flat] at hp
      have e1 := hpA.idem.uniq hp
      subst e1
      obtain ⟨o41, cap41, rfl⟩ := ho.slice
      have H := H.join H4
      refine ⟨_, rfl, s_asU (s_req rfl (s_asS (s_asI ?_)))⟩
      refine s_blk (fun vs W => Has w W (c4 ++ (c3 ++ [cl n10 28 (ixr tO)]))) ?_ ?_
      · clear H H4
        rintro _ j W H
        refine s_loop (fun vs W => ∃ (i : Nat) (l' : List PR) (c5 : Hp), vs = [.int .i64 i] ∧ i ≤ A.length ∧ l'.length = A.length ∧ OwnC 40 3 (.slice o41 A.length cap41) A.length (encP l') c5 ∧ Has w W (c5 ++ (c3 ++ [cl n10 28 (ixr tO)]))) (fun vs _ => A.length - (intOf (vs.getD 0 undef)).toNat)
          ⟨0, A, c4, rfl, by omega, rfl, ho, H⟩ ?_
        clear H ho
        rintro _ j W ⟨i, l', c5, rfl, hi, hl', ho, H⟩
        refine s_asI (s_ite (fun g1 => ?_) (fun g1 => ?_))
        · simp only [decide_eq_true_eq] at g1
          obtain ⟨x, hx⟩ : ∃ x, l'[i]? = some x := ⟨_, List.getElem?_eq_getElem (by omega)⟩
          have hP : PairsAt W o41 l' := pairsAt_own ho H (by repeat (first | exact cut_head | exact cut_all | apply cut_tail | apply cut_app))
          obtain ⟨g, off, rfl, _, _, q3⟩ := hP.get hx
          refine s_req ⟨by omega, by omega⟩ (s_sm (s_loadI q3 (s_req ⟨by omega, by omega⟩ (s_sm ?_))))
          refine h_stC H (by repeat (first | exact cut_head | exact cut_all | apply cut_tail | apply cut_app)) ho (i := i) (f := 2) (by rw [encP_len]; omega) rfl fun c6 u ho H => ?_
          rw [encP_setV hx] at ho
          refine s_next (by first | exact ⟨rfl, rfl⟩ | trivial) ?_
          simp (config := { decide := true }) only [if_true, if_false]
          exact ⟨⟨i + 1, _, c6, by rw [w_succ (by omega)], by omega, by rw [List.length_set]; exact hl', ho, H.sub (by repeat (first | exact sb_refl | exact sb_nil | refine sb_cons (by repeat (first | exact pick_head | apply pick_tail | apply pick_app)) ?_ | refine sb_app (by repeat (first | exact cut_head | exact cut_all | apply cut_tail | apply cut_app)) ?_ | exact sb_one (by repeat (first | exact cut_head | exact cut_all | apply cut_tail | apply cut_app))))⟩, by rw [w_succ (by omega)]; simp [intOf] <;> omega⟩
        · simp only [decide_eq_false_iff_not] at g1
          refine h_ldI H (b := n10) (by repeat (first | exact pick_head | apply pick_tail | apply pick_app)) rfl (h_ldI H (b := n10) (by repeat (first | exact pick_head | apply pick_tail | apply pick_app)) rfl ?_)
          refine s_call (values_c (X := O2 A) (t := tO) (boxW_of H (by repeat (first | exact cut_head | exact cut_all | apply cut_tail | apply cut_app)) hB3) inI_o hsz) ?_
          rintro _ u (⟨hr, _, _⟩ | ⟨_, out, v, c7, hp, rfl, ho7, H7⟩)
          · rw [o2_ready] at hr; cases hr
          rw [o2_flat] at hp
          have e1 := hpA.idem.uniq hp
          subst e1
          obtain ⟨o59, cap59, rfl⟩ := ho7.slice
          have H := H.join H7
          refine ⟨_, rfl, s_asU (s_req rfl (s_asS (s_asI (s_call (rpairs_c (ha.fr0 H.base) hna fa) ?_))))⟩
          rintro _ u ⟨A', vA, cA, hpA', rfl, hoA, HA⟩
          have e1 := hpA.uniq hpA'
          subst e1
          have H := H.join HA
          obtain ⟨o64, cap64, rfl⟩ := hoA.slice
          refine ⟨_, rfl, s_asS (s_call (same_pairs_c (pairsAt_own ho7 H (by repeat (first | exact cut_head | exact cut_all | apply cut_tail | apply cut_app))) (pairsAt_own hoA H (by repeat (first | exact cut_head | exact cut_all | apply cut_tail | apply cut_app))) rfl rfl (by omega)) ?_)⟩
          rintro _ u ⟨rfl, f⟩
          rw [decide_eq_true rfl]
          exact ⟨_, rfl, s_asB (s_ret ⟨rfl, (H.fr0 f).base⟩)⟩
      · refine s_false rfl (s_call (rpairs_c (ha.fr0 H.base) hna fa) ?_)
        rintro _ u ⟨A', vA, cA, hpA', rfl, hoA, HA⟩
        have e1 := hpA.uniq hpA'
        subst e1
        have H := H.join HA
        obtain ⟨o70, cap70, rfl⟩ := hoA.slice
        refine ⟨_, rfl, s_asS (s_call (same_pairs_c (pairsAt_own ho H (by repeat (first | exact cut_head | exact cut_all | apply cut_tail | apply cut_app))) (pairsAt_own hoA H (by repeat (first | exact cut_head | exact cut_all | apply cut_tail | apply cut_app))) rfl rfl (by omega)) ?_)⟩
        rintro _ u ⟨rfl, f⟩
        rw [decide_eq_true rfl]
        exact ⟨_, rfl, s_asB (s_false rfl (s_next ⟨rfl, rfl⟩ ((H.fr0 f).sub (by repeat (first | exact sb_refl | exact sb_nil | refine sb_cons (by repeat (first | exact pick_head | apply pick_tail | apply pick_app)) ?_ | refine sb_app (by repeat (first | exact cut_head | exact cut_all | apply cut_tail | apply cut_app)) ?_ | exact sb_one (by repeat (first | exact cut_head | exact cut_all | apply cut_tail | apply cut_app)))))))⟩
    · refine s_false rfl (s_false rfl (s_false rfl ?_))
      by_cases hAB : A = B
      · rw [if_pos hAB, decide_eq_true hAB]
        refine s_false rfl (s_false rfl ?_)
        refine h_ldI H (b := n10) (by repeat (first | exact pick_head | apply pick_tail | apply pick_app)) rfl (h_ldI H (b := n10) (by repeat (first | exact pick_head | apply pick_tail | apply pick_app)) rfl ?_)
        (refine h_new H fun n77 u H => ?_)
        have H1 : Has w u (c2 ++ (cl n77 3 (ints [1]) :: [cl n10 28 (ixr tO)])) := H.sub (by repeat (first | exact sb_refl | exact sb_nil | refine sb_cons (by repeat (first | exact pick_head | apply pick_tail | apply pick_app)) ?_ | refine sb_app (by repeat (first | exact cut_head | exact cut_all | apply cut_tail | apply cut_app)) ?_ | exact sb_one (by repeat (first | exact cut_head | exact cut_all | apply cut_tail | apply cut_app))))
        refine s_call (need_c (X := O1 A) (t := tO) H1 hB2 inI_o (l := [1]) (fun u Hm => rowsAt_cells (ir1 _) (sp := []) (Hm.cells (b := n77) (by rw [List.append_nil]; exact pick_head))) rfl (by decide)) ?_
        rintro _ u (⟨hv, _, _⟩ | ⟨_, hs, _, _⟩ | ⟨_, _, s, c3, hris, rfl, hB3, H⟩)
        · exact absurd (by intro x hx; simp at hx; subst hx; exact ⟨by decide, by show (1 : Int) < 2; decide⟩) hv
        · cases hs
        have e := hris.uniq ⟨by simp, fun x => Iff.rfl⟩
        subst e
        exact ⟨_, rfl, s_asI (s_false rfl (s_next ⟨rfl, rfl⟩ ⟨rfl, c3, hB3, H.sub (by repeat (first | exact sb_refl | exact sb_nil | refine sb_cons (by repeat (first | exact pick_head | apply pick_tail | apply pick_app)) ?_ | refine sb_app (by repeat (first | exact cut_head | exact cut_all | apply cut_tail | apply cut_app)) ?_ | exact sb_one (by repeat (first | exact cut_head | exact cut_all | apply cut_tail | apply cut_app))))⟩))⟩
      · rw [if_neg hAB, decide_eq_false hAB]
        refine s_false rfl (s_true rfl (s_false rfl ?_))
        refine h_ldI H (b := n10) (by repeat (first | exact pick_head | apply pick_tail | apply pick_app)) rfl (h_ldI H (b := n10) (by repeat (first | exact pick_head | apply pick_tail | apply pick_app)) rfl ?_)
        (refine h_new H fun n77 u H => ?_)
        have H1 : Has w u (c2 ++ (cl n77 3 (ints [1]) :: [cl n10 28 (ixr tO)])) := H.sub (by repeat (first | exact sb_refl | exact sb_nil | refine sb_cons (by repeat (first | exact pick_head | apply pick_tail | apply pick_app)) ?_ | refine sb_app (by repeat (first | exact cut_head | exact cut_all | apply cut_tail | apply cut_app)) ?_ | exact sb_one (by repeat (first | exact cut_head | exact cut_all | apply cut_tail | apply cut_app))))
        refine s_call (need_c (X := O1 A) (t := tO) H1 hB2 inI_o (l := [1]) (fun u Hm => rowsAt_cells (ir1 _) (sp := []) (Hm.cells (b := n77) (by rw [List.append_nil]; exact pick_head))) rfl (by decide)) ?_
        rintro _ u (⟨hv, _, _⟩ | ⟨_, hs, _, _⟩ | ⟨_, _, s, c3, hris, rfl, hB3, H⟩)
        · exact absurd (by intro x hx; simp at hx; subst hx; exact ⟨by decide, by show (1 : Int) < 2; decide⟩) hv
        · cases hs
        have e := hris.uniq ⟨by simp, fun x => Iff.rfl⟩
        subst e
        exact ⟨_, rfl, s_asI (s_false rfl (s_next ⟨rfl, rfl⟩ ⟨rfl, c3, hB3, H.sub (by repeat (first | exact sb_refl | exact sb_nil | refine sb_cons (by repeat (first | exact pick_head | apply pick_tail | apply pick_app)) ?_ | refine sb_app (by repeat (first | exact cut_head | exact cut_all | apply cut_tail | apply cut_app)) ?_ | exact sb_one (by repeat (first | exact cut_head | exact cut_all | apply cut_tail | apply cut_app))))⟩))⟩
  · refine s_call begun_c ?_
    rintro _ u ⟨rfl, f⟩
    have H := H.fr0 f
    exact ⟨_, rfl, s_asB (s_false rfl (s_false rfl (s_false rfl (s_next ⟨rfl, rfl⟩ (H.sub (by repeat (first | exact sb_refl | exact sb_nil | refine sb_cons (by repeat (first | exact pick_head | apply pick_tail | apply pick_app)) ?_ | refine sb_app (by repeat (first | exact cut_head | exact cut_all | apply cut_tail | apply cut_app)) ?_ | exact sb_one (by repeat (first | exact cut_head | exact cut_all | apply cut_tail | apply cut_app)))))))))⟩
end
end Go.Proofs.Ytpjcfnnnciknmaa
