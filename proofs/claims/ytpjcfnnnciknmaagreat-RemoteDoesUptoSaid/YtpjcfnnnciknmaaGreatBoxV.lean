/- A box: Values. -/
import Derived.Test.YtpjcfnnnciknmaaGreatBoxN
set_option linter.unusedVariables false
set_option linter.unusedSimpArgs false
set_option maxRecDepth 100000
set_option maxHeartbeats 8000000
namespace Go.Proofs.YtpjcfnnnciknmaaGreat
open Go hiding Expr
open Go.RowKit Tr

def valsL (X : BX) (t : Ix) (L : List Int) : List PR := L.flatMap (fun n => (X.came (t, n)).getD [])
def flatV (X : BX) (t : Ix) : List PR := valsL X t ((X.needs t).getD [])
theorem elemLP : Elem Tryz.prog 78 34 (.slice none 0 0) 1 24 := ⟨by kernel_rfl, by kernel_rfl, rfl, by decide⟩
theorem plr_one (ls : List PL) : ∀ r ∈ ls.map plr, ∀ u ∈ r, u.oneCell' = true := by
  intro r hr u hu
  obtain ⟨x, _, rfl⟩ := List.mem_map.1 hr
  simp [plr] at hu
  subst hu
  rfl
section
variable {w : World} {p : Nat} {X : BX}
theorem values_c (h : BoxW w p X) {t : Ix} (ht : InI t) (hsz : (flatV X t).length * 24 ≤ 140737488355328) : Calls Tryz.prog 11 #[.pointer (some ⟨p, 0, none⟩), .agg ⟨ixr t⟩] w fun e w' =>
    (readyB X t = false ∧ e = .returned (.tuple #[.slice none 0 0, .int .i64 4]) ∧ Fr [] w w') ∨
    (readyB X t = true ∧ ∃ out v c, IsPairs (flatV X t) out ∧ e = .returned (.tuple #[v, .int .i64 0]) ∧ OwnC 53 3 v out.length (encP out) c ∧ Has w w' c) := by
  have hB := h
  obtain ⟨c, ⟨bn, bc, on, oc, cn, cc, rfl, hn, hc, hok⟩, HL0⟩ := h
  obtain ⟨ln, hln⟩ := keyOfI ht
  obtain ⟨s, c2, hx, e1, e2, e3, e4⟩ := open_n (t := t) hn HL0 (by repeat (first | exact cut_head | exact cut_all | apply cut_tail | apply cut_app))
  apply c11
  refine h_new (Has.init w) fun n4 u H => s_call (none_c (boxFr hB H.base)) ?_
  rintro _ _ ⟨rfl, rfl⟩
  refine ⟨_, rfl, s_asB (s_false rfl (h_ldI H (b := n4) (by repeat (first | exact pick_head | apply pick_tail | apply pick_app)) rfl (h_ldI H (b := n4) (by repeat (first | exact pick_head | apply pick_tail | apply pick_app)) rfl (s_call (ready_c (boxFr hB H.base) ht) ?_))))⟩
  rintro _ u ⟨rfl, f⟩
  have H := H.fr0 f
  refine ⟨_, rfl, s_asB (s_ite (fun g => ?_) (fun g => ?_))⟩
  · have g : readyB X t = false := by simpa using g
    exact s_ret (.inl ⟨g, rfl, H.base⟩)
  have g : readyB X t = true := by simpa using g
  refine h_drew H fun u H => ?_
  have HL := HL0.fr0 H.base
  refine h_ldM HL (by repeat (first | exact pick_head | apply pick_tail | apply pick_app)) rfl (h_ldI H (b := n4) (by repeat (first | exact pick_head | apply pick_tail | apply pick_app)) rfl (h_ldI H (b := n4) (by repeat (first | exact pick_head | apply pick_tail | apply pick_app)) rfl ?_))
  refine f_look1 HL (bk := bn) (o := on) (a := t) (kf := kfI) (by repeat (first | exact pick_head | apply pick_tail | apply pick_app)) hx keyedI mapN (zeroN u) (fun x => kfI_inj) hln ?_
  rw [e1]
  have hl8 : ((X.needs t).getD []).length ≤ 8 := by
    cases hq : X.needs t with
    | none => simp
    | some l => exact hok.len hq
  unfold flatV at hsz ⊢
  generalize hL : (X.needs t).getD [] = L at e3 e4 hl8 hsz
  have hin : ∀ n ∈ L, 0 ≤ n ∧ n < X.parts := by
    intro n hn'
    rw [← hL] at hn'
    cases hq : X.needs t with
    | none => rw [hq] at hn'; simp at hn'
    | some l => rw [hq] at hn'; exact (hok.needs t l hq).2 n hn'
  unfold vS
  refine s_asS (s_chk c_nil ?_)
  refine s_loop (fun vs W => ∃ (i : Nat) (v : Value) (c : Hp) (ls : List PL), vs = [v, .int .i64 i] ∧ i ≤ L.length ∧ ls.length = i ∧ flatP ls = valsL X t (L.take i) ∧ (∀ x ∈ ls, PairsAt w x.o x.l ∧ ∀ q ∈ x.l, InK q.k) ∧ OwnC 34 1 v i ((ls.map plr).flatten) c ∧ Has w W (c ++ [cl n4 32 (ixr t)])) (fun vs _ => L.length - (intOf (vs.getD 1 undef)).toNat)
    ⟨0, _, [], [], rfl, by omega, rfl, rfl, by simp, OwnC.nil, H.sub (by repeat (first | exact sb_refl | exact sb_nil | refine sb_cons (by repeat (first | exact pick_head | apply pick_tail | apply pick_app)) ?_ | refine sb_app (by repeat (first | exact cut_head | exact cut_all | apply cut_tail | apply cut_app)) ?_ | exact sb_one (by repeat (first | exact cut_head | exact cut_all | apply cut_tail | apply cut_app))))⟩ ?_
  clear H HL hx f
  rintro _ j W ⟨i, v, c, ls, rfl, hi, hll, hfl, hat, ho, H⟩
  obtain ⟨ov, cv, rfl⟩ := ho.slice
  refine s_asS (s_asI (s_ite (fun g1 => ?_) (fun g1 => ?_)))
  · simp only [decide_eq_true_eq] at g1
    have hlt : i < L.length := by omega
    obtain ⟨x, hx⟩ : ∃ x, L[i]? = some x := ⟨_, List.getElem?_eq_getElem hlt⟩
    have hxin := hin x (List.mem_of_getElem? hx)
    have hp1 := hok.p1
    obtain ⟨g2, off, he, q1⟩ := (e4.fr0 H.base).get hx
    refine s_req ⟨by omega, by omega⟩ ⟨g2, off, he, s_loadI q1 (h_drew H fun u H => ?_)⟩
    obtain ⟨s', c2', hx', f1, f2, f3, f4⟩ := open_c (t := (t, x)) hc HL0 (by repeat (first | exact cut_head | exact cut_all | apply cut_tail | apply cut_app))
    have HL := HL0.fr0 H.base
    obtain ⟨lf, hlf⟩ := keyOfF (f := (t, x)) ⟨ht, by simp only; omega, by simp only; omega⟩
    refine h_ldM HL (by repeat (first | exact pick_head | apply pick_tail | apply pick_app)) rfl (h_ldI H (b := n4) (by repeat (first | exact pick_head | apply pick_tail | apply pick_app)) rfl (h_ldI H (b := n4) (by repeat (first | exact pick_head | apply pick_tail | apply pick_app)) rfl ?_))
    refine f_look1 HL (bk := bc) (o := oc) (a := (t, x)) (kf := kfF) (by repeat (first | exact pick_head | apply pick_tail | apply pick_app)) hx' keyedF mapC (zeroC u) (fun x => kfF_inj) hlf ?_
    rw [f1]
    unfold vS
    refine s_asS (s_chk (hc_cons H (b := n4) (by repeat (first | exact pick_head | apply pick_tail | apply pick_app)) rfl (hc_cons H (b := n4) (by repeat (first | exact pick_head | apply pick_tail | apply pick_app)) rfl c_nil)) ?_)
    rw [f3]
    (refine h_new H fun n34 u H => ?_)
    refine s_chk (hc_cons H (b := n4) (by repeat (first | exact pick_head | apply pick_tail | apply pick_app)) rfl (hc_cons H (b := n4) (by repeat (first | exact pick_head | apply pick_tail | apply pick_app)) rfl c_nil)) ?_
    refine h_app1 elemLP H (by repeat (first | exact cut_head | exact cut_all | apply cut_tail | apply cut_app)) ho (by repeat (first | exact pick_head | apply pick_tail | apply pick_app)) rfl (by intro u hu; simp at hu; subst hu; rfl) (by omega) (by omega) ?_
    intro v' c' u ho' H
    obtain ⟨o', cap', rfl⟩ := ho'.slice
    refine s_asS (s_chk (hc_cons H (b := n4) (by repeat (first | exact pick_head | apply pick_tail | apply pick_app)) rfl (hc_cons H (b := n4) (by repeat (first | exact pick_head | apply pick_tail | apply pick_app)) rfl c_nil)) (s_next (by first | exact ⟨rfl, rfl⟩ | trivial) ?_))
    simp (config := { decide := true }) only [if_true, if_false]
    refine ⟨⟨i + 1, _, c', ls ++ [⟨(s'.getD ⟨none, 0, 0⟩).o, (s'.getD ⟨none, 0, 0⟩).c, (X.came (t, x)).getD []⟩], by rw [w_succ (by omega)], by omega, by simp [hll], ?_, ?_, ?_, H.sub (by repeat (first | exact sb_refl | exact sb_nil | refine sb_cons (by repeat (first | exact pick_head | apply pick_tail | apply pick_app)) ?_ | refine sb_app (by repeat (first | exact cut_head | exact cut_all | apply cut_tail | apply cut_app)) ?_ | exact sb_one (by repeat (first | exact cut_head | exact cut_all | apply cut_tail | apply cut_app))))⟩, by rw [w_succ (by omega)]; simp [intOf] <;> omega⟩
    · rw [flatP_snoc, hfl, List.take_add_one, hx, Option.toList_some]
      simp [valsL]
    · intro y hy
      rcases List.mem_append.1 hy with hy | hy
      · exact hat y hy
      · simp at hy
        subst hy
        refine ⟨f4, fun q hq => ?_⟩
        simp only at hq
        cases hcm : X.came (t, x) with
        | none => rw [hcm] at hq; simp at hq
        | some l0 => rw [hcm] at hq; exact (hok.came _ _ hcm).1 q hq
    · rw [List.map_append, List.flatten_append]
      exact ho'
  · simp only [decide_eq_false_iff_not] at g1
    have htl : L.take i = L := List.take_of_length_le (by omega)
    rw [htl] at hfl
    have hPL : PLAt W ov ls := ⟨rowsAt_own (plr1 ls) (by decide) ho H (by repeat (first | exact cut_head | exact cut_all | apply cut_tail | apply cut_app)), fun y hy => (hat y hy).1.fr0 H.base⟩
    rw [← hfl] at hsz ⊢
    refine s_call (merge_c hPL ?_ hll.symm hsz (by omega)) ?_
    · intro q hq
      unfold flatP at hq
      obtain ⟨l, hl, hq⟩ := List.mem_flatten.1 hq
      obtain ⟨y, hy, rfl⟩ := List.mem_map.1 hl
      exact (hat y hy).2 q hq
    rintro _ u ⟨out, v, c3, hp, rfl, ho3, H3⟩
    have H := H.join H3
    obtain ⟨o3, cap3, rfl⟩ := ho3.slice
    exact ⟨_, rfl, s_asS (s_ret (.inr ⟨g, out, _, c3, hp, rfl, ho3, H.sub (by repeat (first | exact sb_refl | exact sb_nil | refine sb_cons (by repeat (first | exact pick_head | apply pick_tail | apply pick_app)) ?_ | refine sb_app (by repeat (first | exact cut_head | exact cut_all | apply cut_tail | apply cut_app)) ?_ | exact sb_one (by repeat (first | exact cut_head | exact cut_all | apply cut_tail | apply cut_app))))⟩))⟩
end
end Go.Proofs.YtpjcfnnnciknmaaGreat
