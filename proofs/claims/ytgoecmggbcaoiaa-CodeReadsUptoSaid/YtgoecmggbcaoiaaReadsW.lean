/- What any bytes are as instructions: the walk. -/
import Derived.Test.YtgoecmggbcaoiaaRReachM
set_option linter.unusedVariables false
set_option linter.unusedSimpArgs false
set_option maxRecDepth 100000
set_option maxHeartbeats 8000000
namespace Go.Proofs.Ytgoecmggbcaoiaa
open Go hiding Expr
open Go.RowKit Tr

theorem outP_le {l : List Ins} {seen : List Bool} : (outP l seen).length ≤ l.length := by
  unfold outP
  rw [List.length_map]
  refine Nat.le_trans (List.length_filter_le _ _) ?_
  rw [List.length_zip]
  omega

section
variable {w w' w0 : World} {m m' c : Hp} {bs : List Int} {o o2 : Option Addr} {cap cap2 n p : Nat} {stop at_ : Int}

theorem walks_c (H : Has w0 w m) (hK : ∀ u, Has w0 u m → Cells u p 23 [.slice o bs.length cap] ∧ BytAt u o bs) (hv : ∀ u, Has w0 u m → InsAt u o2 (walkP bs).1) (hn : n = (walkP bs).1.length)
    (hu : ∀ x ∈ bs, 0 ≤ x ∧ x ≤ 255) (hc : bs.length ≤ cap) (hl : bs.length ≤ 1048576) :
    Calls Try.prog 30 #[.func (.func 47) #[] #[.pointer (some ⟨p, 0, none⟩)], .slice o2 n cap2, .int .i64 stop] w fun e w' => e = .returned (.bool true) ∧ Has w0 w' m := by
  subst hn
  apply c30
  have htl : (toldW bs).length = (walkP bs).1.length := by simp [toldW]
  have hwl : (walkP bs).1.length ≤ bs.length := by
    have := walk_len (bs := bs) (at_ := 0) (by omega) (by omega)
    show (walkA bs 0).1.length ≤ _
    omega
  (refine h_new H fun n6 u H => ?_)
  (refine h_new H fun n7 u H => ?_)
  (refine h_new H fun n8 u H => ?_)
  (refine h_new H fun n9 u H => ?_)
  refine h_st H (by repeat (first | exact pick_head | apply pick_tail | apply pick_app)) (by simp) rfl fun u H => ?_
  have Hm : Has w0 u m := H.sub (by repeat (first | exact sb_refl | exact sb_nil | refine sb_cons (by repeat (first | exact pick_head | apply pick_tail | apply pick_app)) ?_ | refine sb_app (by repeat (first | exact cut_head | exact cut_all | apply cut_tail | apply cut_app)) ?_ | exact sb_one (by repeat (first | exact cut_head | exact cut_all | apply cut_tail | apply cut_app))))
  refine h_rf (walk_seq (p := p) (o := o) (cap := cap) hu hc (by omega)) H (fun i mi => i ≤ (walkP bs).1.length ∧ mi = cl n9 3 [.int .i64 (i : Int)] :: cl n8 4 [.bool false] :: cl n7 3 [.int .i64 stop] :: cl n6 22 [.slice o2 (walkP bs).1.length cap2] :: m)
    (fun mi => ∃ z, mi = cl n9 3 [.int .i64 z] :: cl n8 4 [.bool true] :: cl n7 3 [.int .i64 stop] :: cl n6 22 [.slice o2 (walkP bs).1.length cap2] :: m) ⟨by omega, rfl⟩ ?_ ?_ ?_ ?_ ?_ ?_
  · rintro i mi ⟨_, rfl⟩
    exact fit_cl (fit_cl (fit_cl (fit_cl (Hm.fit (Nat.le_refl _)))))
  · rintro mi ⟨z, rfl⟩
    exact fit_cl (fit_cl (fit_cl (fit_cl (Hm.fit (Nat.le_refl _)))))
  · rintro i mi W ⟨_, rfl⟩ H
    exact hK W (H.sub (by repeat (first | exact sb_refl | exact sb_nil | refine sb_cons (by repeat (first | exact pick_head | apply pick_tail | apply pick_app)) ?_ | refine sb_app (by repeat (first | exact cut_head | exact cut_all | apply cut_tail | apply cut_app)) ?_ | exact sb_one (by repeat (first | exact cut_head | exact cut_all | apply cut_tail | apply cut_app)))))
  · rintro lp rec d i W av mi hrs hrp hi ⟨hil, rfl⟩ H
    have hilt : i < (walkP bs).1.length := by
      have := (List.getElem?_eq_some_iff.1 hi).1
      omega
    obtain ⟨x, hx⟩ : ∃ x, (walkP bs).1[i]? = some x := ⟨_, List.getElem?_eq_getElem hilt⟩
    obtain rfl : av = [.int .i64 x.at_, insV x] := by
      unfold toldW at hi
      rw [List.getElem?_map, hx] at hi
      simpa using hi.symm
    refine s_req rfl (s_asI (s_asA (s_req rfl (s_asI (s_asI (s_asI (s_asI (s_asI ?_))))))))
    (refine h_new H fun n19 u H => ?_)
    iterate 5 refine h_st H (by repeat (first | exact pick_head | apply pick_tail | apply pick_app)) (by first | (simp; done) | exact Nat.le_of_ble_eq_true rfl) rfl fun u H => ?_
    refine h_beg H (by repeat (first | exact pick_head | apply pick_tail | apply pick_app)) hrs fun w1 H => ?_
    refine h_blk (fun _ => True) H ?_ ?_
    · refine h_drew H fun u H => h_ldI H (by repeat (first | exact pick_head | apply pick_tail | apply pick_app)) rfl (h_ldS H (by repeat (first | exact pick_head | apply pick_tail | apply pick_app)) rfl (s_false (by simpa using hilt) ?_))
      iterate 5 refine h_ldI H (by repeat (first | exact pick_head | apply pick_tail | apply pick_app)) rfl ?_
      refine h_ldS H (by repeat (first | exact pick_head | apply pick_tail | apply pick_app)) rfl (h_ldI H (by repeat (first | exact pick_head | apply pick_tail | apply pick_app)) rfl (s_req ⟨by omega, by omega⟩ ?_))
      obtain ⟨gg, off, rfl, p0, p1, p2, p3, p4⟩ := (hv u (H.sub (by repeat (first | exact sb_refl | exact sb_nil | refine sb_cons (by repeat (first | exact pick_head | apply pick_tail | apply pick_app)) ?_ | refine sb_app (by repeat (first | exact cut_head | exact cut_all | apply cut_tail | apply cut_app)) ?_ | exact sb_one (by repeat (first | exact cut_head | exact cut_all | apply cut_tail | apply cut_app)))))).get hx
      refine s_sm (s_loadI p0 (s_loadI p1 (s_loadI p2 (s_loadI p3 (s_loadI p4 (s_false (by simp) (h_ldI H (by repeat (first | exact pick_head | apply pick_tail | apply pick_app)) rfl (s_false (by simp) (s_next ⟨rfl, rfl⟩ ?_)))))))))
      simp (config := { decide := true }) only [if_true, if_false]
      exact ⟨H, trivial⟩
    clear H
    rintro _ _ W H _
    refine h_ldI H (by repeat (first | exact pick_head | apply pick_tail | apply pick_app)) rfl ?_
    rw [w_succ (by omega)]
    refine h_st H (by repeat (first | exact pick_head | apply pick_tail | apply pick_app)) (by simp) rfl fun u H => h_ldI H (by repeat (first | exact pick_head | apply pick_tail | apply pick_app)) rfl (h_ldI H (by repeat (first | exact pick_head | apply pick_tail | apply pick_app)) rfl (s_ite (fun g => ?_) (fun g => ?_)))
    · refine h_st H (by repeat (first | exact pick_head | apply pick_tail | apply pick_app)) (by simp) rfl fun u H => h_stop H (by repeat (first | exact pick_head | apply pick_tail | apply pick_app)) .ret fun w H => s_next trivial ?_
      simp (config := { decide := true }) only [if_true, if_false]
      exact .inr ⟨rfl, _, ⟨_, rfl⟩, H.sub (by repeat (first | exact sb_refl | exact sb_nil | refine sb_cons (by repeat (first | exact pick_head | apply pick_tail | apply pick_app)) ?_ | refine sb_app (by repeat (first | exact cut_head | exact cut_all | apply cut_tail | apply cut_app)) ?_ | exact sb_one (by repeat (first | exact cut_head | exact cut_all | apply cut_tail | apply cut_app))))⟩
    · refine h_cont H (by repeat (first | exact pick_head | apply pick_tail | apply pick_app)) hrs hrp fun w2 H => s_next trivial ?_
      simp (config := { decide := true }) only [if_true, if_false]
      exact .inl ⟨rfl, _, ⟨by omega, rfl⟩, H.sub (by repeat (first | exact sb_refl | exact sb_nil | refine sb_cons (by repeat (first | exact pick_head | apply pick_tail | apply pick_app)) ?_ | refine sb_app (by repeat (first | exact cut_head | exact cut_all | apply cut_tail | apply cut_app)) ?_ | exact sb_one (by repeat (first | exact cut_head | exact cut_all | apply cut_tail | apply cut_app))))⟩
  · rintro D W mi ⟨_, rfl⟩ H
    rw [htl] at H
    refine h_ldI H (by repeat (first | exact pick_head | apply pick_tail | apply pick_app)) rfl (h_ldS H (by repeat (first | exact pick_head | apply pick_tail | apply pick_app)) rfl (h_st H (by repeat (first | exact pick_head | apply pick_tail | apply pick_app)) (by simp) rfl fun u H => h_col H (by repeat (first | exact pick_head | apply pick_tail | apply pick_app)) fun u H => h_ldB H (by repeat (first | exact pick_head | apply pick_tail | apply pick_app)) rfl (s_ret ⟨by simp, H.sub (by repeat (first | exact sb_refl | exact sb_nil | refine sb_cons (by repeat (first | exact pick_head | apply pick_tail | apply pick_app)) ?_ | refine sb_app (by repeat (first | exact cut_head | exact cut_all | apply cut_tail | apply cut_app)) ?_ | exact sb_one (by repeat (first | exact cut_head | exact cut_all | apply cut_tail | apply cut_app))))⟩)))
  · rintro D W mi ⟨z, rfl⟩ H
    exact h_col H (by repeat (first | exact pick_head | apply pick_tail | apply pick_app)) fun u H => h_ldB H (by repeat (first | exact pick_head | apply pick_tail | apply pick_app)) rfl (s_ret ⟨rfl, H.sub (by repeat (first | exact sb_refl | exact sb_nil | refine sb_cons (by repeat (first | exact pick_head | apply pick_tail | apply pick_app)) ?_ | refine sb_app (by repeat (first | exact cut_head | exact cut_all | apply cut_tail | apply cut_app)) ?_ | exact sb_one (by repeat (first | exact cut_head | exact cut_all | apply cut_tail | apply cut_app))))⟩)

theorem reads_c (h : BytAt w o bs) (hu : ∀ x ∈ bs, 0 ≤ x ∧ x ≤ 255) (hc : bs.length ≤ cap) (hl : bs.length ≤ 1048576) : Calls Try.prog 8 #[.slice o bs.length cap, .int .i64 at_, .int .i64 stop] w fun e w' => e = .returned (.bool true) ∧ Fr [] w w' := by
  apply c8
  have H := Has.init w
  (refine s_call (dec_c (bs := bs) H (fun u hu => hu.rows h) hu hc rfl (by omega)) ?_; rintro _ u ⟨va, ca, rfl, hoa, H⟩; refine ⟨_, rfl, ?_⟩)
  obtain ⟨oa, capa, rfl⟩ := hoa.slice
  refine s_asU (s_req rfl (s_asS (s_asI ?_)))
  (refine s_call (rdec_c (bs := bs) H (fun u hu => hu.rows h) hu rfl (by omega)) ?_; rintro _ u ⟨vc, cc, rfl, hoc, H⟩; refine ⟨_, rfl, ?_⟩)
  obtain ⟨oc, capc, rfl⟩ := hoc.slice
  refine s_asU (s_req rfl (s_asS (s_asI ?_)))
  have hdl : (decP bs).1.length ≤ 512 := by
    by_cases h : (decP bs).2 = 0
    · exact (dec_facts hu h).2.2.2.1
    · rw [dec_bad h]; simp
  (refine s_call (one_c (at_ := at_) H (fun u hu => hu.rows h) hu hc (by omega)) ?_; rintro _ u ⟨rfl, H⟩; refine ⟨_, rfl, ?_⟩)
  refine s_asU (s_req rfl (s_asA (s_req rfl (s_asI (s_asI (s_asI (s_asI (s_asI (s_asI (s_asI ?_))))))))))
  (refine h_new H fun n27 u H => ?_)
  iterate 5 refine h_st H (by repeat (first | exact pick_head | apply pick_tail | apply pick_app)) (by first | (simp; done) | exact Nat.le_of_ble_eq_true rfl) rfl fun u H => ?_
  have H : Has w u (cl n27 40 (insR (oneP bs at_).1) :: (cc ++ (ca ++ []))) := H
  (refine s_call (rone_c (at_ := at_) H (fun u hu => hu.rows h) hu (by omega)) ?_; rintro _ u ⟨rfl, H⟩; refine ⟨_, rfl, ?_⟩)
  refine s_asU (s_req rfl (s_asA (s_req rfl (s_asI (s_asI (s_asI (s_asI (s_asI (s_asI (s_asI ?_))))))))))
  (refine h_new H fun n38 u H => ?_)
  iterate 5 refine h_st H (by repeat (first | exact pick_head | apply pick_tail | apply pick_app)) (by first | (simp; done) | exact Nat.le_of_ble_eq_true rfl) rfl fun u H => ?_
  have H : Has w u (cl n38 40 (insR (oneP bs at_).1) :: cl n27 40 (insR (oneP bs at_).1) :: (cc ++ (ca ++ []))) := H
  refine h_blk (fun _ => True) H ?_ ?_
  · (refine s_call (live_c H) ?_; rintro _ u ⟨rfl, H⟩; refine ⟨_, rfl, ?_⟩)
    refine s_asB (s_false rfl (s_false (by simp) ?_))
    (refine s_call (samei_c (l := (decP bs).1) H (fun u hu => insAt_own hoa hu (by repeat (first | exact cut_head | exact cut_all | apply cut_tail | apply cut_app))) (fun u hu => insAt_own hoc hu (by repeat (first | exact cut_head | exact cut_all | apply cut_tail | apply cut_app))) rfl rfl (by omega)) ?_; rintro _ u ⟨rfl, H⟩; refine ⟨_, rfl, ?_⟩)
    refine s_asB (s_false rfl ?_)
    iterate 10 refine h_ldI H (by repeat (first | exact pick_head | apply pick_tail | apply pick_app)) rfl ?_
    refine s_false (by simp) (s_false (by simp) (s_false (by simp) (s_next ⟨rfl, rfl⟩ ?_)))
    simp only [if_true]
    exact ⟨H, trivial⟩
  clear H
  rintro _ _ W H _
  have H : Has w W [] := H.sub (by repeat (first | exact sb_refl | exact sb_nil | refine sb_cons (by repeat (first | exact pick_head | apply pick_tail | apply pick_app)) ?_ | refine sb_app (by repeat (first | exact cut_head | exact cut_all | apply cut_tail | apply cut_app)) ?_ | exact sb_one (by repeat (first | exact cut_head | exact cut_all | apply cut_tail | apply cut_app))))
  (refine s_call (rwalk_c (bs := bs) H (fun u hu => hu.rows h) hu rfl hl) ?_; rintro _ u ⟨vw, cw, rfl, how, H⟩; refine ⟨_, rfl, ?_⟩)
  obtain ⟨ow, capw, rfl⟩ := how.slice
  refine s_asU (s_req rfl (s_asS (s_asI (h_blk (fun _ => True) H ?_ ?_))))
  · (refine s_call (walk_c (bs := bs) H (fun u hu => hu.rows h) rfl (by omega)) ?_; rintro _ u ⟨p, o1, cap1, c1, rfl, ho1, H⟩; refine ⟨_, rfl, ?_⟩)
    refine s_asC (s_req rfl (s_asP ?_))
    (refine s_call (walks_c (bs := bs) (p := p) (o := o1) (cap := cap1) (stop := stop) H (fun u hu => ⟨hu.cells (by repeat (first | exact pick_head | apply pick_tail | apply pick_app)), bytAt_own ho1 hu (by repeat (first | exact cut_head | exact cut_all | apply cut_tail | apply cut_app))⟩) (fun u hu => insAt_own how hu (by repeat (first | exact cut_head | exact cut_all | apply cut_tail | apply cut_app))) rfl hu (own_cap ho1) hl) ?_; rintro _ u ⟨rfl, H⟩; refine ⟨_, rfl, ?_⟩)
    refine s_asB (s_false rfl ?_)
    (refine s_call (walk_c (bs := bs) H (fun u hu => hu.rows h) rfl (by omega)) ?_; rintro _ u ⟨p2, o2, cap2, c2, rfl, ho2, H⟩; refine ⟨_, rfl, ?_⟩)
    refine s_asC (s_req rfl (s_asP ?_))
    (refine s_call (walks_c (bs := bs) (p := p2) (o := o2) (cap := cap2) (stop := 0) H (fun u hu => ⟨hu.cells (by repeat (first | exact pick_head | apply pick_tail | apply pick_app)), bytAt_own ho2 hu (by repeat (first | exact cut_head | exact cut_all | apply cut_tail | apply cut_app))⟩) (fun u hu => insAt_own how hu (by repeat (first | exact cut_head | exact cut_all | apply cut_tail | apply cut_app))) rfl hu (own_cap ho2) hl) ?_; rintro _ u ⟨rfl, H⟩; refine ⟨_, rfl, ?_⟩)
    refine s_asB (s_false rfl (s_next ⟨rfl, rfl⟩ ?_))
    simp only [if_true]
    exact ⟨H.sub (by repeat (first | exact sb_refl | exact sb_nil | refine sb_cons (by repeat (first | exact pick_head | apply pick_tail | apply pick_app)) ?_ | refine sb_app (by repeat (first | exact cut_head | exact cut_all | apply cut_tail | apply cut_app)) ?_ | exact sb_one (by repeat (first | exact cut_head | exact cut_all | apply cut_tail | apply cut_app)))), trivial⟩
  clear H
  rintro _ _ W H _
  have H : Has w W [] := H.sub (by repeat (first | exact sb_refl | exact sb_nil | refine sb_cons (by repeat (first | exact pick_head | apply pick_tail | apply pick_app)) ?_ | refine sb_app (by repeat (first | exact cut_head | exact cut_all | apply cut_tail | apply cut_app)) ?_ | exact sb_one (by repeat (first | exact cut_head | exact cut_all | apply cut_tail | apply cut_app))))
  have hjl := jmps_len (walkP bs).1
  have hwl : (walkP bs).1.length ≤ bs.length := by
    have := walk_len (bs := bs) (at_ := 0) (by omega) (by omega)
    show (walkA bs 0).1.length ≤ _
    omega
  (refine s_call (targ_c (bs := bs) H (fun u hu => hu.rows h) hu rfl hl) ?_; rintro _ u ⟨v1, c1, out, rfl, hR1, ho1, H⟩; refine ⟨_, rfl, ?_⟩)
  obtain ⟨o1, cap1, rfl⟩ := ho1.slice
  refine s_asS ?_
  (refine s_call (rtarg_c (bs := bs) H (fun u hu => hu.rows h) hu rfl hl) ?_; rintro _ u ⟨v2, c2, out2, rfl, hR2, ho2, H⟩; refine ⟨_, rfl, ?_⟩)
  obtain rfl := hR2.uniq hR1
  obtain ⟨o2, cap2, rfl⟩ := ho2.slice
  refine s_asS ?_
  have hol := hR1.len
  (refine s_call (eqi_c (l := out2) H (fun u hu => valsAt_own ho1 hu (by repeat (first | exact cut_head | exact cut_all | apply cut_tail | apply cut_app))) (fun u hu => valsAt_own ho2 hu (by repeat (first | exact cut_head | exact cut_all | apply cut_tail | apply cut_app))) rfl rfl (by omega)) ?_; rintro _ u ⟨rfl, H⟩; refine ⟨_, rfl, ?_⟩)
  refine s_asB (s_true rfl ?_)
  (refine s_call (reach_c (bs := bs) H (fun u hu => hu.rows h) hu hc rfl (by omega)) ?_; rintro _ u ⟨v3, c3, out3, rfl, hR3, ho3, H⟩; refine ⟨_, rfl, ?_⟩)
  obtain ⟨o3, cap3, rfl⟩ := ho3.slice
  refine s_asS ?_
  (refine s_call (rreach_c (bs := bs) H (fun u hu => hu.rows h) hu rfl hl) ?_; rintro _ u ⟨v4, c4, out4, rfl, hR4, ho4, H⟩; refine ⟨_, rfl, ?_⟩)
  obtain rfl := hR4.uniq hR3
  obtain ⟨o4, cap4, rfl⟩ := ho4.slice
  refine s_asS ?_
  have hol4 : out4.length ≤ 512 := by
    unfold IsReach at hR4
    split at hR4
    · rw [hR4]; simp
    · obtain ⟨seen, _, _, rfl⟩ := hR4
      have := outP_le (l := (decP bs).1) (seen := seen)
      omega
  (refine s_call (eqi_c (l := out4) H (fun u hu => valsAt_own ho3 hu (by repeat (first | exact cut_head | exact cut_all | apply cut_tail | apply cut_app))) (fun u hu => valsAt_own ho4 hu (by repeat (first | exact cut_head | exact cut_all | apply cut_tail | apply cut_app))) rfl rfl (by omega)) ?_; rintro _ u ⟨rfl, H⟩; refine ⟨_, rfl, ?_⟩)
  exact s_asB (s_ret ⟨rfl, H.base⟩)
end
end Go.Proofs.Ytgoecmggbcaoiaa
