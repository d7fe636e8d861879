/- Where jumps go: the program and the reference. -/
import Derived.Test.YtgoecmggbcaoiaaSortI
set_option linter.unusedVariables false
set_option linter.unusedSimpArgs false
set_option maxRecDepth 100000
set_option maxHeartbeats 4000000
namespace Go.Proofs.Ytgoecmggbcaoiaa
open Go hiding Expr
open Go.RowKit Tr

def jmps (l : List Ins) : List Int := (l.filter (fun x => jumpP x.op)).map (·.imm)
theorem jmps_snoc (l : List Ins) (x : Ins) : jmps (l ++ [x]) = jmps l ++ (if jumpP x.op = true then [x.imm] else []) := by
  unfold jmps
  rw [List.filter_append, List.map_append]
  cases h : jumpP x.op <;> simp [h]
theorem jmps_len (l : List Ins) : (jmps l).length ≤ l.length := by
  unfold jmps
  rw [List.length_map]
  exact List.length_filter_le _ _

section
variable {w w' w0 : World} {m m' c : Hp} {bs : List Int} {o : Option Addr} {cap n : Nat}

theorem compact_few (H : Has w0 w m) (hn : n < 2) : Calls Try.prog 57 #[.slice o n cap] w fun e w' => e = .returned (.slice o n cap) ∧ Has w0 w' m := by
  apply c57
  exact s_true (by simpa using (by omega : (n : Int) < 2)) (s_ret ⟨rfl, H⟩)

theorem targ_c (H : Has w0 w m) (hb : ∀ u, Has w0 u m → BytAt u o bs) (hu : ∀ x ∈ bs, 0 ≤ x ∧ x ≤ 255) (hn : n = bs.length) (hl : bs.length ≤ 1048576) : Calls Try.prog 32 #[.slice o n cap] w fun e w' =>
    ∃ v c out, e = .returned v ∧ IsRis (jmps (walkP bs).1) out ∧ OwnC 3 1 v out.length (ints out) c ∧ Has w0 w' (c ++ m) := by
  subst hn
  apply c32
  (refine h_new H fun n3 u H => ?_)
  (refine s_call (walk_c (bs := bs) H (fun u hu => hb u (hu.sub (by repeat (first | exact sb_refl | exact sb_nil | refine sb_cons (by repeat (first | exact pick_head | apply pick_tail | apply pick_app)) ?_ | refine sb_app (by repeat (first | exact cut_head | exact cut_all | apply cut_tail | apply cut_app)) ?_ | exact sb_one (by repeat (first | exact cut_head | exact cut_all | apply cut_tail | apply cut_app)))))) rfl (by omega)) ?_; rintro _ u ⟨p, o', cap', cw, rfl, how, H⟩; refine ⟨_, rfl, ?_⟩)
  have Hm : Has w0 u m := H.sub (by repeat (first | exact sb_refl | exact sb_nil | refine sb_cons (by repeat (first | exact pick_head | apply pick_tail | apply pick_app)) ?_ | refine sb_app (by repeat (first | exact cut_head | exact cut_all | apply cut_tail | apply cut_app)) ?_ | exact sb_one (by repeat (first | exact cut_head | exact cut_all | apply cut_tail | apply cut_app))))
  have H : Has w0 u (cl n3 42 [.slice none 0 0] :: ([] ++ (cl p 23 [.slice o' bs.length cap'] :: (cw ++ m)))) := H.sub (by repeat (first | exact sb_refl | exact sb_nil | refine sb_cons (by repeat (first | exact pick_head | apply pick_tail | apply pick_app)) ?_ | refine sb_app (by repeat (first | exact cut_head | exact cut_all | apply cut_tail | apply cut_app)) ?_ | exact sb_one (by repeat (first | exact cut_head | exact cut_all | apply cut_tail | apply cut_app))))
  have htl : (toldW bs).length = (walkP bs).1.length := by simp [toldW]
  have hwl : (walkP bs).1.length ≤ bs.length := by
    have := walk_len (bs := bs) (at_ := 0) (by omega) (by omega)
    show (walkA bs 0).1.length ≤ _
    omega
  refine s_asC (s_req rfl (s_asP ?_))
  refine h_rf (walk_seq (p := p) (o := o') (cap := cap') hu (own_cap how) (by omega)) H (fun i mi => ∃ v cv, OwnC 3 1 v (jmps ((walkP bs).1.take i)).length (ints (jmps ((walkP bs).1.take i))) cv ∧ mi = cl n3 42 [v] :: (cv ++ (cl p 23 [.slice o' bs.length cap'] :: (cw ++ m))))
    (fun _ => False) ⟨_, [], OwnC.nil, rfl⟩ ?_ (fun _ h => h.elim) ?_ ?_ ?_ (fun _ _ _ h => h.elim)
  · rintro i mi ⟨v, cv, hov, rfl⟩
    exact fit_cl (fit_app hov.fit (fit_cl (fit_app how.fit (Hm.fit (Nat.le_refl _)))))
  · rintro i mi W ⟨v, cv, hov, rfl⟩ H
    exact ⟨H.cells (by repeat (first | exact pick_head | apply pick_tail | apply pick_app)), bytAt_own how H (by repeat (first | exact cut_head | exact cut_all | apply cut_tail | apply cut_app))⟩
  · rintro lp rec d i W av mi hrs hrp hi ⟨v, cv, hov, rfl⟩ H
    obtain ⟨ov, capv, rfl⟩ := hov.slice
    have hilt : i < (walkP bs).1.length := by
      have := (List.getElem?_eq_some_iff.1 hi).1
      omega
    obtain ⟨x, hx⟩ : ∃ x, (walkP bs).1[i]? = some x := ⟨_, List.getElem?_eq_getElem hilt⟩
    obtain rfl : av = [.int .i64 x.at_, insV x] := by
      unfold toldW at hi
      rw [List.getElem?_map, hx] at hi
      simpa using hi.symm
    have hsn : jmps ((walkP bs).1.take (i + 1)) = jmps ((walkP bs).1.take i) ++ (if jumpP x.op = true then [x.imm] else []) := by rw [take_succ' hx, jmps_snoc]
    have hjl := jmps_len ((walkP bs).1.take i)
    rw [List.length_take] at hjl
    generalize jmps ((walkP bs).1.take i) = J at *
    refine s_req rfl (s_asA (s_req rfl (s_asI (s_asI (s_asI (s_asI (s_asI ?_)))))))
    (refine h_new H fun n15 u H => ?_)
    iterate 5 refine h_st H (by repeat (first | exact pick_head | apply pick_tail | apply pick_app)) (by first | (simp; done) | exact Nat.le_of_ble_eq_true rfl) rfl fun u H => ?_
    refine h_beg H (by repeat (first | exact pick_head | apply pick_tail | apply pick_app)) hrs fun w1 H => ?_
    iterate 5 refine h_ldI H (by repeat (first | exact pick_head | apply pick_tail | apply pick_app)) rfl ?_
    (refine s_call (jumps_c (x := x) H) ?_; rintro _ u ⟨rfl, H⟩; refine ⟨_, rfl, ?_⟩)
    refine s_asB (s_ite (fun g => h_ldS H (by repeat (first | exact pick_head | apply pick_tail | apply pick_app)) rfl (h_ldI H (by repeat (first | exact pick_head | apply pick_tail | apply pick_app)) rfl ?_)) (fun g => ?_))
    · (refine h_new H fun n27 u H => ?_)
      refine h_num H (by repeat (first | exact cut_head | exact cut_all | apply cut_tail | apply cut_app)) hov (by repeat (first | exact pick_head | apply pick_tail | apply pick_app)) (by omega) fun o2 cap2 c2 u ho2 H => s_asS (h_st H (by repeat (first | exact pick_head | apply pick_tail | apply pick_app)) (by simp) rfl fun u H => h_cont H (by repeat (first | exact pick_head | apply pick_tail | apply pick_app)) hrs hrp fun w2 H => s_next trivial ?_)
      simp only [if_true]
      rw [g, if_pos rfl] at hsn
      refine .inl ⟨rfl, _, ⟨_, c2, ?_, rfl⟩, H.sub (by repeat (first | exact sb_refl | exact sb_nil | refine sb_cons (by repeat (first | exact pick_head | apply pick_tail | apply pick_app)) ?_ | refine sb_app (by repeat (first | exact cut_head | exact cut_all | apply cut_tail | apply cut_app)) ?_ | exact sb_one (by repeat (first | exact cut_head | exact cut_all | apply cut_tail | apply cut_app))))⟩
      rw [hsn]
      exact ho2
    · refine h_cont H (by repeat (first | exact pick_head | apply pick_tail | apply pick_app)) hrs hrp fun w2 H => s_next trivial ?_
      simp only [if_true]
      rw [g, if_neg (by simp : ¬ (false = true)), List.append_nil] at hsn
      refine .inl ⟨rfl, _, ⟨_, cv, ?_, rfl⟩, H.sub (by repeat (first | exact sb_refl | exact sb_nil | refine sb_cons (by repeat (first | exact pick_head | apply pick_tail | apply pick_app)) ?_ | refine sb_app (by repeat (first | exact cut_head | exact cut_all | apply cut_tail | apply cut_app)) ?_ | exact sb_one (by repeat (first | exact cut_head | exact cut_all | apply cut_tail | apply cut_app))))⟩
      rw [hsn]
      exact hov
  · rintro D W mi ⟨v, cv, hov, rfl⟩ H
    rw [htl, List.take_length] at hov
    have hjl := jmps_len (walkP bs).1
    generalize jmps (walkP bs).1 = J at *
    rcases hov.2 with ⟨rfl, h0, rfl⟩ | ⟨g, capv, sp, rfl, rfl, h1, h2, h3⟩
    · have : J = [] := List.eq_nil_of_length_eq_zero h0
      subst this
      refine h_ldS H (by repeat (first | exact pick_head | apply pick_tail | apply pick_app)) rfl (s_call2 (sort_none (o := none) (cap := 0)) ?_)
      rintro _ _ ⟨⟨v, rfl⟩, rfl⟩
      refine ⟨_, rfl, h_ldS H (by repeat (first | exact pick_head | apply pick_tail | apply pick_app)) rfl ?_⟩
      refine s_call2 (compact_few H (by omega)) ?_
      rintro _ u ⟨rfl, H⟩
      exact ⟨_, rfl, s_asS (h_col H (by repeat (first | exact pick_head | apply pick_tail | apply pick_app)) fun u H => s_ret ⟨_, [], [], rfl, IsRis.nil, OwnC.nil, H.sub (by repeat (first | exact sb_refl | exact sb_nil | refine sb_cons (by repeat (first | exact pick_head | apply pick_tail | apply pick_app)) ?_ | refine sb_app (by repeat (first | exact cut_head | exact cut_all | apply cut_tail | apply cut_app)) ?_ | exact sb_one (by repeat (first | exact cut_head | exact cut_all | apply cut_tail | apply cut_app))))⟩)⟩
    · have h3' : (ints J ++ sp).length = capv := by rw [h3, Nat.mul_one]
      refine h_ldS H (by repeat (first | exact pick_head | apply pick_tail | apply pick_app)) rfl (s_call2 (sort_c (H.cells (by repeat (first | exact pick_head | apply pick_tail | apply pick_app))) (by omega)) ?_)
      rintro _ u ⟨⟨v, rfl⟩, hf, s, hp, hs, hcs⟩
      have H := H.updc (by repeat (first | exact pick_head | apply pick_tail | apply pick_app)) hf hcs
      have hsl := hp.length_eq
      refine ⟨_, rfl, h_ldS H (by repeat (first | exact pick_head | apply pick_tail | apply pick_app)) rfl ?_⟩
      rw [← hsl]
      refine s_call2 (compact_c (l := s) (cap := capv) (H.cells (by repeat (first | exact pick_head | apply pick_tail | apply pick_app))) (by rw [is_len, hsl, ← is_len]; exact h3') (by omega) (by omega)) ?_
      rintro _ u ⟨sp', rfl, hf, hcs, hcap⟩
      have H := H.updc (by repeat (first | exact pick_head | apply pick_tail | apply pick_app)) hf hcs
      have hcl := compL_len s none
      refine ⟨_, rfl, s_asS (h_col H (by repeat (first | exact pick_head | apply pick_tail | apply pick_app)) fun u H => s_ret ⟨_, [cl g 3 (ints (compL none s) ++ sp')], _, rfl, comp_ris hp hs, ⟨by rw [ints_len, Nat.mul_one], .inr ⟨g, capv, sp', rfl, rfl, by omega, h2, by rw [hcap, Nat.mul_one]⟩⟩, H.sub (by repeat (first | exact sb_refl | exact sb_nil | refine sb_cons (by repeat (first | exact pick_head | apply pick_tail | apply pick_app)) ?_ | refine sb_app (by repeat (first | exact cut_head | exact cut_all | apply cut_tail | apply cut_app)) ?_ | exact sb_one (by repeat (first | exact cut_head | exact cut_all | apply cut_tail | apply cut_app))))⟩)⟩

theorem rtarg_c (H : Has w0 w m) (hb : ∀ u, Has w0 u m → BytAt u o bs) (hu : ∀ x ∈ bs, 0 ≤ x ∧ x ≤ 255) (hn : n = bs.length) (hl : bs.length ≤ 1048576) : Calls Try.prog 33 #[.slice o n cap] w fun e w' =>
    ∃ v c out, e = .returned v ∧ IsRis (jmps (walkP bs).1) out ∧ OwnC 3 1 v out.length (ints out) c ∧ Has w0 w' (c ++ m) := by
  subst hn
  apply c33
  (refine s_call (rwalk_c H hb hu rfl hl) ?_; rintro _ u ⟨v, c, rfl, ho, H⟩; refine ⟨_, rfl, ?_⟩)
  obtain ⟨ol, capl, rfl⟩ := ho.slice
  have hwl : (walkP bs).1.length ≤ bs.length := by
    have := walk_len (bs := bs) (at_ := 0) (by omega) (by omega)
    show (walkA bs 0).1.length ≤ _
    omega
  generalize (walkP bs).1 = l at *
  refine s_asU (s_req rfl (s_asS (s_asI ?_)))
  refine s_loop (fun vs W => ∃ (i : Nat) (v : Value) (cv : Hp), vs = [v, .int .i64 i] ∧ i ≤ l.length ∧ OwnC 3 1 v (jmps (l.take i)).length (ints (jmps (l.take i))) cv ∧ Has w0 W (cv ++ (c ++ m)))
    (fun vs _ => l.length - (intOf (vs.getD 1 undef)).toNat) ⟨0, _, [], rfl, by omega, OwnC.nil, H⟩ ?_
  clear H
  rintro _ j W ⟨i, v, cv, rfl, hi, hov, H⟩
  obtain ⟨ov, capv, rfl⟩ := hov.slice
  refine s_asS (s_asI (s_ite (fun g => ?_) (fun g => ?_)))
  · simp only [decide_eq_true_eq] at g
    obtain ⟨x, hx⟩ : ∃ x, l[i]? = some x := ⟨_, List.getElem?_eq_getElem (by omega)⟩
    have hsn : jmps (l.take (i + 1)) = jmps (l.take i) ++ (if jumpP x.op = true then [x.imm] else []) := by rw [take_succ' hx, jmps_snoc]
    have hjl := jmps_len (l.take i)
    rw [List.length_take] at hjl
    generalize jmps (l.take i) = J at *
    obtain ⟨gg, off, rfl, p0, p1, p2, p3, p4⟩ := (insAt_own ho H (by repeat (first | exact cut_head | exact cut_all | apply cut_tail | apply cut_app))).get hx
    refine s_req ⟨by omega, by omega⟩ (s_sm (s_loadI p1 ?_))
    (refine s_call (rjumps_c H) ?_; rintro _ u ⟨rfl, H⟩; refine ⟨_, rfl, ?_⟩)
    refine s_asB (s_ite (fun g2 => ?_) (fun g2 => s_next ⟨rfl, rfl⟩ ?_))
    · obtain ⟨gg2, off2, he, p0, p1, p2, p3, p4⟩ := (insAt_own ho H (by repeat (first | exact cut_head | exact cut_all | apply cut_tail | apply cut_app))).get hx
      refine s_req ⟨by omega, by omega⟩ ⟨gg2, off2, he, s_loadI p4 ?_⟩
      (refine h_new H fun n23 u H => ?_)
      refine h_num H (by repeat (first | exact cut_head | exact cut_all | apply cut_tail | apply cut_app)) hov (by repeat (first | exact pick_head | apply pick_tail | apply pick_app)) (by omega) fun o2 cap2 c2 u ho2 H => s_asS (s_next ⟨rfl, rfl⟩ ?_)
      rw [w_succ (by omega)]
      simp only [if_true]
      rw [g2, if_pos rfl] at hsn
      refine ⟨⟨i + 1, _, c2, rfl, by omega, ?_, H.sub (by repeat (first | exact sb_refl | exact sb_nil | refine sb_cons (by repeat (first | exact pick_head | apply pick_tail | apply pick_app)) ?_ | refine sb_app (by repeat (first | exact cut_head | exact cut_all | apply cut_tail | apply cut_app)) ?_ | exact sb_one (by repeat (first | exact cut_head | exact cut_all | apply cut_tail | apply cut_app))))⟩, by simp [intOf]; omega⟩
      rw [hsn]
      exact ho2
    · rw [w_succ (by omega)]
      simp only [if_true]
      rw [g2, if_neg (by simp : ¬ (false = true)), List.append_nil] at hsn
      refine ⟨⟨i + 1, _, cv, rfl, by omega, ?_, H⟩, by simp [intOf]; omega⟩
      rw [hsn]
      exact hov
  · simp only [decide_eq_false_iff_not] at g
    have hil : i = l.length := by omega
    subst hil
    rw [List.take_length] at hov ⊢
    have hjl := jmps_len l
    refine s_call (rising_c H (fun u hu => valsAt_own hov hu (by repeat (first | exact cut_head | exact cut_all | apply cut_tail | apply cut_app))) rfl (by omega)) ?_
    rintro _ u ⟨v, c3, out, rfl, hR, ho3, H⟩
    obtain ⟨o3, cap3, rfl⟩ := ho3.slice
    exact ⟨_, rfl, s_asS (s_ret ⟨_, c3, out, rfl, hR, ho3, H.sub (by repeat (first | exact sb_refl | exact sb_nil | refine sb_cons (by repeat (first | exact pick_head | apply pick_tail | apply pick_app)) ?_ | refine sb_app (by repeat (first | exact cut_head | exact cut_all | apply cut_tail | apply cut_app)) ?_ | exact sb_one (by repeat (first | exact cut_head | exact cut_all | apply cut_tail | apply cut_app))))⟩)⟩
end
end Go.Proofs.Ytgoecmggbcaoiaa
