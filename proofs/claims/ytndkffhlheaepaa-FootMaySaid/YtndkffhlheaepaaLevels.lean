/- The pairs told and held against others; the levels. -/
import Derived.Test.YtndkffhlheaepaaOrder
set_option linter.unusedVariables false
set_option linter.unusedSimpArgs false
set_option maxRecDepth 100000
set_option maxHeartbeats 2000000
namespace Go.Proofs.Ytndkffhlheaepaa
open Go hiding Expr
open Go.RowKit Tr

theorem h_blk {P : Program} {Q : Ending → World → Prop} {ρ : Lv} {w0 w : World} {m : Hp} {lv : Nat} {after : List Value → (Nat → Value) → T} {body : T} (A : List Value → Prop) (H : Has w0 w m)
    (h : body.sem P Q (fun l' x w'' => if l' = lv then Has w0 w'' m ∧ A x else ρ l' x w'') w) (h0 : ∀ vs j w', Has w0 w' m → A vs → (after vs j).sem P Q ρ w') : (T.blk lv after body).sem P Q ρ w :=
  s_blk (fun x W => Has w0 W m ∧ A x) (fun vs j w' h => h0 vs j w' h.1 h.2) h

section
variable {w w' w0 : World} {o : Option Addr} {n cap p : Nat} {X : List TX} {P : List (Nat × Nat)} {m m' c : Hp} {e : TypeId}
theorem tells_c {ty : TypeId} {stop : Int} {o2 : Option Addr} {n2 cap2 : Nat} (H : Has w0 w m) (hK : ∀ u, Has w0 u m → Cells u p ty [.slice o P.length cap] ∧ PrsAt u o P) (hW : ∀ u, Has w0 u m → PrsAt u o2 P) (hn2 : n2 = P.length)
    (hl : P.length < 9223372036854775807) :
    Calls Try.prog 11 #[.func (.func 34) #[] #[.pointer (some ⟨p, 0, none⟩)], .slice o2 n2 cap2, .int .i64 stop] w fun e w' => e = .returned (.bool true) ∧ Has w0 w' m := by
  subst hn2
  apply c11
  refine h_new H fun n6 u H => ?_
  (refine h_new H fun n7 u H => ?_)
  (refine h_new H fun n8 u H => ?_)
  (refine h_new H fun n9 u H => ?_)
  refine h_st H (by repeat (first | exact pick_head | apply pick_tail | apply pick_app)) (by simp) rfl fun u H => ?_
  refine h_rfZ (order1_seq (p := p) (o := o) (ty := ty) (cap := cap) hl) H (fun ys _ mi => mi = cl n9 3 [.int .i64 (ys.length : Int)] :: cl n8 4 [.bool false] :: cl n7 3 [.int .i64 stop] :: cl n6 23 [.slice o2 P.length cap2] :: m)
    (fun mi => ∃ z, mi = cl n9 3 [.int .i64 z] :: cl n8 4 [.bool true] :: cl n7 3 [.int .i64 stop] :: cl n6 23 [.slice o2 P.length cap2] :: m) (fun _ _ _ _ h => h) rfl ?_ ?_ ?_ ?_
  · rintro ys Z mi W rfl H
    exact hK _ (H.sub (by repeat (first | exact sb_refl | exact sb_nil | refine sb_cons (by repeat (first | exact pick_head | apply pick_tail | apply pick_app)) ?_ | refine sb_app (by repeat (first | exact cut_head | exact cut_all | apply cut_tail | apply cut_app)) ?_ | exact sb_one (by repeat (first | exact cut_head | exact cut_all | apply cut_tail | apply cut_app)))))
  · rintro l rec d Z ys W av mi hrs hrp ⟨q, hq, rfl⟩ rfl H
    have hlt := (List.getElem?_eq_some_iff.1 hq).1
    refine s_req rfl (s_asI (s_asI ?_))
    refine h_beg H (by repeat (first | exact pick_head | apply pick_tail | apply pick_app)) hrs fun w H => ?_
    refine h_blk (fun _ => True) H ?_ ?_
    · refine h_ldI H (by repeat (first | exact pick_head | apply pick_tail | apply pick_app)) rfl (h_ldS H (by repeat (first | exact pick_head | apply pick_tail | apply pick_app)) rfl (s_ite (fun g => ?_) (fun g => ?_)))
      · exfalso
        have g : (P.length : Int) ≤ (ys.length : Int) := by simpa using g
        omega
      obtain ⟨g, off, he, p0, p1⟩ := (hW w (H.sub (by repeat (first | exact sb_refl | exact sb_nil | refine sb_cons (by repeat (first | exact pick_head | apply pick_tail | apply pick_app)) ?_ | refine sb_app (by repeat (first | exact cut_head | exact cut_all | apply cut_tail | apply cut_app)) ?_ | exact sb_one (by repeat (first | exact cut_head | exact cut_all | apply cut_tail | apply cut_app)))))).get hq
      refine h_ldS H (by repeat (first | exact pick_head | apply pick_tail | apply pick_app)) rfl (h_ldI H (by repeat (first | exact pick_head | apply pick_tail | apply pick_app)) rfl ?_)
      refine s_req ⟨by omega, by omega⟩ ⟨g, off, he, s_loadI p0 (s_loadI p1 (s_false (by simp) (s_next (by simp) ?_)))⟩
      simp (config := { decide := true }) only [if_true, if_false]
      exact ⟨H, trivial⟩
    · rintro _ _ W H _
      refine h_ldI H (by repeat (first | exact pick_head | apply pick_tail | apply pick_app)) rfl (h_st H (by repeat (first | exact pick_head | apply pick_tail | apply pick_app)) (by simp) rfl fun u H => h_ldI H (by repeat (first | exact pick_head | apply pick_tail | apply pick_app)) rfl (h_ldI H (by repeat (first | exact pick_head | apply pick_tail | apply pick_app)) rfl ?_))
      rw [w_succ (by omega)]
      have H : Has w0 u ((l, .loop { rec with state := .busy }) :: d :: (Z ++ (cl n9 3 [.int .i64 ((ys.length + 1 : Nat) : Int)] :: cl n8 4 [.bool false] :: cl n7 3 [.int .i64 stop] :: cl n6 23 [.slice o2 P.length cap2] :: m))) := by
        rw [w_succ (by omega)] at H
        exact H.sub (by repeat (first | exact sb_refl | exact sb_nil | refine sb_cons (by repeat (first | exact pick_head | apply pick_tail | apply pick_app)) ?_ | refine sb_app (by repeat (first | exact cut_head | exact cut_all | apply cut_tail | apply cut_app)) ?_ | exact sb_one (by repeat (first | exact cut_head | exact cut_all | apply cut_tail | apply cut_app))))
      refine s_ite (fun g => ?_) (fun g => ?_)
      · refine h_st H (by repeat (first | exact pick_head | apply pick_tail | apply pick_app)) (by simp) rfl fun u H => h_stop H (by repeat (first | exact pick_head | apply pick_tail | apply pick_app)) .ret fun w H => s_next trivial ?_
        simp (config := { decide := true }) only [if_true, if_false]
        exact .inr ⟨rfl, _, ⟨_, rfl⟩, H.sub (by repeat (first | exact sb_refl | exact sb_nil | refine sb_cons (by repeat (first | exact pick_head | apply pick_tail | apply pick_app)) ?_ | refine sb_app (by repeat (first | exact cut_head | exact cut_all | apply cut_tail | apply cut_app)) ?_ | exact sb_one (by repeat (first | exact cut_head | exact cut_all | apply cut_tail | apply cut_app))))⟩
      · refine h_cont H (by repeat (first | exact pick_head | apply pick_tail | apply pick_app)) hrs hrp fun w H => s_next trivial ?_
        simp (config := { decide := true }) only [if_true, if_false]
        refine .inl ⟨rfl, _, rfl, ?_⟩
        rw [List.length_append]
        exact H.sub (by repeat (first | exact sb_refl | exact sb_nil | refine sb_cons (by repeat (first | exact pick_head | apply pick_tail | apply pick_app)) ?_ | refine sb_app (by repeat (first | exact cut_head | exact cut_all | apply cut_tail | apply cut_app)) ?_ | exact sb_one (by repeat (first | exact cut_head | exact cut_all | apply cut_tail | apply cut_app))))
  · rintro D W ys Z mi hfin rfl H
    refine h_ldI H (by repeat (first | exact pick_head | apply pick_tail | apply pick_app)) rfl (h_ldS H (by repeat (first | exact pick_head | apply pick_tail | apply pick_app)) rfl (h_st H (by repeat (first | exact pick_head | apply pick_tail | apply pick_app)) (by simp) rfl fun u H => h_col H (by repeat (first | exact pick_head | apply pick_tail | apply pick_app)) fun u H => h_ldB H (by repeat (first | exact pick_head | apply pick_tail | apply pick_app)) rfl (s_ret ⟨?_, H.sub (by repeat (first | exact sb_refl | exact sb_nil | refine sb_cons (by repeat (first | exact pick_head | apply pick_tail | apply pick_app)) ?_ | refine sb_app (by repeat (first | exact cut_head | exact cut_all | apply cut_tail | apply cut_app)) ?_ | exact sb_one (by repeat (first | exact cut_head | exact cut_all | apply cut_tail | apply cut_app))))⟩)))
    congr 2
    simp
    omega
  · rintro D W mi ⟨z, rfl⟩ H
    exact h_col H (by repeat (first | exact pick_head | apply pick_tail | apply pick_app)) fun u H => h_ldB H (by repeat (first | exact pick_head | apply pick_tail | apply pick_app)) rfl (s_ret ⟨rfl, H.sub (by repeat (first | exact sb_refl | exact sb_nil | refine sb_cons (by repeat (first | exact pick_head | apply pick_tail | apply pick_app)) ?_ | refine sb_app (by repeat (first | exact cut_head | exact cut_all | apply cut_tail | apply cut_app)) ?_ | exact sb_one (by repeat (first | exact cut_head | exact cut_all | apply cut_tail | apply cut_app))))⟩)

/-! ### Levels -/
def lv (v : List Int) (i : Nat) : Int := v[i]?.getD 0
def stepLv (v : List Int) (q : Nat × Nat) : List Int := v.set q.2 (max (lv v q.2) (lv v q.1 + 1))
def levelsOf (X : List TX) : List Int := (ordL X).foldl stepLv (List.replicate X.length 0)
theorem step_len (v : List Int) (q : Nat × Nat) : (stepLv v q).length = v.length := by simp [stepLv]
theorem fold_len (l : List (Nat × Nat)) (v : List Int) : (l.foldl stepLv v).length = v.length := by
  induction l generalizing v with
  | nil => rfl
  | cons q l ih => rw [List.foldl_cons, ih, step_len]
theorem levelsOf_len (X : List TX) : (levelsOf X).length = X.length := by unfold levelsOf; rw [fold_len, List.length_replicate]
def Upto' (v : List Int) (t : Nat) : Prop := ∀ z ∈ v, 0 ≤ z ∧ z ≤ (t : Int)
theorem lv_upto {v : List Int} {t : Nat} (h : Upto' v t) (i : Nat) : 0 ≤ lv v i ∧ lv v i ≤ (t : Int) := by
  unfold lv
  cases hi : v[i]? with
  | none => simp
  | some z => exact h z (List.mem_of_getElem? hi)
theorem upto_step {v : List Int} {t : Nat} (h : Upto' v t) (q : Nat × Nat) : Upto' (stepLv v q) (t + 1) := by
  intro z hz
  rcases List.mem_or_eq_of_mem_set hz with hz | rfl
  · have := h z hz
    omega
  · have h1 := lv_upto h q.2
    have h2 := lv_upto h q.1
    omega
theorem upto_fold (l : List (Nat × Nat)) {v : List Int} {t : Nat} (h : Upto' v t) : Upto' (l.foldl stepLv v) (t + l.length) := by
  induction l generalizing v t with
  | nil => exact h
  | cons q l ih =>
    rw [List.foldl_cons]
    have := ih (upto_step h q)
    rw [List.length_cons, show t + (l.length + 1) = t + 1 + l.length by omega]
    exact this
theorem upto_zero (n : Nat) : Upto' (List.replicate n 0) 0 := by
  intro z hz
  rw [List.mem_replicate] at hz
  omega

theorem levels_c (h : TxsAt w o X) (hX : ∀ x ∈ X, TxOk x) (hn : n = X.length) (hl : X.length ≤ 1048576) : Calls Try.prog 14 #[.slice o n cap] w fun en w' =>
    ∃ v c, en = .returned v ∧ OwnC 3 1 v X.length (ints (levelsOf X)) c ∧ Has w w' c := by
  subst hn
  apply c14
  refine s_ite (fun g => ?_) (fun g => ?_)
  · have g : X.length = 0 := by
      have : (X.length : Int) = 0 := by simpa using g
      omega
    have : X = [] := List.eq_nil_of_length_eq_zero g
    subst this
    exact s_ret ⟨_, [], rfl, OwnC.nil, Has.init w⟩
  refine h_make elemN (Has.init w) (by omega) (by omega) (by omega) fun r u H => ?_
  rw [made_one _ _ rfl, Int.toNat_natCast] at H
  rw [Int.toNat_natCast]
  refine s_asS (h_new H fun n7 u H => h_st H (by repeat (first | exact pick_head | apply pick_tail | apply pick_app)) (by simp) rfl fun u H => ?_)
  refine s_call (order_c (cap := cap) (h.fr0 H.base) hX rfl hl) ?_
  rintro _ u ⟨p, v, c, rfl, ho, Hc⟩
  have H := H.join Hc
  obtain ⟨oP, cP, rfl⟩ := ho.slice
  have hPl := ordU_len X X.length
  have hsq : X.length * X.length ≤ 1099511627776 := Nat.le_trans (Nat.mul_le_mul hl hl) (by decide)
  refine ⟨_, rfl, s_asC (s_req rfl (s_asP ?_))⟩
  have hPlen : (ordL X).length ≤ X.length * X.length := hPl
  have hst : ∀ i, (ordL X).take (i + 1) = (ordL X).take i ++ ((ordL X)[i]?).toList := fun i => List.take_add_one
  have hr0 : OwnC 3 1 (.slice (some ⟨r, 0, none⟩) X.length X.length) X.length (ints (List.replicate X.length 0)) [cl r 3 (List.replicate X.length (.int .i64 0))] := by
    refine ⟨by rw [ints_len, List.length_replicate, Nat.mul_one], .inr ⟨r, X.length, [], rfl, ?_, Nat.le_refl _, by simp only [maxLen]; omega, by simp [ints_len]⟩⟩
    rw [ints_eq, List.map_replicate, List.append_nil]
  refine h_rfZ (order1_seq (p := p) (o := oP) (ty := 23) (cap := cP) (P := ordL X) (by omega)) H
    (fun ys _ mi => ∃ co, OwnC 3 1 (.slice (some ⟨r, 0, none⟩) X.length X.length) X.length (ints (((ordL X).take ys.length).foldl stepLv (List.replicate X.length 0))) co ∧ mi = cl p 23 [.slice oP (ordL X).length cP] :: (c ++ (cl n7 31 [.slice (some ⟨r, 0, none⟩) X.length X.length] :: co)))
    (fun _ => False) (fun _ _ _ _ h => h) ⟨_, hr0, by simp⟩ ?_ ?_ ?_ (fun _ _ _ h => h.elim)
  · rintro ys Z mi W ⟨co, hco, rfl⟩ H
    exact ⟨H.cells (by repeat (first | exact pick_head | apply pick_tail | apply pick_app)), prsAt_own ho H (by repeat (first | exact cut_head | exact cut_all | apply cut_tail | apply cut_app))⟩
  · rintro l rec d Z ys W av mi hrs hrp ⟨q, hq, rfl⟩ ⟨co, hco, rfl⟩ H
    generalize hv : ((ordL X).take ys.length).foldl stepLv (List.replicate X.length 0) = V at hco
    have hVl : V.length = X.length := by rw [← hv, fold_len, List.length_replicate]
    have hyl := (List.getElem?_eq_some_iff.1 hq).1
    have hup : Upto' V ys.length := by
      have := upto_fold ((ordL X).take ys.length) (upto_zero X.length)
      rw [hv, Nat.zero_add, List.length_take, Nat.min_eq_left (by omega)] at this
      exact this
    obtain ⟨hq1, hq2⟩ := ordU_mem (List.mem_of_getElem? hq)
    obtain ⟨z2, hz2⟩ : ∃ z, V[q.2]? = some z := ⟨_, List.getElem?_eq_getElem (by omega)⟩
    obtain ⟨z1, hz1⟩ : ∃ z, V[q.1]? = some z := ⟨_, List.getElem?_eq_getElem (by omega)⟩
    have hl2 : lv V q.2 = z2 := by unfold lv; rw [hz2]; rfl
    have hl1 : lv V q.1 = z1 := by unfold lv; rw [hz1]; rfl
    have hb1 := lv_upto hup q.1
    rw [hl1] at hb1
    refine s_req rfl (s_asI (s_asI ?_))
    refine h_beg H (by repeat (first | exact pick_head | apply pick_tail | apply pick_app)) hrs fun w H => ?_
    refine h_drew H fun u H => h_ldS H (by repeat (first | exact pick_head | apply pick_tail | apply pick_app)) rfl (h_ldS H (by repeat (first | exact pick_head | apply pick_tail | apply pick_app)) rfl ?_)
    have hva := valsAt_own hco H (by repeat (first | exact cut_head | exact cut_all | apply cut_tail | apply cut_app))
    obtain ⟨ga, offa, hea, p2⟩ := hva.get hz2
    obtain ⟨gb, offb, heb, p1⟩ := hva.get hz1
    cases hea
    cases heb
    refine s_req ⟨by omega, by omega⟩ (s_sm (s_loadI p2 (h_ldS H (by repeat (first | exact pick_head | apply pick_tail | apply pick_app)) rfl (s_req ⟨by omega, by omega⟩ (s_sm (s_loadI p1 ?_))))))
    rw [wrap64 (n := z1 + 1) (by omega) (by omega)]
    refine s_max (s_asI (s_chk ⟨p1, (H.cells (b := n7) (l := [.slice (some ⟨r, 0, none⟩) X.length X.length]) (ty := 31) (by repeat (first | exact pick_head | apply pick_tail | apply pick_app))).cell rfl, (H.cells (b := n7) (l := [.slice (some ⟨r, 0, none⟩) X.length X.length]) (ty := 31) (by repeat (first | exact pick_head | apply pick_tail | apply pick_app))).cell rfl, (H.cells (b := n7) (l := [.slice (some ⟨r, 0, none⟩) X.length X.length]) (ty := 31) (by repeat (first | exact pick_head | apply pick_tail | apply pick_app))).cell rfl, trivial⟩ ?_))
    refine s_req ⟨by omega, by omega⟩ (s_sm ?_)
    refine h_stC (f := 0) H (by repeat (first | exact cut_head | exact cut_all | apply cut_tail | apply cut_app)) hco (by rw [ints_len]; simp only [Int.toNat_natCast]; omega) rfl fun co' u hco' H => s_chk c_nil (h_cont H (by repeat (first | exact pick_head | apply pick_tail | apply pick_app)) hrs hrp fun w H => s_next trivial ?_)
    simp (config := { decide := true }) only [if_true, if_false]
    refine .inl ⟨rfl, _, ⟨co', ?_, rfl⟩, H.sub (by repeat (first | exact sb_refl | exact sb_nil | refine sb_cons (by repeat (first | exact pick_head | apply pick_tail | apply pick_app)) ?_ | refine sb_app (by repeat (first | exact cut_head | exact cut_all | apply cut_tail | apply cut_app)) ?_ | exact sb_one (by repeat (first | exact cut_head | exact cut_all | apply cut_tail | apply cut_app))))⟩
    rw [List.length_append, List.length_singleton, hst, hq, Option.toList_some, List.foldl_append, hv, List.foldl_cons, List.foldl_nil]
    unfold stepLv
    rw [hl1, hl2, ints_eq, List.map_set, ← ints_eq]
    simpa using hco'
  · rintro D W ys Z mi hfin ⟨co, hco, rfl⟩ H
    rw [hfin, List.take_length] at hco
    exact h_ldS H (by repeat (first | exact pick_head | apply pick_tail | apply pick_app)) rfl (h_col H (by repeat (first | exact pick_head | apply pick_tail | apply pick_app)) fun u H => s_ret ⟨_, co, rfl, hco, H.sub (by repeat (first | exact sb_refl | exact sb_nil | refine sb_cons (by repeat (first | exact pick_head | apply pick_tail | apply pick_app)) ?_ | refine sb_app (by repeat (first | exact cut_head | exact cut_all | apply cut_tail | apply cut_app)) ?_ | exact sb_one (by repeat (first | exact cut_head | exact cut_all | apply cut_tail | apply cut_app))))⟩)

theorem step_if (v : List Int) (i k : Nat) : stepLv v (i, k) = if lv v i ≥ lv v k then v.set k (lv v i + 1) else v := by
  unfold stepLv
  simp only
  split
  · congr 1
    omega
  · have : max (lv v k) (lv v i + 1) = lv v k := by omega
    rw [this]
    unfold lv
    rcases Nat.lt_or_ge k v.length with h | h
    · rw [List.getElem?_eq_getElem h]
      exact List.set_getElem_self h
    · exact List.set_eq_of_length_le h

theorem rlevels_c (h : TxsAt w o X) (hX : ∀ x ∈ X, TxOk x) (hn : n = X.length) (hl : X.length ≤ 1048576) : Calls Try.prog 15 #[.slice o n cap] w fun en w' =>
    ∃ v c, en = .returned v ∧ OwnC 3 1 v X.length (ints (levelsOf X)) c ∧ Has w w' c := by
  subst hn
  apply c15
  refine h_make elemN (Has.init w) (by omega) (by omega) (by omega) fun r u H => ?_
  rw [made_one _ _ rfl, Int.toNat_natCast] at H
  rw [Int.toNat_natCast]
  have hsq : X.length * X.length ≤ 1099511627776 := Nat.le_trans (Nat.mul_le_mul hl hl) (by decide)
  have hr0 : OwnC 3 1 (.slice (some ⟨r, 0, none⟩) X.length X.length) X.length (ints (List.replicate X.length 0)) [cl r 3 (List.replicate X.length (.int .i64 0))] := by
    refine ⟨by rw [ints_len, List.length_replicate, Nat.mul_one], .inr ⟨r, X.length, [], rfl, ?_, Nat.le_refl _, by simp only [maxLen]; omega, by simp [ints_len]⟩⟩
    rw [ints_eq, List.map_replicate, List.append_nil]
  refine s_asS (s_loop (fun vs W => ∃ (k : Nat) (c : Hp), vs = [.int .i64 k] ∧ k ≤ X.length ∧ OwnC 3 1 (.slice (some ⟨r, 0, none⟩) X.length X.length) X.length (ints ((ordU X k).foldl stepLv (List.replicate X.length 0))) c ∧ Has w W c) (fun vs _ => X.length - (intOf (vs.getD 0 undef)).toNat)
    ⟨0, _, rfl, by omega, hr0, H⟩ ?_)
  clear H
  rintro _ j W ⟨k, c, rfl, hk, ho, H⟩
  refine s_asI (s_ite (fun g1 => ?_) (fun g1 => ?_))
  · simp only [decide_eq_true_eq] at g1
    obtain ⟨b, hb⟩ : ∃ b, X[k]? = some b := ⟨_, List.getElem?_eq_getElem (by omega)⟩
    refine s_loop (fun vs W => ∃ (i : Nat) (c : Hp), vs = [.int .i64 i] ∧ i ≤ k ∧ OwnC 3 1 (.slice (some ⟨r, 0, none⟩) X.length X.length) X.length (ints ((ordU X k ++ ordK X k i).foldl stepLv (List.replicate X.length 0))) c ∧ Has w W c) (fun vs _ => k - (intOf (vs.getD 0 undef)).toNat)
      ⟨0, c, rfl, by omega, by simpa [ordK] using ho, H⟩ ?_
    clear H ho
    rintro _ j2 W ⟨i, c, rfl, hi, ho, H⟩
    refine s_asI (s_ite (fun g2 => ?_) (fun g2 => ?_))
    · simp only [decide_eq_true_eq] at g2
      obtain ⟨a, ha⟩ : ∃ a, X[i]? = some a := ⟨_, List.getElem?_eq_getElem (by omega)⟩
      have hcl := clAt_of ha hb
      have hlen : (ordU X k ++ ordK X k i).length + 1 ≤ X.length * X.length := by
        rw [List.length_append]
        have h1 := ordU_len X k
        have h2 := ordK_len X k i
        have h3 : (k + 1) * (k + 1) ≤ X.length * X.length := Nat.mul_le_mul (by omega) (by omega)
        have h4 : (k + 1) * (k + 1) = k * k + 2 * k + 1 := by rw [Nat.succ_mul, Nat.mul_succ]; omega
        omega
      have hup := upto_fold (ordU X k ++ ordK X k i) (upto_zero X.length)
      have hVl := fold_len (ordU X k ++ ordK X k i) (List.replicate X.length 0)
      rw [List.length_replicate] at hVl
      have hnx : (ordU X k ++ ordK X k (i + 1)).foldl stepLv (List.replicate X.length 0) = if clAt X i k then stepLv ((ordU X k ++ ordK X k i).foldl stepLv (List.replicate X.length 0)) (i, k) else (ordU X k ++ ordK X k i).foldl stepLv (List.replicate X.length 0) := by
        rw [ordK_succ, ← List.append_assoc, List.foldl_append (l' := if clAt X i k then [(i, k)] else [])]
        split <;> rfl
      generalize hv : (ordU X k ++ ordK X k i).foldl stepLv (List.replicate X.length 0) = V at ho hup hVl hnx
      obtain ⟨z2, hz2⟩ : ∃ z, V[k]? = some z := ⟨_, List.getElem?_eq_getElem (by omega)⟩
      obtain ⟨z1, hz1⟩ : ∃ z, V[i]? = some z := ⟨_, List.getElem?_eq_getElem (by omega)⟩
      have hl2 : lv V k = z2 := by unfold lv; rw [hz2]; rfl
      have hl1 : lv V i = z1 := by unfold lv; rw [hz1]; rfl
      have hb1 := lv_upto hup i
      rw [hl1] at hb1
      refine s_blk (fun vs W => vs = [.bool (clashB a b && decide (z1 ≥ z2))] ∧ Has w W c) ?_ ?_
      · clear H
        rintro _ _ W ⟨rfl, H⟩
        refine s_asB (s_ite (fun g3 => ?_) (fun g3 => s_next (by first | exact ⟨rfl, rfl⟩ | trivial) ?_))
        · simp only [Bool.and_eq_true, decide_eq_true_eq] at g3
          obtain ⟨ga, offa, hea, p1⟩ := (valsAt_own ho H cut_all).get hz1
          cases hea
          refine s_req ⟨by omega, by omega⟩ (s_sm (s_loadI p1 (s_req ⟨by omega, by omega⟩ (s_sm ?_))))
          rw [wrap64 (n := z1 + 1) (by omega) (by omega)]
          refine h_stC (f := 0) H cut_all ho (by rw [ints_len]; simp only [Int.toNat_natCast]; omega) rfl fun c' u ho' H => s_next (by first | exact ⟨rfl, rfl⟩ | trivial) ?_
          simp (config := { decide := true }) only [if_true, if_false]
          refine ⟨⟨i + 1, c', by rw [w_succ (by omega)], by omega, ?_, by simpa using H⟩, by rw [w_succ (by omega)]; simp [intOf] <;> omega⟩
          rw [hnx, hcl, g3.1, if_pos rfl, step_if, hl1, hl2, if_pos g3.2, ints_eq, List.map_set, ← ints_eq]
          simpa using ho'
        · simp (config := { decide := true }) only [if_true, if_false]
          refine ⟨⟨i + 1, c, by rw [w_succ (by omega)], by omega, ?_, H⟩, by rw [w_succ (by omega)]; simp [intOf] <;> omega⟩
          rw [hnx, hcl]
          split
          · rename_i h1
            rw [h1, Bool.true_and, decide_eq_false_iff_not] at g3
            rw [step_if, hl1, hl2, if_neg g3]
            exact ho
          · exact ho
      · refine h_drew H fun u H => ?_
        obtain ⟨ga, offa, hea, ⟨a0, a1, a2, a3, a4, a5⟩, hat⟩ := (h.fr0 H.base).get ha
        obtain ⟨gb, offb, heb, ⟨b0, b1, b2, b3, b4, b5⟩, hbt⟩ := (h.fr0 H.base).get hb
        refine s_req ⟨by omega, by omega⟩ ⟨ga, offa, hea, s_loadI a0 (s_loadI a1 (s_loadS a2 (s_loadS a3 (s_loadS a4 (s_loadS a5 (s_req ⟨by omega, g1⟩ ⟨gb, offb, heb, s_loadI b0 (s_loadI b1 (s_loadS b2 (s_loadS b3 (s_loadS b4 (s_loadS b5 ?_)))))⟩))))))⟩
        refine s_call (rclash_c hat (hX a (List.mem_of_getElem? ha)) hbt (hX b (List.mem_of_getElem? hb))) ?_
        rintro _ u ⟨rfl, f⟩
        have H := H.fr0 f
        refine ⟨_, rfl, s_asB (s_chk c_nil (s_ite (fun g3 => ?_) (fun g3 => s_next (by first | exact ⟨rfl, rfl⟩ | trivial) ?_)))⟩
        · obtain ⟨ga, offa, hea, p1⟩ := (valsAt_own ho H cut_all).get hz1
          cases hea
          obtain ⟨gb, offb, heb, p2⟩ := (valsAt_own ho H cut_all).get hz2
          cases heb
          refine s_req ⟨by omega, by omega⟩ (s_sm (s_loadI p1 (s_req ⟨by omega, by omega⟩ (s_sm (s_loadI p2 (s_next (by first | exact ⟨rfl, rfl⟩ | trivial) ?_))))))
          simp (config := { decide := true }) only [if_true, if_false]
          exact ⟨by rw [g3]; rfl, H⟩
        · simp (config := { decide := true }) only [if_true, if_false]
          exact ⟨by rw [g3]; rfl, H⟩
    · simp only [decide_eq_false_iff_not] at g2
      obtain rfl : i = k := by omega
      refine s_next (by first | exact ⟨rfl, rfl⟩ | trivial) ?_
      simp (config := { decide := true }) only [if_true, if_false]
      exact ⟨⟨i + 1, c, by rw [w_succ (by omega)], by omega, by rw [ordU_succ]; exact ho, H⟩, by rw [w_succ (by omega)]; simp [intOf] <;> omega⟩
  · simp only [decide_eq_false_iff_not] at g1
    obtain rfl : k = X.length := by omega
    exact s_ret ⟨_, c, rfl, ho, H⟩
end
end Go.Proofs.Ytndkffhlheaepaa
