/- The program's table of rows: none, what a request is, a row set, put, asked, the last one. -/
import Derived.Test.YtcmdbaafnbdpbaaTable
set_option linter.unusedVariables false
set_option linter.unusedSimpArgs false
set_option maxRecDepth 100000
set_option maxHeartbeats 2000000
namespace Go.Proofs.Ytcmdbaafnbdpbaa
open Go hiding Expr
open Go.RowKit Tr

theorem h_blk {P : Program} {Q : Ending → World → Prop} {ρ : Lv} {w0 w : World} {m : Hp} {lv : Nat} {after : List Value → (Nat → Value) → T} {body : T} (A : List Value → Prop) (H : Has w0 w m)
    (h : body.sem P Q (fun l' x w'' => if l' = lv then Has w0 w'' m ∧ A x else ρ l' x w'') w) (h0 : ∀ vs j w', Has w0 w' m → A vs → (after vs j).sem P Q ρ w') : (T.blk lv after body).sem P Q ρ w :=
  s_blk (fun x W => Has w0 W m ∧ A x) (fun vs j w' h => h0 vs j w' h.1 h.2) h

theorem assoc_to {w0 w : World} {x y : Nat × Obj} {a b m : Hp} (H : Has w0 w ((x :: y :: (a ++ b)) ++ m)) : Has w0 w (x :: y :: (a ++ (b ++ m))) := by
  rwa [List.cons_append, List.cons_append, List.append_assoc] at H
theorem assoc_from {w0 w : World} {x y : Nat × Obj} {a b m : Hp} (H : Has w0 w (x :: y :: (a ++ (b ++ m)))) : Has w0 w ((x :: y :: (a ++ b)) ++ m) := by
  rwa [List.cons_append, List.cons_append, List.append_assoc]
section
variable {w w' w0 : World} {m c : Hp} {p : Nat} {R : List Rw} {s q : Int}

theorem new_c (H : Has w0 w m) : Calls Try.prog 10 #[] w fun e w' => ∃ p c, e = .returned (.pointer (some ⟨p, 0, none⟩)) ∧ Tab p [] c ∧ Has w0 w' (c ++ m) := by
  apply c10
  refine h_newMap H fun n0 u H => h_new H fun n1 u H => s_ret ⟨n1, _, rfl, ⟨[], n0, .map #[] 0, .slice none 0 0, [], [], rfl, MapO.new, OwnC.nil, ⟨rfl, by simp⟩, List.Perm.nil⟩, ?_⟩
  exact H

theorem none_c (H : Has w0 w (c ++ m)) (hT : Tab p R c) : Calls Try.prog 25 #[.pointer (some ⟨p, 0, none⟩)] w fun e w' => e = .returned (.bool false) ∧ w = w' := by
  obtain ⟨D, b, o, lv, cl', cs, rfl, hM, ho, hV, hP⟩ := hT
  apply c25
  exact h_ldM H (by repeat (first | exact pick_head | apply pick_tail | apply pick_app)) rfl (s_ret ⟨rfl, rfl⟩)

theorem kind_c (H : Has w0 w (c ++ m)) (hT : Tab p R c) (hI : InvR R) (hs : inI s) (hq : inI q) : Calls Try.prog 27 #[.pointer (some ⟨p, 0, none⟩), .int .i64 s, .int .i64 q] w fun e w' => e = .returned (.int .i64 (kindI R s q)) ∧ Has w0 w' (c ++ m) := by
  obtain ⟨D, b, o, lv, cl', cs, rfl, hM, ho, hV, hP⟩ := hT
  apply c27
  refine h_new H fun n4 u H => ?_
  have hout := out_c (w := u) (l := [s, q]) (o := some ⟨n4, 0, none⟩) (n := 2) (cap := 2) (rowsAt_cells (ty := 2) (sp := []) (ir1 [s, q]) (H.cells (by repeat (first | exact pick_head | apply pick_tail | apply pick_app)))) rfl (by simp)
  refine s_call hout ?_
  rintro _ _ ⟨rfl, rfl⟩
  refine ⟨_, rfl, s_asB (s_ite (fun g1 => s_ret ⟨?_, H.sub (by repeat (first | exact sb_refl | exact sb_nil | refine sb_cons (by repeat (first | exact pick_head | apply pick_tail | apply pick_app)) ?_ | refine sb_app (by repeat (first | exact cut_head | exact cut_all | apply cut_tail | apply cut_app)) ?_ | exact sb_one (by repeat (first | exact cut_head | exact cut_all | apply cut_tail | apply cut_app))))⟩) (fun g1 => ?_))⟩
  · simp only [List.any_cons, List.any_nil, Bool.or_false] at g1
    unfold kindI
    rw [if_pos g1]
  simp only [List.any_cons, List.any_nil, Bool.or_false] at g1
  have hk : kindI R s q = match lookR R s with
      | some r => if q = r.m + 1 then 1 else if q > r.m + 1 then 4 else if q = r.m then 2 else 3
      | none => if q = 1 then (if R.length = 64 then 5 else 1) else 4 := by unfold kindI; rw [if_neg (by simp [g1])]; cases lookR R s <;> rfl
  have hso := outI_false (Bool.or_eq_false_iff.1 g1).1
  have hqo := outI_false (Bool.or_eq_false_iff.1 g1).2
  obtain ⟨lk, hkey⟩ := keyI hs
  refine h_ldM H (by repeat (first | exact pick_head | apply pick_tail | apply pick_app)) rfl ?_
  refine h_look2 (a := s) (kf := kI) (vf := entV) H (b := b) (o := o) (by repeat (first | exact pick_head | apply pick_tail | apply pick_app)) hM keyed2 Try.underlying59 (zero69 _) (kI_inj s D) hkey ?_
  rcases get_tab (s := s) hP hI.up with ⟨x, h1, h2, h3, h4⟩ | ⟨h1, h4⟩
  all_goals
    rw [h4] at hk
    simp only at hk
    rw [h1]
    refine s_asU (s_req rfl (s_asA (s_req rfl (s_asI (s_asI (s_asS (s_asI (s_asI (s_asB ?_)))))))))
    (refine h_new H fun n19 u H => ?_)
    iterate 5 refine h_st H (by repeat (first | exact pick_head | apply pick_tail | apply pick_app)) (by first | (simp; done) | exact Nat.le_of_ble_eq_true rfl) rfl fun u H => ?_
  · have hok := hI.ok _ (row_mem hP h2)
    obtain ⟨_, _, hm1, hm2, _⟩ := hok
    change 1 ≤ x.m at hm1
    change x.m ≤ 1099511627776 at hm2
    have hk : kindI R s q = if q = x.m + 1 then 1 else if q > x.m + 1 then 4 else if q = x.m then 2 else 3 := hk
    refine s_blk (fun _ W => Has w0 W _) ?_ (s_false rfl (s_next (by simp) (by simp only [if_true]; exact H)))
    rintro _ _ W H
    refine h_ldI H (by repeat (first | exact pick_head | apply pick_tail | apply pick_app)) rfl ?_
    rw [wrapI (n := q - x.m) (by omega) (by omega)]
    refine s_ite (fun g => s_ret ⟨?_, H.sub (by repeat (first | exact sb_refl | exact sb_nil | refine sb_cons (by repeat (first | exact pick_head | apply pick_tail | apply pick_app)) ?_ | refine sb_app (by repeat (first | exact cut_head | exact cut_all | apply cut_tail | apply cut_app)) ?_ | exact sb_one (by repeat (first | exact cut_head | exact cut_all | apply cut_tail | apply cut_app))))⟩) (fun g => s_ite (fun g' => s_ret ⟨?_, H.sub (by repeat (first | exact sb_refl | exact sb_nil | refine sb_cons (by repeat (first | exact pick_head | apply pick_tail | apply pick_app)) ?_ | refine sb_app (by repeat (first | exact cut_head | exact cut_all | apply cut_tail | apply cut_app)) ?_ | exact sb_one (by repeat (first | exact cut_head | exact cut_all | apply cut_tail | apply cut_app))))⟩) (fun g' => s_ite (fun g'' => s_ret ⟨?_, H.sub (by repeat (first | exact sb_refl | exact sb_nil | refine sb_cons (by repeat (first | exact pick_head | apply pick_tail | apply pick_app)) ?_ | refine sb_app (by repeat (first | exact cut_head | exact cut_all | apply cut_tail | apply cut_app)) ?_ | exact sb_one (by repeat (first | exact cut_head | exact cut_all | apply cut_tail | apply cut_app))))⟩) (fun g'' => s_ret ⟨?_, H.sub (by repeat (first | exact sb_refl | exact sb_nil | refine sb_cons (by repeat (first | exact pick_head | apply pick_tail | apply pick_app)) ?_ | refine sb_app (by repeat (first | exact cut_head | exact cut_all | apply cut_tail | apply cut_app)) ?_ | exact sb_one (by repeat (first | exact cut_head | exact cut_all | apply cut_tail | apply cut_app))))⟩)))
    all_goals
      simp only [beq_iff_eq, decide_eq_true_eq, decide_eq_false_iff_not, beq_eq_false_iff_ne, ne_eq] at *
      rw [hk]
    · rw [if_pos (by omega)]
    · rw [if_neg (by omega), if_pos (by omega)]
    · rw [if_neg (by omega), if_neg (by omega), if_pos (by omega)]
    · rw [if_neg (by omega), if_neg (by omega), if_neg (by omega)]
  · refine h_blk (fun _ => q = 1 → R.length ≠ 64) H (s_true rfl (s_ite (fun g => ?_) (fun g => s_next (by simp) ?_))) ?_
    rotate_right
    · intro _ _ W H hr
      refine h_ldI H (by repeat (first | exact pick_head | apply pick_tail | apply pick_app)) rfl ?_
      rw [show q - 0 = q by omega, wrapI (n := q) (by omega) (by omega)]
      refine s_ite (fun g => s_ret ⟨?_, H.sub (by repeat (first | exact sb_refl | exact sb_nil | refine sb_cons (by repeat (first | exact pick_head | apply pick_tail | apply pick_app)) ?_ | refine sb_app (by repeat (first | exact cut_head | exact cut_all | apply cut_tail | apply cut_app)) ?_ | exact sb_one (by repeat (first | exact cut_head | exact cut_all | apply cut_tail | apply cut_app))))⟩) (fun g => s_ite (fun g' => s_ret ⟨?_, H.sub (by repeat (first | exact sb_refl | exact sb_nil | refine sb_cons (by repeat (first | exact pick_head | apply pick_tail | apply pick_app)) ?_ | refine sb_app (by repeat (first | exact cut_head | exact cut_all | apply cut_tail | apply cut_app)) ?_ | exact sb_one (by repeat (first | exact cut_head | exact cut_all | apply cut_tail | apply cut_app))))⟩) (fun g' => ?_))
      all_goals simp only [beq_iff_eq, decide_eq_true_eq, decide_eq_false_iff_not, beq_eq_false_iff_ne, ne_eq] at *
      · rw [hk, if_pos g, if_neg (hr g)]
      · rw [hk, if_neg g]
      · omega
    · simp only [beq_iff_eq] at g
      obtain ⟨ol, cl2, rfl⟩ := ho.slice
      refine h_ldS H (by repeat (first | exact pick_head | apply pick_tail | apply pick_app)) rfl (s_ite (fun g' => s_ret ⟨?_, H.sub (by repeat (first | exact sb_refl | exact sb_nil | refine sb_cons (by repeat (first | exact pick_head | apply pick_tail | apply pick_app)) ?_ | refine sb_app (by repeat (first | exact cut_head | exact cut_all | apply cut_tail | apply cut_app)) ?_ | exact sb_one (by repeat (first | exact cut_head | exact cut_all | apply cut_tail | apply cut_app))))⟩) (fun g' => s_next (by simp) ?_))
      · simp only [beq_iff_eq] at g'
        rw [hk, if_pos g, if_pos (by omega)]
      · simp only [beq_eq_false_iff_ne, ne_eq] at g'
        simp only [if_true]
        exact ⟨H, fun _ => by omega⟩
    · simp only [beq_eq_false_iff_ne, ne_eq] at g
      simp only [if_true]
      exact ⟨H, fun h => absurd h g⟩

theorem keyed3 : Maps.Keyed Try.prog 3 := Maps.int_keyed Try.underlying3
theorem kI_inj' (a : Int) (D : List (Int × Int)) : ∀ p ∈ D, kI p.1 = kI a → p.1 = a := by
  intro p _ h
  simpa [kI] using h
theorem keyI3 {a : Int} (h : inI a) : ∃ l, keyOf Try.prog 3 (kI a) = some l := by
  obtain ⟨h1, h2⟩ := h
  exact ⟨_, Maps.keyOf_int_mk Try.underlying3 (by simp [Lit.wf, IntKind.min, IntKind.max, IntKind.signed, IntKind.bits]; omega)⟩
theorem zero33 (w : World) : (zeroValue 33).run Try.prog w = .ok (.int .i64 0) w := by rfl
theorem refusals_c {k : Int} (hk : inI k) : Calls Try.prog 26 #[.int .i64 k] w fun e w' => e = .returned (.int .i64 (errI k)) ∧ Fr [] w w' := by
  apply c26
  obtain ⟨l1, k1⟩ := keyI3 (a := 1) ⟨by decide, by decide⟩
  obtain ⟨l2, k2⟩ := keyI3 (a := 2) ⟨by decide, by decide⟩
  obtain ⟨l5, k5⟩ := keyI3 (a := 5) ⟨by decide, by decide⟩
  obtain ⟨lk, kk⟩ := keyI3 hk
  refine h_newMap (Has.init w) fun n1 u H => ?_
  refine h_put (a := (1 : Int)) (v := (0 : Int)) (kf := kI) (vf := kI) H (by repeat (first | exact pick_head | apply pick_tail | apply pick_app)) MapO.new keyed3 Try.underlying79 (kI_inj' 1 _) k1 fun o1 u M1 H => ?_
  refine h_put (a := (2 : Int)) (v := (5 : Int)) (kf := kI) (vf := kI) H (by repeat (first | exact pick_head | apply pick_tail | apply pick_app)) M1 keyed3 Try.underlying79 (kI_inj' 2 _) k2 fun o2 u M2 H => ?_
  refine h_put (a := (5 : Int)) (v := (6 : Int)) (kf := kI) (vf := kI) H (by repeat (first | exact pick_head | apply pick_tail | apply pick_app)) M2 keyed3 Try.underlying79 (kI_inj' 5 _) k5 fun o3 u M3 H => ?_
  refine h_look2 (a := k) (kf := kI) (vf := kI) H (b := n1) (o := o3) (by repeat (first | exact pick_head | apply pick_tail | apply pick_app)) M3 keyed3 Try.underlying79 (zero33 _) (kI_inj' k _) kk ?_
  rw [getAt_put, getAt_put, getAt_put]
  refine s_asU (s_req rfl ?_)
  by_cases h5 : (5 : Int) = k
  · rw [if_pos h5]
    refine s_asI (s_asB (s_false rfl (s_ret ⟨?_, H.base⟩)))
    subst h5
    rfl
  · rw [if_neg h5]
    by_cases h2 : (2 : Int) = k
    · rw [if_pos h2]
      refine s_asI (s_asB (s_false rfl (s_ret ⟨?_, H.base⟩)))
      subst h2
      rfl
    · rw [if_neg h2]
      by_cases h1 : (1 : Int) = k
      · rw [if_pos h1]
        refine s_asI (s_asB (s_false rfl (s_ret ⟨?_, H.base⟩)))
        subst h1
        rfl
      · rw [if_neg h1]
        refine s_asI (s_asB (s_true rfl (s_ret ⟨?_, H.base⟩)))
        unfold errI
        rw [if_neg (by omega), if_neg (by omega), if_neg (by omega)]

theorem set_c {e slot place : Int} {vals : List Int} {o : Option Addr} {n cap : Nat} (H : Has w0 w (c ++ m)) (hT : Tab p R c) (hI : InvR R) (hs : inI s) (hv : ∀ u, Has w0 u m → ValsAt u o vals) (hn : n = vals.length)
    (hsz : vals.length * 8 ≤ 140737488355328) : Calls Try.prog 28 #[.pointer (some ⟨p, 0, none⟩), .int .i64 s, .int .i64 q, .agg ⟨resL e o n cap slot place⟩] w fun en w' =>
      ∃ c', en = .returned (.tuple #[]) ∧ Tab p (setR R ⟨s, q, ⟨e, vals, slot, place⟩⟩) c' ∧ Has w0 w' (c' ++ m) := by
  obtain ⟨D, b, om, lv, cl', cs, rfl, hM, ho, hV, hP⟩ := hT
  apply c28
  have H := assoc_to H
  obtain ⟨ol, capl, rfl⟩ := ho.slice
  have hRl := hI.len
  refine h_new H fun n10 u H => ?_
  refine s_blk (fun _ W => ∃ lv2 cl2, OwnC 2 1 lv2 (setR R ⟨s, q, ⟨e, vals, slot, place⟩⟩).length (ints ((setR R ⟨s, q, ⟨e, vals, slot, place⟩⟩).map (·.s))) cl2 ∧
    Has w0 W (cl n10 30 (resL e o n cap slot place) :: cl p 61 [.map (some b), lv2] :: (b, om) :: (cl2 ++ (cs.flatten ++ m)))) ?_ ?_
  · rintro _ _ W ⟨lv2, cl2, ho2, H⟩
    obtain ⟨lk, hkey⟩ := keyI hs
    refine h_drew H fun u H => h_ldM H (by repeat (first | exact pick_head | apply pick_tail | apply pick_app)) rfl (h_ldI H (by repeat (first | exact pick_head | apply pick_tail | apply pick_app)) rfl (h_ldS H (by repeat (first | exact pick_head | apply pick_tail | apply pick_app)) rfl (h_ldI H (by repeat (first | exact pick_head | apply pick_tail | apply pick_app)) rfl (h_ldI H (by repeat (first | exact pick_head | apply pick_tail | apply pick_app)) rfl ?_))))
    refine s_call (clone_c e slot place (hv _ (H.sub (by repeat (first | exact sb_refl | exact sb_nil | refine sb_cons (by repeat (first | exact pick_head | apply pick_tail | apply pick_app)) ?_ | refine sb_app (by repeat (first | exact cut_head | exact cut_all | apply cut_tail | apply cut_app)) ?_ | exact sb_one (by repeat (first | exact cut_head | exact cut_all | apply cut_tail | apply cut_app)))))) hn hsz) ?_
    rintro _ u ⟨o', cap', c', rfl, ho', Hc⟩
    have H := H.join Hc
    refine ⟨_, rfl, s_asA (s_req rfl (s_asI (s_asS (s_asI (s_asI ?_)))))⟩
    refine s_chk (hc_cons H (by repeat (first | exact pick_head | apply pick_tail | apply pick_app)) rfl c_nil) ?_
    refine h_put (a := s) (v := (⟨s, q, e, o', cap', vals, slot, place⟩ : AR)) (kf := kI) (vf := entV) H (b := b) (o := om) (by repeat (first | exact pick_head | apply pick_tail | apply pick_app)) hM keyed2 Try.underlying59 (kI_inj s D) hkey fun om' u hM' H => ?_
    obtain ⟨D2, cs2, e1, hV2, hS2, hP2⟩ := vals_put (x := ⟨s, q, e, o', cap', vals, slot, place⟩) (c := c') hP hI.up hV ho'
    change MapO Try.prog 2 kI entV om' (putAt (D.map kv) s ⟨s, q, e, o', cap', vals, slot, place⟩) at hM'
    rw [show putAt (D.map kv) s (⟨s, q, e, o', cap', vals, slot, place⟩ : AR) = D2.map kv from e1] at hM'
    refine s_chk c_nil (s_ret ⟨_, rfl, ⟨D2, b, om', lv2, cl2, cs2, rfl, hM', ho2, hV2, hP2⟩, ?_⟩)
    have H2 : Has w0 u (c' ++ (cs.flatten ++ (cl p 61 [.map (some b), lv2] :: (b, om') :: (cl2 ++ m)))) := H.sub (by repeat (first | exact sb_refl | exact sb_nil | refine sb_cons (by repeat (first | exact pick_head | apply pick_tail | apply pick_app)) ?_ | refine sb_app (by repeat (first | exact cut_head | exact cut_all | apply cut_tail | apply cut_app)) ?_ | exact sb_one (by repeat (first | exact cut_head | exact cut_all | apply cut_tail | apply cut_app))))
    have H3 := H2.sub (hS2 _)
    have H4 : Has w0 u (cl p 61 [.map (some b), lv2] :: (b, om') :: (cl2 ++ (cs2.flatten ++ m))) := H3.sub (by repeat (first | exact sb_refl | exact sb_nil | refine sb_cons (by repeat (first | exact pick_head | apply pick_tail | apply pick_app)) ?_ | refine sb_app (by repeat (first | exact cut_head | exact cut_all | apply cut_tail | apply cut_app)) ?_ | exact sb_one (by repeat (first | exact cut_head | exact cut_all | apply cut_tail | apply cut_app))))
    exact assoc_from H4
  · refine h_ldS H (by repeat (first | exact pick_head | apply pick_tail | apply pick_app)) rfl ?_
    have hol : OwnC 2 1 (.slice ol (R.map (·.s)).length capl) (R.map (·.s)).length (ints (R.map (·.s))) cl' := by rw [List.length_map]; exact ho
    have hva : ValsAt u ol (R.map (·.s)) := valsAt_own hol H (by repeat (first | exact cut_head | exact cut_all | apply cut_tail | apply cut_app))
    refine s_call (bs_c (n := R.length) (cap := capl) hva (by rw [List.length_map]) (by rw [List.length_map]; omega) hI.up s) ?_
    rintro _ _ ⟨rfl, rfl⟩
    have hks := keys_set hI.up (⟨s, q, ⟨e, vals, slot, place⟩⟩ : Rw)
    have hls := setR_len (R := R) (⟨s, q, ⟨e, vals, slot, place⟩⟩ : Rw)
    change _ = if hasR R s then _ else (R.map (·.s)).take (posR R s) ++ [s] ++ (R.map (·.s)).drop (posR R s) at hks
    change _ = if hasR R s then R.length else R.length + 1 at hls
    refine ⟨_, rfl, s_asU (s_req rfl (s_asI (s_asB ?_)))⟩
    change ((!hasR R s) = true → _) ∧ ((!hasR R s) = false → _)
    refine ⟨fun g => ?_, fun g => s_next (by simp) ?_⟩
    · simp only [Bool.not_eq_true'] at g
      rw [g, if_neg (by simp)] at hks hls
      refine h_ldS H (by repeat (first | exact pick_head | apply pick_tail | apply pick_app)) rfl (h_new H fun n39 u H => ?_)
      have hpl := posR_le R s
      refine s_call (insert_c (l := R.map (·.s)) (i := posR R s) (x := s) (m := cl n10 30 (resL e o n cap slot place) :: cl p 61 [.map (some b), .slice ol R.length capl] :: (b, om) :: (cs.flatten ++ m)) (H.sub (by repeat (first | exact sb_refl | exact sb_nil | refine sb_cons (by repeat (first | exact pick_head | apply pick_tail | apply pick_app)) ?_ | refine sb_app (by repeat (first | exact cut_head | exact cut_all | apply cut_tail | apply cut_app)) ?_ | exact sb_one (by repeat (first | exact cut_head | exact cut_all | apply cut_tail | apply cut_app))))) ho (by rw [List.length_map]) hpl (by omega)) ?_
      rintro _ u ⟨v, c', rfl, ho', H⟩
      obtain ⟨o', n', rfl⟩ := ho'.slice
      refine ⟨_, rfl, s_asS (h_st H (by repeat (first | exact pick_head | apply pick_tail | apply pick_app)) (by simp) rfl fun u H => s_next (by simp) ?_)⟩
      simp (config := { decide := true }) only [if_true, if_false]
      refine ⟨_, c', ?_, H.sub (by repeat (first | exact sb_refl | exact sb_nil | refine sb_cons (by repeat (first | exact pick_head | apply pick_tail | apply pick_app)) ?_ | refine sb_app (by repeat (first | exact cut_head | exact cut_all | apply cut_tail | apply cut_app)) ?_ | exact sb_one (by repeat (first | exact cut_head | exact cut_all | apply cut_tail | apply cut_app))))⟩
      rw [hls, hks]
      exact ho'
    · simp only [Bool.not_eq_false'] at g
      rw [g, if_pos rfl] at hks hls
      simp (config := { decide := true }) only [if_true, if_false]
      refine ⟨_, cl', ?_, H.sub (by repeat (first | exact sb_refl | exact sb_nil | refine sb_cons (by repeat (first | exact pick_head | apply pick_tail | apply pick_app)) ?_ | refine sb_app (by repeat (first | exact cut_head | exact cut_all | apply cut_tail | apply cut_app)) ?_ | exact sb_one (by repeat (first | exact cut_head | exact cut_all | apply cut_tail | apply cut_app))))⟩
      rw [hls, hks]
      exact ho

theorem kindI_in (R : List Rw) (s q : Int) : inI (kindI R s q) := by
  unfold kindI inI
  split
  · omega
  · split
    · split
      · omega
      · split
        · omega
        · split <;> omega
    · split
      · split <;> omega
      · omega
theorem errI_zero {k : Int} : errI k = 0 ↔ k = 1 := by
  unfold errI
  split
  · simp_all
  · split
    · simp_all
    · split <;> simp_all

theorem put_c {e slot place : Int} {vals : List Int} {o : Option Addr} {n cap : Nat} (H : Has w0 w (c ++ m)) (hT : Tab p R c) (hI : InvR R) (hs : inI s) (hq : inI q) (hv : ∀ u, Has w0 u m → ValsAt u o vals) (hn : n = vals.length)
    (hsz : vals.length * 8 ≤ 140737488355328) : Calls Try.prog 12 #[.pointer (some ⟨p, 0, none⟩), .int .i64 s, .int .i64 q, .agg ⟨resL e o n cap slot place⟩] w fun en w' =>
      ∃ c', en = .returned (.int .i64 (errI (kindI R s q))) ∧ Tab p (putR R s q ⟨e, vals, slot, place⟩) c' ∧ Has w0 w' (c' ++ m) := by
  apply c12
  refine h_new H fun n10 u H => ?_
  refine s_call (none_c (m := cl n10 30 (resL e o n cap slot place) :: m) (H.sub (by repeat (first | exact sb_refl | exact sb_nil | refine sb_cons (by repeat (first | exact pick_head | apply pick_tail | apply pick_app)) ?_ | refine sb_app (by repeat (first | exact cut_head | exact cut_all | apply cut_tail | apply cut_app)) ?_ | exact sb_one (by repeat (first | exact cut_head | exact cut_all | apply cut_tail | apply cut_app))))) hT) ?_
  rintro _ _ ⟨rfl, rfl⟩
  refine ⟨_, rfl, s_asB (s_false rfl (s_call (kind_c (m := cl n10 30 (resL e o n cap slot place) :: m) (H.sub (by repeat (first | exact sb_refl | exact sb_nil | refine sb_cons (by repeat (first | exact pick_head | apply pick_tail | apply pick_app)) ?_ | refine sb_app (by repeat (first | exact cut_head | exact cut_all | apply cut_tail | apply cut_app)) ?_ | exact sb_one (by repeat (first | exact cut_head | exact cut_all | apply cut_tail | apply cut_app))))) hT hI hs hq) ?_))⟩
  rintro _ u ⟨rfl, H⟩
  refine ⟨_, rfl, s_asI (s_call (refusals_c (kindI_in R s q)) ?_)⟩
  rintro _ u ⟨rfl, f⟩
  have H := H.fr0 f
  refine ⟨_, rfl, s_asI (s_ite (fun g => ?_) (fun g => ?_))⟩
  · simp only [beq_iff_eq] at g
    have hk := errI_zero.1 g
    refine h_ldI H (by repeat (first | exact pick_head | apply pick_tail | apply pick_app)) rfl (h_ldS H (by repeat (first | exact pick_head | apply pick_tail | apply pick_app)) rfl (h_ldI H (by repeat (first | exact pick_head | apply pick_tail | apply pick_app)) rfl (h_ldI H (by repeat (first | exact pick_head | apply pick_tail | apply pick_app)) rfl ?_)))
    refine s_call (set_c (m := cl n10 30 (resL e o n cap slot place) :: m) H hT hI hs (fun u H => hv u H.drop) hn hsz) ?_
    rintro _ u ⟨c', rfl, hT', H⟩
    refine ⟨_, rfl, s_ret ⟨c', by first | rfl | exact ⟨_, rfl⟩, ?_, H.sub (by repeat (first | exact sb_refl | exact sb_nil | refine sb_cons (by repeat (first | exact pick_head | apply pick_tail | apply pick_app)) ?_ | refine sb_app (by repeat (first | exact cut_head | exact cut_all | apply cut_tail | apply cut_app)) ?_ | exact sb_one (by repeat (first | exact cut_head | exact cut_all | apply cut_tail | apply cut_app))))⟩⟩
    unfold putR
    rw [if_pos hk]
    exact hT'
  · simp only [beq_eq_false_iff_ne, ne_eq] at g
    refine s_ret ⟨c, rfl, ?_, H.sub (by repeat (first | exact sb_refl | exact sb_nil | refine sb_cons (by repeat (first | exact pick_head | apply pick_tail | apply pick_app)) ?_ | refine sb_app (by repeat (first | exact cut_head | exact cut_all | apply cut_tail | apply cut_app)) ?_ | exact sb_one (by repeat (first | exact cut_head | exact cut_all | apply cut_tail | apply cut_app))))⟩
    unfold putR
    rw [if_neg (fun h => g (errI_zero.2 h))]
    exact hT

theorem ask_c (H : Has w0 w (c ++ m)) (hT : Tab p R c) (hI : InvR R) (hs : inI s) (hq : inI q) : Calls Try.prog 13 #[.pointer (some ⟨p, 0, none⟩), .int .i64 s, .int .i64 q] w fun en w' =>
      ∃ o' cap' c', en = .returned (.tuple #[.agg ⟨resL (ansR R s q).e o' (ansR R s q).vals.length cap' (ansR R s q).slot (ansR R s q).place⟩, .int .i64 (kindI R s q)]) ∧
        OwnC 2 1 (.slice o' (ansR R s q).vals.length cap') (ansR R s q).vals.length (ints (ansR R s q).vals) c' ∧ Has w0 w' (c' ++ (c ++ m)) := by
  apply c13
  refine h_new H fun n4 u H => ?_
  refine s_call (none_c (m := cl n4 30 (resL 0 none 0 0 0 0) :: m) (H.sub (by repeat (first | exact sb_refl | exact sb_nil | refine sb_cons (by repeat (first | exact pick_head | apply pick_tail | apply pick_app)) ?_ | refine sb_app (by repeat (first | exact cut_head | exact cut_all | apply cut_tail | apply cut_app)) ?_ | exact sb_one (by repeat (first | exact cut_head | exact cut_all | apply cut_tail | apply cut_app))))) hT) ?_
  rintro _ _ ⟨rfl, rfl⟩
  refine ⟨_, rfl, s_asB (s_false rfl (s_call (kind_c (m := cl n4 30 (resL 0 none 0 0 0 0) :: m) (H.sub (by repeat (first | exact sb_refl | exact sb_nil | refine sb_cons (by repeat (first | exact pick_head | apply pick_tail | apply pick_app)) ?_ | refine sb_app (by repeat (first | exact cut_head | exact cut_all | apply cut_tail | apply cut_app)) ?_ | exact sb_one (by repeat (first | exact cut_head | exact cut_all | apply cut_tail | apply cut_app))))) hT hI hs hq) ?_))⟩
  rintro _ u ⟨rfl, H⟩
  refine ⟨_, rfl, s_asI (s_ite (fun g => ?_) (fun g => ?_))⟩
  · simp only [bne_iff_ne, ne_eq] at g
    have hz : ansR R s q = zeroR := by unfold ansR; rw [if_neg g]
    have H : Has w0 u (cl n4 30 (resL 0 none 0 0 0 0) :: (c ++ m)) := H.sub (by repeat (first | exact sb_refl | exact sb_nil | refine sb_cons (by repeat (first | exact pick_head | apply pick_tail | apply pick_app)) ?_ | refine sb_app (by repeat (first | exact cut_head | exact cut_all | apply cut_tail | apply cut_app)) ?_ | exact sb_one (by repeat (first | exact cut_head | exact cut_all | apply cut_tail | apply cut_app))))
    (repeat (first | refine s_asI ?_ | refine s_asS ?_ | refine s_asP ?_ | refine s_asB ?_ | refine s_asA ?_ | refine s_asT ?_ | refine s_asM ?_ | refine s_asU ?_ | refine s_asC ?_ | refine s_sm ?_ | refine s_req (by first | rfl | exact ⟨rfl, rfl⟩) ?_ | refine h_ldI H (by repeat (first | exact pick_head | apply pick_tail | apply pick_app)) (by first | rfl | (simp; done)) ?_ | refine h_ldB H (by repeat (first | exact pick_head | apply pick_tail | apply pick_app)) (by first | rfl | (simp; done)) ?_ | refine h_ldP H (by repeat (first | exact pick_head | apply pick_tail | apply pick_app)) (by first | rfl | (simp; done)) ?_ | refine h_ldS H (by repeat (first | exact pick_head | apply pick_tail | apply pick_app)) (by first | rfl | (simp; done)) ?_ | refine h_ldM H (by repeat (first | exact pick_head | apply pick_tail | apply pick_app)) (by first | rfl | (simp; done)) ?_ | refine h_ldT H (by repeat (first | exact pick_head | apply pick_tail | apply pick_app)) (by first | rfl | (simp; done)) ?_ | refine h_ldV H (by repeat (first | exact pick_head | apply pick_tail | apply pick_app)) (by first | rfl | (simp; done)) ?_ | (refine h_new H fun _ u H => ?_) | (refine h_st H (by repeat (first | exact pick_head | apply pick_tail | apply pick_app)) (by first | (simp; done) | exact Nat.le_of_ble_eq_true rfl) rfl fun u H => ?_) | (refine h_drew H fun u H => ?_) | refine s_chk c_nil ?_))
    rw [hz]
    exact s_ret ⟨none, 0, [], rfl, OwnC.nil, H.sub (by repeat (first | exact sb_refl | exact sb_nil | refine sb_cons (by repeat (first | exact pick_head | apply pick_tail | apply pick_app)) ?_ | refine sb_app (by repeat (first | exact cut_head | exact cut_all | apply cut_tail | apply cut_app)) ?_ | exact sb_one (by repeat (first | exact cut_head | exact cut_all | apply cut_tail | apply cut_app))))⟩
  · have g : kindI R s q = 2 := by simpa using g
    obtain ⟨D, b, om, lv, cl', cs, rfl, hM, ho, hV, hP⟩ := hT
    have H : Has w0 u (cl n4 30 (resL 0 none 0 0 0 0) :: cl p 61 [.map (some b), lv] :: (b, om) :: (cl' ++ (cs.flatten ++ m))) := by
      have H2 := assoc_to H
      exact H2.sub (by repeat (first | exact sb_refl | exact sb_nil | refine sb_cons (by repeat (first | exact pick_head | apply pick_tail | apply pick_app)) ?_ | refine sb_app (by repeat (first | exact cut_head | exact cut_all | apply cut_tail | apply cut_app)) ?_ | exact sb_one (by repeat (first | exact cut_head | exact cut_all | apply cut_tail | apply cut_app))))
    obtain ⟨lk, hkey⟩ := keyI hs
    refine h_ldM H (by repeat (first | exact pick_head | apply pick_tail | apply pick_app)) rfl ?_
    refine h_look1 (a := s) (kf := kI) (vf := entV) H (b := b) (o := om) (by repeat (first | exact pick_head | apply pick_tail | apply pick_app)) hM keyed2 Try.underlying59 (zero69 _) (kI_inj s D) hkey ?_
    rcases get_tab (s := s) hP hI.up with ⟨x, h1, h2, h3, h4⟩ | ⟨h1, h4⟩
    · rw [h1]
      have ha : ansR R s q = x.row.r := by unfold ansR; rw [if_pos g, h4]; rfl
      rw [ha]
      obtain ⟨i, hi, hie⟩ := List.getElem_of_mem h2
      have hci : i < cs.length := by rw [hV.1]; exact hi
      have hown := hV.2 i x cs[i] (by rw [List.getElem?_eq_getElem hi, hie]) (List.getElem?_eq_getElem hci)
      have hva : ValsAt u x.o x.vals := valsAt_own hown H (cut_tail (cut_tail (cut_tail (cut_app (cut_app' (cut_flat (List.getElem?_eq_getElem hci)))))))
      have hok := (hI.ok _ (row_mem hP h2)).2.2.2.2
      refine s_asA (s_req rfl (s_asI (s_asI (s_asS (s_asI (s_asI ?_))))))
      refine s_call (clone_c x.e x.slot x.place hva rfl hok) ?_
      rintro _ u ⟨o', cap', c', rfl, ho', Hc⟩
      have H := H.join Hc
      have H : Has w0 u (cl n4 30 (resL 0 none 0 0 0 0) :: (c' ++ (cl p 61 [.map (some b), lv] :: (b, om) :: (cl' ++ (cs.flatten ++ m))))) := H.sub (by repeat (first | exact sb_refl | exact sb_nil | refine sb_cons (by repeat (first | exact pick_head | apply pick_tail | apply pick_app)) ?_ | refine sb_app (by repeat (first | exact cut_head | exact cut_all | apply cut_tail | apply cut_app)) ?_ | exact sb_one (by repeat (first | exact cut_head | exact cut_all | apply cut_tail | apply cut_app))))
      refine ⟨_, rfl, s_asA (s_req rfl (s_asI (s_asS (s_asI (s_asI ?_)))))⟩
      (repeat (first | refine s_asI ?_ | refine s_asS ?_ | refine s_asP ?_ | refine s_asB ?_ | refine s_asA ?_ | refine s_asT ?_ | refine s_asM ?_ | refine s_asU ?_ | refine s_asC ?_ | refine s_sm ?_ | refine s_req (by first | rfl | exact ⟨rfl, rfl⟩) ?_ | refine h_ldI H (by repeat (first | exact pick_head | apply pick_tail | apply pick_app)) (by first | rfl | (simp; done)) ?_ | refine h_ldB H (by repeat (first | exact pick_head | apply pick_tail | apply pick_app)) (by first | rfl | (simp; done)) ?_ | refine h_ldP H (by repeat (first | exact pick_head | apply pick_tail | apply pick_app)) (by first | rfl | (simp; done)) ?_ | refine h_ldS H (by repeat (first | exact pick_head | apply pick_tail | apply pick_app)) (by first | rfl | (simp; done)) ?_ | refine h_ldM H (by repeat (first | exact pick_head | apply pick_tail | apply pick_app)) (by first | rfl | (simp; done)) ?_ | refine h_ldT H (by repeat (first | exact pick_head | apply pick_tail | apply pick_app)) (by first | rfl | (simp; done)) ?_ | refine h_ldV H (by repeat (first | exact pick_head | apply pick_tail | apply pick_app)) (by first | rfl | (simp; done)) ?_ | (refine h_new H fun _ u H => ?_) | (refine h_st H (by repeat (first | exact pick_head | apply pick_tail | apply pick_app)) (by first | (simp; done) | exact Nat.le_of_ble_eq_true rfl) rfl fun u H => ?_) | (refine h_drew H fun u H => ?_) | refine s_chk c_nil ?_))
      refine s_ret ⟨o', cap', c', by rw [g]; rfl, ho', ?_⟩
      rw [show ((cl p 61 [.map (some b), lv] :: (b, om) :: (cl' ++ cs.flatten)) ++ m) = cl p 61 [.map (some b), lv] :: (b, om) :: (cl' ++ (cs.flatten ++ m)) by simp]
      exact H.drop
    · exfalso
      unfold kindI at g
      split at g
      · omega
      · rw [h4] at g
        simp only at g
        split at g
        · split at g <;> omega
        · omega

theorem last_c (H : Has w0 w (c ++ m)) (hT : Tab p R c) (hI : InvR R) (hs : inI s) : Calls Try.prog 23 #[.pointer (some ⟨p, 0, none⟩), .int .i64 s] w fun e w' => e = .returned (.int .i64 (lastR R s)) ∧ w = w' := by
  apply c23
  refine s_call (none_c H hT) ?_
  rintro _ _ ⟨rfl, rfl⟩
  refine ⟨_, rfl, s_asB (s_false rfl ?_)⟩
  obtain ⟨D, b, om, lv, cl', cs, rfl, hM, ho, hV, hP⟩ := hT
  obtain ⟨lk, hkey⟩ := keyI hs
  refine h_ldM H (by repeat (first | exact pick_head | apply pick_tail | apply pick_app)) rfl ?_
  refine h_look1 (a := s) (kf := kI) (vf := entV) H (b := b) (o := om) (by repeat (first | exact pick_head | apply pick_tail | apply pick_app)) hM keyed2 Try.underlying59 (zero69 _) (kI_inj s D) hkey ?_
  rcases get_tab (s := s) hP hI.up with ⟨x, h1, h2, h3, h4⟩ | ⟨h1, h4⟩
  all_goals
    rw [h1]
    refine s_asA (s_req rfl (s_asI (s_asI (s_asS (s_asI (s_asI (s_ret ⟨?_, rfl⟩)))))))
    unfold lastR
    rw [h4]
    rfl
end
end Go.Proofs.Ytcmdbaafnbdpbaa
