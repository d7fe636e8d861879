/- What the queues are asked, walked. -/
import Derived.Test.YtdepohepogocgaaLkM
import Derived.Test.YtdepohepogocgaaKeysA
set_option linter.unusedVariables false
set_option linter.unusedSimpArgs false
set_option maxRecDepth 100000
set_option maxHeartbeats 1000000
namespace Go.Proofs.Ytdepohepogocgaa
open Go hiding Expr
open Go.RowKit Tr

theorem waits_step {A : St} {t : Ix} {l : List Lk} {i : Nat} {y : Lk} (h : l[i]? = some y) : waitsL A t (l.take (i + 1)) = waitsL A t (l.take i) ++ if holdsQ (queueOf A y.k) t then [] else [y.k] := by
  unfold waitsL
  rw [List.take_add_one, h, Option.toList_some, List.filter_append, List.map_append]
  congr 1
  by_cases hh : holdsQ (queueOf A y.k) t = true <;> simp [hh]
theorem waits_len {A : St} {t : Ix} {l : List Lk} : (waitsL A t l).length ≤ l.length := by
  unfold waitsL
  rw [List.length_map]
  exact List.length_filter_le ..
theorem want_le {A : St} {t : Ix} (hz : Sz A) : ((wantOf A t).getD []).length ≤ 5864062014805 := by
  cases h : wantOf A t with
  | none => simp
  | some w => exact hz.2 _ (mem_ids h)
theorem want_in {A : St} {t : Ix} (hi : InA A) {y : Lk} (hy : y ∈ (wantOf A t).getD []) : InK y.k := by
  cases h : wantOf A t with
  | none => rw [h] at hy; cases hy
  | some w =>
    rw [h] at hy
    exact (hi _ (mem_ids h)).2 y hy

section
variable {w : World} {p : Nat} {A : St}

theorem cloneL_c {o : Option Addr} {l : List Lk} {n cap : Nat} (h : RowsAt w o 3 (l.map lr)) (hn : n = l.length) (hsz : l.length ≤ 5864062014805) : Calls Try.prog 25 #[.slice o n cap] w fun e w' =>
    ∃ o' cap' c, e = .returned (.slice o' l.length cap') ∧ OwnC 63 3 (.slice o' l.length cap') l.length (l.map lr).flatten c ∧ Has w w' c := by
  apply c25
  subst hn
  refine s_ite (fun g1 => ?_) (fun g1 => ?_)
  · cases o with
    | some a => cases g1
    | none =>
      have hl := h.none
      have hl : l = [] := by simpa using hl
      subst hl
      exact s_ret ⟨none, 0, [], rfl, OwnC.nil, Has.init w⟩
  · refine h_new (Has.init w) fun r u H => ?_
    refine h_appAll elemL (by decide) H (cut_one (by repeat (first | exact pick_head | apply pick_tail | apply pick_app))) (OwnC.zero 63 3 r) (lr3 l) (lr_one l) (RowsAt.fr h H.base) (by rw [List.length_map]) (by omega) (by omega) ?_
    intro v' c' u ho' H
    obtain ⟨o', c2, rfl⟩ := ho'.slice
    rw [Nat.zero_add] at ho'
    simp only [Nat.zero_add]
    exact s_asS (s_ret ⟨_, _, c', rfl, by simpa using ho', H.sub (by repeat (first | exact sb_refl | exact sb_nil | refine sb_cons (by repeat (first | exact pick_head | apply pick_tail | apply pick_app)) ?_ | refine sb_app (by repeat (first | exact cut_head | exact cut_all | apply cut_tail | apply cut_app)) ?_ | exact sb_one (by repeat (first | exact cut_head | exact cut_all | apply cut_tail | apply cut_app))))⟩)

theorem cloneW_c {o : Option Addr} {l : List (Ix × Bool)} {n cap : Nat} (h : RowsAt w o 4 (l.map wr)) (hn : n = l.length) (hsz : l.length ≤ 5864062014805) : Calls Try.prog 37 #[.slice o n cap] w fun e w' =>
    ∃ o' cap' c, e = .returned (.slice o' l.length cap') ∧ OwnC 43 4 (.slice o' l.length cap') l.length (l.map wr).flatten c ∧ Has w w' c := by
  apply c37
  subst hn
  refine s_ite (fun g1 => ?_) (fun g1 => ?_)
  · cases o with
    | some a => cases g1
    | none =>
      have hl := h.none
      have hl : l = [] := by simpa using hl
      subst hl
      exact s_ret ⟨none, 0, [], rfl, OwnC.nil, Has.init w⟩
  · refine h_new (Has.init w) fun r u H => ?_
    refine h_appAll elemW (by decide) H (cut_one (by repeat (first | exact pick_head | apply pick_tail | apply pick_app))) (OwnC.zero 43 4 r) (wr4 l) (wr_one l) (RowsAt.fr h H.base) (by rw [List.length_map]) (by omega) (by omega) ?_
    intro v' c' u ho' H
    obtain ⟨o', c2, rfl⟩ := ho'.slice
    rw [Nat.zero_add] at ho'
    simp only [Nat.zero_add]
    exact s_asS (s_ret ⟨_, _, c', rfl, by simpa using ho', H.sub (by repeat (first | exact sb_refl | exact sb_nil | refine sb_cons (by repeat (first | exact pick_head | apply pick_tail | apply pick_app)) ?_ | refine sb_app (by repeat (first | exact cut_head | exact cut_all | apply cut_tail | apply cut_app)) ?_ | exact sb_one (by repeat (first | exact cut_head | exact cut_all | apply cut_tail | apply cut_app))))⟩)

theorem cloneI_c {o : Option Addr} {l : List Ix} {n cap : Nat} (h : RowsAt w o 2 (l.map ir)) (hn : n = l.length) (hsz : l.length ≤ 5864062014805) : Calls Try.prog 39 #[.slice o n cap] w fun e w' =>
    ∃ o' cap' c, e = .returned (.slice o' l.length cap') ∧ OwnC 27 2 (.slice o' l.length cap') l.length (l.map ir).flatten c ∧ Has w w' c := by
  apply c39
  subst hn
  refine s_ite (fun g1 => ?_) (fun g1 => ?_)
  · cases o with
    | some a => cases g1
    | none =>
      have hl := h.none
      have hl : l = [] := by simpa using hl
      subst hl
      exact s_ret ⟨none, 0, [], rfl, OwnC.nil, Has.init w⟩
  · refine h_new (Has.init w) fun r u H => ?_
    refine h_appAll elemI (by decide) H (cut_one (by repeat (first | exact pick_head | apply pick_tail | apply pick_app))) (OwnC.zero 27 2 r) (ir2 l) (ir_one l) (RowsAt.fr h H.base) (by rw [List.length_map]) (by omega) (by omega) ?_
    intro v' c' u ho' H
    obtain ⟨o', c2, rfl⟩ := ho'.slice
    rw [Nat.zero_add] at ho'
    simp only [Nat.zero_add]
    exact s_asS (s_ret ⟨_, _, c', rfl, by simpa using ho', H.sub (by repeat (first | exact sb_refl | exact sb_nil | refine sb_cons (by repeat (first | exact pick_head | apply pick_tail | apply pick_app)) ?_ | refine sb_app (by repeat (first | exact cut_head | exact cut_all | apply cut_tail | apply cut_app)) ?_ | exact sb_one (by repeat (first | exact cut_head | exact cut_all | apply cut_tail | apply cut_app))))⟩)

theorem len16_c (h : LkW w p A) : Calls Try.prog 23 #[.pointer (some ⟨p, 0, none⟩)] w fun e w' => e = .returned (.int .i64 A.length) ∧ Fr [] w w' := by
  have hh := h
  obtain ⟨c, ⟨bq, bw, oq, ow, so, cq, cw, co, rfl, hq, hw, ⟨ho1, ho2⟩, hg, hi⟩, HL⟩ := h
  apply c23
  refine s_call (none_c hh) ?_
  rintro _ _ ⟨rfl, rfl⟩
  refine ⟨_, rfl, s_asB (s_false rfl (h_ldS HL (by repeat (first | exact pick_head | apply pick_tail | apply pick_app)) rfl (s_ret ⟨?_, Fr.refl _ _⟩)))⟩
  rw [ho1]
  simp [ids]

theorem waits_c (h : LkW w p A) (hz : Sz A) {t : Ix} (ht : InI t) : Calls Try.prog 30 #[.pointer (some ⟨p, 0, none⟩), .agg ⟨ir t⟩] w fun e w' =>
    ∃ v c, e = .returned v ∧ OwnC 39 2 v (waitsA A t).length (enc (waitsA A t)) c ∧ Has w w' c := by
  have hh := h
  obtain ⟨c, ⟨bq, bw, oq, ow, so, cq, cw, co, rfl, hq, hw, ho, hg, hi⟩, HL⟩ := h
  obtain ⟨s, c2, hx, e1, _, e2, e3⟩ := open_w (t := t) hw HL (by repeat (first | exact cut_head | exact cut_all | apply cut_tail | apply cut_app))
  have hwl := want_le (A := A) (t := t) hz
  have hwi : ∀ y ∈ (wantOf A t).getD [], InK y.k := fun y => want_in hi
  have hdef : waitsA A t = waitsL A t ((wantOf A t).getD []) := rfl
  generalize (wantOf A t).getD [] = l at *
  apply c30
  refine h_new (Has.init w) fun n4 u H => ?_
  refine s_call (none_c (hh.fr0 H.base)) ?_
  rintro _ _ ⟨rfl, rfl⟩
  refine ⟨_, rfl, s_asB (s_false rfl (h_drew H fun u H => ?_))⟩
  have HL := HL.fr0 H.base
  obtain ⟨lk, hlk⟩ := keyOfI ht
  refine h_ldM HL (by repeat (first | exact pick_head | apply pick_tail | apply pick_app)) rfl (h_ldI H (by repeat (first | exact pick_head | apply pick_tail | apply pick_app)) rfl (h_ldI H (by repeat (first | exact pick_head | apply pick_tail | apply pick_app)) rfl ?_))
  refine f_look1 HL (bk := bw) (o := ow) (a := t) (kf := kfI) (by repeat (first | exact pick_head | apply pick_tail | apply pick_app)) hx keyedI map69 (zero28 u) (fun x => kfI_inj) hlk ?_
  rw [e1]
  unfold Sz at hz
  unfold vS
  refine s_asS (s_chk c_nil ?_)
  refine s_loop (fun vs W => ∃ (i : Nat) (v : Value) (c m : Hp), vs = [v, .int .i64 i] ∧ i ≤ l.length ∧ OwnC 39 2 v (waitsL A t (l.take i)).length (enc (waitsL A t (l.take i))) c ∧ Has w W (cl n4 27 (ir t) :: (c ++ m))) (fun vs _ => l.length - (intOf (vs.getD 1 undef)).toNat)
    ⟨0, _, [], [], rfl, by omega, OwnC.nil, H⟩ ?_
  clear H HL
  rintro _ j W ⟨i, v, cv, mm, rfl, hil, hov, H⟩
  obtain ⟨o', c', rfl⟩ := hov.slice
  refine s_asS (s_asI (s_ite (fun g1 => ?_) (fun g1 => ?_)))
  · simp only [decide_eq_true_eq] at g1
    have hlt : i < l.length := by omega
    obtain ⟨y, hy⟩ : ∃ y, l[i]? = some y := ⟨_, List.getElem?_eq_getElem hlt⟩
    have hst := waits_step (A := A) (t := t) hy
    have hwl2 := waits_len (A := A) (t := t) (l := l.take i)
    rw [List.length_take] at hwl2
    obtain ⟨g, off, he, _, hc⟩ := (RowsAt.fr e3 H.base).at (j := i) (r := lr y) (by rw [List.getElem?_map, hy]; rfl)
    refine s_req ⟨by omega, g1⟩ ⟨g, off, he, s_loadI (hc 0 _ rfl) (s_loadI (hc 1 _ rfl) (s_loadB (hc 2 _ rfl) ?_))⟩
    (refine h_new H fun n25 u H => ?_)
    iterate 3 refine h_st H (by repeat (first | exact pick_head | apply pick_tail | apply pick_app)) (by first | (simp; done) | exact Nat.le_of_ble_eq_true rfl) rfl fun u H => ?_
    refine h_ldI H (by repeat (first | exact pick_head | apply pick_tail | apply pick_app)) rfl (h_ldI H (by repeat (first | exact pick_head | apply pick_tail | apply pick_app)) rfl (h_ldI H (by repeat (first | exact pick_head | apply pick_tail | apply pick_app)) rfl (h_ldI H (by repeat (first | exact pick_head | apply pick_tail | apply pick_app)) rfl (s_call (holds_c (hh.fr0 H.base) (by unfold Sz; omega) (t := t) (k := y.k) (hwi y (List.mem_of_getElem? hy))) ?_))))
    rintro _ u ⟨rfl, f⟩
    have H := H.fr0 f
    refine ⟨_, rfl, s_asB (s_ite (fun g2 => ?_) (fun g2 => s_next (by first | exact ⟨rfl, rfl⟩ | trivial) ?_))⟩
    · simp at g2
      rw [g2] at hst
      refine h_ldI H (by repeat (first | exact pick_head | apply pick_tail | apply pick_app)) rfl (h_ldI H (by repeat (first | exact pick_head | apply pick_tail | apply pick_app)) rfl ?_)
      (refine h_new H fun n34 u H => ?_)
      refine h_app1 elemK H (by repeat (first | exact cut_head | exact cut_all | apply cut_tail | apply cut_app)) hov (r := n34) (l := kr y.k) (by repeat (first | exact pick_head | apply pick_tail | apply pick_app)) rfl (by intro u hu; simp [kr] at hu; rcases hu with rfl | rfl <;> rfl) (by omega) (by omega) ?_
      intro v' c' u ho' H
      obtain ⟨o2, c3, rfl⟩ := ho'.slice
      refine s_asS (s_next (by first | exact ⟨rfl, rfl⟩ | trivial) ?_)
      simp (config := { decide := true }) only [if_true, if_false]
      refine ⟨⟨i + 1, _, c', _, by rw [w_succ (by omega)], by omega, ?_, H.sub (by repeat (first | exact sb_refl | exact sb_nil | refine sb_cons (by repeat (first | exact pick_head | apply pick_tail | apply pick_app)) ?_ | refine sb_app (by repeat (first | exact cut_head | exact cut_all | apply cut_tail | apply cut_app)) ?_ | exact sb_one (by repeat (first | exact cut_head | exact cut_all | apply cut_tail | apply cut_app))))⟩, by rw [w_succ (by omega)]; simp [intOf] <;> omega⟩
      rw [hst, enc_append]
      simpa [enc] using ho'
    · simp at g2
      rw [g2] at hst
      simp at hst
      simp (config := { decide := true }) only [if_true, if_false]
      exact ⟨⟨i + 1, _, cv, _, by rw [w_succ (by omega)], by omega, by rw [hst]; exact hov, H.sub (by repeat (first | exact sb_refl | exact sb_nil | refine sb_cons (by repeat (first | exact pick_head | apply pick_tail | apply pick_app)) ?_ | refine sb_app (by repeat (first | exact cut_head | exact cut_all | apply cut_tail | apply cut_app)) ?_ | exact sb_one (by repeat (first | exact cut_head | exact cut_all | apply cut_tail | apply cut_app))))⟩, by rw [w_succ (by omega)]; simp [intOf] <;> omega⟩
  · simp only [decide_eq_false_iff_not] at g1
    rw [List.take_of_length_le (by omega)] at hov ⊢
    rw [hdef]
    exact s_ret ⟨.slice o' _ c', cv, rfl, hov, H.sub (by repeat (first | exact sb_refl | exact sb_nil | refine sb_cons (by repeat (first | exact pick_head | apply pick_tail | apply pick_app)) ?_ | refine sb_app (by repeat (first | exact cut_head | exact cut_all | apply cut_tail | apply cut_app)) ?_ | exact sb_one (by repeat (first | exact cut_head | exact cut_all | apply cut_tail | apply cut_app))))⟩

/-! ### Ready -/
theorem rcl_c (h : LkW w p A) (hz : Sz A) {t : Ix} {y : Lk} (hk : InK y.k) {n3 n5 : Nat} {t3 t5 : TypeId} (h3 : Cells w n3 t3 [.pointer (some ⟨p, 0, none⟩)]) (h5 : Cells w n5 t5 (ir t)) :
    Calls Try.prog 48 #[.agg ⟨lr y⟩, .pointer (some ⟨n3, 0, none⟩), .pointer (some ⟨n5, 0, none⟩)] w fun e w' => e = .returned (.bool (!holdsQ (queueOf A y.k) t)) ∧ Fr [] w w' := by
  apply c48
  refine h_new (Has.init w) fun n7 u H => ?_
  have h3 := H.base.cells h3 (by simp)
  have h5 := H.base.cells h5 (by simp)
  refine s_ldP h3 rfl (s_ldI h5 rfl (s_ldI h5 rfl (h_ldI H (by repeat (first | exact pick_head | apply pick_tail | apply pick_app)) rfl (h_ldI H (by repeat (first | exact pick_head | apply pick_tail | apply pick_app)) rfl (s_call (holds_c (h.fr0 H.base) hz (t := t) (k := y.k) hk) ?_)))))
  rintro _ u ⟨rfl, f⟩
  exact ⟨_, rfl, s_asB (s_ret ⟨rfl, (H.fr0 f).base⟩)⟩
theorem ixf_c (h : LkW w p A) (hz : Sz A) {t : Ix} {l : List Lk} {o : Option Addr} {n cap : Nat} (hn : n = l.length) (hl : RowsAt w o 3 (l.map lr)) (hmax : l.length ≤ 5864062014805) (hin : ∀ y ∈ l, InK y.k) {n3 n5 : Nat} {t3 t5 : TypeId}
    (h3 : Cells w n3 t3 [.pointer (some ⟨p, 0, none⟩)]) (h5 : Cells w n5 t5 (ir t)) :
    Calls Try.prog 70 #[.slice o n cap, .func (.func 48) #[] #[.pointer (some ⟨n3, 0, none⟩), .pointer (some ⟨n5, 0, none⟩)]] w fun e w' => ∃ r : Int, e = .returned (.int .i64 r) ∧ decide (r ≥ 0) = l.any (fun y => !holdsQ (queueOf A y.k) t) ∧ Fr [] w w' := by
  subst hn
  apply c70
  refine s_loop (fun vs W => ∃ i : Nat, vs = [.int .i64 i] ∧ i ≤ l.length ∧ l.any (fun y => !holdsQ (queueOf A y.k) t) = (l.drop i).any (fun y => !holdsQ (queueOf A y.k) t) ∧ Has w W []) (fun vs _ => l.length - (intOf (vs.getD 0 undef)).toNat)
    ⟨0, rfl, by omega, rfl, Has.init w⟩ ?_
  rintro _ j W ⟨i, rfl, hil, hgo, H⟩
  refine s_asI (s_ite (fun g1 => ?_) (fun g1 => ?_))
  · simp only [decide_eq_true_eq] at g1
    have hlt : i < l.length := by omega
    obtain ⟨y, hy⟩ : ∃ y, l[i]? = some y := ⟨_, List.getElem?_eq_getElem hlt⟩
    have hd : l.drop i = y :: l.drop (i + 1) := by
      obtain ⟨h1, rfl⟩ := List.getElem?_eq_some_iff.1 hy
      exact List.drop_eq_getElem_cons h1
    rw [hd, List.any_cons] at hgo
    obtain ⟨g, off, he, _, hc⟩ := (RowsAt.fr hl H.base).at (j := i) (r := lr y) (by rw [List.getElem?_map, hy]; rfl)
    refine s_req ⟨by omega, g1⟩ ⟨g, off, he, s_loadI (hc 0 _ rfl) (s_loadI (hc 1 _ rfl) (s_loadB (hc 2 _ rfl) (s_call (rcl_c (h.fr0 H.base) hz (t := t) (y := y) (hin y (List.mem_of_getElem? hy)) (H.base.cells h3 (by simp)) (H.base.cells h5 (by simp))) ?_)))⟩
    rintro _ u ⟨rfl, f⟩
    have H := H.fr0 f
    refine ⟨_, rfl, s_asB (s_ite (fun g2 => s_ret ⟨i, rfl, ?_, H.base⟩) (fun g2 => s_next (by first | exact ⟨rfl, rfl⟩ | trivial) ?_))⟩
    · rw [hgo, g2]
      simp
    · rw [g2, Bool.false_or] at hgo
      simp (config := { decide := true }) only [if_true, if_false]
      exact ⟨⟨i + 1, by rw [w_succ (by omega)], by omega, hgo, H⟩, by rw [w_succ (by omega)]; simp [intOf] <;> omega⟩
  · simp only [decide_eq_false_iff_not] at g1
    rw [List.drop_of_length_le (by omega)] at hgo
    exact s_ret ⟨-1, rfl, by rw [hgo]; rfl, H.base⟩
theorem cf_c (h : LkW w p A) (hz : Sz A) {t : Ix} {l : List Lk} {o : Option Addr} {n cap : Nat} (hn : n = l.length) (hl : RowsAt w o 3 (l.map lr)) (hmax : l.length ≤ 5864062014805) (hin : ∀ y ∈ l, InK y.k) {n3 n5 : Nat} {t3 t5 : TypeId}
    (h3 : Cells w n3 t3 [.pointer (some ⟨p, 0, none⟩)]) (h5 : Cells w n5 t5 (ir t)) :
    Calls Try.prog 47 #[.slice o n cap, .func (.func 48) #[] #[.pointer (some ⟨n3, 0, none⟩), .pointer (some ⟨n5, 0, none⟩)]] w fun e w' => e = .returned (.bool (l.any (fun y => !holdsQ (queueOf A y.k) t))) ∧ Fr [] w w' := by
  apply c47
  refine s_call (ixf_c h hz hn hl hmax hin h3 h5) ?_
  rintro _ u ⟨r, rfl, e, f⟩
  exact ⟨_, rfl, s_asI (s_ret ⟨by rw [e], f⟩)⟩
theorem ready_any {t : Ix} {l : List Lk} : (!l.any (fun y => !holdsQ (queueOf A y.k) t)) = (waitsL A t l).isEmpty := by
  unfold waitsL
  induction l with
  | nil => rfl
  | cons y r ih =>
    rw [List.any_cons]
    cases hh : holdsQ (queueOf A y.k) t with
    | true => rw [List.filter_cons_of_neg (by simp [hh])]; simpa using ih
    | false => rw [List.filter_cons_of_pos (by simp [hh])]; simp
theorem ready_c (h : LkW w p A) (hz : Sz A) {t : Ix} (ht : InI t) : Calls Try.prog 18 #[.pointer (some ⟨p, 0, none⟩), .agg ⟨ir t⟩] w fun e w' => e = .returned (.bool (readyA A t)) ∧ Fr [] w w' := by
  have hh := h
  obtain ⟨c, ⟨bq, bw, oq, ow, so, cq, cw, co, rfl, hq, hw, ho, hg, hi⟩, HL⟩ := h
  obtain ⟨s, c2, hx, e1, es, e2, e3⟩ := open_w (t := t) hw HL (by repeat (first | exact cut_head | exact cut_all | apply cut_tail | apply cut_app))
  have hwl := want_le (A := A) (t := t) hz
  have hwi : ∀ y ∈ (wantOf A t).getD [], InK y.k := fun y => want_in hi
  have hdef : waitsA A t = waitsL A t ((wantOf A t).getD []) := rfl
  have hrd : readyA A t = ((wantOf A t).isSome && (waitsA A t).isEmpty) := rfl
  generalize (wantOf A t).getD [] = l at *
  apply c18
  refine h_new (Has.init w) fun n4 u H => ?_
  (refine h_new H fun n5 u H => ?_)
  refine h_ldP H (by repeat (first | exact pick_head | apply pick_tail | apply pick_app)) rfl (s_call (none_c (hh.fr0 H.base)) ?_)
  rintro _ _ ⟨rfl, rfl⟩
  refine ⟨_, rfl, s_asB (s_false rfl (h_drew H fun u H => ?_))⟩
  have HL := HL.fr0 H.base
  obtain ⟨lk, hlk⟩ := keyOfI ht
  refine h_ldP H (by repeat (first | exact pick_head | apply pick_tail | apply pick_app)) rfl (s_sm (h_ldM HL (by repeat (first | exact pick_head | apply pick_tail | apply pick_app)) rfl (h_ldI H (by repeat (first | exact pick_head | apply pick_tail | apply pick_app)) rfl (h_ldI H (by repeat (first | exact pick_head | apply pick_tail | apply pick_app)) rfl ?_))))
  refine f_look2 HL (bk := bw) (o := ow) (a := t) (kf := kfI) (by repeat (first | exact pick_head | apply pick_tail | apply pick_app)) hx keyedI map69 (zero28 u) (fun x => kfI_inj) hlk ?_
  rw [e1, es]
  unfold Sz at hz
  unfold vS
  refine s_asU (s_req rfl (s_asS (s_asB (s_chk (hc_cons H (by repeat (first | exact pick_head | apply pick_tail | apply pick_app)) rfl c_nil) ?_))))
  refine s_ite (fun g => ?_) (fun g => ?_)
  · refine s_call (cf_c (hh.fr0 H.base) (by unfold Sz; omega) (t := t) (l := l) e2 (RowsAt.fr e3 H.base) (by omega) hwi (H.cells (by repeat (first | exact pick_head | apply pick_tail | apply pick_app))) (H.cells (by repeat (first | exact pick_head | apply pick_tail | apply pick_app)))) ?_
    rintro _ u ⟨rfl, f⟩
    refine ⟨_, rfl, s_asB (s_ret ⟨?_, (H.fr0 f).base⟩)⟩
    rw [hrd, hdef, ready_any, g, Bool.true_and]
  · exact s_ret ⟨by rw [hrd, g]; rfl, H.base⟩

/-! ### All that are ready -/
theorem all_step {l : List Ix} {i : Nat} {t : Ix} {f : Ix → Bool} (h : l[i]? = some t) : (l.take (i + 1)).filter f = (l.take i).filter f ++ if f t then [t] else [] := by
  rw [List.take_add_one, h, Option.toList_some, List.filter_append]
  congr 1
  by_cases hh : f t = true <;> simp [hh]
theorem readyL_c (h : LkW w p A) (hz : Sz A) : Calls Try.prog 35 #[.pointer (some ⟨p, 0, none⟩)] w fun e w' =>
    ∃ v c, e = .returned v ∧ OwnC 27 2 v (allA A).length ((allA A).map ir).flatten c ∧ Has w w' c := by
  have hh := h
  obtain ⟨c, ⟨bq, bw, oq, ow, so, cq, cw, co, rfl, hq, hw, ⟨ho1, ho2⟩, hg, hi⟩, HL⟩ := h
  have hrows : RowsAt w so.o 2 ((ids A).map ir) := rowsAt_own (ir2 _) (by decide) (n := so.n) (cap := so.c) (by rw [← ho1] at ho2; exact ho2) HL (by repeat (first | exact cut_head | exact cut_all | apply cut_tail | apply cut_app))
  have hlen : (ids A).length = A.length := by simp [ids]
  have hin : ∀ t ∈ ids A, InI t := fun t ht => by
    obtain ⟨r, hr, rfl⟩ := List.mem_map.1 ht
    exact (hi r hr).1
  have hdef : allA A = (ids A).filter (readyA A) := rfl
  generalize ids A = l at *
  apply c35
  refine h_ldS HL (by repeat (first | exact pick_head | apply pick_tail | apply pick_app)) rfl ?_
  have hz' := hz
  unfold Sz at hz'
  refine s_loop (fun vs W => ∃ (i : Nat) (v : Value) (c m : Hp), vs = [v, .int .i64 i] ∧ i ≤ l.length ∧ OwnC 27 2 v ((l.take i).filter (readyA A)).length (((l.take i).filter (readyA A)).map ir).flatten c ∧ Has w W (c ++ m)) (fun vs _ => l.length - (intOf (vs.getD 1 undef)).toNat)
    ⟨0, _, [], [], rfl, by omega, OwnC.nil, Has.init w⟩ ?_
  rintro _ j W ⟨i, v, cv, mm, rfl, hil, hov, H⟩
  obtain ⟨o', c', rfl⟩ := hov.slice
  refine s_asS (s_asI (s_ite (fun g1 => ?_) (fun g1 => ?_)))
  · simp only [decide_eq_true_eq] at g1
    have hlt : i < l.length := by omega
    obtain ⟨t, ht⟩ : ∃ t, l[i]? = some t := ⟨_, List.getElem?_eq_getElem hlt⟩
    have hst := all_step (f := readyA A) ht
    have hwl2 := List.length_filter_le (readyA A) (l.take i)
    rw [List.length_take] at hwl2
    obtain ⟨g, off, he, _, hc⟩ := (RowsAt.fr hrows H.base).at (j := i) (r := ir t) (by rw [List.getElem?_map, ht]; rfl)
    refine s_req ⟨by omega, g1⟩ ⟨g, off, he, s_loadI (hc 0 _ rfl) (s_loadI (hc 1 _ rfl) ?_)⟩
    (refine h_new H fun n15 u H => ?_)
    iterate 2 refine h_st H (by repeat (first | exact pick_head | apply pick_tail | apply pick_app)) (by first | (simp; done) | exact Nat.le_of_ble_eq_true rfl) rfl fun u H => ?_
    refine h_ldI H (by repeat (first | exact pick_head | apply pick_tail | apply pick_app)) rfl (h_ldI H (by repeat (first | exact pick_head | apply pick_tail | apply pick_app)) rfl (s_call (ready_c (hh.fr0 H.base) hz (t := t) (hin t (List.mem_of_getElem? ht))) ?_))
    rintro _ u ⟨rfl, f⟩
    have H := H.fr0 f
    refine ⟨_, rfl, s_asB (s_ite (fun g2 => ?_) (fun g2 => s_next (by first | exact ⟨rfl, rfl⟩ | trivial) ?_))⟩
    · rw [if_pos g2] at hst
      refine h_ldI H (by repeat (first | exact pick_head | apply pick_tail | apply pick_app)) rfl (h_ldI H (by repeat (first | exact pick_head | apply pick_tail | apply pick_app)) rfl ?_)
      (refine h_new H fun n22 u H => ?_)
      refine h_app1 elemI H (by repeat (first | exact cut_head | exact cut_all | apply cut_tail | apply cut_app)) hov (r := n22) (l := ir t) (by repeat (first | exact pick_head | apply pick_tail | apply pick_app)) rfl (by intro u hu; simp [ir] at hu; rcases hu with rfl | rfl <;> rfl) (by omega) (by omega) ?_
      intro v' c' u ho' H
      obtain ⟨o2, c3, rfl⟩ := ho'.slice
      refine s_asS (s_next (by first | exact ⟨rfl, rfl⟩ | trivial) ?_)
      simp (config := { decide := true }) only [if_true, if_false]
      refine ⟨⟨i + 1, _, c', _, by rw [w_succ (by omega)], by omega, ?_, H.sub (by repeat (first | exact sb_refl | exact sb_nil | refine sb_cons (by repeat (first | exact pick_head | apply pick_tail | apply pick_app)) ?_ | refine sb_app (by repeat (first | exact cut_head | exact cut_all | apply cut_tail | apply cut_app)) ?_ | exact sb_one (by repeat (first | exact cut_head | exact cut_all | apply cut_tail | apply cut_app))))⟩, by rw [w_succ (by omega)]; simp [intOf] <;> omega⟩
      rw [hst, List.map_append, List.flatten_append]
      simpa using ho'
    · rw [if_neg (by simp [g2]), List.append_nil] at hst
      simp (config := { decide := true }) only [if_true, if_false]
      exact ⟨⟨i + 1, _, cv, _, by rw [w_succ (by omega)], by omega, by rw [hst]; exact hov, H.sub (by repeat (first | exact sb_refl | exact sb_nil | refine sb_cons (by repeat (first | exact pick_head | apply pick_tail | apply pick_app)) ?_ | refine sb_app (by repeat (first | exact cut_head | exact cut_all | apply cut_tail | apply cut_app)) ?_ | exact sb_one (by repeat (first | exact cut_head | exact cut_all | apply cut_tail | apply cut_app))))⟩, by rw [w_succ (by omega)]; simp [intOf] <;> omega⟩
  · simp only [decide_eq_false_iff_not] at g1
    rw [List.take_of_length_le (by omega)] at hov ⊢
    rw [hdef]
    exact s_ret ⟨.slice o' _ c', cv, rfl, hov, H.sub (by repeat (first | exact sb_refl | exact sb_nil | refine sb_cons (by repeat (first | exact pick_head | apply pick_tail | apply pick_app)) ?_ | refine sb_app (by repeat (first | exact cut_head | exact cut_all | apply cut_tail | apply cut_app)) ?_ | exact sb_one (by repeat (first | exact cut_head | exact cut_all | apply cut_tail | apply cut_app))))⟩
end
end Go.Proofs.Ytdepohepogocgaa
