/- All instructions: the reference. -/
import Derived.Test.YtgoecmggbcaoiaaDecM
set_option linter.unusedVariables false
set_option linter.unusedSimpArgs false
set_option maxRecDepth 100000
set_option maxHeartbeats 4000000
namespace Go.Proofs.Ytgoecmggbcaoiaa
open Go hiding Expr
open Go.RowKit Tr

section
variable {w w' w0 : World} {m m' c : Hp} {bs : List Int} {o o2 : Option Addr} {cap cap2 n n2 : Nat} {at_ : Int} {l : List Ins} {x : Ins}

theorem rwalk_c (H : Has w0 w m) (hb : ∀ u, Has w0 u m → BytAt u o bs) (hu : ∀ x ∈ bs, 0 ≤ x ∧ x ≤ 255) (hn : n = bs.length) (hl : bs.length ≤ 1048576) : Calls Try.prog 29 #[.slice o n cap] w fun e w' =>
    ∃ v c, e = .returned (.tuple #[v, .int .i64 (walkP bs).2]) ∧ OwnC 40 5 v (walkP bs).1.length (encI (walkP bs).1) c ∧ Has w0 w' (c ++ m) := by
  subst hn
  apply c29
  refine s_loop (fun vs W => ∃ (a : Int) (pre : List Ins) (v : Value) (c : Hp), vs = [v, .int .i64 a] ∧ 0 ≤ a ∧ a ≤ bs.length ∧ (pre.length : Int) ≤ a ∧ walkP bs = (pre ++ (walkA bs a).1, (walkA bs a).2) ∧ OwnC 40 5 v pre.length (encI pre) c ∧ Has w0 W (c ++ m))
    (fun vs _ => bs.length - (intOf (vs.getD 1 undef)).toNat) ⟨0, [], _, [], rfl, by omega, by omega, by simp, rfl, OwnC.nil, H⟩ ?_
  rintro _ j W ⟨a, pre, v, c, rfl, h0, h1, h2, h3, ho, H⟩
  obtain ⟨ov, capv, rfl⟩ := ho.slice
  refine s_asS (s_asI (s_ite (fun g => ?_) (fun g => s_ret ?_)))
  · simp only [decide_eq_true_eq] at g
    (refine s_call (rone_c (at_ := a) H (fun u hu => hb u (hu.sub (by repeat (first | exact sb_refl | exact sb_nil | refine sb_cons (by repeat (first | exact pick_head | apply pick_tail | apply pick_app)) ?_ | refine sb_app (by repeat (first | exact cut_head | exact cut_all | apply cut_tail | apply cut_app)) ?_ | exact sb_one (by repeat (first | exact cut_head | exact cut_all | apply cut_tail | apply cut_app)))))) hu (by omega)) ?_; rintro _ u ⟨rfl, H⟩; refine ⟨_, rfl, ?_⟩)
    refine s_asU (s_req rfl (s_asA (s_req rfl (s_asI (s_asI (s_asI (s_asI (s_asI (s_asI (s_asI ?_))))))))))
    (refine h_new H fun n19 u H => ?_)
    iterate 5 refine h_st H (by repeat (first | exact pick_head | apply pick_tail | apply pick_app)) (by first | (simp; done) | exact Nat.le_of_ble_eq_true rfl) rfl fun u H => ?_
    have H : Has w0 u (cl n19 40 (insR (oneP bs a).1) :: (c ++ m)) := H
    by_cases he : (oneP bs a).2.2 = 0
    · rw [he]
      refine s_false rfl ?_
      iterate 5 refine h_ldI H (by repeat (first | exact pick_head | apply pick_tail | apply pick_app)) rfl ?_
      (refine h_new H fun n26 u H => ?_)
      have hnx := oneP_next he
      refine insAdd (y := (oneP bs a).1) H (c := c) (m' := cl n26 40 (insR (oneP bs a).1) :: cl n19 40 (insR (oneP bs a).1) :: m) (by repeat (first | exact cut_head | exact cut_all | apply cut_tail | apply cut_app)) ho (by repeat (first | exact pick_head | apply pick_tail | apply pick_app)) (by omega) fun o' cap' c' u ho' H => s_asS (s_next ⟨rfl, rfl⟩ ?_)
      simp only [if_true]
      refine ⟨⟨_, pre ++ [(oneP bs a).1], _, c', rfl, by omega, by omega, by simp; omega, ?_, ho', H.sub (by repeat (first | exact sb_refl | exact sb_nil | refine sb_cons (by repeat (first | exact pick_head | apply pick_tail | apply pick_app)) ?_ | refine sb_app (by repeat (first | exact cut_head | exact cut_all | apply cut_tail | apply cut_app)) ?_ | exact sb_one (by repeat (first | exact cut_head | exact cut_all | apply cut_tail | apply cut_app))))⟩, by simp [intOf]; omega⟩
      rw [h3, walkA_ok g h0 he]
      simp
    · refine s_true (by simpa using he) (s_ret ⟨.slice ov pre.length capv, c, ?_, ?_, H.sub (by repeat (first | exact sb_refl | exact sb_nil | refine sb_cons (by repeat (first | exact pick_head | apply pick_tail | apply pick_app)) ?_ | refine sb_app (by repeat (first | exact cut_head | exact cut_all | apply cut_tail | apply cut_app)) ?_ | exact sb_one (by repeat (first | exact cut_head | exact cut_all | apply cut_tail | apply cut_app))))⟩)
      · rw [h3, walkA_bad g h0 he]
      · rw [h3, walkA_bad g h0 he, List.append_nil]
        exact ho
  · simp only [decide_eq_false_iff_not] at g
    rw [walkA_end (by omega), List.append_nil] at h3
    rw [h3]
    exact ⟨_, c, rfl, ho, H⟩

theorem rjumps_c (H : Has w0 w m) {op : Int} : Calls Try.prog 52 #[.int .i64 op] w fun e w' => e = .returned (.bool (jumpP op)) ∧ Has w0 w' m := by
  apply c52
  refine s_ite (fun g => s_ret ⟨?_, H⟩) (fun g => s_ret ⟨?_, H⟩)
  · unfold jumpP; rw [g]; rfl
  · unfold jumpP; rw [g]; rfl

theorem rbegins_c (H : Has w0 w m) (hv : ∀ u, Has w0 u m → InsAt u o l) (hn : n = l.length) (hl : l.length < 9223372036854775807) {k : Int} : Calls Try.prog 53 #[.slice o n cap, .int .i64 k] w fun e w' => e = .returned (.bool (beginsP l k)) ∧ Has w0 w' m := by
  subst hn
  apply c53
  refine s_loop (fun vs W => ∃ i : Nat, vs = [.int .i64 i] ∧ i ≤ l.length ∧ beginsP (l.take i) k = false ∧ Has w0 W m) (fun vs _ => l.length - (intOf (vs.getD 0 undef)).toNat) ⟨0, rfl, by omega, rfl, H⟩ ?_
  rintro _ j W ⟨i, rfl, hi, hb, H⟩
  refine s_asI (s_ite (fun g => ?_) (fun g => s_ret ⟨?_, H⟩))
  · simp only [decide_eq_true_eq] at g
    obtain ⟨x, hx⟩ : ∃ x, l[i]? = some x := ⟨_, List.getElem?_eq_getElem (by omega)⟩
    obtain ⟨gg, off, rfl, p0, _⟩ := (hv W H).get hx
    refine s_req ⟨by omega, by omega⟩ (s_sm (s_loadI p0 (s_ite (fun g2 => s_ret ⟨?_, H⟩) (fun g2 => s_next ⟨rfl, rfl⟩ ?_))))
    · have : beginsP l k = true := by
        unfold beginsP
        rw [List.any_eq_true]
        exact ⟨x, List.mem_of_getElem? hx, g2⟩
      rw [this]
    · simp only [if_true]
      rw [w_succ (by omega)]
      refine ⟨⟨i + 1, rfl, by omega, ?_, H⟩, by simp [intOf]; omega⟩
      rw [take_succ' hx, begins_cat, hb, g2]
      rfl
  · simp only [decide_eq_false_iff_not] at g
    have hil : i = l.length := by omega
    subst hil
    rw [List.take_length] at hb
    rw [hb]

theorem rdec_c (H : Has w0 w m) (hb : ∀ u, Has w0 u m → BytAt u o bs) (hu : ∀ x ∈ bs, 0 ≤ x ∧ x ≤ 255) (hn : n = bs.length) (hl : bs.length ≤ 140737488355328) : Calls Try.prog 25 #[.slice o n cap] w fun e w' =>
    ∃ v c, e = .returned (.tuple #[v, .int .i64 (decP bs).2]) ∧ OwnC 40 5 v (decP bs).1.length (encI (decP bs).1) c ∧ Has w0 w' (c ++ m) := by
  subst hn
  apply c25
  unfold decP
  refine s_ite (fun g => ?_) (fun g => ?_)
  · simp only [decide_eq_true_eq] at g
    rw [if_pos (by omega)]
    exact s_ret ⟨_, [], rfl, OwnC.nil, H⟩
  simp only [decide_eq_false_iff_not] at g
  rw [if_neg (by omega)]
  (refine s_call (rwalk_c H (fun u hu => hb u hu) hu rfl (by omega)) ?_; rintro _ u ⟨v, c, rfl, ho, H⟩; refine ⟨_, rfl, ?_⟩)
  obtain ⟨ol, capl, rfl⟩ := ho.slice
  refine s_asU (s_req rfl (s_asS (s_asI (s_ite (fun g1 => ?_) (fun g1 => ?_)))))
  · rw [if_pos (by simpa using g1)]
    exact s_ret ⟨_, [], rfl, OwnC.nil, H.sub (by repeat (first | exact sb_refl | exact sb_nil | refine sb_cons (by repeat (first | exact pick_head | apply pick_tail | apply pick_app)) ?_ | refine sb_app (by repeat (first | exact cut_head | exact cut_all | apply cut_tail | apply cut_app)) ?_ | exact sb_one (by repeat (first | exact cut_head | exact cut_all | apply cut_tail | apply cut_app))))⟩
  rw [if_neg (by simpa using g1)]
  have hlen := walk_len (bs := bs) (at_ := 0) (by omega) (by omega)
  have hlen : (walkP bs).1.length ≤ 512 := by unfold walkP; omega
  generalize (walkP bs).1 = l at *
  refine s_loop (fun vs W => ∃ (i : Nat), vs = [.int .i64 i] ∧ i ≤ l.length ∧ (l.take i).any (badJ l) = false ∧ Has w0 W (c ++ m))
    (fun vs _ => l.length - (intOf (vs.getD 0 undef)).toNat) ⟨0, rfl, by omega, by simp, H⟩ ?_
  clear H
  rintro _ j W ⟨i, rfl, hi, hbad, H⟩
  refine s_asI (s_ite (fun g1 => ?_) (fun g1 => ?_))
  · simp only [decide_eq_true_eq] at g1
    obtain ⟨x, hx⟩ : ∃ x, l[i]? = some x := ⟨_, List.getElem?_eq_getElem (by omega)⟩
    obtain ⟨gg, off, rfl, p0, p1, p2, p3, p4⟩ := (insAt_own ho H (by repeat (first | exact cut_head | exact cut_all | apply cut_tail | apply cut_app))).get hx
    refine s_req ⟨by omega, by omega⟩ (s_sm (s_loadI p1 ?_))
    (refine s_call (rjumps_c H) ?_; rintro _ u ⟨rfl, H⟩; refine ⟨_, rfl, ?_⟩)
    refine s_asB (s_ite (fun g2 => ?_) (fun g2 => s_next ⟨rfl, rfl⟩ ?_))
    · obtain ⟨gg2, off2, he, p0, p1, p2, p3, p4⟩ := (insAt_own ho H (by repeat (first | exact cut_head | exact cut_all | apply cut_tail | apply cut_app))).get hx
      refine s_req ⟨by omega, by omega⟩ ⟨gg2, off2, he, s_loadI p4 ?_⟩
      (refine s_call (rbegins_c (l := l) (k := x.imm) H (fun u hu => insAt_own ho hu (by repeat (first | exact cut_head | exact cut_all | apply cut_tail | apply cut_app))) rfl (by omega)) ?_; rintro _ u ⟨rfl, H⟩; refine ⟨_, rfl, ?_⟩)
      refine s_asB (s_ite (fun g3 => ?_) (fun g3 => s_next ⟨rfl, rfl⟩ ?_))
      · have hany : l.any (badJ l) = true := by
          rw [List.any_eq_true]
          exact ⟨x, List.mem_of_getElem? hx, by unfold badJ; rw [g2, g3]; rfl⟩
        rw [if_pos hany]
        exact s_ret ⟨_, [], rfl, OwnC.nil, H.sub (by repeat (first | exact sb_refl | exact sb_nil | refine sb_cons (by repeat (first | exact pick_head | apply pick_tail | apply pick_app)) ?_ | refine sb_app (by repeat (first | exact cut_head | exact cut_all | apply cut_tail | apply cut_app)) ?_ | exact sb_one (by repeat (first | exact cut_head | exact cut_all | apply cut_tail | apply cut_app))))⟩
      · simp only [if_true]
        rw [w_succ (by omega)]
        refine ⟨⟨i + 1, rfl, by omega, ?_, H⟩, by simp [intOf]; omega⟩
        rw [take_succ' hx, List.any_append, hbad]
        simp [badJ, g3]
    · simp only [if_true]
      rw [w_succ (by omega)]
      refine ⟨⟨i + 1, rfl, by omega, ?_, H⟩, by simp [intOf]; omega⟩
      rw [take_succ' hx, List.any_append, hbad]
      simp [badJ, g2]
  · simp only [decide_eq_false_iff_not] at g1
    have hil : i = l.length := by omega
    subst hil
    rw [List.take_length] at hbad
    rw [hbad, if_neg (by simp)]
    exact s_ret ⟨_, c, rfl, ho, H⟩

theorem samei_c (H : Has w0 w m) (h1 : ∀ u, Has w0 u m → InsAt u o l) (h2 : ∀ u, Has w0 u m → InsAt u o2 l) (hn : n = l.length) (hn2 : n2 = l.length) (hl : l.length < 9223372036854775807) :
    Calls Try.prog 26 #[.slice o n cap, .slice o2 n2 cap2] w fun e w' => e = .returned (.bool true) ∧ Has w0 w' m := by
  subst hn hn2
  apply c26
  refine s_false (by simp) (s_loop (fun vs W => ∃ i : Nat, vs = [.int .i64 i] ∧ i ≤ l.length ∧ Has w0 W m) (fun vs _ => l.length - (intOf (vs.getD 0 undef)).toNat) ⟨0, rfl, by omega, H⟩ ?_)
  rintro _ j W ⟨i, rfl, hi, H⟩
  refine s_asI (s_ite (fun g => ?_) (fun g => s_ret ⟨rfl, H⟩))
  simp only [decide_eq_true_eq] at g
  obtain ⟨x, hx⟩ : ∃ x, l[i]? = some x := ⟨_, List.getElem?_eq_getElem (by omega)⟩
  refine h_drew H fun u H => ?_
  obtain ⟨g1, f1, rfl, p0, p1, p2, p3, p4⟩ := (h1 u H).get hx
  obtain ⟨g2, f2, rfl, q0, q1, q2, q3, q4⟩ := (h2 u H).get hx
  refine s_req ⟨by omega, by omega⟩ (s_sm (s_loadI p0 (s_loadI p1 (s_loadI p2 (s_loadI p3 (s_loadI p4 (s_req ⟨by omega, by omega⟩ (s_sm (s_loadI q0 (s_loadI q1 (s_loadI q2 (s_loadI q3 (s_loadI q4 (s_false (by simp) (s_next ⟨rfl, rfl⟩ ?_)))))))))))))))
  simp only [if_true]
  rw [w_succ (by omega)]
  exact ⟨⟨i + 1, rfl, by omega, H⟩, by simp [intOf]; omega⟩
end
end Go.Proofs.Ytgoecmggbcaoiaa
