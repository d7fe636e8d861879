/- What can be reached, by rounds: the reference. -/
import Derived.Test.YtgoecmggbcaoiaaRReachP
import Derived.Test.YtgoecmggbcaoiaaTargM
set_option linter.unusedVariables false
set_option linter.unusedSimpArgs false
set_option maxRecDepth 100000
set_option maxHeartbeats 4000000
namespace Go.Proofs.Ytgoecmggbcaoiaa
open Go hiding Expr
open Go.RowKit Tr

section
variable {w w' w0 : World} {m m' c : Hp} {bs : List Int} {o : Option Addr} {cap n : Nat} {r : List Bool} {x : Ins}

theorem hit_get {a : Int} (h0 : 0 ≤ a) (h1 : a < r.length) : (r.map Value.bool)[0 + a.toNat * 1]? = some (.bool (hit r a)) := by
  rw [Nat.zero_add, Nat.mul_one, List.getElem?_map]
  unfold hit List.getD
  rw [List.getElem?_eq_getElem (by omega)]
  rfl
theorem hit_put {a : Int} : (r.map Value.bool).set (0 + a.toNat * 1) (.bool true) = (r.set a.toNat true).map Value.bool := by
  rw [Nat.zero_add, Nat.mul_one, List.map_set]

theorem rreach_c (H : Has w0 w m) (hb : ∀ u, Has w0 u m → BytAt u o bs) (hu : ∀ x ∈ bs, 0 ≤ x ∧ x ≤ 255) (hn : n = bs.length) (hl : bs.length ≤ 1048576) : Calls Try.prog 34 #[.slice o n cap] w fun e w' =>
    ∃ v c out, e = .returned v ∧ IsReach bs out ∧ OwnC 3 1 v out.length (ints out) c ∧ Has w0 w' (c ++ m) := by
  subst hn
  apply c34
  (refine s_call (rdec_c (bs := bs) H hb hu rfl (by omega)) ?_; rintro _ u ⟨v, c, rfl, ho, H⟩; refine ⟨_, rfl, ?_⟩)
  obtain ⟨ol, capl, rfl⟩ := ho.slice
  refine s_asU (s_req rfl (s_asS (s_asI (s_ite (fun g => s_ret ⟨_, [], [], rfl, ?_, OwnC.nil, H.sub (by repeat (first | exact sb_refl | exact sb_nil | refine sb_cons (by repeat (first | exact pick_head | apply pick_tail | apply pick_app)) ?_ | refine sb_app (by repeat (first | exact cut_head | exact cut_all | apply cut_tail | apply cut_app)) ?_ | exact sb_one (by repeat (first | exact cut_head | exact cut_all | apply cut_tail | apply cut_app))))⟩) (fun g => ?_)))))
  · unfold IsReach
    rw [if_pos (.inl (by simpa using g))]
  have hok : (decP bs).2 = 0 := by simpa using g
  obtain ⟨hris, hj, hrng, hlen, hbl, hw0, hwe⟩ := dec_facts hu hok
  have hg : Good bs.length (decP bs).1 := by
    rw [hwe]
    refine good_of hw0 ?_
    rw [← hwe]
    exact fun x hx => jump_has hj hx
  have hout := fun r (hr : Rounds13 bs.length (decP bs).1 r (decP bs).1.length) => reach_hit hok hr
  generalize (decP bs).1 = l at *
  rw [show ((bs.length : Int) + 1) = ((bs.length + 1 : Nat) : Int) by omega, wrapI (n := ((bs.length + 1 : Nat) : Int)) (by omega) (by omega)]
  refine h_make elemB H (by omega) (by simp; omega) (by simp; omega) fun g u H => ?_
  have H : Has w0 u (cl g 4 ((List.replicate (bs.length + 1) false).map Value.bool) :: (c ++ m)) := by
    rw [made_one _ _ rfl] at H
    simpa using H
  refine s_asS (s_req ⟨by decide, by simp⟩ (s_sm (h_st H (by repeat (first | exact pick_head | apply pick_tail | apply pick_app)) (by simp) rfl fun u H => ?_)))
  have hinit := Rounds13.init hg (by omega)
  rw [show ((bs.length : Int)).toNat + 1 = bs.length + 1 by omega] at hinit
  rw [← List.map_set] at H
  refine s_loop (fun vs W => ∃ (k : Nat) (r : List Bool), vs = [.int .i64 k] ∧ k ≤ l.length ∧ Rounds13 bs.length l r k ∧ Has w0 W (cl g 4 (r.map Value.bool) :: (c ++ m)))
    (fun vs _ => l.length - (intOf (vs.getD 0 undef)).toNat) ⟨0, _, rfl, by omega, hinit, H⟩ ?_
  clear H
  rintro _ j W ⟨k, r0, rfl, hk, hR, H⟩
  refine s_asI (s_ite (fun g1 => ?_) (fun g1 => ?_))
  · simp only [decide_eq_true_eq] at g1
    refine s_loop (fun vs W => ∃ (i : Nat) (r : List Bool), vs = [.int .i64 i] ∧ i ≤ l.length ∧ Round bs.length l r0 r i ∧ Has w0 W (cl g 4 (r.map Value.bool) :: (c ++ m)))
      (fun vs _ => l.length - (intOf (vs.getD 0 undef)).toNat) ⟨0, r0, rfl, by omega, Round.start hR.len hR.sound, H⟩ ?_
    clear H
    rintro _ j W ⟨i, r, rfl, hi, hr, H⟩
    refine s_asI (s_ite (fun g2 => ?_) (fun g2 => s_next ⟨rfl, rfl⟩ ?_))
    · simp only [decide_eq_true_eq] at g2
      obtain ⟨x, hx⟩ : ∃ x, l[i]? = some x := ⟨_, List.getElem?_eq_getElem (by omega)⟩
      have hxr := hg.rng x (List.mem_of_getElem? hx)
      have hrl := hr.len
      obtain ⟨gg, off, rfl, p0, p1, p2, p3, p4⟩ := (insAt_own ho H (by repeat (first | exact cut_head | exact cut_all | apply cut_tail | apply cut_app))).get hx
      refine s_req ⟨by omega, by omega⟩ (s_sm (s_loadI p0 (s_loadI p1 (s_loadI p2 (s_loadI p3 (s_loadI p4 ?_))))))
      (refine h_new H fun n28 u H => ?_)
      iterate 5 refine h_st H (by repeat (first | exact pick_head | apply pick_tail | apply pick_app)) (by first | (simp; done) | exact Nat.le_of_ble_eq_true rfl) rfl fun u H => ?_
      have H : Has w0 u (cl n28 40 (insR x) :: cl g 4 (r.map Value.bool) :: (c ++ m)) := H
      refine h_ldI H (by repeat (first | exact pick_head | apply pick_tail | apply pick_app)) rfl (s_req ⟨by omega, by omega⟩ (s_sm (h_ldB H (by repeat (first | exact pick_head | apply pick_tail | apply pick_app)) (hit_get (by omega) (by omega)) (s_ite (fun g3 => s_next ⟨rfl, rfl⟩ ?_) (fun g3 => ?_)))))
      · have hn : hit r x.at_ = false := by simpa using g3
        simp (config := { decide := true }) only [if_true, if_false]
        rw [w_succ (by omega)]
        exact ⟨⟨i + 1, r, rfl, by omega, hr.skip hx hn, H.drop⟩, by simp [intOf]; omega⟩
      have hh : hit r x.at_ = true := by simpa using g3
      refine s_blk (fun vs W => ∃ r' : List Bool, r'.length = r.length ∧ Mono r r' ∧ Sound l r' ∧ (jumpP x.op = true → hit r' x.imm = true) ∧ Has w0 W (cl n28 40 (insR x) :: cl g 4 (r'.map Value.bool) :: (c ++ m))) ?_ ?_
      rotate_left
      · refine h_ldI H (by repeat (first | exact pick_head | apply pick_tail | apply pick_app)) rfl ?_
        (refine s_call (rjumps_c H) ?_; rintro _ u ⟨rfl, H⟩; refine ⟨_, rfl, ?_⟩)
        refine s_asB (s_ite (fun g4 => h_ldI H (by repeat (first | exact pick_head | apply pick_tail | apply pick_app)) rfl ?_) (fun g4 => s_next ⟨rfl, rfl⟩ ?_))
        · obtain ⟨i0, i1, hs⟩ := sound_jump hg hr.sound hr.len hx hh g4
          refine s_req ⟨by omega, by omega⟩ (s_sm (h_st H (by repeat (first | exact pick_head | apply pick_tail | apply pick_app)) (by simp; omega) rfl fun u H => s_next ⟨rfl, rfl⟩ ?_))
          rw [hit_put] at H
          simp (config := { decide := true }) only [if_true, if_false]
          refine ⟨_, by simp, Mono.set, hs, fun _ => ?_, H.sub (by repeat (first | exact sb_refl | exact sb_nil | refine sb_cons (by repeat (first | exact pick_head | apply pick_tail | apply pick_app)) ?_ | refine sb_app (by repeat (first | exact cut_head | exact cut_all | apply cut_tail | apply cut_app)) ?_ | exact sb_one (by repeat (first | exact cut_head | exact cut_all | apply cut_tail | apply cut_app))))⟩
          rw [hit_set i0 i1 i0]
          simp
        · simp (config := { decide := true }) only [if_true, if_false]
          exact ⟨r, rfl, Mono.refl _, hr.sound, (fun h => by rw [h] at g4; cases g4), H⟩
      clear H
      rintro _ _ W ⟨r', hrl', hm', hs', hj', H⟩
      have hh' : hit r' x.at_ = true := hm' _ hh
      refine h_blk (fun y => y = [.bool (goesP x.op)]) H ?_ ?_
      · refine h_ldI H (by repeat (first | exact pick_head | apply pick_tail | apply pick_app)) rfl (s_ite (fun g3 => h_ldI H (by repeat (first | exact pick_head | apply pick_tail | apply pick_app)) rfl (s_ite (fun g4 => h_ldI H (by repeat (first | exact pick_head | apply pick_tail | apply pick_app)) rfl (s_next ⟨rfl, rfl⟩ ?_)) (fun g4 => s_next ⟨rfl, rfl⟩ ?_))) (fun g3 => s_next ⟨rfl, rfl⟩ ?_))
        all_goals
          simp (config := { decide := true }) only [if_true, if_false]
          refine ⟨H, ?_⟩
          unfold goesP
        · rw [g3, g4]; rfl
        · rw [g3, g4]; rfl
        · rw [g3]; rfl
      clear H
      rintro _ _ W H rfl
      refine s_asB (s_ite (fun g4 => h_drew H fun u H => h_ldI H (by repeat (first | exact pick_head | apply pick_tail | apply pick_app)) rfl (h_ldI H (by repeat (first | exact pick_head | apply pick_tail | apply pick_app)) rfl ?_)) (fun g4 => s_next ⟨rfl, rfl⟩ ?_))
      · (refine s_call (rsize_c (op := x.op) H) ?_; rintro _ u ⟨rfl, H⟩; refine ⟨_, rfl, ?_⟩)
        obtain ⟨i0, i1, hs⟩ := sound_next hg hs' (by rw [hrl']; exact hr.len) hx hh' g4
        refine s_asI (s_chk (hc_cons H (by repeat (first | exact pick_head | apply pick_tail | apply pick_app)) rfl c_nil) ?_)
        rw [wrapI (n := x.at_ + szP x.op) (by omega) (by omega)]
        refine (s_req ⟨by omega, by omega⟩ (s_sm (h_st H (by repeat (first | exact pick_head | apply pick_tail | apply pick_app)) (by simp; omega) rfl fun u H => s_chk c_nil (s_next ⟨rfl, rfl⟩ ?_))))
        rw [hit_put] at H
        simp (config := { decide := true }) only [if_true, if_false]
        rw [w_succ (by omega)]
        refine ⟨⟨i + 1, _, rfl, by omega, hr.step hx (by simp [hrl']) (hm'.trans Mono.set) hs ⟨fun h => Mono.set _ (hj' h), fun _ => ?_⟩, H.sub (by repeat (first | exact sb_refl | exact sb_nil | refine sb_cons (by repeat (first | exact pick_head | apply pick_tail | apply pick_app)) ?_ | refine sb_app (by repeat (first | exact cut_head | exact cut_all | apply cut_tail | apply cut_app)) ?_ | exact sb_one (by repeat (first | exact cut_head | exact cut_all | apply cut_tail | apply cut_app))))⟩, by simp [intOf]; omega⟩
        rw [hit_set i0 i1 i0]
        simp
      · simp (config := { decide := true }) only [if_true, if_false]
        rw [w_succ (by omega)]
        exact ⟨⟨i + 1, r', rfl, by omega, hr.step hx hrl' hm' hs' ⟨hj', fun h => by rw [h] at g4; cases g4⟩, H.drop⟩, by simp [intOf]; omega⟩
    · simp only [decide_eq_false_iff_not] at g2
      have hil : i = l.length := by omega
      subst hil
      simp (config := { decide := true }) only [if_true, if_false]
      rw [w_succ (by omega)]
      exact ⟨⟨k + 1, r, rfl, by omega, hR.next hg hr, H⟩, by simp [intOf]; omega⟩
  · simp only [decide_eq_false_iff_not] at g1
    have hkl : k = l.length := by omega
    subst hkl
    have hrl := hR.len
    refine s_loop (fun vs W => ∃ (i : Nat) (v : Value) (cv : Hp), vs = [v, .int .i64 i] ∧ i ≤ l.length ∧ OwnC 3 1 v (((l.take i).filter (fun x => hit r0 x.at_)).map (·.at_)).length (ints (((l.take i).filter (fun x => hit r0 x.at_)).map (·.at_))) cv ∧
        Has w0 W (cv ++ (cl g 4 (r0.map Value.bool) :: (c ++ m))))
      (fun vs _ => l.length - (intOf (vs.getD 1 undef)).toNat) ⟨0, _, [], rfl, by omega, OwnC.nil, H⟩ ?_
    clear H
    rintro _ j W ⟨i, v, cv, rfl, hi, hov, H⟩
    obtain ⟨ov, capv, rfl⟩ := hov.slice
    refine s_asS (s_asI (s_ite (fun g3 => ?_) (fun g3 => ?_)))
    · simp only [decide_eq_true_eq] at g3
      obtain ⟨x, hx⟩ : ∃ x, l[i]? = some x := ⟨_, List.getElem?_eq_getElem (by omega)⟩
      have hxr := hg.rng x (List.mem_of_getElem? hx)
      have hsn : (((l.take (i + 1)).filter (fun x => hit r0 x.at_)).map (·.at_)) = ((l.take i).filter (fun x => hit r0 x.at_)).map (·.at_) ++ (if hit r0 x.at_ = true then [x.at_] else []) := by
        rw [take_succ' hx, List.filter_append, List.map_append]
        cases hh : hit r0 x.at_ <;> simp [hh]
      have hol : (((l.take i).filter (fun x => hit r0 x.at_)).map (·.at_)).length ≤ i := by
        rw [List.length_map]
        refine Nat.le_trans (List.length_filter_le _ _) ?_
        rw [List.length_take]
        omega
      generalize ((l.take i).filter (fun x => hit r0 x.at_)).map (·.at_) = J at *
      obtain ⟨gg, off, rfl, p0, p1, p2, p3, p4⟩ := (insAt_own ho H (by repeat (first | exact cut_head | exact cut_all | apply cut_tail | apply cut_app))).get hx
      refine s_req ⟨by omega, by omega⟩ (s_sm (s_loadI p0 (s_req ⟨by omega, by omega⟩ (s_sm (h_ldB H (by repeat (first | exact pick_head | apply pick_tail | apply pick_app)) (hit_get (by omega) (by omega)) (s_ite (fun g4 => ?_) (fun g4 => s_next ⟨rfl, rfl⟩ ?_)))))))
      · refine s_req ⟨by omega, by omega⟩ (s_sm (s_loadI p0 ?_))
        (refine h_new H fun n68 u H => ?_)
        refine h_num H (by repeat (first | exact cut_head | exact cut_all | apply cut_tail | apply cut_app)) hov (by repeat (first | exact pick_head | apply pick_tail | apply pick_app)) (by omega) fun o2 cap2 c2 u ho2 H => s_asS (s_next ⟨rfl, rfl⟩ ?_)
        rw [w_succ (by omega)]
        simp only [if_true]
        rw [g4, if_pos rfl] at hsn
        refine ⟨⟨i + 1, _, c2, rfl, by omega, ?_, H.sub (by repeat (first | exact sb_refl | exact sb_nil | refine sb_cons (by repeat (first | exact pick_head | apply pick_tail | apply pick_app)) ?_ | refine sb_app (by repeat (first | exact cut_head | exact cut_all | apply cut_tail | apply cut_app)) ?_ | exact sb_one (by repeat (first | exact cut_head | exact cut_all | apply cut_tail | apply cut_app))))⟩, by simp [intOf]; omega⟩
        rw [hsn]
        exact ho2
      · rw [w_succ (by omega)]
        simp only [if_true]
        rw [g4, if_neg (by simp : ¬ (false = true)), List.append_nil] at hsn
        refine ⟨⟨i + 1, _, cv, rfl, by omega, ?_, H⟩, by simp [intOf]; omega⟩
        rw [hsn]
        exact hov
    · simp only [decide_eq_false_iff_not] at g3
      have hil : i = l.length := by omega
      subst hil
      rw [List.take_length] at hov ⊢
      exact s_ret ⟨_, cv, _, rfl, hout r0 hR, hov, H.sub (by repeat (first | exact sb_refl | exact sb_nil | refine sb_cons (by repeat (first | exact pick_head | apply pick_tail | apply pick_app)) ?_ | refine sb_app (by repeat (first | exact cut_head | exact cut_all | apply cut_tail | apply cut_app)) ?_ | exact sb_one (by repeat (first | exact cut_head | exact cut_all | apply cut_tail | apply cut_app))))⟩
end
end Go.Proofs.Ytgoecmggbcaoiaa
