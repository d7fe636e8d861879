/- live, SameResult; the walks of RowsFull and RowsOwn. -/
import Derived.Test.YtcmdbaafnbdpbaaAll
import Derived.Test.YtcmdbaafnbdpbaaTreesL
set_option linter.unusedVariables false
set_option linter.unusedSimpArgs false
set_option maxRecDepth 100000
set_option maxHeartbeats 2000000
namespace Go.Proofs.Ytcmdbaafnbdpbaa
open Go hiding Expr
open Go.RowKit Tr

section
variable {w w' w0 : World} {m c : Hp} {p : Nat} {R : List Rw} {s q : Int}

theorem live_c : Calls Try.prog 11 #[] w fun e w' => e = .returned (.bool true) ∧ Fr [] w w' := by
  apply c11
  refine s_call (new_c (Has.init w)) ?_
  rintro _ u ⟨p, c, rfl, hT, H⟩
  have i7 : inI 7 := ⟨by decide, by decide⟩
  have i1 : inI 1 := ⟨by decide, by decide⟩
  have I0 := InvR.nil
  refine ⟨_, rfl, s_asP (s_false rfl (s_call (ask_c H hT I0 i7 i1) ?_))⟩
  rintro _ u ⟨o1, cap1, c1, rfl, ho1, H⟩
  have e1 : kindI [] 7 1 = 1 := by decide
  have a1 : ansR [] 7 1 = zeroR := by decide
  rw [e1, a1]
  refine ⟨_, rfl, s_asU (s_req rfl (s_asA (s_req rfl (s_asI (s_asS (s_asI (s_asI (s_asI ?_))))))))⟩
  (refine h_new H fun n12 u H => ?_)
  iterate 4 refine h_st H (by repeat (first | exact pick_head | apply pick_tail | apply pick_app)) (by first | (simp; done) | exact Nat.le_of_ble_eq_true rfl) rfl fun u H => ?_
  have H : Has w u (c ++ []) := H.sub (by repeat (first | exact sb_refl | exact sb_nil | refine sb_cons (by repeat (first | exact pick_head | apply pick_tail | apply pick_app)) ?_ | refine sb_app (by repeat (first | exact cut_head | exact cut_all | apply cut_tail | apply cut_app)) ?_ | exact sb_one (by repeat (first | exact cut_head | exact cut_all | apply cut_tail | apply cut_app))))
  refine s_call (put_c (e := 24) (slot := 0) (place := 0) (vals := []) H hT I0 i7 i1 (fun u H => valsAt_nil) rfl (by decide)) ?_
  rintro _ u ⟨c2, rfl, hT2, H⟩
  have e2 : putR [] 7 1 ⟨24, [], 0, 0⟩ = [⟨7, 1, ⟨24, [], 0, 0⟩⟩] := by decide
  rw [e1]
  rw [e2] at hT2
  have I2 : InvR [⟨7, 1, ⟨24, [], 0, 0⟩⟩] := by rw [← e2]; exact I0.put 7 1 (by decide)
  refine ⟨_, rfl, s_asI (s_call (ask_c H hT2 I2 i7 i1) ?_)⟩
  rintro _ u ⟨o3, cap3, c3, rfl, ho3, H⟩
  have e3 : kindI [⟨7, 1, ⟨24, [], 0, 0⟩⟩] 7 1 = 2 := by decide
  have a3 : ansR [⟨7, 1, ⟨24, [], 0, 0⟩⟩] 7 1 = ⟨24, [], 0, 0⟩ := by decide
  rw [e3, a3]
  refine ⟨_, rfl, s_asU (s_req rfl (s_asA (s_req rfl (s_asI (s_asS (s_asI (s_asI (s_asI ?_))))))))⟩
  (refine h_new H fun n25 u H => ?_)
  iterate 4 refine h_st H (by repeat (first | exact pick_head | apply pick_tail | apply pick_app)) (by first | (simp; done) | exact Nat.le_of_ble_eq_true rfl) rfl fun u H => ?_
  refine s_true rfl (s_true rfl (s_true rfl (h_ldI H (by repeat (first | exact pick_head | apply pick_tail | apply pick_app)) rfl (s_true rfl ?_))))
  have H : Has w u (c2 ++ []) := H.sub (by repeat (first | exact sb_refl | exact sb_nil | refine sb_cons (by repeat (first | exact pick_head | apply pick_tail | apply pick_app)) ?_ | refine sb_app (by repeat (first | exact cut_head | exact cut_all | apply cut_tail | apply cut_app)) ?_ | exact sb_one (by repeat (first | exact cut_head | exact cut_all | apply cut_tail | apply cut_app))))
  refine s_call (len_c H hT2 I2) ?_
  rintro _ u ⟨rfl, H⟩
  exact ⟨_, rfl, s_asI (s_ret ⟨rfl, H.base⟩)⟩

theorem samer_c {e1 e2 s1 s2 p1 p2 : Int} {v1 v2 : List Int} {o1 o2 : Option Addr} {n1 n2 k1 k2 : Nat} (h1 : ValsAt w o1 v1) (h2 : ValsAt w o2 v2) (hn1 : n1 = v1.length) (hn2 : n2 = v2.length) (hmax : v1.length < 9223372036854775807) :
    Calls Try.prog 14 #[.agg ⟨resL e1 o1 n1 k1 s1 p1⟩, .agg ⟨resL e2 o2 n2 k2 s2 p2⟩] w fun en w' => en = .returned (.bool (decide ((⟨e1, v1, s1, p1⟩ : Res) = ⟨e2, v2, s2, p2⟩))) ∧ Fr [] w w' := by
  subst hn1 hn2
  apply c14
  refine h_new (Has.init w) fun n12 u H => ?_
  (refine h_new H fun n13 u H => ?_)
  refine h_blk (fun _ => e1 = e2 ∧ s1 = s2 ∧ p1 = p2 ∧ v1.length = v2.length) H ?_ ?_
  · refine h_ldI H (by repeat (first | exact pick_head | apply pick_tail | apply pick_app)) rfl (h_ldI H (by repeat (first | exact pick_head | apply pick_tail | apply pick_app)) rfl (s_ite (fun g => ?_) (fun g => ?_)))
    · simp only [bne_iff_ne, ne_eq] at g
      exact s_ret ⟨by simp [g], H.base⟩
    refine h_ldI H (by repeat (first | exact pick_head | apply pick_tail | apply pick_app)) rfl (h_ldI H (by repeat (first | exact pick_head | apply pick_tail | apply pick_app)) rfl (s_ite (fun g' => ?_) (fun g' => ?_)))
    · simp only [bne_iff_ne, ne_eq] at g'
      exact s_ret ⟨by simp [g'], H.base⟩
    refine h_ldI H (by repeat (first | exact pick_head | apply pick_tail | apply pick_app)) rfl (h_ldI H (by repeat (first | exact pick_head | apply pick_tail | apply pick_app)) rfl (s_ite (fun g2 => ?_) (fun g2 => ?_)))
    · simp only [bne_iff_ne, ne_eq] at g2
      exact s_ret ⟨by simp [g2], H.base⟩
    refine h_ldS H (by repeat (first | exact pick_head | apply pick_tail | apply pick_app)) rfl (h_ldS H (by repeat (first | exact pick_head | apply pick_tail | apply pick_app)) rfl (s_ite (fun g3 => ?_) (fun g3 => s_next (by simp) ?_)))
    · simp only [bne_iff_ne, ne_eq] at g3
      refine s_ret ⟨?_, H.base⟩
      have : v1 ≠ v2 := fun h => g3 (by rw [h])
      simp [this]
    · simp only [bne_eq_false_iff_eq] at g g' g2 g3
      simp only [if_true]
      exact ⟨H, g, g', g2, by omega⟩
  · rintro _ _ W H ⟨he, hs, hp, hl⟩
    refine s_loop (fun vs W => ∃ i : Nat, vs = [.int .i64 i] ∧ i ≤ v1.length ∧ v1.take i = v2.take i ∧ Has w W _) (fun vs _ => v1.length - (intOf (vs.getD 0 undef)).toNat) ⟨0, rfl, by omega, by simp, H⟩ ?_
    rintro _ j W ⟨i, rfl, hi, htk, H⟩
    refine s_asI (h_ldS H (by repeat (first | exact pick_head | apply pick_tail | apply pick_app)) rfl (s_ite (fun g1 => ?_) (fun g1 => ?_)))
    · simp only [decide_eq_true_eq] at g1
      have hlt : i < v1.length := by omega
      obtain ⟨x, hx⟩ : ∃ x, v1[i]? = some x := ⟨_, List.getElem?_eq_getElem hlt⟩
      obtain ⟨y, hy⟩ : ∃ y, v2[i]? = some y := ⟨_, List.getElem?_eq_getElem (by omega)⟩
      refine h_drew H fun u H => h_ldS H (by repeat (first | exact pick_head | apply pick_tail | apply pick_app)) rfl ?_
      obtain ⟨ga, offa, rfl, q1⟩ := (h1.fr0 H.base).get hx
      refine s_req ⟨by omega, by omega⟩ (s_sm (s_loadI q1 (h_ldS H (by repeat (first | exact pick_head | apply pick_tail | apply pick_app)) rfl ?_)))
      obtain ⟨gb, offb, rfl, q2⟩ := (h2.fr0 H.base).get hy
      refine s_req ⟨by omega, by omega⟩ (s_sm (s_loadI q2 (s_ite (fun g2 => ?_) (fun g2 => s_next (by first | exact ⟨rfl, rfl⟩ | trivial) ?_))))
      · simp only [bne_iff_ne, ne_eq] at g2
        refine s_ret ⟨?_, H.base⟩
        have : v1 ≠ v2 := fun h => g2 (by rw [h, hy] at hx; cases hx; rfl)
        simp [this]
      · simp only [bne_eq_false_iff_eq] at g2
        simp (config := { decide := true }) only [if_true, if_false]
        refine ⟨⟨i + 1, by rw [w_succ (by omega)], by omega, ?_, H⟩, by rw [w_succ (by omega)]; simp [intOf] <;> omega⟩
        rw [List.take_add_one, List.take_add_one, htk, hx, hy, g2]
    · simp only [decide_eq_false_iff_not] at g1
      rw [List.take_of_length_le (by omega), List.take_of_length_le (by omega)] at htk
      exact s_ret ⟨by simp [he, hs, hp, htk], H.base⟩
end
end Go.Proofs.Ytcmdbaafnbdpbaa
