/- The document's Release, walked. -/
import Derived.Test.YtdepohepogocgaaRefR
import Derived.Test.YtdepohepogocgaaRefK
import Derived.Test.YtdepohepogocgaaLkE
set_option linter.unusedVariables false
set_option linter.unusedSimpArgs false
set_option maxRecDepth 100000
set_option maxHeartbeats 4000000
namespace Go.Proofs.Ytdepohepogocgaa
open Go hiding Expr
open Go.RowKit Tr

def outX (X : List AW) (i : Nat) : List AW := X.take i ++ X.drop (i + 1)
theorem ValsA.out {X : List AW} {cs : List Hp} (hv : ValsA X cs) (i : Nat) : ValsA (outX X i) (cs.take i ++ cs.drop (i + 1)) := by
  refine ⟨by simp [outX, hv.1], fun j x c hx hc => ?_⟩
  unfold outX at hx
  rw [List.getElem?_append] at hx hc
  simp only [List.length_take, hv.1] at hx hc
  split at hx
  · rename_i h
    rw [if_pos h] at hc
    rw [List.getElem?_take_of_lt (by omega)] at hx hc
    exact hv.2 _ x c hx hc
  · rename_i h
    rw [if_neg h] at hc
    rw [List.getElem?_drop] at hx hc
    exact hv.2 _ x c hx hc
theorem sb_out (cs : List Hp) (i : Nat) : Sb (cs.take i ++ cs.drop (i + 1)).flatten cs.flatten := by
  rcases Nat.lt_or_ge i cs.length with h | h
  · refine ⟨cs[i], ?_⟩
    have : cs = cs.take i ++ cs[i] :: cs.drop (i + 1) := by rw [List.getElem_cons_drop, List.take_append_drop]
    conv => lhs; rw [this]
    simp only [List.flatten_append, List.flatten_cons, List.append_assoc]
    exact List.Perm.append_left _ List.perm_append_comm
  · rw [List.take_of_length_le h, List.drop_of_length_le (by omega), List.append_nil]
    exact sb_refl
theorem rows_out {X : List AW} {i : Nat} {x : AW} (hx : X[i]? = some x) (hg : Good (X.map AW.row)) : (outX X i).map AW.row = relA (X.map AW.row) x.t := by
  have e := row_split' hx
  unfold outX
  rw [List.map_append]
  rw [e] at hg ⊢
  rw [relA_split hg]
theorem ids_flat (l : List AW) (i j : Nat) : (((l.map ar).drop i).take j).flatten = (((l.drop i).take j).map ar).flatten := by
  rw [← List.map_drop, ← List.map_take]
theorem out_len {X : List AW} {i : Nat} (h : i < X.length) : (outX X i).length = i + (X.length - (i + 1)) := by
  unfold outX
  rw [List.length_append, List.length_take, List.length_drop]
  omega

section
variable {w0 w : World} {m m' c : Hp} {p : Nat} {X : List AW}
theorem rrel_c {t : Ix} (H : Has w0 w m) (hp : Cut c m m') (hR : RefAt p X c) (hg : Good (X.map AW.row)) (hmax : X.length ≤ 1099511627776) (hmw : ∀ x ∈ X, x.w.length ≤ 5864062014805) :
    Calls Try.prog 60 #[.pointer (some ⟨p, 0, none⟩), .agg ⟨ir t⟩] w fun e w' => ∃ o cap cv c' X', e = .returned (.tuple #[.slice o (relL (X.map AW.row) t).length cap, .int .i64 (relE (X.map AW.row) t)]) ∧
      OwnC 27 2 (.slice o (relL (X.map AW.row) t).length cap) (relL (X.map AW.row) t).length ((relL (X.map AW.row) t).map ir).flatten cv ∧ X'.map AW.row = relA (X.map AW.row) t ∧ RefAt p X' c' ∧ Has w0 w' (cv ++ (c' ++ m')) := by
  have hRV := RefAt.rv H hp hR
  have hR0 := hR
  obtain ⟨o1, cap1, cr, cs, rfl, ho, hv⟩ := hR
  have H := H.pullc hp
  simp only [List.cons_append, List.append_assoc] at H
  apply c60
  refine h_new H fun n4 u H => ?_
  have mk : ∀ {u : World} {r : Hp}, Has w0 u (cl p 98 [.slice o1 X.length cap1] :: (cr ++ (cs.flatten ++ r))) → RV u p X := fun {u r} H => RefAt.rv (w0 := w0) (w := u) (m := (cl p 98 [.slice o1 X.length cap1] :: (cr ++ cs.flatten)) ++ r) (c := cl p 98 [.slice o1 X.length cap1] :: (cr ++ cs.flatten))
    (by simp only [List.cons_append, List.append_assoc]; exact H) cut_head hR0
  refine h_ldI H (by repeat (first | exact pick_head | apply pick_tail | apply pick_app)) rfl (h_ldI H (by repeat (first | exact pick_head | apply pick_tail | apply pick_app)) rfl (s_call (find_c (mk (H.sub (m2 := cl p 98 [.slice o1 X.length cap1] :: (cr ++ (cs.flatten ++ m'))) (by repeat (first | exact sb_refl | exact sb_nil | refine sb_cons (by repeat (first | exact pick_head | apply pick_tail | apply pick_app)) ?_ | refine sb_app (by repeat (first | exact cut_head | exact cut_all | apply cut_tail | apply cut_app)) ?_ | exact sb_one (by repeat (first | exact cut_head | exact cut_all | apply cut_tail | apply cut_app)))))) hmax t) ?_))
  rintro _ u ⟨z, rfl, f, hz⟩
  have H := H.fr0 f
  refine ⟨_, rfl, s_asI ?_⟩
  rcases hz with ⟨rfl, hno⟩ | ⟨i, hi, rfl, _, hat⟩
  · have hwt := find_none hno
    have e1 : relL (X.map AW.row) t = [] := by unfold relL; rw [hwt]; rfl
    have e2 : relE (X.map AW.row) t = 4 := by unfold relE; rw [hwt]; rfl
    have e3 : relA (X.map AW.row) t = X.map AW.row := rel_none (want_none.1 hwt)
    rw [e1, e2, e3]
    refine s_true (by decide) (s_ret ⟨none, 0, [], cl p 98 [.slice o1 X.length cap1] :: (cr ++ cs.flatten), X, rfl, OwnC.nil, rfl, hR0, ?_⟩)
    simp only [List.nil_append, List.cons_append, List.append_assoc]
    exact H.sub (by repeat (first | exact sb_refl | exact sb_nil | refine sb_cons (by repeat (first | exact pick_head | apply pick_tail | apply pick_app)) ?_ | refine sb_app (by repeat (first | exact cut_head | exact cut_all | apply cut_tail | apply cut_app)) ?_ | exact sb_one (by repeat (first | exact cut_head | exact cut_all | apply cut_tail | apply cut_app))))
  · obtain ⟨x, hx⟩ : ∃ x, X[i]? = some x := ⟨_, List.getElem?_eq_getElem hi⟩
    obtain rfl := hat x hx
    have hwt : (wantOf (X.map AW.row) x.t).isSome = true := by
      cases hh : wantOf (X.map AW.row) x.t with
      | some _ => rfl
      | none =>
        have := want_none.1 hh
        exact absurd (by unfold ids; rw [List.map_map]; exact List.mem_map.2 ⟨x, List.mem_of_getElem? hx, rfl⟩) this
    have e1 : relL (X.map AW.row) x.t = relOut (X.map AW.row) x.t := by unfold relL; rw [if_pos hwt]
    have e2 : relE (X.map AW.row) x.t = 0 := by unfold relE; rw [if_pos hwt]
    have e3 := rows_out hx hg
    rw [e1, e2]
    unfold relOut
    have hg2 : Good ((outX X i).map AW.row) := by rw [e3]; exact hg.rel
    rw [← e3]
    refine s_false (by simp) (s_call (rAll_c (mk (H.sub (m2 := cl p 98 [.slice o1 X.length cap1] :: (cr ++ (cs.flatten ++ m'))) (by repeat (first | exact sb_refl | exact sb_nil | refine sb_cons (by repeat (first | exact pick_head | apply pick_tail | apply pick_app)) ?_ | refine sb_app (by repeat (first | exact cut_head | exact cut_all | apply cut_tail | apply cut_app)) ?_ | exact sb_one (by repeat (first | exact cut_head | exact cut_all | apply cut_tail | apply cut_app)))))) hg hmax hmw) ?_)
    rintro _ u ⟨v, cz, rfl, hoz, H2⟩
    obtain ⟨oz, capz, rfl⟩ := hoz.slice
    have H := H.join H2
    have hw1 : IntKind.wrap .i64 ((i : Int) + 1) = ((i + 1 : Nat) : Int) := by rw [wrap64 (by omega) (by omega)]; omega
    have hcap := ho.cap_ge.1
    refine ⟨_, rfl, s_asS (h_ldS H (by repeat (first | exact pick_head | apply pick_tail | apply pick_app)) rfl (s_req ⟨by omega, by omega⟩ ?_))⟩
    have hlm : (X.map ar).length = X.length := List.length_map ..
    have hnone : o1 = none → X.map ar = [] := fun e => by subst e; exact none_own ho (ar3 X) (by decide)
    refine h_appRows (rows := X.map ar) (n := 0) elemA (by decide) H (c := []) cut_nil OwnC.nil (ar3 X) (ar_one X) (rowsAt_own (ar3 X) (by decide) ho H (by repeat (first | exact cut_head | exact cut_all | apply cut_tail | apply cut_app))) hnone (i := 0) (j := i) (by omega) (by omega) (by omega) (by omega) ?_
    intro v2 c2 u ho2 H
    obtain ⟨o2, cap2, rfl⟩ := ho2.slice
    refine s_asS (h_ldS H (by repeat (first | exact pick_head | apply pick_tail | apply pick_app)) rfl ?_)
    rw [hw1, Int.toNat_natCast]
    refine s_req ⟨by omega, by omega⟩ ?_
    refine h_appRows (rows := X.map ar) (n := 0 + i) elemA (by decide) H (c := c2) (by repeat (first | exact cut_head | exact cut_all | apply cut_tail | apply cut_app)) ho2 (ar3 X) (ar_one X) (rowsAt_own (ar3 X) (by decide) ho H (by repeat (first | exact cut_head | exact cut_all | apply cut_tail | apply cut_app))) hnone (i := i + 1) (j := X.length - (i + 1)) (by omega) (by omega) (by omega) (by omega) ?_
    intro v3 c3 u ho3 H
    obtain ⟨o3, cap3, rfl⟩ := ho3.slice
    refine s_asS (h_st H (by repeat (first | exact pick_head | apply pick_tail | apply pick_app)) (by simp) rfl fun u H => ?_)
    rw [List.nil_append, ids_flat, ids_flat, List.drop_zero, ← List.flatten_append, ← List.map_append] at ho3
    have hfull : (X.drop (i + 1)).take (X.length - (i + 1)) = X.drop (i + 1) := List.take_of_length_le (by rw [List.length_drop]; omega)
    rw [hfull] at ho3
    change OwnC 101 3 (.slice o3 (0 + i + (X.length - (i + 1))) cap3) (0 + i + (X.length - (i + 1))) ((outX X i).map ar).flatten c3 at ho3
    have hol : 0 + i + (X.length - (i + 1)) = (outX X i).length := by rw [out_len hi]; omega
    rw [hol] at ho3 H
    have hR2 : RefAt p (outX X i) (cl p 98 [.slice o3 (outX X i).length cap3] :: (c3 ++ (cs.take i ++ cs.drop (i + 1)).flatten)) := ⟨o3, cap3, c3, _, rfl, ho3, hv.out i⟩
    obtain ⟨cx, hcx⟩ := sb_out cs i
    have H : Has w0 u (cs.flatten ++ (cl p 98 [.slice o3 (outX X i).length cap3] :: (c3 ++ (cz ++ m')))) := H.sub (by repeat (first | exact sb_refl | exact sb_nil | refine sb_cons (by repeat (first | exact pick_head | apply pick_tail | apply pick_app)) ?_ | refine sb_app (by repeat (first | exact cut_head | exact cut_all | apply cut_tail | apply cut_app)) ?_ | exact sb_one (by repeat (first | exact cut_head | exact cut_all | apply cut_tail | apply cut_app))))
    have H := H.perm (hcx.append_right _)
    rw [List.append_assoc] at H
    generalize (cs.take i ++ cs.drop (i + 1)).flatten = csf at H hR2
    have H : Has w0 u ((cl p 98 [.slice o3 (outX X i).length cap3] :: (c3 ++ csf)) ++ (cz ++ m')) := by
      simp only [List.cons_append, List.append_assoc]
      exact H.sub (by repeat (first | exact sb_refl | exact sb_nil | refine sb_cons (by repeat (first | exact pick_head | apply pick_tail | apply pick_app)) ?_ | refine sb_app (by repeat (first | exact cut_head | exact cut_all | apply cut_tail | apply cut_app)) ?_ | exact sb_one (by repeat (first | exact cut_head | exact cut_all | apply cut_tail | apply cut_app))))
    generalize (cl p 98 [.slice o3 (outX X i).length cap3] :: (c3 ++ csf)) = cc at H hR2
    have holm : (outX X i).length ≤ X.length := by rw [← hol]; omega
    refine s_call (rAll_c (RefAt.rv H cut_head hR2) hg2 (by omega) (fun y hy => hmw y ?_)) ?_
    · unfold outX at hy
      rcases List.mem_append.1 hy with hy | hy
      · exact List.mem_of_mem_take hy
      · exact List.mem_of_mem_drop hy
    rintro _ u4 ⟨v4, c4, rfl, ho4, H4⟩
    obtain ⟨o4, cap4, rfl⟩ := ho4.slice
    have HJ := H.join H4
    refine ⟨_, rfl, s_asS ?_⟩
    have hzl : (allA (X.map AW.row)).length ≤ X.length := by
      have h1 : (allA (X.map AW.row)).length ≤ (ids (X.map AW.row)).length := List.length_filter_le ..
      simpa [ids] using h1
    have hll : (allA ((outX X i).map AW.row)).length ≤ X.length := by
      have h1 : (allA ((outX X i).map AW.row)).length ≤ (ids ((outX X i).map AW.row)).length := List.length_filter_le ..
      have h2 : (ids ((outX X i).map AW.row)).length = (outX X i).length := by simp [ids]
      omega
    generalize hXo : outX X i = Xo at *
    generalize hL : allA (Xo.map AW.row) = L at *
    generalize hZ : allA (X.map AW.row) = Z at *
    clear mk
    have H : Has w0 u4 ([] ++ (cz ++ (c4 ++ (cc ++ m')))) := by rw [List.nil_append]; exact HJ.sub (by repeat (first | exact sb_refl | exact sb_nil | refine sb_cons (by repeat (first | exact pick_head | apply pick_tail | apply pick_app)) ?_ | refine sb_app (by repeat (first | exact cut_head | exact cut_all | apply cut_tail | apply cut_app)) ?_ | exact sb_one (by repeat (first | exact cut_head | exact cut_all | apply cut_tail | apply cut_app))))
    refine s_loop (fun vs W => ∃ (j : Nat) (v : Value) (c : Hp), vs = [v, .int .i64 j] ∧ j ≤ L.length ∧ OwnC 27 2 v ((L.take j).filter (fun u => !decide (u ∈ Z))).length (((L.take j).filter (fun u => !decide (u ∈ Z))).map ir).flatten c ∧
        Has w0 W (c ++ (cz ++ (c4 ++ (cc ++ m'))))) (fun vs _ => L.length - (intOf (vs.getD 1 undef)).toNat)
      ⟨0, _, [], rfl, by omega, OwnC.nil, H⟩ ?_
    clear H HJ H2 H4
    rintro _ j' W ⟨j, v, c, rfl, hj, hov, H⟩
    obtain ⟨o', c', rfl⟩ := hov.slice
    refine s_asS (s_asI (s_ite (fun g1 => ?_) (fun g1 => ?_)))
    · simp only [decide_eq_true_eq] at g1
      have hlt : j < L.length := by omega
      obtain ⟨t2, ht2⟩ : ∃ t2, L[j]? = some t2 := ⟨_, List.getElem?_eq_getElem hlt⟩
      have hst := all_step (f := fun u => !decide (u ∈ Z)) ht2
      have hfl := List.length_filter_le (fun u => !decide (u ∈ Z)) (L.take j)
      rw [List.length_take] at hfl
      obtain ⟨g, off, he, _, hc⟩ := (rowsAt_own (ir2 L) (by decide) ho4 H (by repeat (first | exact cut_head | exact cut_all | apply cut_tail | apply cut_app))).at (j := j) (r := ir t2) (by rw [List.getElem?_map, ht2]; rfl)
      refine s_req ⟨by omega, g1⟩ ⟨g, off, he, s_loadI (hc 0 _ rfl) (s_loadI (hc 1 _ rfl) ?_)⟩
      refine s_call (rhas_c (l := Z) (t := t2) (rowsAt_own (ir2 Z) (by decide) hoz H (by repeat (first | exact cut_head | exact cut_all | apply cut_tail | apply cut_app))) rfl (by omega)) ?_
      rintro _ u ⟨rfl, f2⟩
      have H := H.fr0 f2
      refine ⟨_, rfl, s_asB (s_ite (fun g2 => ?_) (fun g2 => s_next (by first | exact ⟨rfl, rfl⟩ | trivial) ?_))⟩
      · rw [if_pos g2] at hst
        obtain ⟨g', off', he', _, hc'⟩ := (rowsAt_own (ir2 L) (by decide) ho4 H (by repeat (first | exact cut_head | exact cut_all | apply cut_tail | apply cut_app))).at (j := j) (r := ir t2) (by rw [List.getElem?_map, ht2]; rfl)
        refine s_req ⟨by omega, g1⟩ ⟨g', off', he', s_loadI (hc' 0 _ rfl) (s_loadI (hc' 1 _ rfl) ?_)⟩
        (refine h_new H fun n47 u H => ?_)
        refine h_app1 elemI H (by repeat (first | exact cut_head | exact cut_all | apply cut_tail | apply cut_app)) hov (r := n47) (l := ir t2) (by repeat (first | exact pick_head | apply pick_tail | apply pick_app)) rfl (by intro u hu; simp [ir] at hu; rcases hu with rfl | rfl <;> rfl) (by omega) (by omega) ?_
        intro v5 c5 u ho5 H
        obtain ⟨o5, cap5, rfl⟩ := ho5.slice
        refine s_asS (s_next (by first | exact ⟨rfl, rfl⟩ | trivial) ?_)
        simp (config := { decide := true }) only [if_true, if_false]
        refine ⟨⟨j + 1, _, c5, by rw [w_succ (by omega)], by omega, ?_, H.sub (by repeat (first | exact sb_refl | exact sb_nil | refine sb_cons (by repeat (first | exact pick_head | apply pick_tail | apply pick_app)) ?_ | refine sb_app (by repeat (first | exact cut_head | exact cut_all | apply cut_tail | apply cut_app)) ?_ | exact sb_one (by repeat (first | exact cut_head | exact cut_all | apply cut_tail | apply cut_app))))⟩, by rw [w_succ (by omega)]; simp [intOf] <;> omega⟩
        rw [hst, List.map_append, List.flatten_append]
        simpa using ho5
      · rw [if_neg (by simpa using g2), List.append_nil] at hst
        simp (config := { decide := true }) only [if_true, if_false]
        exact ⟨⟨j + 1, _, c, by rw [w_succ (by omega)], by omega, by rw [hst]; exact hov, H.sub (by repeat (first | exact sb_refl | exact sb_nil | refine sb_cons (by repeat (first | exact pick_head | apply pick_tail | apply pick_app)) ?_ | refine sb_app (by repeat (first | exact cut_head | exact cut_all | apply cut_tail | apply cut_app)) ?_ | exact sb_one (by repeat (first | exact cut_head | exact cut_all | apply cut_tail | apply cut_app))))⟩, by rw [w_succ (by omega)]; simp [intOf] <;> omega⟩
    · simp only [decide_eq_false_iff_not] at g1
      rw [List.take_of_length_le (by omega)] at hov ⊢
      exact s_ret ⟨_, _, c, cc, Xo, rfl, hov, rfl, hR2, H.sub (by repeat (first | exact sb_refl | exact sb_nil | refine sb_cons (by repeat (first | exact pick_head | apply pick_tail | apply pick_app)) ?_ | refine sb_app (by repeat (first | exact cut_head | exact cut_all | apply cut_tail | apply cut_app)) ?_ | exact sb_one (by repeat (first | exact cut_head | exact cut_all | apply cut_tail | apply cut_app))))⟩
end
end Go.Proofs.Ytdepohepogocgaa
