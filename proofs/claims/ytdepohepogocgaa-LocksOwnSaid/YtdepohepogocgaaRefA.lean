/- The document's All and has over ids, walked. -/
import Derived.Test.YtdepohepogocgaaRefP
set_option linter.unusedVariables false
set_option linter.unusedSimpArgs false
set_option maxRecDepth 100000
set_option maxHeartbeats 4000000
namespace Go.Proofs.Ytdepohepogocgaa
open Go hiding Expr
open Go.RowKit Tr

theorem ready_eq {X : List AW} {i : Nat} {x : AW} (hg : Good (X.map AW.row)) (hx : X[i]? = some x) : readyA (X.map AW.row) x.t = (waitsP X i x x.w).isEmpty := by
  have hm : (x.t, x.w) ∈ X.map AW.row := List.mem_map.2 ⟨x, List.mem_of_getElem? hx, rfl⟩
  unfold readyA
  rw [want_of hg hm, waitsP_eq hg hx]
  rfl
section
variable {w : World} {p : Nat} {X : List AW}
theorem rAll_c (h : RV w p X) (hg : Good (X.map AW.row)) (hmax : X.length ≤ 1099511627776) (hmw : ∀ x ∈ X, x.w.length ≤ 5864062014805) :
    Calls Try.prog 56 #[.pointer (some ⟨p, 0, none⟩)] w fun e w' => ∃ v c, e = .returned v ∧ OwnC 27 2 v (allA (X.map AW.row)).length ((allA (X.map AW.row)).map ir).flatten c ∧ Has w w' c := by
  have hh := h
  obtain ⟨o, cap, h1, h2, h3⟩ := h
  have hil : ∀ (i : Nat) (x : AW), X[i]? = some x → (ids (X.map AW.row))[i]? = some x.t := fun i x hx => by unfold ids; rw [List.getElem?_map, List.getElem?_map, hx]; rfl
  have hlen : (ids (X.map AW.row)).length = X.length := by simp [ids]
  have hdef : allA (X.map AW.row) = (ids (X.map AW.row)).filter (readyA (X.map AW.row)) := rfl
  generalize ids (X.map AW.row) = l at *
  apply c56
  refine s_loop (fun vs W => ∃ (i : Nat) (v : Value) (c m : Hp), vs = [v, .int .i64 i] ∧ i ≤ l.length ∧ OwnC 27 2 v ((l.take i).filter (readyA (X.map AW.row))).length (((l.take i).filter (readyA (X.map AW.row))).map ir).flatten c ∧ Has w W (c ++ m)) (fun vs _ => l.length - (intOf (vs.getD 1 undef)).toNat)
    ⟨0, _, [], [], rfl, by omega, OwnC.nil, Has.init w⟩ ?_
  rintro _ j W ⟨i, v, cv, mm, rfl, hi, hov, H⟩
  obtain ⟨o', c', rfl⟩ := hov.slice
  refine s_asS (s_asI (s_ldS (H.base.cells h1 (by simp)) rfl (s_ite (fun g1 => ?_) (fun g1 => ?_))))
  · simp only [decide_eq_true_eq] at g1
    have hlt : i < X.length := by omega
    obtain ⟨x, hx⟩ : ∃ x, X[i]? = some x := ⟨_, List.getElem?_eq_getElem hlt⟩
    have hst := all_step (f := readyA (X.map AW.row)) (hil i x hx)
    have hre := ready_eq hg hx
    have hwl2 := List.length_filter_le (readyA (X.map AW.row)) (l.take i)
    rw [List.length_take] at hwl2
    obtain ⟨g, off, he, _, hc⟩ := h2.at (j := i) (r := ar x) (by rw [List.getElem?_map, hx]; rfl)
    refine s_call (rwaits_c (hh.fr0 H.base) hmax hmw hx) ?_
    rintro _ u ⟨v2, c2, rfl, ho2, H2⟩
    have H := H.join H2
    obtain ⟨o2, cap2, rfl⟩ := ho2.slice
    refine ⟨_, rfl, s_asS (s_ite (fun g2 => ?_) (fun g2 => s_next (by first | exact ⟨rfl, rfl⟩ | trivial) ?_))⟩
    · have g2 : readyA (X.map AW.row) x.t = true := by
        rw [hre]
        have : (waitsP X i x x.w).length = 0 := by simpa using g2
        rw [List.eq_nil_of_length_eq_zero this]
        rfl
      rw [if_pos g2] at hst
      refine s_ldS (H.base.cells h1 (by simp)) rfl (s_req ⟨by omega, by omega⟩ ⟨g, off, he, s_loadI (H.cell0 (hc 0 _ rfl)) (s_loadI (H.cell0 (hc 1 _ rfl)) ?_)⟩)
      (refine h_new H fun n22 u H => ?_)
      refine h_app1 elemI H (by repeat (first | exact cut_head | exact cut_all | apply cut_tail | apply cut_app)) hov (r := n22) (l := ir x.t) (by repeat (first | exact pick_head | apply pick_tail | apply pick_app)) rfl (by intro u hu; simp [ir] at hu; rcases hu with rfl | rfl <;> rfl) (by omega) (by omega) ?_
      intro v' c' u ho' H
      obtain ⟨o3, c3, rfl⟩ := ho'.slice
      refine s_asS (s_next (by first | exact ⟨rfl, rfl⟩ | trivial) ?_)
      simp (config := { decide := true }) only [if_true, if_false]
      refine ⟨⟨i + 1, _, c', _, by rw [w_succ (by omega)], by omega, ?_, H.sub (by repeat (first | exact sb_refl | exact sb_nil | refine sb_cons (by repeat (first | exact pick_head | apply pick_tail | apply pick_app)) ?_ | refine sb_app (by repeat (first | exact cut_head | exact cut_all | apply cut_tail | apply cut_app)) ?_ | exact sb_one (by repeat (first | exact cut_head | exact cut_all | apply cut_tail | apply cut_app))))⟩, by rw [w_succ (by omega)]; simp [intOf] <;> omega⟩
      rw [hst, List.map_append, List.flatten_append]
      simpa using ho'
    · have g2 : ¬ readyA (X.map AW.row) x.t = true := by
        rw [hre]
        intro e
        have : waitsP X i x x.w = [] := by simpa using e
        rw [this] at g2
        simp at g2
      rw [if_neg g2, List.append_nil] at hst
      simp (config := { decide := true }) only [if_true, if_false]
      exact ⟨⟨i + 1, _, cv, _, by rw [w_succ (by omega)], by omega, by rw [hst]; exact hov, H.sub (by repeat (first | exact sb_refl | exact sb_nil | refine sb_cons (by repeat (first | exact pick_head | apply pick_tail | apply pick_app)) ?_ | refine sb_app (by repeat (first | exact cut_head | exact cut_all | apply cut_tail | apply cut_app)) ?_ | exact sb_one (by repeat (first | exact cut_head | exact cut_all | apply cut_tail | apply cut_app))))⟩, by rw [w_succ (by omega)]; simp [intOf] <;> omega⟩
  · simp only [decide_eq_false_iff_not] at g1
    rw [List.take_of_length_le (by omega)] at hov ⊢
    rw [hdef]
    exact s_ret ⟨_, cv, rfl, hov, H.left⟩
theorem rhas_c {o : Option Addr} {l : List Ix} {n cap : Nat} {t : Ix} (h : RowsAt w o 2 (l.map ir)) (hn : n = l.length) (hmax : l.length ≤ 5864062014805) : Calls Try.prog 74 #[.slice o n cap, .agg ⟨ir t⟩] w fun e w' => e = .returned (.bool (decide (t ∈ l))) ∧ Fr [] w w' := by
  subst hn
  apply c74
  refine h_new (Has.init w) fun n5 u H => ?_
  refine s_loop (fun vs W => ∃ i : Nat, vs = [.int .i64 i] ∧ i ≤ l.length ∧ (∀ x ∈ l.take i, x ≠ t) ∧ Has w W [cl n5 27 (ir t)]) (fun vs _ => l.length - (intOf (vs.getD 0 undef)).toNat)
    ⟨0, rfl, by omega, by simp, H⟩ ?_
  clear H
  rintro _ j W ⟨i, rfl, hil, hno, H⟩
  refine s_asI (s_ite (fun g1 => ?_) (fun g1 => ?_))
  · simp only [decide_eq_true_eq] at g1
    obtain ⟨x, hx⟩ : ∃ x, l[i]? = some x := ⟨_, List.getElem?_eq_getElem (by omega)⟩
    refine h_drew H fun u H => ?_
    obtain ⟨g, off, he, _, hc⟩ := (RowsAt.fr h H.base).at (j := i) (r := ir x) (by rw [List.getElem?_map, hx]; rfl)
    refine s_req ⟨by omega, g1⟩ ⟨g, off, he, s_loadI (hc 0 _ rfl) (s_loadI (hc 1 _ rfl) (h_ldI H (by repeat (first | exact pick_head | apply pick_tail | apply pick_app)) rfl (h_ldI H (by repeat (first | exact pick_head | apply pick_tail | apply pick_app)) rfl (s_ite (fun g2 => s_ret ⟨?_, H.base⟩) (fun g2 => s_next (by first | exact ⟨rfl, rfl⟩ | trivial) ?_)))))⟩
    · have g2 : x = t := Ix.ext' (by simp at g2; exact g2.1) (by simp at g2; exact g2.2)
      rw [← g2]
      simp [List.mem_of_getElem? hx]
    · have g2 : ¬ x = t := fun h => by subst h; simp at g2
      simp (config := { decide := true }) only [if_true, if_false]
      refine ⟨⟨i + 1, by rw [w_succ (by omega)], by omega, fun y hy => ?_, H⟩, by rw [w_succ (by omega)]; simp [intOf] <;> omega⟩
      rw [List.take_add_one, hx, Option.toList_some] at hy
      rcases List.mem_append.1 hy with hy | hy
      · exact hno y hy
      · simp only [List.mem_singleton] at hy
        subst hy
        exact g2
  · simp only [decide_eq_false_iff_not] at g1
    rw [List.take_of_length_le (by omega)] at hno
    have : t ∉ l := fun h => hno t h rfl
    exact s_ret ⟨by simp [this], H.base⟩
end
end Go.Proofs.Ytdepohepogocgaa
