/- The document's questions are the code's. -/
import Derived.Test.YtdepohepogocgaaRefW
set_option linter.unusedVariables false
set_option linter.unusedSimpArgs false
set_option maxRecDepth 100000
set_option maxHeartbeats 4000000
namespace Go.Proofs.Ytdepohepogocgaa
open Go hiding Expr
open Go.RowKit Tr

theorem clash_all {mine : Bool} {k : K} {L : List AW} : (!L.any (clash mine k)) = hasGo (queueOf (L.map AW.row) k) mine := by
  unfold hasGo
  induction L with
  | nil => rfl
  | cons r L ih =>
    rw [List.any_cons, Bool.not_or, ih, List.map_cons]
    unfold queueOf
    rw [List.filterMap_cons]
    unfold entry clash lockV
    have e1 : r.row.2 = r.w := rfl
    simp only [e1]
    cases lockOf r.w k with
    | none => simp
    | some x => cases x <;> cases mine <;> simp
theorem row_split' {X : List AW} {i : Nat} {x : AW} (hx : X[i]? = some x) : X.map AW.row = (X.take i).map AW.row ++ (x.t, x.w) :: (X.drop (i + 1)).map AW.row := by
  obtain ⟨h1, rfl⟩ := List.getElem?_eq_some_iff.1 hx
  have : X = X.take i ++ X[i] :: X.drop (i + 1) := by rw [List.getElem_cons_drop, List.take_append_drop]
  conv => lhs; rw [this]
  rw [List.map_append, List.map_cons]
  rfl
theorem waitsP_eq {X : List AW} {i : Nat} {x : AW} (hg : Good (X.map AW.row)) (hx : X[i]? = some x) : waitsP X i x x.w = waitsA (X.map AW.row) x.t := by
  have hm : (x.t, x.w) ∈ X.map AW.row := List.mem_map.2 ⟨x, List.mem_of_getElem? hx, rfl⟩
  have hS := hg.srt _ hm
  unfold waitsA waitsP waitsL
  rw [want_of hg hm, Option.getD_some]
  congr 1
  refine List.filter_congr fun y hy => ?_
  congr 1
  have hlk := lockOf_of hS hy
  have e := row_split' hx
  rw [e] at hg ⊢
  rw [holds_has hg hlk]
  unfold hasR
  rw [clash_all]
  congr 1
  unfold lockV
  rw [hlk]
theorem find_none {X : List AW} {t : Ix} (h : ∀ x ∈ X, x.t ≠ t) : wantOf (X.map AW.row) t = none := by
  rw [want_none]
  intro hm
  obtain ⟨r, hr, he⟩ := List.mem_map.1 hm
  obtain ⟨x, hx, rfl⟩ := List.mem_map.1 hr
  exact h x hx he
section
variable {w : World} {p : Nat} {X : List AW}
theorem rWaits_c (h : RV w p X) (hg : Good (X.map AW.row)) (hmax : X.length ≤ 1099511627776) (hmw : ∀ x ∈ X, x.w.length ≤ 5864062014805) (t : Ix) :
    Calls Try.prog 59 #[.pointer (some ⟨p, 0, none⟩), .agg ⟨ir t⟩] w fun e w' => ∃ v c, e = .returned v ∧ OwnC 39 2 v (waitsA (X.map AW.row) t).length (enc (waitsA (X.map AW.row) t)) c ∧ Has w w' c := by
  apply c59
  refine h_new (Has.init w) fun n4 u H => h_ldI H (by repeat (first | exact pick_head | apply pick_tail | apply pick_app)) rfl (h_ldI H (by repeat (first | exact pick_head | apply pick_tail | apply pick_app)) rfl (s_call (find_c (h.fr0 H.base) hmax t) ?_))
  rintro _ u ⟨z, rfl, f, hz⟩
  have H := H.fr0 f
  refine ⟨_, rfl, s_asI ?_⟩
  rcases hz with ⟨rfl, hno⟩ | ⟨i, hi, rfl, _, hat⟩
  · have e : waitsA (X.map AW.row) t = [] := by unfold waitsA; rw [find_none hno]; rfl
    rw [e]
    exact s_true (by decide) (s_ret ⟨_, [], rfl, OwnC.nil, H.sub (by repeat (first | exact sb_refl | exact sb_nil | refine sb_cons (by repeat (first | exact pick_head | apply pick_tail | apply pick_app)) ?_ | refine sb_app (by repeat (first | exact cut_head | exact cut_all | apply cut_tail | apply cut_app)) ?_ | exact sb_one (by repeat (first | exact cut_head | exact cut_all | apply cut_tail | apply cut_app))))⟩)
  · obtain ⟨x, hx⟩ : ∃ x, X[i]? = some x := ⟨_, List.getElem?_eq_getElem hi⟩
    obtain rfl := hat x hx
    refine s_false (by simp) (s_call (rwaits_c (h.fr0 H.base) hmax hmw hx) ?_)
    rintro _ u ⟨v, c, rfl, ho, H2⟩
    rw [waitsP_eq hg hx] at ho
    have H := H.join H2
    obtain ⟨o', c', rfl⟩ := ho.slice
    exact ⟨_, rfl, s_asS (s_ret ⟨_, c, rfl, ho, H.left⟩)⟩
theorem rReady_c (h : RV w p X) (hg : Good (X.map AW.row)) (hmax : X.length ≤ 1099511627776) (hmw : ∀ x ∈ X, x.w.length ≤ 5864062014805) (t : Ix) :
    Calls Try.prog 58 #[.pointer (some ⟨p, 0, none⟩), .agg ⟨ir t⟩] w fun e w' => e = .returned (.bool (readyA (X.map AW.row) t)) ∧ Fr [] w w' := by
  apply c58
  refine h_new (Has.init w) fun n4 u H => h_ldI H (by repeat (first | exact pick_head | apply pick_tail | apply pick_app)) rfl (h_ldI H (by repeat (first | exact pick_head | apply pick_tail | apply pick_app)) rfl (s_call (find_c (h.fr0 H.base) hmax t) ?_))
  rintro _ u ⟨z, rfl, f, hz⟩
  have H := H.fr0 f
  refine ⟨_, rfl, s_asI ?_⟩
  rcases hz with ⟨rfl, hno⟩ | ⟨i, hi, rfl, _, hat⟩
  · have e : readyA (X.map AW.row) t = false := by unfold readyA; rw [find_none hno]; rfl
    rw [e]
    exact s_false (by decide) (s_ret ⟨rfl, H.base⟩)
  · obtain ⟨x, hx⟩ : ∃ x, X[i]? = some x := ⟨_, List.getElem?_eq_getElem hi⟩
    obtain rfl := hat x hx
    refine s_true (by simp) (s_call (rwaits_c (h.fr0 H.base) hmax hmw hx) ?_)
    rintro _ u ⟨v, c, rfl, ho, H2⟩
    have hm : (x.t, x.w) ∈ X.map AW.row := List.mem_map.2 ⟨x, List.mem_of_getElem? hx, rfl⟩
    have e : readyA (X.map AW.row) x.t = (waitsP X i x x.w).isEmpty := by unfold readyA; rw [want_of hg hm, waitsP_eq hg hx]; rfl
    rw [e]
    have H := H.join H2
    obtain ⟨o', c', rfl⟩ := ho.slice
    refine ⟨_, rfl, s_asS (s_ret ⟨?_, H.base⟩)⟩
    cases waitsP X i x x.w with
    | nil => rfl
    | cons a r =>
      simp
      omega
end
end Go.Proofs.Ytdepohepogocgaa
