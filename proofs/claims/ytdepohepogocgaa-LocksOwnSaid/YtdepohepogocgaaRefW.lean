/- The document's waits, Waits, Ready, All, walked. -/
import Derived.Test.YtdepohepogocgaaRefH
import Derived.Test.YtdepohepogocgaaKeysA
set_option linter.unusedVariables false
set_option linter.unusedSimpArgs false
set_option maxRecDepth 100000
set_option maxHeartbeats 4000000
namespace Go.Proofs.Ytdepohepogocgaa
open Go hiding Expr
open Go.RowKit Tr

def waitsP (X : List AW) (at_ : Nat) (x : AW) (l : List Lk) : List K := (l.filter (fun y => !hasR X at_ x y.k)).map (·.k)
theorem waitsP_step {X : List AW} {at_ : Nat} {x : AW} {l : List Lk} {i : Nat} {y : Lk} (h : l[i]? = some y) : waitsP X at_ x (l.take (i + 1)) = waitsP X at_ x (l.take i) ++ if hasR X at_ x y.k then [] else [y.k] := by
  unfold waitsP
  rw [List.take_add_one, h, Option.toList_some, List.filter_append, List.map_append]
  congr 1
  by_cases hh : hasR X at_ x y.k = true <;> simp [hh]
theorem waitsP_len {X : List AW} {at_ : Nat} {x : AW} {l : List Lk} : (waitsP X at_ x l).length ≤ l.length := by
  unfold waitsP
  rw [List.length_map]
  exact List.length_filter_le ..
section
variable {w : World} {p : Nat} {X : List AW}
theorem rwaits_c (h : RV w p X) (hmax : X.length ≤ 1099511627776) (hmw : ∀ x ∈ X, x.w.length ≤ 5864062014805) {at_ : Nat} {x : AW} (hx : X[at_]? = some x) :
    Calls Try.prog 73 #[.pointer (some ⟨p, 0, none⟩), .int .i64 at_] w fun e w' => ∃ v c, e = .returned v ∧ OwnC 39 2 v (waitsP X at_ x x.w).length (enc (waitsP X at_ x x.w)) c ∧ Has w w' c := by
  have hh := h
  obtain ⟨o, cap, h1, h2, h3⟩ := h
  have hat := (List.getElem?_eq_some_iff.1 hx).1
  have hxm := List.mem_of_getElem? hx
  have hlx := hmw x hxm
  obtain ⟨g, off, he, _, hc⟩ := h2.at (j := at_) (r := ar x) (by rw [List.getElem?_map, hx]; rfl)
  apply c73
  refine s_loop (fun vs W => ∃ (i : Nat) (v : Value) (c m : Hp), vs = [v, .int .i64 i] ∧ i ≤ x.w.length ∧ OwnC 39 2 v (waitsP X at_ x (x.w.take i)).length (enc (waitsP X at_ x (x.w.take i))) c ∧ Has w W (c ++ m)) (fun vs _ => x.w.length - (intOf (vs.getD 1 undef)).toNat)
    ⟨0, _, [], [], rfl, by omega, OwnC.nil, Has.init w⟩ ?_
  rintro _ j W ⟨i, v, cv, mm, rfl, hil, hov, H⟩
  obtain ⟨o', c', rfl⟩ := hov.slice
  refine s_asS (s_asI (s_ldS (H.base.cells h1 (by simp)) rfl (s_req ⟨by omega, by omega⟩ ⟨g, off, he, s_loadS (H.cell0 (hc 2 _ rfl)) (s_ite (fun g1 => ?_) (fun g1 => ?_))⟩)))
  · simp only [decide_eq_true_eq] at g1
    have hlt : i < x.w.length := by omega
    obtain ⟨y, hy⟩ : ∃ y, x.w[i]? = some y := ⟨_, List.getElem?_eq_getElem hlt⟩
    have hst := waitsP_step (X := X) (at_ := at_) (x := x) hy
    have hwl2 := waitsP_len (X := X) (at_ := at_) (x := x) (l := x.w.take i)
    rw [List.length_take] at hwl2
    obtain ⟨gy, offy, hey, _, hcy⟩ := (h3 x hxm).at (j := i) (r := lr y) (by rw [List.getElem?_map, hy]; rfl)
    refine s_ldS (H.base.cells h1 (by simp)) rfl (s_req ⟨by omega, by omega⟩ ⟨g, off, he, s_loadS (H.cell0 (hc 2 _ rfl)) (s_req ⟨by omega, g1⟩ ⟨gy, offy, hey, s_loadI (H.cell0 (hcy 0 _ rfl)) (s_loadI (H.cell0 (hcy 1 _ rfl)) (s_call (has_c (hh.fr0 H.base) hmax hmw hx y.k) ?_))⟩)⟩)
    rintro _ u ⟨rfl, f⟩
    have H := H.fr0 f
    refine ⟨_, rfl, s_asB (s_ite (fun g2 => ?_) (fun g2 => s_next (by first | exact ⟨rfl, rfl⟩ | trivial) ?_))⟩
    · simp at g2
      rw [g2] at hst
      refine s_ldS (H.base.cells h1 (by simp)) rfl (s_req ⟨by omega, by omega⟩ ⟨g, off, he, s_loadS (H.cell0 (hc 2 _ rfl)) (s_req ⟨by omega, g1⟩ ⟨gy, offy, hey, s_loadI (H.cell0 (hcy 0 _ rfl)) (s_loadI (H.cell0 (hcy 1 _ rfl)) ?_)⟩)⟩)
      (refine h_new H fun n43 u H => ?_)
      refine h_app1 elemK H (by repeat (first | exact cut_head | exact cut_all | apply cut_tail | apply cut_app)) hov (r := n43) (l := kr y.k) (by repeat (first | exact pick_head | apply pick_tail | apply pick_app)) rfl (by intro u hu; simp [kr] at hu; rcases hu with rfl | rfl <;> rfl) (by omega) (by omega) ?_
      intro v' c' u ho' H
      obtain ⟨o2, c3, rfl⟩ := ho'.slice
      refine s_asS (s_next (by first | exact ⟨rfl, rfl⟩ | trivial) ?_)
      simp (config := { decide := true }) only [if_true, if_false]
      refine ⟨⟨i + 1, _, c', _, by rw [w_succ (by omega)], by omega, ?_, H.sub (by repeat (first | exact sb_refl | exact sb_nil | refine sb_cons (by repeat (first | exact pick_head | apply pick_tail | apply pick_app)) ?_ | refine sb_app (by repeat (first | exact cut_head | exact cut_all | apply cut_tail | apply cut_app)) ?_ | exact sb_one (by repeat (first | exact cut_head | exact cut_all | apply cut_tail | apply cut_app))))⟩, by rw [w_succ (by omega)]; simp [intOf] <;> omega⟩
      rw [hst, enc_append]
      simpa [enc] using ho'
    · simp at g2
      rw [g2] at hst
      simp at hst
      simp (config := { decide := true }) only [if_true, if_false]
      exact ⟨⟨i + 1, _, cv, _, by rw [w_succ (by omega)], by omega, by rw [hst]; exact hov, H.sub (by repeat (first | exact sb_refl | exact sb_nil | refine sb_cons (by repeat (first | exact pick_head | apply pick_tail | apply pick_app)) ?_ | refine sb_app (by repeat (first | exact cut_head | exact cut_all | apply cut_tail | apply cut_app)) ?_ | exact sb_one (by repeat (first | exact cut_head | exact cut_all | apply cut_tail | apply cut_app))))⟩, by rw [w_succ (by omega)]; simp [intOf] <;> omega⟩
  · simp only [decide_eq_false_iff_not] at g1
    rw [List.take_of_length_le (by omega)] at hov ⊢
    exact s_ret ⟨_, cv, rfl, hov, H.left⟩
end
end Go.Proofs.Ytdepohepogocgaa
