/- An entry deleted while its map is ranged over. -/
import Derived.Test.YtpjcfnnnciknmaaGreatMapF
import Derived.Test.YtpjcfnnnciknmaaGreatRanges
set_option linter.unusedSimpArgs false
set_option linter.unusedVariables false
set_option linter.unusedSectionVars false
namespace Go.Proofs.YtpjcfnnnciknmaaGreat.Tr
open Go
open Go.RowKit

theorem filter_erase_no {α : Type} {f : α → Bool} : ∀ {l : List α} {j : Nat} {x : α}, l[j]? = some x → f x = false → (l.eraseIdx j).filter f = l.filter f
  | [], _, _, h, _ => by simp at h
  | y :: r, 0, x, h, hf => by
    simp at h
    subst h
    rw [List.eraseIdx_cons_zero, List.filter_cons_of_neg (by simp [hf])]
  | y :: r, j + 1, x, h, hf => by
    have h' : r[j]? = some x := by simpa using h
    rw [List.eraseIdx_cons_succ, List.filter_cons, List.filter_cons, filter_erase_no h' hf]

section
variable {α β γ : Type} [DecidableEq α] {P : Program} {Q : Ending → World → Prop} {ρ : Lv} {w0 w w' : World} {kt e t : TypeId} {kf : α → Value} {vf : β → Value} {b : Nat} {D L : List (α × β)} {m m' : Hp} {o i : Obj}

theorem h_deleteL {k : Value → T} {p : α × β} {ty : TypeId} (H : Has w0 w m) (hp : Pick (b, o) m m') (h : MapO P kt kf vf o D) (hL : LeftO b kf vf o i L) (hla : LastO b kf vf o i p) (K : Maps.Keyed P kt) (ht : P.underlying t = some (.map kt e))
    (hinj : ∀ q ∈ D, kf q.1 = kf p.1 → q.1 = p.1) {l : Lit} (hkey : keyOf P kt (kf p.1) = some l) {tk : TypeId}
    (hk : ∀ o' w', MapO P kt kf vf o' (delAt D p.1) → LeftO b kf vf o' i L → Has w0 w' ((b, o') :: m') → (k (.tuple #[])).sem P Q ρ w') :
    (T.run (biV .delete #[t, tk] ty #[.map (some b), kf p.1]) k).sem P Q ρ w := by
  have hM := h.map (H.get hp)
  obtain ⟨es, clock, hb, hst, hD, ⟨h1, h2, h3⟩ | ⟨j, x, v', h1, h2, h3, h4⟩⟩ := hM.find K hinj hkey
  · have ho : o = .map es clock := by
      have := (H.get hp).symm.trans hb
      exact Option.some.inj this
    subst ho
    refine ⟨_, putObj w b (.map es clock), ?_, hk (.map es clock) _ ?_ hL (H.upd hp (Fr.putObj (by simp)) (ObjAt.put (o := .map es clock) hb))⟩
    · simp [biV, Builtin.delete_, run_underlying ht, MapKept.run_getObj_map hb, K.check w _ hkey, h1, MapKept.run_setObj_map _ hb, Result.andThen, putObj]
    · rw [del_none h3]
      exact ⟨⟨es, clock, rfl, hst, hD⟩, h.keys⟩
  · have ho : o = .map es clock := by
      have := (H.get hp).symm.trans hb
      exact Option.some.inj this
    subst ho
    have hlt := (List.getElem?_eq_some_iff.1 h2).1
    have hlt' : j < es.size := by simpa using hlt
    have hu : ∀ i q, D[i]? = some q → q.1 = p.1 → i = j := fun i q hi he => hM.nodup i j q (p.1, v') hi h4 (by rw [he])
    refine ⟨_, putObj w b (.map (es.eraseIdxIfInBounds j) clock), ?_, hk (.map (es.eraseIdxIfInBounds j) clock) _ ?_ ?_ (H.upd hp (Fr.putObj (by simp)) (ObjAt.put (o := .map es clock) hb))⟩
    · simp [biV, Builtin.delete_, run_underlying ht, MapKept.run_getObj_map hb, K.check w _ hkey, h1, MapKept.run_setObj_map _ hb, Result.andThen, putObj]
    · rw [del_some h4 rfl hu]
      refine ⟨⟨_, clock, rfl, MapKept.stamped_erase hst j, ?_⟩, fun p hp => h.keys p (List.mem_of_mem_eraseIdx hp)⟩
      rw [Array.eraseIdxIfInBounds, dif_pos hlt', Array.toList_eraseIdx]
      rw [Go.ChangeMaps.map_eraseIdx, Go.ChangeMaps.map_eraseIdx, hD]
    · obtain ⟨es2, clock2, seen, he2, hst2, hi2, hl2⟩ := hL
      cases he2
      obtain ⟨es3, clock3, seen3, en, he3, _, hi3, hen, hk3, hv3⟩ := hla
      cases he3
      rw [hi2] at hi3
      have hseen : seen = seen3.push en.born := by simpa using hi3
      -- the entry told last is the one that goes
      have hjn : es.toList[j]? = some en := by
        obtain ⟨j', hj', he'⟩ := List.getElem_of_mem hen
        have hj2 : es.toList[j']? = some en := by rw [List.getElem?_eq_getElem hj', he']
        have h5 : (D.map (fun p => (kf p.1, vf p.2)))[j']? = some (en.key, en.val) := by rw [← hD, List.getElem?_map, hj2]; rfl
        rw [List.getElem?_map] at h5
        obtain ⟨q, hq, he⟩ := Option.map_eq_some_iff.1 h5
        simp only [Prod.mk.injEq] at he
        have hqa := hinj q (List.mem_of_getElem? hq) (by rw [he.1, hk3])
        rw [← hu j' q hq hqa]
        exact hj2
      refine ⟨_, clock, seen, rfl, MapKept.stamped_erase hst j, hi2, ?_⟩
      rw [← hl2]
      congr 1
      unfold leftOf
      rw [Array.toList_filter, Array.toList_filter, Array.eraseIdxIfInBounds, dif_pos hlt', Array.toList_eraseIdx]
      refine filter_erase_no hjn ?_
      rw [hseen]
      simp
end

section
variable {α β γ : Type} [DecidableEq α] {P : Program} {Q : Ending → World → Prop} {ρ : Lv} {w0 w : World} {kt e t ty : TypeId} {kf : α → Value} {vf : γ → Value} {V : β → γ → Hp → Prop} {bk : Nat} {F : α → Option β} {q : Option γ} {c m m' : Hp} {o i : Obj} {L : List (α × γ)}
theorem f_deleteL {k : Value → T} {p : α × γ} {tk : TypeId} (H : Has w0 w m) (hp : Pick (bk, o) m m') (h : MX P kt kf vf V o c F p.1 q) (hL : LeftO bk kf vf o i L) (hla : LastO bk kf vf o i p) (K : Maps.Keyed P kt) (ht : P.underlying t = some (.map kt e))
    (hinj : ∀ x, kf x = kf p.1 → x = p.1) {l : Lit} (hkey : keyOf P kt (kf p.1) = some l)
    (hk : ∀ o' w', MX P kt kf vf V o' c F p.1 none → LeftO bk kf vf o' i L → Has w0 w' ((bk, o') :: m') → (k (.tuple #[])).sem P Q ρ w') : (T.run (biV .delete #[t, tk] ty #[.map (some bk), kf p.1]) k).sem P Q ρ w := by
  obtain ⟨D, cs, rfl, h1, h2⟩ := h
  refine h_deleteL H hp h1 hL hla K ht (fun p _ => hinj _) hkey fun o' w' h3 h3' H' => ?_
  obtain ⟨cs', h4, h5⟩ := h2.del
  exact hk o' w' ⟨_, cs', h4.symm, h3, h5⟩ h3' H'
end
end Go.Proofs.YtpjcfnnnciknmaaGreat.Tr
