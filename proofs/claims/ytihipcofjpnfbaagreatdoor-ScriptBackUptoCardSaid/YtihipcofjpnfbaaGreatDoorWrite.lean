/- append of a whole list of rows; stores into a list of one's own. -/
import Derived.Test.YtihipcofjpnfbaaGreatDoorRanges
import Derived.Test.YtihipcofjpnfbaaGreatDoorParts
namespace Go.Proofs.YtihipcofjpnfbaaGreatDoor.Tr
open Go
set_option linter.unusedSimpArgs false
set_option linter.unusedVariables false
open Go.RowKit

section
variable {P : Program} {Q : Ending → World → Prop} {ρ : Lv} {w0 w w' : World} {e e2 t ty ty2 : TypeId} {z : Value} {sz bytes n N cap q : Nat} {v v' : Value} {o : Option Addr} {xs ys : List Value} {rows : List (List Value)} {m m' m2 c d : Hp}

theorem RowsAt.none (h : RowsAt w none sz rows) : rows = [] := by
  rcases h with h | ⟨g, off, he, _⟩
  · exact h
  · cases he

/-- A list of one's own in a block that was there from the beginning, of no cells. -/
theorem OwnC.zero (e : TypeId) (sz g : Nat) : OwnC e sz (.slice (some ⟨g, 0, none⟩) 0 0) 0 [] [cl g e []] :=
  ⟨by simp, .inr ⟨g, 0, [], rfl, rfl, Nat.le_refl _, Nat.zero_le _, by simp⟩⟩

/-- append of a whole list of rows that lies somewhere. -/
theorem h_appAll {k : Value → T} (E : Elem P t e z sz bytes) (hpos : 0 < sz) (H : Has w0 w m) (hp : Cut c m m') (hown : OwnC e sz v n xs c) (hr : ∀ r ∈ rows, r.length = sz)
    (h1 : ∀ r ∈ rows, ∀ u ∈ r, u.oneCell' = true) (hsrc : RowsAt w o sz rows) {j : Nat} (hj : j = rows.length)
    (hbytes : (n + j) * bytes ≤ 140737488355328) (hmax : n + j ≤ 140737488355328)
    (hk : ∀ v' c' w', OwnC e sz v' (n + j) (xs ++ rows.flatten) c' → Has w0 w' (c' ++ m') → (k v').sem P Q ρ w') :
    (T.run (biV .append #[t, t] ty #[v, .slice o j q]) k).sem P Q ρ w := by
  cases o with
  | none =>
    obtain rfl := hsrc.none
    subst hj
    refine h_appNil E H hp hown (hk _ c _ ?_ (H.pullc hp))
    simpa using hown
  | some a =>
    refine h_app E H hp hown (j := j) (news := rows.flatten) (by rw [flat_len hr, hj]) (hsrc.reads hr hpos) ?_ hbytes hmax fun v' c' w' ho' H' _ => hk v' c' w' ho' H'
    intro u hu
    obtain ⟨r, hm, hu⟩ := List.mem_flatten.1 hu
    exact h1 r hm u hu

/-- A store into a list of one's own. -/
theorem h_stC {g off i f : Nat} {u : Value} {x : T} (H : Has w0 w m) (hp : Cut c m m') (ho : OwnC e sz (.slice (some ⟨g, off, none⟩) n cap) n xs c) (hi : i * sz + f < xs.length) (hv : u.oneCell' = true)
    (hk : ∀ c' w', OwnC e sz (.slice (some ⟨g, off, none⟩) n cap) n (xs.set (i * sz + f) u) c' → Has w0 w' (c' ++ m') → x.sem P Q ρ w') :
    (T.st g (off + i * sz + f) u x).sem P Q ρ w := by
  rcases ho.2 with ⟨hv, _⟩ | ⟨g', cap', sp, hv', rfl, h1, h2, h3⟩
  · cases hv
  · cases hv'
    refine h_st (H.pullc hp) pick_head (by rw [List.length_append]; omega) hv fun w' H' => hk [cl g e (xs.set (i * sz + f) u ++ sp)] w' ⟨by rw [List.length_set]; exact ho.1, .inr ⟨g, cap, sp, rfl, rfl, h1, h2, by simpa using h3⟩⟩ ?_
    rw [show (0 : Nat) + i * sz + f = i * sz + f by omega, List.set_append_left _ _ hi] at H'
    exact H'
end
end Go.Proofs.YtihipcofjpnfbaaGreatDoor.Tr
