/- copy into a block of one's own; append of zeros to a part of a list of one's own. -/
import Derived.Test.YtpjcfnnnciknmaaGreatZeros
import Derived.Test.YtpjcfnnnciknmaaGreatParts
import Derived.Laws.IdiomCopy
import Derived.Lib.Overlaps
namespace Go.Proofs.YtpjcfnnnciknmaaGreat.Tr
open Go
set_option linter.unusedSimpArgs false
set_option linter.unusedVariables false
open Go.RowKit

/-- Values put over a list's from a place on. -/
def setL : List Value → Nat → List Value → List Value
  | l, _, [] => l
  | l, o, v :: r => setL (l.set o v) (o + 1) r
theorem setL_len : ∀ (vs l : List Value) (o : Nat), (setL l o vs).length = l.length
  | [], _, _ => rfl
  | v :: r, l, o => by rw [setL, setL_len r, List.length_set]
theorem setL_get : ∀ (vs l : List Value) (o : Nat), o + vs.length ≤ l.length → ∀ i, (setL l o vs)[i]? = if o ≤ i ∧ i < o + vs.length then vs[i - o]? else l[i]?
  | [], l, o, _, i => by
    rw [setL, if_neg]
    simp
  | v :: r, l, o, h, i => by
    simp only [List.length_cons] at h
    rw [setL, setL_get r (l.set o v) (o + 1) (by rw [List.length_set]; omega) i]
    by_cases h1 : o + 1 ≤ i ∧ i < o + 1 + r.length
    · rw [if_pos h1, if_pos ⟨by omega, by simp only [List.length_cons]; omega⟩, show i - o = (i - (o + 1)) + 1 by omega, List.getElem?_cons_succ]
    · rw [if_neg h1]
      by_cases h2 : i = o
      · subst h2
        rw [if_pos ⟨Nat.le_refl _, by simp only [List.length_cons]; omega⟩, Nat.sub_self, List.getElem?_cons_zero, List.getElem?_set, if_pos rfl, if_pos (by omega)]
      · rw [if_neg (by simp only [List.length_cons]; omega), List.getElem?_set, if_neg (by omega)]

section
variable {P : Program} {Q : Ending → World → Prop} {ρ : Lv} {w0 w w' : World} {e t tn ty : TypeId} {z : Value} {kn kq : IntKind} {sz bytes n N : Nat} {v : Value} {xs l : List Value} {m m' c : Hp} {g : Nat}

theorem Cells.setCells : ∀ (vs : List Value) (l : List Value) (o : Nat) (w : World), Cells w g ty l → Cells (w.setCells g o vs) g ty (setL l o vs) ∧ Fr [g] w (w.setCells g o vs) ∧ (w.setCells g o vs).heap.size = w.heap.size
  | [], l, o, w, h => ⟨h, Fr.refl _ _, rfl⟩
  | v :: r, l, o, w, h => by
    obtain ⟨h1, h2, h3⟩ := Cells.setCells r (l.set o v) (o + 1) (w.setCell ⟨g, o, none⟩ v) (h.set o v)
    refine ⟨h1, ?_, by rw [World.setCells, h3]; simp [World.setCell]⟩
    exact (Fr.set (F := [g]) (a := ⟨g, o, none⟩) (by simp)).trans h2

/-- copy of values that lie somewhere, into a block of one's own (elements of one cell). -/
theorem h_copy {k : Value → T} (hu : P.underlying t = some (.slice e)) (hs : (P.info? e).map (·.size) = some 1) (H : Has w0 w m) (hp : Pick (cl g ty l) m m') {o dn dc sn sc : Nat} {a : Addr} {news : List Value}
    (hnews : Reads w a news) (hn : news.length = min sn dn) (hfit : o + news.length ≤ l.length) (h1 : ∀ u ∈ news, u.oneCell' = true)
    (hk : ∀ w', Has w0 w' (cl g ty (setL l o news) :: m') → (k (.int .i64 (news.length : Int))).sem P Q ρ w') :
    (T.run (biV .copy #[t, t] tn #[.slice (some ⟨g, o, none⟩) dn dc, .slice (some a) sn sc]) k).sem P Q ρ w := by
  have hc := H.cells hp
  have hr := run_copy_cells (P := P) w t t tn e g o dn dc a sn sc news hu hs hn hnews (fun j hj => by rw [hc.cell (List.getElem?_eq_getElem (by omega))]; rfl) (fun j _ => hc.frozen _) h1
  obtain ⟨h2, h3, h4⟩ := Cells.setCells news l o w hc
  exact ⟨_, _, hr, hk _ (H.updc hp h3 h2)⟩

/-- append of zeros to a part of a list of one's own that has no room for them. -/
theorem h_appGrowZeros {k : Value → T} (E : Elem P t e z sz bytes) (htn : P.underlying tn = some (.int kn)) (H : Has w0 w m) (hp : Pick (cl g e l) m m') {i cap : Nat} {j : Int} (hj : j = (n : Int)) (h0 : 0 < n) (hg : cap < i + n) (hil : i * sz ≤ l.length)
    (hbytes : (i + n) * bytes ≤ 140737488355328) (hmax : i + n ≤ 140737488355328)
    (hk : ∀ r cap' sp w', i + n ≤ cap' → cap' ≤ maxLen → sp.length = (cap' - (i + n)) * sz → Has w0 w' (cl r e (l.take (i * sz) ++ (Builtin.zeroCells z.cells n).toList ++ sp) :: m) → (k (.slice (some ⟨r, 0, none⟩) (i + n) cap')).sem P Q ρ w') :
    (T.run (biV .append #[t, tn] ty #[.slice (some ⟨g, 0, none⟩) i cap, .int kq j]) k).sem P Q ρ w := by
  subst hj
  have hinfo := E.info
  cases hi : P.info? e with
  | none => rw [hi] at hinfo; simp at hinfo
  | some inf =>
    rw [hi] at hinfo
    simp only [Option.map_some, Option.some.injEq, Prod.mk.injEq] at hinfo
    obtain ⟨hz, hs, hb⟩ := hinfo
    have hcl := H.cells hp
    have htl : (l.take (i * sz)).length = i * sz := by rw [List.length_take]; omega
    have hold : (Builtin.firstCells inf.size i (.slice (some ⟨g, 0, none⟩) i cap)).run P w.drew = .ok (l.take (i * sz)).toArray w.drew := by
      refine run_firstCells_some w.drew inf.size i _ i cap (l.take (i * sz)) (by rw [htl, hs]) (fun j v hv => ?_)
      rw [List.getElem?_take] at hv
      split at hv
      · have := hcl.cell hv
        rw [add_plain, Nat.zero_add]
        exact this
      · cases hv
    have hbn : n * bytes ≤ 140737488355328 := Nat.le_trans (Nat.mul_le_mul_right _ (by omega)) hbytes
    have hr := Go.Lib.run_append_grow_zeros (P := P) w t tn ty e inf z kq kn E.under htn hi hz (some ⟨g, 0, none⟩) i cap _ hold n h0 (by rw [hs]; exact E.pos) hg (by omega) (by rw [hb]; omega)
      (by rw [hb]; exact growslice_fits hg hbytes)
    have hc := heap_alloc_new w.drew (.cells ((l.take (i * sz)).toArray ++ Builtin.zeroCells z.cells n ++ Builtin.zeroCells z.cells (grownCap w (i + n) cap e - (i + n))) e)
    refine ⟨_, _, hr, hk w.heap.size (grownCap w (i + n) cap e) (Builtin.zeroCells z.cells (grownCap w (i + n) cap e - (i + n))).toList _ (grownCap_ge w _ _ e) (grownCap_le_maxLen w _ _ e (by simp only [maxLen]; omega)) ?_ ?_⟩
    · rw [Array.length_toList, size_zeroCells, E.zs]
    · have : l.take (i * sz) ++ (Builtin.zeroCells z.cells n).toList ++ (Builtin.zeroCells z.cells (grownCap w (i + n) cap e - (i + n))).toList = ((l.take (i * sz)).toArray ++ Builtin.zeroCells z.cells n ++ Builtin.zeroCells z.cells (grownCap w (i + n) cap e - (i + n))).toList := by simp
      rw [this]
      exact H.addc (Fr.alloc_drew w _) (Nat.le_refl _) hc
end
end Go.Proofs.YtpjcfnnnciknmaaGreat.Tr
