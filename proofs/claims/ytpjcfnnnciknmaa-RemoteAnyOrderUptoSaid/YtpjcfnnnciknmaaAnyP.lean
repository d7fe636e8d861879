/- RemoteAnyOrder: what the box holds, plain. -/
import Derived.Test.YtpjcfnnnciknmaaDropM
set_option linter.unusedVariables false
set_option linter.unusedSimpArgs false
namespace Go.Proofs.Ytpjcfnnnciknmaa
open Go hiding Expr
open Go.RowKit Tr

/-! ### Lists of pairs, one behind the other -/
theorem lastV_app (a b : List PR) (k : K) : lastV (a ++ b) k = (lastV b k).or (lastV a k) := by
  unfold lastV
  rw [List.foldl_append]
  generalize a.foldl (fun a p => if p.k = k then some p.v else a) none = z
  have key : ∀ (l : List PR) (s t : Option Int), l.foldl (fun a p => if p.k = k then some p.v else a) (s.or t) = (l.foldl (fun a p => if p.k = k then some p.v else a) s).or t := by
    intro l
    induction l with
    | nil => intro s t; rfl
    | cons p l ih =>
      intro s t
      rw [List.foldl_cons, List.foldl_cons]
      split
      · exact ih (some p.v) t
      · exact ih s t
  have := key b none z
  simpa using this
theorem IsPairs.last {l v : List PR} (h : IsPairs l v) (k : K) : lastV v k = lastV l k := by
  have h2 := h.idem
  cases hv : lastV v k with
  | some x => exact ((h.2 k x).1 ((h2.2 k x).2 hv)).symm
  | none =>
    cases hl : lastV l k with
    | none => rfl
    | some x =>
      have := (h2.2 k x).1 ((h.2 k x).2 hl)
      rw [hv] at this
      cases this
/-- Lists, and what each is in order. -/
inductive Sorts : List (List PR) → List (List PR) → Prop where
  | nil : Sorts [] []
  | cons {l v : List PR} {ls vs : List (List PR)} : IsPairs l v → Sorts ls vs → Sorts (l :: ls) (v :: vs)
theorem Sorts.last {ls vs : List (List PR)} (h : Sorts ls vs) (k : K) : lastV vs.flatten k = lastV ls.flatten k := by
  induction h with
  | nil => rfl
  | cons h1 h2 ih => rw [List.flatten_cons, List.flatten_cons, lastV_app, lastV_app, ih, h1.last]
theorem Sorts.merge {ls vs : List (List PR)} {out : List PR} (h : Sorts ls vs) (hp : IsPairs vs.flatten out) : IsPairs ls.flatten out :=
  ⟨hp.1, fun k v => by rw [hp.2, h.last]⟩

/-! ### The box -/
def xA : Ix := ⟨3, 1⟩
theorem inI_a : InI xA := by unfold InI xA; decide
def rngM (M : Nat) : List Int := (List.range M).map (fun (n : Nat) => (n : Int))
theorem rngM_mem {M : Nat} {n : Int} : n ∈ rngM M ↔ ∃ q : Nat, n = q ∧ q < M := by
  unfold rngM
  rw [List.mem_map]
  constructor
  · rintro ⟨q, hq, rfl⟩
    exact ⟨q, rfl, List.mem_range.1 hq⟩
  · rintro ⟨q, rfl, hq⟩
    exact ⟨q, List.mem_range.2 hq, rfl⟩
theorem rngM_ris (M : Nat) : IsRis (rngM M) (rngM M) := by
  refine ⟨?_, fun x => Iff.rfl⟩
  unfold rngM
  rw [List.pairwise_map]
  exact List.pairwise_lt_range.imp (fun h => by omega)
theorem rngM_len (M : Nat) : (rngM M).length = M := by simp [rngM]

structure AInv (ls : List PL) (cm : List Bool) (nd : Bool) (X : BX) : Prop where
  parts : X.parts = (ls.length : Int)
  len : cm.length = ls.length
  needs : ∀ t, X.needs t = if t = xA ∧ nd = true then some (rngM ls.length) else none
  came1 : ∀ t (n : Int) v, X.came (t, n) = some v → t = xA ∧ ∃ q : Nat, n = q ∧ cm[q]? = some true ∧ ∃ y, ls[q]? = some y ∧ IsPairs y.l v
  came2 : ∀ q : Nat, cm[q]? = some true → (X.came (xA, (q : Int))).isSome = true

variable {ls : List PL} {cm : List Bool} {nd : Bool} {X : BX}
theorem AInv.empty (ls : List PL) : AInv ls (List.replicate ls.length false) false (emptyB ls.length) :=
  ⟨rfl, by simp, fun t => by simp [emptyB], fun t n v h => (by cases h), fun q h => (by simp [List.getElem?_replicate] at h)⟩
theorem AInv.need (h : AInv ls cm false X) : AInv ls cm true (needB X xA (rngM ls.length)) :=
  ⟨h.parts, h.len, fun t => by
    show upd X.needs xA (some (rngM ls.length)) t = _
    unfold upd
    by_cases ht : xA = t
    · rw [if_pos ht, if_pos ⟨ht.symm, rfl⟩]
    · rw [if_neg ht, if_neg (fun hh => ht hh.1.symm), h.needs, if_neg (fun hh => ht hh.1.symm)], h.came1, h.came2⟩
theorem AInv.put {q : Nat} {y : PL} {out : List PR} (h : AInv ls cm nd X) (hy : ls[q]? = some y) (hp : IsPairs y.l out) : AInv ls (cm.set q true) nd (cameB X (xA, (q : Int)) out) := by
  have hq : q < cm.length := by rw [h.len]; exact (List.getElem?_eq_some_iff.1 hy).1
  refine ⟨h.parts, by rw [List.length_set]; exact h.len, h.needs, fun t n v hv => ?_, fun q' hq' => ?_⟩
  · have hv : upd X.came (xA, (q : Int)) (some out) (t, n) = some v := hv
    unfold upd at hv
    split at hv
    · rename_i he
      simp only [Prod.mk.injEq] at he
      cases hv
      exact ⟨he.1.symm, q, he.2.symm, by rw [List.getElem?_set_self hq], y, hy, hp⟩
    · obtain ⟨h1, q', h2, h3, h4⟩ := h.came1 t n v hv
      refine ⟨h1, q', h2, ?_, h4⟩
      rw [List.getElem?_set]
      split
      · rfl
      · exact h3
  · show (upd X.came (xA, (q : Int)) (some out) (xA, (q' : Int))).isSome = true
    unfold upd
    split
    · rfl
    · rename_i hne
      refine h.came2 q' ?_
      rw [List.getElem?_set_ne] at hq'
      · exact hq'
      · intro e
        subst e
        exact hne rfl
theorem AInv.ready (h : AInv ls cm nd X) : readyB X xA = (nd && !decide (false ∈ cm)) := by
  unfold readyB missL
  rw [h.needs]
  cases nd with
  | false => simp
  | true =>
    simp only [and_self, if_true, Option.isSome_some, Option.getD_some, Bool.true_and]
    rw [Bool.eq_iff_iff]
    simp only [decide_eq_true_eq, Bool.not_eq_true', decide_eq_false_iff_not]
    rw [List.filter_eq_nil_iff]
    constructor
    · intro hall hf
      obtain ⟨q, hq⟩ := List.mem_iff_getElem?.1 hf
      have hlt : q < ls.length := by rw [← h.len]; exact (List.getElem?_eq_some_iff.1 hq).1
      have h1 := hall (q : Int) (rngM_mem.2 ⟨q, rfl, hlt⟩)
      simp at h1
      have h2 : (X.came (xA, (q : Int))).isSome = true := by
        cases hc : X.came (xA, (q : Int)) with
        | none => rw [hc] at h1; exact absurd rfl h1
        | some v => rfl
      cases hc : X.came (xA, (q : Int)) with
      | none => rw [hc] at h2; cases h2
      | some v =>
        obtain ⟨_, q', h3, h4, _⟩ := h.came1 _ _ _ hc
        have : q = q' := by omega
        subst this
        rw [hq] at h4
        cases h4
    · intro hno n hn
      obtain ⟨q, rfl, hlt⟩ := rngM_mem.1 hn
      have hq : cm[q]? = some (cm[q]'(by rw [h.len]; exact hlt)) := List.getElem?_eq_getElem _
      have : cm[q]'(by rw [h.len]; exact hlt) = true := by
        cases hb : cm[q]'(by rw [h.len]; exact hlt) with
        | true => rfl
        | false => exact absurd (hb ▸ List.getElem_mem _) hno
      rw [this] at hq
      simp [h.came2 q hq]
theorem AInv.flat {out : List PR} (h : AInv ls cm true X) (hno : false ∉ cm) (hp : IsPairs (flatV X xA) out) : IsPairs (flatP ls) out := by
  unfold flatV valsL at hp
  rw [h.needs, if_pos ⟨rfl, rfl⟩, Option.getD_some] at hp
  rw [List.flatMap_def] at hp
  refine Sorts.merge (vs := (rngM ls.length).map (fun n => (X.came (xA, n)).getD [])) ?_ hp
  have key : ∀ k, k ≤ ls.length → Sorts ((ls.drop (ls.length - k)).map (·.l)) (((rngM ls.length).drop (ls.length - k)).map (fun n => (X.came (xA, n)).getD [])) := by
    intro k
    induction k with
    | zero =>
      intro _
      rw [Nat.sub_zero, List.drop_length, List.drop_eq_nil_of_le (by rw [rngM_len]; omega)]
      exact .nil
    | succ k ih =>
      intro hk
      have hi : ls.length - (k + 1) < ls.length := by omega
      have e1 := List.drop_eq_getElem_cons (l := ls) hi
      have e2 := List.drop_eq_getElem_cons (l := rngM ls.length) (i := ls.length - (k + 1)) (by rw [rngM_len]; exact hi)
      rw [e1, e2, show ls.length - (k + 1) + 1 = ls.length - k by omega, List.map_cons, List.map_cons]
      refine .cons ?_ (ih (by omega))
      generalize hq : ls.length - (k + 1) = q at hi
      have e3 : (rngM ls.length)[q]'(by rw [rngM_len]; exact hi) = (q : Int) := by simp [rngM]
      rw [e3]
      have hqc : cm[q]? = some (cm[q]'(by rw [h.len]; exact hi)) := List.getElem?_eq_getElem _
      have : cm[q]'(by rw [h.len]; exact hi) = true := by
        cases hb : cm[q]'(by rw [h.len]; exact hi) with
        | true => rfl
        | false => exact absurd (hb ▸ List.getElem_mem _) hno
      rw [this] at hqc
      have hs := h.came2 q hqc
      cases hc : X.came (xA, (q : Int)) with
      | none => rw [hc] at hs; cases hs
      | some v =>
        obtain ⟨_, q', h3, _, y, h4, h5⟩ := h.came1 _ _ _ hc
        have : q = q' := by omega
        subst this
        rw [List.getElem?_eq_getElem hi] at h4
        cases h4
        exact h5
  have := key ls.length (Nat.le_refl _)
  rw [Nat.sub_self, List.drop_zero, List.drop_zero] at this
  exact this
theorem AInv.bxn (h : AInv ls cm nd X) (hM : ls.length ≤ 8) : Ids.BxN X := by
  refine ⟨[xA], (rngM ls.length).map (fun n => (xA, n)), fun t ht => ?_, fun k hk => ?_, ?_⟩
  · rw [h.needs] at ht
    split at ht
    · rename_i hh; simp [hh.1]
    · cases ht
  · obtain ⟨t, n⟩ := k
    obtain ⟨v, hv⟩ := Option.isSome_iff_exists.1 hk
    obtain ⟨rfl, q, rfl, hq, _⟩ := h.came1 t n v hv
    refine List.mem_map.2 ⟨_, rngM_mem.2 ⟨q, rfl, ?_⟩, rfl⟩
    rw [← h.len]
    exact (List.getElem?_eq_some_iff.1 hq).1
  · rw [List.length_map, rngM_len, List.length_singleton]
    omega
theorem AInv.sz (h : AInv ls cm nd X) (hs : ∀ y ∈ ls, y.l.length ≤ 5864062014805) : BxSz X := by
  rintro ⟨t, n⟩ v hv
  obtain ⟨_, q, _, _, y, hy, hp⟩ := h.came1 t n v hv
  have := hp.len
  have := hs y (List.mem_of_getElem? hy)
  omega
theorem AInv.flat_len (h : AInv ls cm nd X) (hM : ls.length ≤ 8) (hs : ∀ y ∈ ls, y.l.length ≤ 1048577) : (flatV X xA).length * 24 ≤ 140737488355328 := by
  have key : ∀ L : List Int, (valsL X xA L).length ≤ L.length * 1048577 := by
    intro L
    induction L with
    | nil => simp [valsL]
    | cons n L ih =>
      unfold valsL at ih ⊢
      rw [List.flatMap_cons, List.length_append, List.length_cons]
      have : ((X.came (xA, n)).getD []).length ≤ 1048577 := by
        cases hc : X.came (xA, n) with
        | none => simp
        | some v =>
          obtain ⟨_, q, _, _, y, hy, hp⟩ := h.came1 _ _ _ hc
          have := hp.len
          have := hs y (List.mem_of_getElem? hy)
          simp only [Option.getD_some]
          omega
      omega
  unfold flatV
  have h1 := key ((X.needs xA).getD [])
  have h2 : ((X.needs xA).getD []).length ≤ 8 := by
    rw [h.needs]
    split
    · simp [rngM_len, hM]
    · simp
  omega
theorem AInv.known (h : AInv ls cm true X) : known X xA := .inl (by rw [h.needs, if_pos ⟨rfl, rfl⟩]; rfl)
theorem AInv.gone (h : AInv ls cm nd X) {l : List Ids.K} (hk : Ids.KnOf (dropB X xA) l) : l = [] := by
  cases l with
  | nil => rfl
  | cons t l =>
    rcases (hk.2 t).1 (by simp) with h1 | ⟨n, h1⟩
    · have h1 : (upd X.needs xA none t).isSome = true := h1
      unfold upd at h1
      split at h1
      · cases h1
      · rename_i hne
        rw [h.needs, if_neg (fun hh => hne hh.1.symm)] at h1
        cases h1
    · have h1 : (dropC X.came xA (t, n)).isSome = true := h1
      unfold dropC at h1
      split at h1
      · cases h1
      · rename_i hne
        obtain ⟨v, hv⟩ := Option.isSome_iff_exists.1 h1
        exact absurd (h.came1 t n v hv).1 hne
theorem drop_ready (X : BX) (t : Ix) : readyB (dropB X t) t = false := by
  have : (dropB X t).needs t = none := by
    show upd X.needs t none t = none
    unfold upd
    rw [if_pos rfl]
  unfold readyB
  rw [this]
  rfl
end Go.Proofs.Ytpjcfnnnciknmaa
