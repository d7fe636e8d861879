/- Pairs of keys and numbers: as cells, and as maps in order; nothing of the program. -/
import Derived.Test.YtpjcfnnnciknmaaGreatSortK
import Derived.Test.YtpjcfnnnciknmaaGreatParts
set_option linter.unusedVariables false
set_option linter.unusedSimpArgs false
namespace Go.Proofs.YtpjcfnnnciknmaaGreat
open Go hiding Expr
open Go.RowKit Tr

structure PR where
  k : K
  v : Int
deriving DecidableEq

def pr (p : PR) : List Value := [.int .i32 p.k.t, .int .i64 p.k.r, .int .i64 p.v]
theorem pr3 (l : List PR) : ∀ r ∈ l.map pr, r.length = 3 := by
  intro r hr
  obtain ⟨p, _, rfl⟩ := List.mem_map.1 hr
  rfl
def encP (l : List PR) : List Value := (l.map pr).flatten
theorem encP_len (l : List PR) : (encP l).length = l.length * 3 := by unfold encP; rw [flat_len (pr3 l), List.length_map]
theorem encP_append (a b : List PR) : encP (a ++ b) = encP a ++ encP b := by simp [encP]
theorem pr_one (l : List PR) : ∀ r ∈ l.map pr, ∀ u ∈ r, u.oneCell' = true := by
  intro r hr u hu
  obtain ⟨p, _, rfl⟩ := List.mem_map.1 hr
  simp [pr] at hu
  rcases hu with rfl | rfl | rfl <;> rfl

/-- Pairs that lie somewhere, to be read. -/
def PairsAt (w : World) (o : Option Addr) (l : List PR) : Prop := RowsAt w o 3 (l.map pr)
section
variable {w w' w0 : World} {o : Option Addr} {l : List PR} {m m' c : Hp} {e : TypeId} {n cap : Nat}
theorem PairsAt.fr0 (h : PairsAt w o l) (hf : Fr [] w w') : PairsAt w' o l := RowsAt.fr h hf
theorem PairsAt.get (h : PairsAt w o l) {i : Nat} {p : PR} (hi : l[i]? = some p) : ∃ g off, o = some ⟨g, off, none⟩ ∧ w.cell? ⟨g, off + i * 3, none⟩ = some (.int .i32 p.k.t) ∧ w.cell? ⟨g, off + i * 3 + 1, none⟩ = some (.int .i64 p.k.r) ∧ w.cell? ⟨g, off + i * 3 + 2, none⟩ = some (.int .i64 p.v) := by
  obtain ⟨g, off, rfl, _, hc⟩ := RowsAt.at h (j := i) (r := pr p) (by simp [hi])
  exact ⟨g, off, rfl, hc 0 _ rfl, hc 1 _ rfl, hc 2 _ rfl⟩
theorem pairsAt_own (ho : OwnC e 3 (.slice o n cap) n (encP l) c) (H : Has w0 w m) (hp : Cut c m m') : PairsAt w o l :=
  rowsAt_own (pr3 l) (by decide) ho H hp
end

/-- What a list of pairs says of a key: the last one's number. -/
def lastV (l : List PR) (k : K) : Option Int := l.foldl (fun a p => if p.k = k then some p.v else a) none
theorem lastV_nil (k : K) : lastV [] k = none := rfl
theorem lastV_snoc (l : List PR) (p : PR) (k : K) : lastV (l ++ [p]) k = if p.k = k then some p.v else lastV l k := by
  unfold lastV
  rw [List.foldl_append, List.foldl_cons, List.foldl_nil]

theorem lastV_fold (k : K) (l : List PR) : ∀ a : Option Int, (l.foldl (fun a p => if p.k = k then some p.v else a) a).isSome = true ↔ (k ∈ l.map (·.k) ∨ a.isSome = true) := by
  induction l with
  | nil => intro a; simp
  | cons p l ih =>
    intro a
    rw [List.foldl_cons, ih, List.map_cons, List.mem_cons]
    by_cases h : p.k = k
    · rw [if_pos h]; simp [h]
    · rw [if_neg h]
      have h' : ¬ k = p.k := fun e => h e.symm
      simp [h']
theorem lastV_some (l : List PR) (k : K) : (lastV l k).isSome = true ↔ k ∈ l.map (·.k) := by
  have := lastV_fold k l none
  simpa [lastV] using this

/-- A list of pairs as a map, in order. -/
def IsPairs (l out : List PR) : Prop := Rising (out.map (fun p : PR => p.k)) ∧ ∀ (k : K) (v : Int), PR.mk k v ∈ out ↔ lastV l k = some v
theorem IsPairs.nil : IsPairs [] [] := ⟨by simp, by simp [lastV_nil]⟩
theorem IsPairs.uniq {l a b : List PR} (ha : IsPairs l a) (hb : IsPairs l b) : a = b := by
  have hra : a.Pairwise (fun a b => ltK a.k b.k = true) := List.pairwise_map.1 ha.1
  have hrb : b.Pairwise (fun a b => ltK a.k b.k = true) := List.pairwise_map.1 hb.1
  have nd : ∀ {x : List PR}, x.Pairwise (fun a b => ltK a.k b.k = true) → x.Nodup := by
    intro x h
    refine List.Pairwise.imp ?_ h
    intro a b hab e
    subst e
    have := swoK.irrefl a.k
    rw [this] at hab
    exact absurd hab Bool.false_ne_true
  have hp : a.Perm b := (List.perm_ext_iff_of_nodup (nd hra) (nd hrb)).2 (fun x => by
    obtain ⟨k, v⟩ := x
    rw [ha.2, hb.2])
  exact List.Perm.eq_of_pairwise (fun x y _ _ h1 h2 => by
    have h3 : ltK y.k x.k = true := h2
    have h4 : ltK y.k x.k = false := Sort.SWO.asymm swoK h1
    rw [h4] at h3
    exact absurd h3 Bool.false_ne_true) hra hrb hp
theorem IsPairs.mem {l out : List PR} (h : IsPairs l out) (k : K) : k ∈ out.map (·.k) ↔ k ∈ l.map (·.k) := by
  rw [← lastV_some l k, Option.isSome_iff_exists, List.mem_map]
  constructor
  · rintro ⟨⟨k', v⟩, hp, rfl⟩
    exact ⟨v, (h.2 _ _).1 hp⟩
  · rintro ⟨v, hv⟩
    exact ⟨⟨k, v⟩, (h.2 _ _).2 hv, rfl⟩
theorem IsPairs.keys {l out : List PR} (h : IsPairs l out) : out.map (·.k) = KS (l.map (·.k)) :=
  rising_ext h.1 (KS_rising _) fun k => by rw [h.mem, KS_mem]
theorem IsPairs.len {l out : List PR} (h : IsPairs l out) : out.length ≤ l.length := by
  have := KS_len (l.map (·.k))
  rw [← h.keys] at this
  simpa using this

theorem ltK_tri {x y : K} (h1 : ltK x y = false) (h2 : x ≠ y) : ltK y x = true := by
  have a : ¬ (x.t < y.t ∨ x.t = y.t ∧ x.r < y.r) := by rw [← ltK_iff, h1]; simp
  rw [ltK_iff]
  have : ¬ (x.t = y.t ∧ x.r = y.r) := fun h => h2 (by cases x; cases y; simp at h; simp [h])
  omega

/-- Where a key stands in a rising list, or must stand. -/
structure Pos (out : List K) (x : K) (k : Nat) : Prop where
  le : k ≤ out.length
  low : ∀ y ∈ out.take k, ltK y x = true
  high : ∀ y, out[k]? = some y → ltK y x = false

theorem Pos.rest {out : List K} {x : K} {k : Nat} (h : Pos out x k) (hr : Rising out) (hne : out[k]? ≠ some x) : ∀ y ∈ out.drop k, ltK x y = true := by
  intro y hy
  obtain ⟨j, hj, rfl⟩ := List.getElem_of_mem hy
  rw [List.length_drop] at hj
  rw [List.getElem_drop]
  have hk : out[k]? = some (out[k]'(by omega)) := List.getElem?_eq_getElem _
  have h1 := ltK_tri (h.high _ hk) (fun e => hne (by rw [hk, e]))
  rcases Nat.eq_zero_or_pos j with rfl | hp
  · exact h1
  · have h2 := List.pairwise_iff_getElem.1 hr k (k + j) (by omega) (by omega) (by omega)
    exact swoK.trans _ _ _ h1 h2
theorem Pos.rest1 {out : List K} {x : K} {k : Nat} (hr : Rising out) (he : out[k]? = some x) : ∀ y ∈ out.drop (k + 1), ltK x y = true := by
  intro y hy
  obtain ⟨j, hj, rfl⟩ := List.getElem_of_mem hy
  rw [List.length_drop] at hj
  rw [List.getElem_drop]
  obtain ⟨hk, rfl⟩ := List.getElem?_eq_some_iff.1 he
  exact List.pairwise_iff_getElem.1 hr k (k + 1 + j) (by omega) (by omega) (by omega)
theorem Rising.put {a b : List K} {x : K} (ha : Rising a) (hb : Rising b) (h1 : ∀ y ∈ a, ltK y x = true) (h2 : ∀ y ∈ b, ltK x y = true) : Rising (a ++ [x] ++ b) := by
  unfold Rising
  rw [List.pairwise_append, List.pairwise_append]
  refine ⟨⟨ha, by simp, fun y hy z hz => by simp at hz; subst hz; exact h1 y hy⟩, hb, fun y hy z hz => ?_⟩
  rcases List.mem_append.1 hy with hy | hy
  · exact swoK.trans _ _ _ (h1 y hy) (h2 z hz)
  · simp at hy; subst hy; exact h2 z hz

theorem KS_same {l : List K} {x : K} {k : Nat} (he : (KS l)[k]? = some x) : KS (l ++ [x]) = KS l := by
  refine rising_ext (KS_rising _) (KS_rising _) fun y => ?_
  have hx : x ∈ l := (KS_mem l x).1 (List.mem_of_getElem? he)
  rw [KS_mem, KS_mem, List.mem_append, List.mem_singleton]
  exact ⟨fun h => h.elim id (fun e => e ▸ hx), .inl⟩
theorem KS_ins {l : List K} {x : K} {k : Nat} (h : Pos (KS l) x k) (hne : (KS l)[k]? ≠ some x) : KS (l ++ [x]) = (KS l).take k ++ [x] ++ (KS l).drop k := by
  refine rising_ext (KS_rising _) ?_ fun y => ?_
  · exact Rising.put ((KS_rising l).sublist (List.take_sublist _ _)) ((KS_rising l).sublist (List.drop_sublist _ _)) h.low (h.rest (KS_rising l) hne)
  · rw [KS_mem, List.mem_append, List.mem_singleton, List.mem_append, List.mem_append, List.mem_singleton, ← KS_mem l]
    have : y ∈ KS l ↔ y ∈ (KS l).take k ∨ y ∈ (KS l).drop k := by rw [← List.mem_append, List.take_append_drop]
    rw [this]
    constructor
    · rintro ((h | h) | h)
      · exact .inl (.inl h)
      · exact .inr h
      · exact .inl (.inr h)
    · rintro ((h | h) | h)
      · exact .inl (.inl h)
      · exact .inr h
      · exact .inl (.inr h)

theorem mem_split {α : Type} {out : List α} {k : Nat} {y : α} : y ∈ out ↔ y ∈ out.take k ∨ y ∈ out.drop k := by rw [← List.mem_append, List.take_append_drop]
/-- A pair put to its place: a new key. -/
theorem IsPairs.ins {l out : List PR} {p : PR} {k : Nat} (h : IsPairs l out) (hp : Pos (out.map (·.k)) p.k k) (hne : (out.map (·.k))[k]? ≠ some p.k) : IsPairs (l ++ [p]) (out.take k ++ [p] ++ out.drop k) := by
  have hrest := hp.rest h.1 hne
  have hlow := hp.low
  constructor
  · simp only [List.map_append, List.map_cons, List.map_nil, List.map_take, List.map_drop]
    exact Rising.put (h.1.sublist (List.take_sublist _ _)) (h.1.sublist (List.drop_sublist _ _)) hlow hrest
  · intro k' v
    rw [lastV_snoc, List.mem_append, List.mem_append, List.mem_singleton]
    have hnot : ∀ v, (⟨p.k, v⟩ : PR) ∉ out := by
      intro v hm
      rcases mem_split (k := k).1 hm with hm | hm
      · have := hlow p.k (by rw [← List.map_take]; exact List.mem_map.2 ⟨_, hm, rfl⟩)
        rw [swoK.irrefl] at this; cases this
      · have := hrest p.k (by rw [← List.map_drop]; exact List.mem_map.2 ⟨_, hm, rfl⟩)
        rw [swoK.irrefl] at this; cases this
    by_cases hk : p.k = k'
    · subst hk
      rw [if_pos rfl]
      constructor
      · rintro ((hm | hm) | hm)
        · exact absurd (mem_split.2 (.inl hm)) (hnot v)
        · rw [← hm]
        · exact absurd (mem_split.2 (.inr hm)) (hnot v)
      · intro e
        cases e
        exact .inl (.inr rfl)
    · rw [if_neg hk, ← h.2, mem_split (k := k) (out := out)]
      constructor
      · rintro ((hm | hm) | hm)
        · exact .inl hm
        · exact absurd (by rw [← hm]) hk
        · exact .inr hm
      · rintro (hm | hm)
        · exact .inl (.inl hm)
        · exact .inr hm
/-- A pair put to its place: a key that is there. -/
theorem IsPairs.set {l out : List PR} {p : PR} {k : Nat} (h : IsPairs l out) (hp : Pos (out.map (·.k)) p.k k) (he : (out.map (·.k))[k]? = some p.k) : IsPairs (l ++ [p]) (out.take k ++ [p] ++ out.drop (k + 1)) := by
  have hrest := Pos.rest1 h.1 he
  have hlow := hp.low
  obtain ⟨q, hq, hqk⟩ : ∃ q, out[k]? = some q ∧ q.k = p.k := by
    rw [List.getElem?_map] at he
    cases hq : out[k]? with
    | none => rw [hq] at he; cases he
    | some q => rw [hq] at he; exact ⟨q, rfl, by simpa using he⟩
  have hdrop : out.drop k = q :: out.drop (k + 1) := by
    obtain ⟨hk, rfl⟩ := List.getElem?_eq_some_iff.1 hq
    exact List.drop_eq_getElem_cons hk
  constructor
  · simp only [List.map_append, List.map_cons, List.map_nil, List.map_take, List.map_drop]
    exact Rising.put (h.1.sublist (List.take_sublist _ _)) (h.1.sublist (List.drop_sublist _ _)) hlow hrest
  · intro k' v
    rw [lastV_snoc, List.mem_append, List.mem_append, List.mem_singleton]
    have hnl : ∀ v, (⟨p.k, v⟩ : PR) ∉ out.take k := by
      intro v hm
      have := hlow p.k (by rw [← List.map_take]; exact List.mem_map.2 ⟨_, hm, rfl⟩)
      rw [swoK.irrefl] at this; cases this
    have hnr : ∀ v, (⟨p.k, v⟩ : PR) ∉ out.drop (k + 1) := by
      intro v hm
      have := hrest p.k (by rw [← List.map_drop]; exact List.mem_map.2 ⟨_, hm, rfl⟩)
      rw [swoK.irrefl] at this; cases this
    by_cases hk : p.k = k'
    · subst hk
      rw [if_pos rfl]
      constructor
      · rintro ((hm | hm) | hm)
        · exact absurd hm (hnl v)
        · rw [← hm]
        · exact absurd hm (hnr v)
      · intro e
        cases e
        exact .inl (.inr rfl)
    · rw [if_neg hk, ← h.2, mem_split (k := k) (out := out), hdrop, List.mem_cons]
      constructor
      · rintro ((hm | hm) | hm)
        · exact .inl hm
        · exact absurd (by rw [← hm]) hk
        · exact .inr (.inr hm)
      · rintro (hm | hm | hm)
        · exact .inl (.inl hm)
        · rw [← hm] at hqk; exact absurd hqk.symm hk
        · exact .inr hm
end Go.Proofs.YtpjcfnnnciknmaaGreat
