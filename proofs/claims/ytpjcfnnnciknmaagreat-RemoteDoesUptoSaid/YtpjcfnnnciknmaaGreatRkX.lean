/- RemoteDoes: the document's rows, and what they have to do with a box; plain. -/
import Derived.Test.YtpjcfnnnciknmaaGreatDropM
import Derived.Test.YtpjcfnnnciknmaaGreatTreesR
set_option linter.unusedVariables false
set_option linter.unusedSimpArgs false
namespace Go.Proofs.YtpjcfnnnciknmaaGreat
open Go hiding Expr
open Go.RowKit Tr

structure KN where
  t : Ix
  nd : Bool
  need : Nat → Bool
  came : Nat → Bool
  vals : Nat → SP
  ls : Nat → List PR
def KN.new (t : Ix) : KN := ⟨t, false, fun _ => false, fun _ => false, fun _ => ⟨none, 0, 0⟩, fun _ => []⟩
def rng8 : List Nat := [0, 1, 2, 3, 4, 5, 6, 7]
theorem rng8_mem {p : Nat} : p ∈ rng8 ↔ p < 8 := by
  unfold rng8
  simp
  omega
abbrev ltI (a b : Ix) : Bool := Ids.ltK a b

def posX (X : List KN) (t : Ix) : Nat := (X.takeWhile (fun x => ltI x.t t)).length
def isX (X : List KN) (t : Ix) : Bool := match X[posX X t]? with | some x => decide (x.t = t) | none => false
def getX (X : List KN) (t : Ix) : KN := match X[posX X t]? with | some x => if x.t = t then x else KN.new t | none => KN.new t
def modX (X : List KN) (t : Ix) (f : KN → KN) : List KN := X.take (posX X t) ++ f (getX X t) :: X.drop (posX X t + if isX X t = true then 1 else 0)
def dropX (X : List KN) (t : Ix) : List KN := X.take (posX X t) ++ X.drop (posX X t + 1)

theorem takeWhile_len {α : Type} {f : α → Bool} : ∀ {X : List α} {i : Nat}, i ≤ X.length → (∀ x ∈ X.take i, f x = true) → (∀ x, X[i]? = some x → f x = false) → (X.takeWhile f).length = i
  | [], i, hi, _, _ => by
    have : i = 0 := by simpa using hi
    subst this
    rfl
  | a :: r, 0, _, _, h2 => by
    have := h2 a rfl
    simp [List.takeWhile_cons, this]
  | a :: r, i + 1, hi, h1, h2 => by
    have ha := h1 a (by simp)
    rw [List.takeWhile_cons, if_pos ha, List.length_cons]
    rw [takeWhile_len (X := r) (i := i) (by simpa using hi) (fun x hx => h1 x (by simp [hx])) (fun x hx => h2 x (by simpa using hx))]
theorem pos_eq {X : List KN} {t : Ix} {i : Nat} (hi : i ≤ X.length) (h1 : ∀ x ∈ X.take i, ltI x.t t = true) (h2 : ∀ x, X[i]? = some x → ltI x.t t = false) : posX X t = i :=
  takeWhile_len hi h1 h2
theorem takeWhile_at {α : Type} {f : α → Bool} : ∀ {X : List α}, (X.takeWhile f).length ≤ X.length ∧ (∀ x ∈ X.take (X.takeWhile f).length, f x = true) ∧ (∀ x, X[(X.takeWhile f).length]? = some x → f x = false)
  | [] => by simp
  | a :: r => by
    obtain ⟨h1, h2, h3⟩ := takeWhile_at (f := f) (X := r)
    by_cases ha : f a = true
    · rw [List.takeWhile_cons, if_pos ha, List.length_cons]
      refine ⟨by simpa using h1, fun x hx => ?_, fun x hx => h3 x (by simpa using hx)⟩
      rw [List.take_succ_cons] at hx
      rcases List.mem_cons.1 hx with rfl | hx
      · exact ha
      · exact h2 x hx
    · rw [List.takeWhile_cons, if_neg ha]
      refine ⟨by simp, by simp, fun x hx => ?_⟩
      simp at hx
      subst hx
      simpa using ha
section
variable {X : List KN} {t : Ix}
theorem pos_le : posX X t ≤ X.length := takeWhile_at.1
theorem pos_low : ∀ x ∈ X.take (posX X t), ltI x.t t = true := takeWhile_at.2.1
theorem pos_at : ∀ x, X[posX X t]? = some x → ltI x.t t = false := takeWhile_at.2.2
theorem is_true (h : isX X t = true) : ∃ x, X[posX X t]? = some x ∧ x.t = t ∧ getX X t = x := by
  unfold isX at h
  unfold getX
  cases hx : X[posX X t]? with
  | none => rw [hx] at h; simp at h
  | some x =>
    rw [hx] at h
    have h : x.t = t := by simpa using h
    exact ⟨x, rfl, h, by simp [h]⟩
theorem is_false (h : isX X t = false) : getX X t = KN.new t ∧ ∀ x, X[posX X t]? = some x → x.t ≠ t := by
  unfold isX at h
  unfold getX
  cases hx : X[posX X t]? with
  | none => simp
  | some x =>
    rw [hx] at h
    have h : ¬ x.t = t := by simpa using h
    refine ⟨by simp [h], fun y hy => ?_⟩
    cases hy
    exact h
theorem get_t : (getX X t).t = t := by
  cases h : isX X t with
  | true =>
    obtain ⟨x, _, h2, h3⟩ := is_true h
    rw [h3, h2]
  | false => rw [(is_false h).1]; rfl

abbrev idX (X : List KN) : List Ix := X.map (·.t)
/-- Behind its place all stand behind it. -/
theorem pos_high (hr : Ids.Rising (idX X)) : ∀ x ∈ X.drop (posX X t + if isX X t = true then 1 else 0), ltI t x.t = true := by
  intro x hx
  have hsub : ∀ (k : Nat), Ids.Rising (idX (X.drop k)) := fun k => by
    have e : idX (X.drop k) = (idX X).drop k := List.map_drop ..
    rw [e]
    exact List.Pairwise.sublist (List.drop_sublist _ _) hr
  have hlt : posX X t < X.length := by
    rcases Nat.lt_or_ge (posX X t) X.length with h | h
    · exact h
    · rw [List.drop_eq_nil_of_le (by split <;> omega)] at hx
      cases hx
  have hat : X[posX X t]? = some X[posX X t] := List.getElem?_eq_getElem hlt
  have hd : X.drop (posX X t) = X[posX X t] :: X.drop (posX X t + 1) := List.drop_eq_getElem_cons hlt
  have hp := hsub (posX X t)
  rw [hd] at hp
  have hp := List.pairwise_cons.1 hp
  have h0 := pos_at _ hat
  cases his : isX X t with
  | true =>
    rw [his, if_pos rfl] at hx
    obtain ⟨y, hy, hyt, _⟩ := is_true his
    rw [hat] at hy
    have hy : X[posX X t] = y := by simpa using hy
    have := hp.1 x.t (List.mem_map.2 ⟨x, hx, rfl⟩)
    rw [hy] at this
    simp only at this
    rw [hyt] at this
    exact this
  | false =>
    rw [his, if_neg (by simp), Nat.add_zero] at hx
    have hne := (is_false his).2 _ hat
    have h1 : ltI t X[posX X t].t = true := by
      cases h : ltI t X[posX X t].t with
      | true => rfl
      | false => exact absurd (Ids.ltK_eq h0 h) hne
    rw [hd] at hx
    rcases List.mem_cons.1 hx with rfl | hx
    · exact h1
    · exact Ids.swoK.trans _ _ _ h1 (hp.1 x.t (List.mem_map.2 ⟨x, hx, rfl⟩))
theorem lt_ne {a b : Ix} (h : ltI a b = true) : a ≠ b := fun e => by subst e; have h2 : Ids.ltK a a = false := Ids.swoK.irrefl a; exact absurd (h.symm.trans h2) (by simp)
theorem split_is : X = X.take (posX X t) ++ ((if isX X t = true then [getX X t] else []) ++ X.drop (posX X t + if isX X t = true then 1 else 0)) := by
  cases his : isX X t with
  | true =>
    obtain ⟨x, hx, _, hg⟩ := is_true his
    obtain ⟨hlt, hx'⟩ := List.getElem?_eq_some_iff.1 hx
    rw [if_pos rfl, if_pos rfl, hg, ← hx', List.singleton_append, ← List.drop_eq_getElem_cons hlt, List.take_append_drop]
  | false => rw [if_neg (by simp), if_neg (by simp), List.nil_append, Nat.add_zero, List.take_append_drop]
theorem mem_is (hr : Ids.Rising (idX X)) : t ∈ idX X ↔ isX X t = true := by
  constructor
  · intro h
    obtain ⟨x, hx, rfl⟩ := List.mem_map.1 h
    cases his : isX X x.t with
    | true => rfl
    | false =>
      have e := split_is (X := X) (t := x.t)
      have hh := pos_high (t := x.t) hr
      rw [his] at e hh
      simp only [Bool.false_eq_true, if_false, Nat.add_zero, List.nil_append] at e hh
      rw [e] at hx
      rcases List.mem_append.1 hx with hx | hx
      · exact absurd rfl (lt_ne (pos_low x hx))
      · exact absurd rfl (lt_ne (hh x hx))
  · intro h
    obtain ⟨x, hx, h2, _⟩ := is_true h
    exact List.mem_map.2 ⟨x, List.mem_of_getElem? hx, h2⟩
theorem mod_mem (hr : Ids.Rising (idX X)) {f : KN → KN} {y : KN} : y ∈ modX X t f ↔ y = f (getX X t) ∨ (y ∈ X ∧ y.t ≠ t) := by
  have hh := pos_high (t := t) hr
  have e := split_is (X := X) (t := t)
  unfold modX
  generalize X.drop (posX X t + if isX X t = true then 1 else 0) = D at *
  have hlow := pos_low (X := X) (t := t)
  generalize X.take (posX X t) = A at *
  constructor
  · intro h
    rcases List.mem_append.1 h with h | h
    · right
      refine ⟨by rw [e]; simp [h], lt_ne (hlow y h)⟩
    · rcases List.mem_cons.1 h with h | h
      · exact .inl h
      · right
        refine ⟨by rw [e]; simp [h], (lt_ne (hh y h)).symm⟩
  · rintro (h | ⟨h, hne⟩)
    · simp [h]
    · rw [e] at h
      rcases List.mem_append.1 h with h | h
      · simp [h]
      · rcases List.mem_append.1 h with h | h
        · split at h
          · rw [List.mem_singleton] at h
            rw [h] at hne
            exact absurd get_t hne
          · cases h
        · simp [h]
theorem mod_rising (hr : Ids.Rising (idX X)) {f : KN → KN} (hf : (f (getX X t)).t = t) : Ids.Rising (idX (modX X t f)) := by
  have hh := pos_high (t := t) hr
  have hlow := pos_low (X := X) (t := t)
  unfold modX
  show Ids.Rising (List.map (fun x : KN => x.t) _)
  rw [List.map_append, List.map_cons, hf]
  have h1 : Ids.Rising ((X.take (posX X t)).map (fun x : KN => x.t)) := by
    rw [List.map_take]
    exact List.Pairwise.sublist (List.take_sublist _ _) hr
  have h2 : ∀ k, Ids.Rising ((X.drop k).map (fun x : KN => x.t)) := fun k => by
    rw [List.map_drop]
    exact List.Pairwise.sublist (List.drop_sublist _ _) hr
  refine List.pairwise_append.2 ⟨h1, List.pairwise_cons.2 ⟨fun a ha => ?_, h2 _⟩, fun a ha b hb => ?_⟩
  · obtain ⟨x, hx, rfl⟩ := List.mem_map.1 ha
    exact hh x hx
  · obtain ⟨x, hx, rfl⟩ := List.mem_map.1 ha
    rcases List.mem_cons.1 hb with rfl | hb
    · exact hlow x hx
    · obtain ⟨y, hy, rfl⟩ := List.mem_map.1 hb
      exact Ids.swoK.trans _ _ _ (hlow x hx) (hh y hy)
theorem drop_mem (hr : Ids.Rising (idX X)) (his : isX X t = true) {y : KN} : y ∈ dropX X t ↔ y ∈ X ∧ y.t ≠ t := by
  have hh := pos_high (t := t) hr
  have e := split_is (X := X) (t := t)
  rw [if_pos his] at hh
  rw [if_pos his, if_pos his] at e
  have hlow := pos_low (X := X) (t := t)
  unfold dropX
  generalize X.drop (posX X t + 1) = D at *
  generalize X.take (posX X t) = A at *
  constructor
  · intro h
    rcases List.mem_append.1 h with h | h
    · exact ⟨by rw [e]; simp [h], lt_ne (hlow y h)⟩
    · exact ⟨by rw [e]; simp [h], (lt_ne (hh y h)).symm⟩
  · rintro ⟨h, hne⟩
    rw [e] at h
    rcases List.mem_append.1 h with h | h
    · simp [h]
    · rcases List.mem_append.1 h with h | h
      · rw [List.mem_singleton] at h
        rw [h] at hne
        exact absurd get_t hne
      · simp [h]
theorem drop_rising (hr : Ids.Rising (idX X)) : Ids.Rising (idX (dropX X t)) := by
  have hs : List.Sublist (dropX X t) X := by
    unfold dropX
    conv => rhs; rw [← List.take_append_drop (posX X t) X]
    refine List.Sublist.append (List.Sublist.refl _) ?_
    rw [← List.drop_drop]
    exact List.drop_sublist ..
  exact List.Pairwise.sublist (hs.map _) hr
theorem mod_len {f : KN → KN} : (modX X t f).length ≤ X.length + 1 ∧ X.length ≤ (modX X t f).length := by
  have hp := pos_le (X := X) (t := t)
  unfold modX
  simp only [List.length_append, List.length_cons, List.length_take, List.length_drop]
  cases h : isX X t with
  | true =>
    obtain ⟨x, hx, _⟩ := is_true h
    have := (List.getElem?_eq_some_iff.1 hx).1
    simp only [if_true]
    omega
  | false =>
    simp only [Bool.false_eq_true, if_false]
    omega
theorem mod_at {f : KN → KN} : (modX X t f)[posX X t]? = some (f (getX X t)) := by
  unfold modX
  rw [List.getElem?_append_right (by rw [List.length_take]; omega), List.length_take, Nat.min_eq_left pos_le, Nat.sub_self]
  rfl
theorem mod_set {f : KN → KN} {y : KN} : (modX X t f).set (posX X t) y = modX X t (fun _ => y) := by
  unfold modX
  rw [List.set_append_right _ _ (by rw [List.length_take]; omega), List.length_take, Nat.min_eq_left pos_le, Nat.sub_self]
  rfl
theorem mod_self (his : isX X t = true) : modX X t id = X := by
  have e := split_is (X := X) (t := t)
  rw [if_pos his, List.singleton_append] at e
  exact e.symm
theorem mod_new (his : isX X t = false) : modX X t id = X.take (posX X t) ++ [KN.new t] ++ X.drop (posX X t) := by
  unfold modX
  rw [his, if_neg (by simp), (is_false his).1, Nat.add_zero, List.append_assoc]
  rfl
end

/-! ### A row, and what a box has of a transaction -/
structure RowOk (B : BX) (x : KN) : Prop where
  nd : x.nd = (B.needs x.t).isSome
  need : ∀ p : Nat, p < 8 → x.need p = decide ((p : Int) ∈ (B.needs x.t).getD [])
  came : ∀ p : Nat, p < 8 → x.came p = (B.came (x.t, (p : Int))).isSome
  ls : ∀ p : Nat, p < 8 → x.ls p = (B.came (x.t, (p : Int))).getD []
structure Rl (B : BX) (X : List KN) : Prop where
  kn : Ids.KnOf B (idX X)
  row : ∀ x ∈ X, RowOk B x
  rng : ∀ k, (B.came k).isSome = true → 0 ≤ k.2 ∧ k.2 < B.parts

variable {B B' : BX} {X : List KN} {t : Ix} {f : KN → KN}
theorem Rl.is (h : Rl B X) : isX X t = true ↔ known B t := (mem_is h.kn.1).symm.trans (h.kn.2 t)
theorem Rl.get (h : Rl B X) : RowOk B (getX X t) := by
  cases his : isX X t with
  | true =>
    obtain ⟨x, hx, h2, h3⟩ := is_true his
    rw [h3]
    exact h.row x (List.mem_of_getElem? hx)
  | false =>
    have hk : ¬ known B t := fun hk => by rw [h.is.2 hk] at his; cases his
    rw [(is_false his).1]
    have h1 : B.needs t = none := by
      cases hh : B.needs t with
      | none => rfl
      | some _ => exact absurd (.inl (by rw [hh]; rfl)) hk
    have h2 : ∀ n, B.came (t, n) = none := fun n => by
      cases hh : B.came (t, n) with
      | none => rfl
      | some _ => exact absurd (.inr ⟨n, by rw [hh]; rfl⟩) hk
    refine ⟨?_, fun p hp => ?_, fun p hp => ?_, fun p hp => ?_⟩
    · show false = (B.needs t).isSome; rw [h1]; rfl
    · show false = decide ((p : Int) ∈ (B.needs t).getD []); rw [h1]; simp
    · show false = (B.came (t, (p : Int))).isSome; rw [h2]; rfl
    · show [] = (B.came (t, (p : Int))).getD []; rw [h2]; rfl
theorem Rl.mod (h : Rl B X) (hn : ∀ t', t' ≠ t → B'.needs t' = B.needs t') (hc : ∀ t' n, t' ≠ t → B'.came (t', n) = B.came (t', n)) (hf : (f (getX X t)).t = t) (hok : RowOk B' (f (getX X t)))
    (hk : known B' t) (hrng : ∀ k, (B'.came k).isSome = true → 0 ≤ k.2 ∧ k.2 < B'.parts) : Rl B' (modX X t f) := by
  refine ⟨⟨mod_rising h.kn.1 hf, fun t' => ?_⟩, fun x hx => ?_, hrng⟩
  · constructor
    · intro hm
      obtain ⟨x, hx, rfl⟩ := List.mem_map.1 hm
      rcases (mod_mem h.kn.1).1 hx with rfl | ⟨hx, hne⟩
      · rw [hf]; exact hk
      · have := (h.kn.2 x.t).1 (List.mem_map.2 ⟨x, hx, rfl⟩)
        rw [hn _ hne]
        simp only [hc _ _ hne]
        exact this
    · intro hk'
      by_cases e : t' = t
      · subst e
        exact List.mem_map.2 ⟨_, (mod_mem h.kn.1).2 (.inl rfl), hf⟩
      · rw [hn _ e] at hk'
        simp only [hc _ _ e] at hk'
        obtain ⟨x, hx, rfl⟩ := List.mem_map.1 ((h.kn.2 t').2 hk')
        exact List.mem_map.2 ⟨x, (mod_mem h.kn.1).2 (.inr ⟨hx, e⟩), rfl⟩
  · rcases (mod_mem h.kn.1).1 hx with rfl | ⟨hx, hne⟩
    · exact hok
    · have hr := h.row x hx
      exact ⟨by rw [hn _ hne]; exact hr.nd, fun p hp => by rw [hn _ hne]; exact hr.need p hp, fun p hp => by rw [hc _ _ hne]; exact hr.came p hp, fun p hp => by rw [hc _ _ hne]; exact hr.ls p hp⟩
theorem upd_ne {α β : Type} [DecidableEq α] {F : α → Option β} {a x : α} {b : Option β} (h : x ≠ a) : upd F a b x = F x := by
  unfold upd
  rw [if_neg (fun e => h e.symm)]
theorem upd_at {α β : Type} [DecidableEq α] {F : α → Option β} {a : α} {b : Option β} : upd F a b a = b := by
  unfold upd
  rw [if_pos rfl]
def needF (l : List Int) (x : KN) : KN := { x with nd := true, need := fun p => x.need p || decide ((p : Int) ∈ l) }
theorem Rl.need (h : Rl B X) {l s : List Int} (hs : ∀ x, x ∈ s ↔ x ∈ l) (hno : B.needs t = none) : Rl (needB B t s) (modX X t (needF l)) := by
  have hg := h.get (t := t)
  have e : (needB B t s).needs t = some s := upd_at
  refine h.mod (fun t' hne => upd_ne hne) (fun t' n hne => rfl) get_t ⟨?_, fun p hp => ?_, fun p hp => ?_, fun p hp => ?_⟩ (.inl ?_) h.rng
  · show true = ((needB B t s).needs (getX X t).t).isSome
    rw [get_t, e]
    rfl
  · show ((getX X t).need p || decide ((p : Int) ∈ l)) = decide ((p : Int) ∈ ((needB B t s).needs (getX X t).t).getD [])
    rw [hg.need p hp, get_t, e, hno]
    simp [hs]
  · exact hg.came p hp
  · exact hg.ls p hp
  · rw [e]; rfl
def cameF (q : Nat) (s : SP) (out : List PR) (x : KN) : KN := { x with came := fun p => if p = q then true else x.came p, vals := fun p => if p = q then s else x.vals p, ls := fun p => if p = q then out else x.ls p }
theorem Rl.came (h : Rl B X) {q : Nat} {s : SP} {out : List PR} (hq : (q : Int) < B.parts) : Rl (cameB B (t, (q : Int)) out) (modX X t (cameF q s out)) := by
  have hg := h.get (t := t)
  have e : (cameB B (t, (q : Int)) out).came (t, (q : Int)) = some out := upd_at
  have e2 : ∀ p : Nat, p ≠ q → (cameB B (t, (q : Int)) out).came (t, (p : Int)) = B.came (t, (p : Int)) := fun p hp => upd_ne (fun e => hp (by simp only [Prod.mk.injEq] at e; omega))
  refine h.mod (fun t' hne => rfl) (fun t' n hne => upd_ne (fun e => hne (by simp only [Prod.mk.injEq] at e; exact e.1))) get_t ⟨hg.nd, hg.need, fun p hp => ?_, fun p hp => ?_⟩ (.inr ⟨q, ?_⟩) (fun k hk => ?_)
  · show (if p = q then true else (getX X t).came p) = _
    rw [show (cameF q s out (getX X t)).t = t from get_t]
    split
    · rename_i hpq
      subst hpq
      rw [e]; rfl
    · rename_i hpq
      rw [hg.came p hp, get_t, e2 p hpq]
  · show (if p = q then out else (getX X t).ls p) = _
    rw [show (cameF q s out (getX X t)).t = t from get_t]
    split
    · rename_i hpq
      subst hpq
      rw [e]; rfl
    · rename_i hpq
      rw [hg.ls p hp, get_t, e2 p hpq]
  · rw [e]; rfl
  · by_cases hk' : k = (t, (q : Int))
    · subst hk'
      exact ⟨by simp only; omega, hq⟩
    · have : (cameB B (t, (q : Int)) out).came k = B.came k := upd_ne hk'
      rw [this] at hk
      exact h.rng k hk
theorem Rl.drop (h : Rl B X) (his : isX X t = true) : Rl (dropB B t) (dropX X t) := by
  have en : ∀ t', t' ≠ t → (dropB B t).needs t' = B.needs t' := fun t' hne => upd_ne hne
  have ec : ∀ t' n, t' ≠ t → (dropB B t).came (t', n) = B.came (t', n) := fun t' n hne => by
    show dropC B.came t (t', n) = _
    unfold dropC
    rw [if_neg hne]
  have en0 : (dropB B t).needs t = none := upd_at
  have ec0 : ∀ n, (dropB B t).came (t, n) = none := fun n => by
    show dropC B.came t (t, n) = _
    unfold dropC
    rw [if_pos rfl]
  refine ⟨⟨drop_rising h.kn.1, fun t' => ?_⟩, fun x hx => ?_, fun k hk => ?_⟩
  · constructor
    · intro hm
      obtain ⟨x, hx, rfl⟩ := List.mem_map.1 hm
      obtain ⟨hx, hne⟩ := (drop_mem h.kn.1 his).1 hx
      have := (h.kn.2 x.t).1 (List.mem_map.2 ⟨x, hx, rfl⟩)
      rw [en _ hne]
      simp only [ec _ _ hne]
      exact this
    · intro hk'
      by_cases e : t' = t
      · subst e
        rw [en0] at hk'
        simp only [ec0] at hk'
        rcases hk' with hk' | ⟨_, hk'⟩ <;> cases hk'
      · rw [en _ e] at hk'
        simp only [ec _ _ e] at hk'
        obtain ⟨x, hx, rfl⟩ := List.mem_map.1 ((h.kn.2 t').2 hk')
        exact List.mem_map.2 ⟨x, (drop_mem h.kn.1 his).2 ⟨hx, e⟩, rfl⟩
  · obtain ⟨hx, hne⟩ := (drop_mem h.kn.1 his).1 hx
    have hr := h.row x hx
    exact ⟨by rw [en _ hne]; exact hr.nd, fun p hp => by rw [en _ hne]; exact hr.need p hp, fun p hp => by rw [ec _ _ hne]; exact hr.came p hp, fun p hp => by rw [ec _ _ hne]; exact hr.ls p hp⟩
  · obtain ⟨t', n⟩ := k
    by_cases e : t' = t
    · subst e
      rw [ec0] at hk
      cases hk
    · rw [ec _ _ e] at hk
      exact h.rng _ hk
theorem Rl.empty {n : Int} : Rl (emptyB n) [] := by
  refine ⟨⟨List.Pairwise.nil, fun t => ?_⟩, by simp, fun k hk => by cases hk⟩
  constructor
  · intro h; cases h
  · rintro (h | ⟨_, h⟩) <;> cases h

/-! ### What is answered -/
def readyN (x : KN) : Bool := rng8.all (fun p => !x.need p || x.came p) && x.nd
def missN (x : KN) : List Int := (rng8.filter (fun p => x.need p && !x.came p)).map (fun p : Nat => (p : Int))
def flatN (x : KN) : List PR := rng8.flatMap (fun p => if x.need p = true then x.ls p else [])
theorem needs_rng (hok : BxOk B) {l : List Int} (hl : B.needs t = some l) : l = (rng8.filter (fun p : Nat => decide ((p : Int) ∈ l))).map (fun p : Nat => (p : Int)) := by
  obtain ⟨h1, h2⟩ := hok.needs t l hl
  have hp1 := hok.p1
  refine IsRis.uniq (l := l) ⟨h1, fun x => Iff.rfl⟩ ⟨?_, fun x => ?_⟩
  · rw [List.pairwise_map]
    have : rng8.Pairwise (fun a b : Nat => (a : Int) < (b : Int)) := by unfold rng8; decide
    exact List.Pairwise.sublist List.filter_sublist this
  · rw [List.mem_map]
    constructor
    · rintro ⟨p, hp, rfl⟩
      simpa using (List.mem_filter.1 hp).2
    · intro hx
      have := h2 x hx
      have e : x = ((x.toNat : Nat) : Int) := by omega
      refine ⟨x.toNat, List.mem_filter.2 ⟨rng8_mem.2 (by omega), ?_⟩, e.symm⟩
      simp only [decide_eq_true_eq]
      rw [← e]
      exact hx
theorem filter_congr' {α : Type} {f g : α → Bool} {l : List α} (h : ∀ x ∈ l, f x = g x) : l.filter f = l.filter g := List.filter_congr h
theorem RowOk.miss {x : KN} (h : RowOk B x) (hok : BxOk B) : missL B x.t = missN x := by
  unfold missL missN
  cases hl : B.needs x.t with
  | none =>
    have hn : ∀ p ∈ rng8, (x.need p && !x.came p) = false := fun p hp => by
      rw [h.need p (rng8_mem.1 hp), hl]
      simp
    have e2 : rng8.filter (fun p => x.need p && !x.came p) = [] := List.filter_eq_nil_iff.2 (fun p hp => by rw [hn p hp]; simp)
    rw [e2]
    rfl
  | some l =>
    have e := needs_rng hok hl
    simp only [Option.getD_some]
    conv => lhs; rw [e]
    rw [List.filter_map, List.filter_filter]
    congr 1
    refine filter_congr' fun p hp => ?_
    rw [h.need p (rng8_mem.1 hp), h.came p (rng8_mem.1 hp), hl]
    simp [Bool.and_comm]
theorem RowOk.ready {x : KN} (h : RowOk B x) (hok : BxOk B) : readyB B x.t = readyN x := by
  unfold readyB readyN
  rw [h.miss hok, h.nd, Bool.and_comm]
  congr 1
  rw [Bool.eq_iff_iff, decide_eq_true_iff, List.all_eq_true]
  unfold missN
  rw [List.map_eq_nil_iff, List.filter_eq_nil_iff]
  constructor
  · intro hh p hp
    have := hh p hp
    cases h1 : x.need p <;> cases h2 : x.came p <;> simp_all
  · intro hh p hp
    have := hh p hp
    cases h1 : x.need p <;> cases h2 : x.came p <;> simp_all
theorem flatMap_congr' {α β : Type} {f g : α → List β} : ∀ {l : List α}, (∀ x ∈ l, f x = g x) → l.flatMap f = l.flatMap g
  | [], _ => rfl
  | a :: r, h => by
    rw [List.flatMap_cons, List.flatMap_cons, h a (by simp), flatMap_congr' (l := r) (fun x hx => h x (by simp [hx]))]
theorem flatMap_filter {α β : Type} {f : α → Bool} {g : α → List β} : ∀ {l : List α}, (l.filter f).flatMap g = l.flatMap (fun x => if f x = true then g x else [])
  | [] => rfl
  | a :: r => by
    rw [List.filter_cons, List.flatMap_cons, ← flatMap_filter (l := r)]
    split <;> simp
theorem RowOk.flat {x : KN} (h : RowOk B x) (hok : BxOk B) : flatV B x.t = flatN x := by
  unfold flatV flatN valsL
  cases hl : B.needs x.t with
  | none =>
    have e : ∀ p ∈ rng8, (if x.need p = true then x.ls p else []) = ([] : List PR) := fun p hp => by
      rw [h.need p (rng8_mem.1 hp), hl]
      simp
    rw [flatMap_congr' (g := fun _ => []) e]
    simp
  | some l =>
    have e := needs_rng hok hl
    simp only [Option.getD_some]
    conv => lhs; rw [e]
    rw [List.flatMap_map, flatMap_filter]
    refine flatMap_congr' fun p hp => ?_
    rw [h.need p (rng8_mem.1 hp), h.ls p (rng8_mem.1 hp), hl]
    simp
end Go.Proofs.YtpjcfnnnciknmaaGreat

/- RemoteDoes: the document's box in memory: find, ready, open. -/
set_option linter.unusedVariables false
set_option linter.unusedSimpArgs false
set_option maxRecDepth 100000
set_option maxHeartbeats 4000000
namespace Go.Proofs.YtpjcfnnnciknmaaGreat
open Go hiding Expr
open Go.RowKit Tr

def knr (x : KN) : List Value := .int .i64 x.t.s :: .int .i64 x.t.p :: .bool x.nd :: (rng8.map (fun p => Value.bool (x.need p)) ++ rng8.map (fun p => Value.bool (x.came p)) ++ rng8.map (fun p => vS (x.vals p)))
theorem knr27 (X : List KN) : ∀ r ∈ X.map knr, r.length = 27 := by
  intro r hr
  obtain ⟨x, _, rfl⟩ := List.mem_map.1 hr
  rfl
theorem knr_one (X : List KN) : ∀ r ∈ X.map knr, ∀ u ∈ r, u.oneCell' = true := by
  intro r hr u hu
  obtain ⟨x, _, rfl⟩ := List.mem_map.1 hr
  unfold knr at hu
  simp only [List.mem_cons, List.mem_append, List.mem_map] at hu
  rcases hu with rfl | rfl | rfl | ((⟨_, _, rfl⟩ | ⟨_, _, rfl⟩) | ⟨_, _, rfl⟩) <;> rfl
section
variable {x : KN} {q : Nat}
theorem eight {C : Nat → Prop} (h0 : C 0) (h1 : C 1) (h2 : C 2) (h3 : C 3) (h4 : C 4) (h5 : C 5) (h6 : C 6) (h7 : C 7) {q : Nat} (hq : q < 8) : C q := by
  rcases (by omega : q = 0 ∨ q = 1 ∨ q = 2 ∨ q = 3 ∨ q = 4 ∨ q = 5 ∨ q = 6 ∨ q = 7) with rfl | rfl | rfl | rfl | rfl | rfl | rfl | rfl <;> assumption
theorem knr_need (hq : q < 8) : (knr x)[3 + q]? = some (.bool (x.need q)) := eight (C := fun q => (knr x)[3 + q]? = some (.bool (x.need q))) rfl rfl rfl rfl rfl rfl rfl rfl hq
theorem knr_came (hq : q < 8) : (knr x)[11 + q]? = some (.bool (x.came q)) := eight (C := fun q => (knr x)[11 + q]? = some (.bool (x.came q))) rfl rfl rfl rfl rfl rfl rfl rfl hq
theorem knr_vals (hq : q < 8) : (knr x)[19 + q]? = some (vS (x.vals q)) := eight (C := fun q => (knr x)[19 + q]? = some (vS (x.vals q))) rfl rfl rfl rfl rfl rfl rfl rfl hq
theorem knr_nd : (knr x).set 2 (.bool true) = knr { x with nd := true } := rfl
theorem knr_setn (hq : q < 8) : (knr x).set (3 + q) (.bool true) = knr { x with need := fun p => if p = q then true else x.need p } :=
  eight (C := fun q => (knr x).set (3 + q) (.bool true) = knr { x with need := fun p => if p = q then true else x.need p }) (by simp [knr, rng8]) (by simp [knr, rng8]) (by simp [knr, rng8]) (by simp [knr, rng8]) (by simp [knr, rng8]) (by simp [knr, rng8]) (by simp [knr, rng8]) (by simp [knr, rng8]) hq
theorem knr_setc (hq : q < 8) : (knr x).set (11 + q) (.bool true) = knr { x with came := fun p => if p = q then true else x.came p } :=
  eight (C := fun q => (knr x).set (11 + q) (.bool true) = knr { x with came := fun p => if p = q then true else x.came p }) (by simp [knr, rng8]) (by simp [knr, rng8]) (by simp [knr, rng8]) (by simp [knr, rng8]) (by simp [knr, rng8]) (by simp [knr, rng8]) (by simp [knr, rng8]) (by simp [knr, rng8]) hq
theorem knr_setv {s : SP} (hq : q < 8) : (knr x).set (19 + q) (vS s) = knr { x with vals := fun p => if p = q then s else x.vals p } :=
  eight (C := fun q => (knr x).set (19 + q) (vS s) = knr { x with vals := fun p => if p = q then s else x.vals p }) (by simp [knr, rng8]) (by simp [knr, rng8]) (by simp [knr, rng8]) (by simp [knr, rng8]) (by simp [knr, rng8]) (by simp [knr, rng8]) (by simp [knr, rng8]) (by simp [knr, rng8]) hq
end

/-- A row's cells. -/
structure KAt (w : World) (g off : Nat) (x : KN) : Prop where
  s : w.cell? ⟨g, off, none⟩ = some (.int .i64 x.t.s)
  p : w.cell? ⟨g, off + 1, none⟩ = some (.int .i64 x.t.p)
  nd : w.cell? ⟨g, off + 2, none⟩ = some (.bool x.nd)
  need : ∀ q : Nat, q < 8 → w.cell? ⟨g, off + 3 + q * 1, none⟩ = some (.bool (x.need q))
  came : ∀ q : Nat, q < 8 → w.cell? ⟨g, off + 11 + q * 1, none⟩ = some (.bool (x.came q))
  vals : ∀ q : Nat, q < 8 → w.cell? ⟨g, off + 19 + q * 1, none⟩ = some (vS (x.vals q))
theorem kat_of {w : World} {o : Option Addr} {X : List KN} {i : Nat} {x : KN} (h : RowsAt w o 27 (X.map knr)) (hx : X[i]? = some x) : ∃ g off, o = some ⟨g, off, none⟩ ∧ KAt w g (off + i * 27) x := by
  obtain ⟨g, off, rfl, _, hc⟩ := h.at (j := i) (r := knr x) (by rw [List.getElem?_map, hx]; rfl)
  refine ⟨g, off, rfl, hc 0 _ rfl, hc 1 _ rfl, hc 2 _ rfl, fun q hq => ?_, fun q hq => ?_, fun q hq => ?_⟩
  · have := hc (3 + q) _ (knr_need hq)
    rwa [show off + i * 27 + (3 + q) = off + i * 27 + 3 + q * 1 by omega] at this
  · have := hc (11 + q) _ (knr_came hq)
    rwa [show off + i * 27 + (11 + q) = off + i * 27 + 11 + q * 1 by omega] at this
  · have := hc (19 + q) _ (knr_vals hq)
    rwa [show off + i * 27 + (19 + q) = off + i * 27 + 19 + q * 1 by omega] at this

def SAt (w : World) (s : SP) (l : List PR) : Prop := s.n = l.length ∧ PairsAt w s.o l
/-- What is read of the document's box in a world. -/
def RW (w : World) (p : Nat) (n : Int) (X : List KN) : Prop := ∃ o cap, Cells w p 47 [.int .i64 n, .slice o X.length cap] ∧ RowsAt w o 27 (X.map knr) ∧ ∀ x ∈ X, ∀ q, q < 8 → SAt w (x.vals q) (x.ls q)
theorem RW.fr0 {w w' : World} {p : Nat} {n : Int} {X : List KN} (h : RW w p n X) (f : Fr [] w w') : RW w' p n X := by
  obtain ⟨o, cap, h1, h2, h3⟩ := h
  exact ⟨o, cap, f.cells h1 (by simp), RowsAt.fr h2 f, fun x hx q hq => ⟨(h3 x hx q hq).1, (h3 x hx q hq).2.fr0 f⟩⟩
def Held (pool : Hp) (s : SP) (l : List PR) : Prop := s.n = l.length ∧ ∀ w0 u, Has w0 u pool → PairsAt u s.o l
theorem Held.mono {c pool : Hp} {s : SP} {l : List PR} (h : Held pool s l) : Held (c ++ pool) s l := ⟨h.1, fun w0 u H => h.2 w0 u H.right⟩
/-- The document's box, with the blocks that are its own. -/
def RkAt (p : Nat) (n : Int) (X : List KN) (c : Hp) : Prop := ∃ (o : Option Addr) (cap : Nat) (cr pool : Hp), c = cl p 47 [.int .i64 n, .slice o X.length cap] :: (cr ++ pool) ∧ OwnC 85 27 (.slice o X.length cap) X.length (X.map knr).flatten cr ∧ ∀ x ∈ X, ∀ q, q < 8 → Held pool (x.vals q) (x.ls q)
theorem RkAt.rw {w0 w : World} {m m' c : Hp} {p : Nat} {n : Int} {X : List KN} (H : Has w0 w m) (hp : Cut c m m') (h : RkAt p n X c) : RW w p n X := by
  obtain ⟨o, cap, cr, pool, rfl, ho, hv⟩ := h
  have H := (H.pullc hp).left
  exact ⟨o, cap, H.cells pick_head, rowsAt_own (knr27 X) (by decide) ho H (cut_tail cut_head), fun x hx q hq => ⟨(hv x hx q hq).1, (hv x hx q hq).2 w0 w (H.sub ⟨_, (cut_tail (cut_app cut_all) : Cut pool _ _)⟩)⟩⟩
theorem elemKN : Elem Tryz.prog 45 85 (.agg ⟨knr (KN.new ⟨0, 0⟩)⟩) 27 232 := ⟨by kernel_rfl, by kernel_rfl, rfl, by decide⟩
theorem rnew_c {w : World} {n : Int} (h0 : 1 ≤ n) (h1 : n ≤ 8) : Calls Tryz.prog 5 #[.int .i64 n] w fun e w' => ∃ r c, e = .returned (.tuple #[.pointer (some ⟨r, 0, none⟩), .int .i64 0]) ∧ RkAt r n [] c ∧ Has w w' c := by
  apply c5
  refine s_false (by simp; omega) (s_false (by simp; omega) (h_new (Has.init w) fun r u H => s_ret ⟨r, _, rfl, ⟨none, 0, [], [], rfl, OwnC.nil, by simp⟩, H⟩))
theorem rnew_bad {w : World} {n : Int} (h : n < 1 ∨ 8 < n) : Calls Tryz.prog 5 #[.int .i64 n] w fun e w' => e = .returned (.tuple #[.pointer none, .int .i64 1]) ∧ w = w' := by
  apply c5
  refine s_ite (fun g => s_ret ⟨rfl, rfl⟩) (fun g => s_true ?_ (s_ret ⟨rfl, rfl⟩))
  simp at g ⊢
  omega

section
variable {w : World} {p : Nat} {n : Int} {X : List KN}
theorem rless_c (a b : Ix) : Calls Tryz.prog 52 #[.agg ⟨ixr a⟩, .agg ⟨ixr b⟩] w fun e w' => e = .returned (.bool (ltI a b)) ∧ Fr [] w w' := by
  have key : ltI a b = (decide (a.s < b.s) || (decide (a.s = b.s) && decide (a.p < b.p))) := by
    rw [Bool.eq_iff_iff, Ids.ltK_iff]
    simp
  apply c52
  refine h_new (Has.init w) fun n4 u H => ?_
  (refine h_new H fun n5 u H => ?_)
  refine h_ldI H (b := n4) (by repeat (first | exact pick_head | apply pick_tail | apply pick_app)) rfl (h_ldI H (b := n5) (by repeat (first | exact pick_head | apply pick_tail | apply pick_app)) rfl (s_ite (fun g => s_ret ⟨?_, H.base⟩) (fun g => h_ldI H (b := n4) (by repeat (first | exact pick_head | apply pick_tail | apply pick_app)) rfl (h_ldI H (b := n5) (by repeat (first | exact pick_head | apply pick_tail | apply pick_app)) rfl (s_ite (fun g2 => ?_) (fun g2 => s_ret ⟨?_, H.base⟩))))))
  · rw [key, g]; rfl
  · refine h_ldI H (b := n4) (by repeat (first | exact pick_head | apply pick_tail | apply pick_app)) rfl (h_ldI H (b := n5) (by repeat (first | exact pick_head | apply pick_tail | apply pick_app)) rfl (s_ret ⟨?_, H.base⟩))
    have g2 : a.s = b.s := by simpa using g2
    rw [key, g, g2]
    simp
  · have g2 : ¬ a.s = b.s := by simpa using g2
    rw [key, g]
    simp [g2]

theorem rfind_c (h : RW w p n X) (hmax : X.length ≤ 1099511627776) (t : Ix) : Calls Tryz.prog 34 #[.pointer (some ⟨p, 0, none⟩), .agg ⟨ixr t⟩] w fun e w' => e = .returned (.tuple #[.int .i64 (posX X t), .bool (isX X t)]) ∧ Fr [] w w' := by
  obtain ⟨o, cap, h1, h2, h3⟩ := h
  apply c34
  refine h_new (Has.init w) fun n4 u H => ?_
  refine s_blk (fun vs W => vs = [.int .i64 (posX X t)] ∧ Has w W [cl n4 32 (ixr t)]) ?_ ?_
  · clear H
    rintro _ j W ⟨rfl, H⟩
    have hpl := pos_le (X := X) (t := t)
    refine s_asI (h_drew H fun u H => s_ldS (H.base.cells h1 (by simp)) rfl (s_ite (fun g => ?_) (fun g => ?_)))
    · have g : posX X t < X.length := by simpa using g
      obtain ⟨x, hx⟩ : ∃ x, X[posX X t]? = some x := ⟨_, List.getElem?_eq_getElem g⟩
      obtain ⟨g2, off, rfl, k⟩ := kat_of (RowsAt.fr h2 H.base) hx
      refine s_ldS (H.base.cells h1 (by simp)) rfl (s_req ⟨by omega, by omega⟩ (s_sm (s_loadI k.s (s_loadI k.p (h_ldI H (by repeat (first | exact pick_head | apply pick_tail | apply pick_app)) rfl (h_ldI H (by repeat (first | exact pick_head | apply pick_tail | apply pick_app)) rfl (s_ret ⟨?_, H.base⟩)))))))
      have : isX X t = decide (x.t = t) := by unfold isX; rw [hx]
      have e2 : (x.t.s == t.s && (x.t.p == t.p && true)) = decide (x.t = t) := by
        rw [Bool.eq_iff_iff, decide_eq_true_iff]
        simp only [Bool.and_true, Bool.and_eq_true, beq_iff_eq]
        exact ⟨fun h => Ix.ext' h.1 h.2, fun h => by rw [h]; exact ⟨rfl, rfl⟩⟩
      rw [this, e2]
    · have g : ¬ posX X t < X.length := by simpa using g
      refine s_ret ⟨?_, H.base⟩
      have : isX X t = false := by unfold isX; rw [List.getElem?_eq_none (by omega)]
      rw [this]
  · refine s_loop (fun vs W => ∃ i : Nat, vs = [.int .i64 i] ∧ i ≤ X.length ∧ (∀ x ∈ X.take i, ltI x.t t = true) ∧ Has w W [cl n4 32 (ixr t)]) (fun vs _ => X.length - (intOf (vs.getD 0 undef)).toNat)
      ⟨0, rfl, by omega, by simp, H⟩ ?_
    clear H
    rintro _ j W ⟨i, rfl, hi, hlow, H⟩
    refine s_asI (h_drew H fun u H => s_ldS (H.base.cells h1 (by simp)) rfl (s_ite (fun g => ?_) (fun g => ?_)))
    · have g : i < X.length := by simpa using g
      obtain ⟨x, hx⟩ : ∃ x, X[i]? = some x := ⟨_, List.getElem?_eq_getElem g⟩
      obtain ⟨g2, off, rfl, k⟩ := kat_of (RowsAt.fr h2 H.base) hx
      refine s_ldS (H.base.cells h1 (by simp)) rfl (s_req ⟨by omega, by omega⟩ (s_sm (s_loadI k.s (s_loadI k.p (h_ldI H (by repeat (first | exact pick_head | apply pick_tail | apply pick_app)) rfl (h_ldI H (by repeat (first | exact pick_head | apply pick_tail | apply pick_app)) rfl (s_call (rless_c x.t t) ?_)))))))
      rintro _ u ⟨rfl, f⟩
      have H := H.fr0 f
      refine ⟨_, rfl, s_asB (s_chk ⟨(H.base.cells h1 (by simp)).cell rfl, (H.base.cells h1 (by simp)).cell rfl, trivial⟩ (s_ite (fun g2 => s_next (by first | exact ⟨rfl, rfl⟩ | trivial) ?_) (fun g2 => s_next (by first | exact ⟨rfl, rfl⟩ | trivial) ?_)))⟩
      · simp (config := { decide := true }) only [if_true, if_false]
        refine ⟨⟨i + 1, by rw [w_succ (by omega)], by omega, fun y hy => ?_, H⟩, by rw [w_succ (by omega)]; simp [intOf] <;> omega⟩
        rw [List.take_add_one, hx, Option.toList_some] at hy
        rcases List.mem_append.1 hy with hy | hy
        · exact hlow y hy
        · rw [List.mem_singleton] at hy
          subst hy
          exact g2
      · simp (config := { decide := true }) only [if_true, if_false]
        rw [pos_eq hi hlow (fun y hy => by rw [hx] at hy; cases hy; exact g2)]
        exact ⟨rfl, H⟩
    · have g : ¬ i < X.length := by simpa using g
      refine s_chk ⟨(H.base.cells h1 (by simp)).cell rfl, trivial⟩ (s_next (by first | exact ⟨rfl, rfl⟩ | trivial) ?_)
      simp (config := { decide := true }) only [if_true, if_false]
      rw [pos_eq hi hlow (fun y hy => by rw [List.getElem?_eq_none (by omega)] at hy; cases hy)]
      exact ⟨rfl, H⟩

theorem krdy_c {g off : Nat} {x : KN} (h : KAt w g off x) : Calls Tryz.prog 38 #[.pointer (some ⟨g, off, none⟩)] w fun e w' => e = .returned (.bool (readyN x)) ∧ w = w' := by
  apply c38
  refine s_loop (fun vs W => ∃ i : Nat, vs = [.int .i64 i] ∧ i ≤ 8 ∧ (∀ q, q < i → (!x.need q || x.came q) = true) ∧ w = W) (fun vs _ => 8 - (intOf (vs.getD 0 undef)).toNat) ⟨0, rfl, by omega, by omega, rfl⟩ ?_
  rintro _ j W ⟨i, rfl, hi, hall, rfl⟩
  refine s_asI (s_ite (fun g1 => ?_) (fun g1 => ?_))
  · simp only [decide_eq_true_eq] at g1
    have hlt : i < 8 := by omega
    have hgo : (!x.need i || x.came i) = true → ∀ q, q < i + 1 → (!x.need q || x.came q) = true := fun h q hq => by
      rcases Nat.lt_or_ge q i with h' | h'
      · exact hall q h'
      · obtain rfl : q = i := by omega
        exact h
    refine s_req ⟨by omega, by omega⟩ (s_loadB (h.need i hlt) (s_ite (fun g2 => ?_) (fun g2 => s_next (by first | exact ⟨rfl, rfl⟩ | trivial) ?_)))
    · refine s_req ⟨by omega, by omega⟩ (s_loadB (h.came i hlt) (s_ite (fun g3 => s_ret ⟨?_, rfl⟩) (fun g3 => s_next (by first | exact ⟨rfl, rfl⟩ | trivial) ?_)))
      · have : readyN x = false := by
          have g3 : x.came i = false := by simpa using g3
          unfold readyN
          rw [Bool.and_eq_false_iff]
          left
          rw [List.all_eq_false]
          exact ⟨i, rng8_mem.2 hlt, by rw [g2, g3]; simp⟩
        rw [this]
      · have g3 : x.came i = true := by simpa using g3
        simp (config := { decide := true }) only [if_true, if_false]
        exact ⟨⟨i + 1, by rw [w_succ (by omega)], by omega, hgo (by rw [g3]; simp), trivial⟩, by rw [w_succ (by omega)]; simp [intOf] <;> omega⟩
    · simp (config := { decide := true }) only [if_true, if_false]
      exact ⟨⟨i + 1, by rw [w_succ (by omega)], by omega, hgo (by rw [g2]; simp), trivial⟩, by rw [w_succ (by omega)]; simp [intOf] <;> omega⟩
  · simp only [decide_eq_false_iff_not] at g1
    refine s_loadB h.nd (s_ret ⟨?_, rfl⟩)
    have : rng8.all (fun p => !x.need p || x.came p) = true := List.all_eq_true.2 fun p hp => hall p (by have := rng8_mem.1 hp; omega)
    unfold readyN
    rw [this, Bool.true_and]
end

theorem kn_flat (l : List KN) (i j : Nat) : (((l.map knr).drop i).take j).flatten = (((l.drop i).take j).map knr).flatten := by
  rw [← List.map_drop, ← List.map_take]
section
variable {w0 w : World} {m m' c : Hp} {p : Nat} {n : Int} {X : List KN}
theorem ropen_c {t : Ix} (H : Has w0 w (c ++ m)) (hR : RkAt p n X c) (hmax : X.length ≤ 4194304) :
    Calls Tryz.prog 35 #[.pointer (some ⟨p, 0, none⟩), .agg ⟨ixr t⟩] w fun e w' => ∃ c', e = .returned (.int .i64 (posX X t)) ∧ RkAt p n (modX X t id) c' ∧ Has w0 w' (c' ++ m) := by
  have hR0 := hR
  obtain ⟨o1, cap1, cr, pool, rfl, ho, hv⟩ := hR
  have hpl := pos_le (X := X) (t := t)
  apply c35
  refine h_new H fun n4 u H => ?_
  refine h_ldI H (b := n4) (by repeat (first | exact pick_head | apply pick_tail | apply pick_app)) rfl (h_ldI H (b := n4) (by repeat (first | exact pick_head | apply pick_tail | apply pick_app)) rfl (s_call (rfind_c (RkAt.rw H (cut_tail cut_head) hR0) (by omega) t) ?_))
  rintro _ u ⟨rfl, f⟩
  have H := H.fr0 f
  refine ⟨_, rfl, s_asU (s_req rfl (s_asI (s_asB (s_ite (fun g => ?_) (fun g => ?_)))))⟩
  · have his : isX X t = false := by simpa using g
    have H : Has w0 u (cl n4 32 (ixr t) :: cl p 47 [.int .i64 n, .slice o1 X.length cap1] :: (cr ++ (pool ++ m))) := by
      simp only [List.cons_append, List.append_assoc] at H
      exact H
    have hcap := ho.cap_ge.1
    refine h_ldS H (b := p) (by repeat (first | exact pick_head | apply pick_tail | apply pick_app)) rfl (s_req ⟨by omega, by omega⟩ ?_)
    have hlm : (X.map knr).length = X.length := List.length_map ..
    have hnone : o1 = none → X.map knr = [] := fun e => by subst e; exact none_own ho (knr27 X) (by decide)
    refine h_appRows (rows := X.map knr) (n := 0) elemKN (by decide) H (c := []) cut_nil OwnC.nil (knr27 X) (knr_one X) (rowsAt_own (knr27 X) (by decide) ho H (by repeat (first | exact cut_head | exact cut_all | apply cut_tail | apply cut_app))) hnone (i := 0) (j := posX X t) (by omega) (by omega) (by omega) (by omega) ?_
    intro v2 c2 u ho2 H
    obtain ⟨o2, cap2, rfl⟩ := ho2.slice
    refine s_asS (h_ldI H (b := n4) (by repeat (first | exact pick_head | apply pick_tail | apply pick_app)) rfl (h_ldI H (b := n4) (by repeat (first | exact pick_head | apply pick_tail | apply pick_app)) rfl ?_))
    (refine h_new H fun n20 u H => ?_)
    refine h_app1 (l := knr (KN.new t)) elemKN H (c := c2) (by repeat (first | exact cut_head | exact cut_all | apply cut_tail | apply cut_app)) ho2 (r := n20) (by repeat (first | exact pick_head | apply pick_tail | apply pick_app)) rfl (knr_one [KN.new t] _ (by simp)) (by omega) (by omega) ?_
    intro v3 c3 u ho3 H
    obtain ⟨o3, cap3, rfl⟩ := ho3.slice
    refine s_asS (h_ldS H (b := p) (by repeat (first | exact pick_head | apply pick_tail | apply pick_app)) rfl (s_req ⟨by omega, by omega⟩ ?_))
    refine h_appRows (rows := X.map knr) (n := 0 + posX X t + 1) elemKN (by decide) H (c := c3) (by repeat (first | exact cut_head | exact cut_all | apply cut_tail | apply cut_app)) ho3 (knr27 X) (knr_one X) (rowsAt_own (knr27 X) (by decide) ho H (by repeat (first | exact cut_head | exact cut_all | apply cut_tail | apply cut_app))) hnone (i := posX X t) (j := X.length - posX X t) (by omega) (by omega) (by omega) (by omega) ?_
    intro v4 c4 u ho4 H
    obtain ⟨o4, cap4, rfl⟩ := ho4.slice
    refine s_asS (h_st H (b := p) (by repeat (first | exact pick_head | apply pick_tail | apply pick_app)) (by simp) rfl fun u H => s_ret ?_)
    rw [List.nil_append, kn_flat, kn_flat, List.drop_zero] at ho4
    have hfull : (X.drop (posX X t)).take (X.length - posX X t) = X.drop (posX X t) := List.take_of_length_le (by rw [List.length_drop]; omega)
    have e : (modX X t id).map knr = (X.take (posX X t)).map knr ++ [knr (KN.new t)] ++ (X.drop (posX X t)).map knr := by
      rw [mod_new his, List.map_append, List.map_append]
      rfl
    have hfl : ((X.take (posX X t)).map knr).flatten ++ knr (KN.new t) ++ (((X.drop (posX X t)).take (X.length - posX X t)).map knr).flatten = ((modX X t id).map knr).flatten := by
      rw [hfull, e, List.flatten_append, List.flatten_append]
      simp
    rw [hfl] at ho4
    have hml : 0 + posX X t + 1 + (X.length - posX X t) = (modX X t id).length := by
      rw [mod_new his]
      simp
      omega
    rw [hml] at ho4 H
    refine ⟨cl p 47 [.int .i64 n, .slice o4 (modX X t id).length cap4] :: (c4 ++ pool), rfl, ⟨o4, cap4, c4, pool, rfl, ho4, fun x hx q hq => ?_⟩, ?_⟩
    · rw [mod_new his] at hx
      rcases List.mem_append.1 hx with hx | hx
      · rcases List.mem_append.1 hx with hx | hx
        · exact hv x (List.mem_of_mem_take hx) q hq
        · rw [List.mem_singleton] at hx
          subst hx
          exact ⟨rfl, fun _ _ _ => .inl rfl⟩
      · exact hv x (List.mem_of_mem_drop hx) q hq
    · simp only [List.cons_append, List.append_assoc]
      exact H.sub (by repeat (first | exact sb_refl | exact sb_nil | refine sb_cons (by repeat (first | exact pick_head | apply pick_tail | apply pick_app)) ?_ | refine sb_app (by repeat (first | exact cut_head | exact cut_all | apply cut_tail | apply cut_app)) ?_ | exact sb_one (by repeat (first | exact cut_head | exact cut_all | apply cut_tail | apply cut_app))))
  · have his : isX X t = true := by simpa using g
    rw [mod_self his]
    exact s_ret ⟨_, rfl, hR0, H.sub (by repeat (first | exact sb_refl | exact sb_nil | refine sb_cons (by repeat (first | exact pick_head | apply pick_tail | apply pick_app)) ?_ | refine sb_app (by repeat (first | exact cut_head | exact cut_all | apply cut_tail | apply cut_app)) ?_ | exact sb_one (by repeat (first | exact cut_head | exact cut_all | apply cut_tail | apply cut_app))))⟩
end
end Go.Proofs.YtpjcfnnnciknmaaGreat

/- RemoteDoes: the document's box: Need, Drop, Ready, Missing. -/
set_option linter.unusedVariables false
set_option linter.unusedSimpArgs false
set_option maxRecDepth 100000
set_option maxHeartbeats 4000000
namespace Go.Proofs.YtpjcfnnnciknmaaGreat
open Go hiding Expr
open Go.RowKit Tr

section
variable {w : World} {p : Nat} {n : Int} {X : List KN} {t : Ix}
theorem miss_new : missN (KN.new t) = [] := rfl
theorem ready_new : readyN (KN.new t) = false := rfl
theorem rready_c (h : RW w p n X) (hmax : X.length ≤ 1099511627776) : Calls Tryz.prog 21 #[.pointer (some ⟨p, 0, none⟩), .agg ⟨ixr t⟩] w fun e w' => e = .returned (.bool (readyN (getX X t))) ∧ Fr [] w w' := by
  have h0 := h
  obtain ⟨o, cap, h1, h2, h3⟩ := h
  apply c21
  refine h_new (Has.init w) fun n4 u H => h_ldI H (by repeat (first | exact pick_head | apply pick_tail | apply pick_app)) rfl (h_ldI H (by repeat (first | exact pick_head | apply pick_tail | apply pick_app)) rfl (s_call (rfind_c (h0.fr0 H.base) hmax t) ?_))
  rintro _ u ⟨rfl, f⟩
  have H := H.fr0 f
  refine ⟨_, rfl, s_asU (s_req rfl (s_asI (s_asB (s_ite (fun g => ?_) (fun g => ?_)))))⟩
  · obtain ⟨x, hx, hxt, hgx⟩ := is_true g
    have hlt := (List.getElem?_eq_some_iff.1 hx).1
    rw [hgx]
    obtain ⟨g2, off, rfl, k⟩ := kat_of (RowsAt.fr h2 H.base) hx
    refine s_ldS (H.base.cells h1 (by simp)) rfl (s_req ⟨by omega, by omega⟩ (s_sm (s_call (krdy_c k) ?_)))
    rintro _ _ ⟨rfl, rfl⟩
    exact ⟨_, rfl, s_asB (s_ret ⟨rfl, H.base⟩)⟩
  · rw [(is_false g).1, ready_new]
    exact s_ret ⟨rfl, H.base⟩

def missT (x : KN) (i : Nat) : List Int := ((List.range i).filter (fun p => x.need p && !x.came p)).map (fun p : Nat => (p : Int))
theorem missT_succ (x : KN) (i : Nat) : missT x (i + 1) = missT x i ++ (if x.need i = true ∧ x.came i = false then [(i : Int)] else []) := by
  unfold missT
  rw [List.range_succ, List.filter_append, List.map_append]
  congr 1
  cases h1 : x.need i <;> cases h2 : x.came i <;> simp [h1, h2]
theorem missT_len (x : KN) (i : Nat) : (missT x i).length ≤ i := by
  unfold missT
  rw [List.length_map]
  exact Nat.le_trans (List.length_filter_le ..) (by simp)
theorem missT_8 (x : KN) : missT x 8 = missN x := rfl
theorem rmiss_c (h : RW w p n X) (hmax : X.length ≤ 1099511627776) : Calls Tryz.prog 24 #[.pointer (some ⟨p, 0, none⟩), .agg ⟨ixr t⟩] w fun e w' => ∃ v c, e = .returned v ∧ OwnC 3 1 v (missN (getX X t)).length (ints (missN (getX X t))) c ∧ Has w w' c := by
  have h0 := h
  obtain ⟨o, cap, h1, h2, h3⟩ := h
  apply c24
  refine h_new (Has.init w) fun n4 u H => h_ldI H (by repeat (first | exact pick_head | apply pick_tail | apply pick_app)) rfl (h_ldI H (by repeat (first | exact pick_head | apply pick_tail | apply pick_app)) rfl (s_call (rfind_c (h0.fr0 H.base) hmax t) ?_))
  rintro _ u ⟨rfl, f⟩
  have H := H.fr0 f
  refine ⟨_, rfl, s_asU (s_req rfl (s_asI (s_asB ?_)))⟩
  refine s_loop (fun vs W => ∃ (i : Nat) (v : Value) (c mm : Hp), vs = [v, .int .i64 i] ∧ i ≤ 8 ∧ OwnC 3 1 v (missT (getX X t) i).length (ints (missT (getX X t) i)) c ∧ Has w W (c ++ mm)) (fun vs _ => 8 - (intOf (vs.getD 1 undef)).toNat)
    ⟨0, _, [], _, rfl, by omega, OwnC.nil, H⟩ ?_
  clear H
  rintro _ j W ⟨i, v, c, mm, rfl, hi, ho, H⟩
  obtain ⟨o2, cap2, rfl⟩ := ho.slice
  refine s_asS (s_asI (s_blk (fun vs W' => vs = [] ∧ W' = W ∧ isX X t = true ∧ i < 8) ?_ ?_))
  · rintro _ j2 W' ⟨rfl, rfl, his, hlt⟩
    obtain ⟨x, hx, hxt, hgx⟩ := is_true his
    have hxl := (List.getElem?_eq_some_iff.1 hx).1
    have hst := missT_succ (getX X t) i
    have hml := missT_len (getX X t) i
    obtain ⟨g2, off, rfl, k⟩ := kat_of (RowsAt.fr h2 H.base) hx
    rw [hgx] at ho hst hml ⊢
    refine s_blk (fun vs W => ∃ (v : Value) (c mm : Hp), vs = [v] ∧ OwnC 3 1 v (missT x (i + 1)).length (ints (missT x (i + 1))) c ∧ Has w W (c ++ mm)) ?_ ?_
    · clear ho H k
      rintro _ j3 W ⟨v, c, mm, rfl, ho, H⟩
      obtain ⟨o3, cap3, rfl⟩ := ho.slice
      refine s_asS (s_next (by first | exact ⟨rfl, rfl⟩ | trivial) ?_)
      simp (config := { decide := true }) only [if_true, if_false]
      exact ⟨⟨i + 1, _, c, mm, by rw [w_succ (by omega)], by omega, ho, H⟩, by rw [w_succ (by omega)]; simp [intOf] <;> omega⟩
    · refine s_ldS (H.base.cells h1 (by simp)) rfl (s_req ⟨by omega, by omega⟩ (s_sm (s_req ⟨by omega, by omega⟩ (s_loadB (k.need i hlt) (s_ite (fun g => ?_) (fun g => ?_))))))
      · refine s_ldS (H.base.cells h1 (by simp)) rfl (s_req ⟨by omega, by omega⟩ (s_sm (s_req ⟨by omega, by omega⟩ (s_loadB (k.came i hlt) (s_ite (fun g3 => ?_) (fun g3 => s_next (by first | exact ⟨rfl, rfl⟩ | trivial) ?_))))))
        · have g3 : x.came i = false := by simpa using g3
          rw [if_pos ⟨g, g3⟩] at hst
          (refine h_new H fun n36 u H => ?_)
          refine h_app1 elemN H (by repeat (first | exact cut_head | exact cut_all | apply cut_tail | apply cut_app)) ho (by repeat (first | exact pick_head | apply pick_tail | apply pick_app)) rfl (by intro u hu; simp at hu; subst hu; rfl) (by omega) (by omega) ?_
          intro v' c' u ho' H
          obtain ⟨o', cap', rfl⟩ := ho'.slice
          refine s_asS (s_next (by first | exact ⟨rfl, rfl⟩ | trivial) ?_)
          simp (config := { decide := true }) only [if_true, if_false]
          refine ⟨_, c', _, rfl, ?_, H⟩
          rw [hst, ints_append, List.length_append]
          exact ho'
        · have g3 : x.came i = true := by simpa using g3
          rw [if_neg (by rw [g3]; simp), List.append_nil] at hst
          simp (config := { decide := true }) only [if_true, if_false]
          rw [hst]
          exact ⟨_, c, mm, rfl, ho, H⟩
      · rw [if_neg (by rw [g]; simp), List.append_nil] at hst
        refine s_next (by first | exact ⟨rfl, rfl⟩ | trivial) ?_
        simp (config := { decide := true }) only [if_true, if_false]
        rw [hst]
        exact ⟨_, c, mm, rfl, ho, H⟩
  · refine s_ite (fun g => s_ite (fun g2 => s_next (by first | exact ⟨rfl, rfl⟩ | trivial) ?_) (fun g2 => ?_)) (fun g => ?_)
    · simp (config := { decide := true }) only [if_true, if_false]
      have g2 : (i : Int) < 8 := by simpa using g2
      exact ⟨trivial, trivial, g, by omega⟩
    · have g2 : ¬ i < 8 := by
        have g2 : ¬ (i : Int) < 8 := by simpa using g2
        omega
      obtain rfl : i = 8 := by omega
      rw [missT_8] at ho
      exact s_ret ⟨_, c, by rw [missT_8], ho, H.left⟩
    · have e : missT (getX X t) i = missN (getX X t) := by
        rw [(is_false g).1, miss_new]
        unfold missT
        rw [List.filter_eq_nil_iff.2 (fun q _ => by simp [KN.new])]
        rfl
      rw [e] at ho
      exact s_ret ⟨_, c, by rw [e], ho, H.left⟩
end

section
variable {w0 w : World} {m m' c : Hp} {p : Nat} {n : Int} {X : List KN} {t : Ix}
theorem rdrop_c (H : Has w0 w (c ++ m)) (hR : RkAt p n X c) (hmax : X.length ≤ 4194304) :
    Calls Tryz.prog 15 #[.pointer (some ⟨p, 0, none⟩), .agg ⟨ixr t⟩] w fun e w' =>
      (isX X t = false ∧ e = .returned (.int .i64 4) ∧ Has w0 w' (c ++ m)) ∨
      (isX X t = true ∧ e = .returned (.int .i64 0) ∧ ∃ c', RkAt p n (dropX X t) c' ∧ Has w0 w' (c' ++ m)) := by
  have hR0 := hR
  obtain ⟨o1, cap1, cr, pool, rfl, ho, hv⟩ := hR
  have hpl := pos_le (X := X) (t := t)
  apply c15
  refine h_new H fun n4 u H => ?_
  refine h_ldI H (b := n4) (by repeat (first | exact pick_head | apply pick_tail | apply pick_app)) rfl (h_ldI H (b := n4) (by repeat (first | exact pick_head | apply pick_tail | apply pick_app)) rfl (s_call (rfind_c (RkAt.rw H (cut_tail cut_head) hR0) (by omega) t) ?_))
  rintro _ u ⟨rfl, f⟩
  have H := H.fr0 f
  refine ⟨_, rfl, s_asU (s_req rfl (s_asI (s_asB (s_ite (fun g => ?_) (fun g => ?_)))))⟩
  · have his : isX X t = false := by simpa using g
    exact s_ret (.inl ⟨his, rfl, H.sub (by repeat (first | exact sb_refl | exact sb_nil | refine sb_cons (by repeat (first | exact pick_head | apply pick_tail | apply pick_app)) ?_ | refine sb_app (by repeat (first | exact cut_head | exact cut_all | apply cut_tail | apply cut_app)) ?_ | exact sb_one (by repeat (first | exact cut_head | exact cut_all | apply cut_tail | apply cut_app))))⟩)
  · have his : isX X t = true := by simpa using g
    obtain ⟨x, hx, hxt, hgx⟩ := is_true his
    have hxl := (List.getElem?_eq_some_iff.1 hx).1
    have H : Has w0 u (cl n4 32 (ixr t) :: cl p 47 [.int .i64 n, .slice o1 X.length cap1] :: (cr ++ (pool ++ m))) := by
      simp only [List.cons_append, List.append_assoc] at H
      exact H
    have hcap := ho.cap_ge.1
    have hw1 : IntKind.wrap .i64 ((posX X t : Int) + 1) = ((posX X t + 1 : Nat) : Int) := by rw [wrap64 (by omega) (by omega)]; omega
    refine h_ldS H (b := p) (by repeat (first | exact pick_head | apply pick_tail | apply pick_app)) rfl (s_req ⟨by omega, by omega⟩ ?_)
    have hlm : (X.map knr).length = X.length := List.length_map ..
    have hnone : o1 = none → X.map knr = [] := fun e => by subst e; exact none_own ho (knr27 X) (by decide)
    refine h_appRows (rows := X.map knr) (n := 0) elemKN (by decide) H (c := []) cut_nil OwnC.nil (knr27 X) (knr_one X) (rowsAt_own (knr27 X) (by decide) ho H (by repeat (first | exact cut_head | exact cut_all | apply cut_tail | apply cut_app))) hnone (i := 0) (j := posX X t) (by omega) (by omega) (by omega) (by omega) ?_
    intro v2 c2 u ho2 H
    obtain ⟨o2, cap2, rfl⟩ := ho2.slice
    refine s_asS (h_ldS H (b := p) (by repeat (first | exact pick_head | apply pick_tail | apply pick_app)) rfl ?_)
    rw [hw1, Int.toNat_natCast]
    refine s_req ⟨by omega, by omega⟩ ?_
    refine h_appRows (rows := X.map knr) (n := 0 + posX X t) elemKN (by decide) H (c := c2) (by repeat (first | exact cut_head | exact cut_all | apply cut_tail | apply cut_app)) ho2 (knr27 X) (knr_one X) (rowsAt_own (knr27 X) (by decide) ho H (by repeat (first | exact cut_head | exact cut_all | apply cut_tail | apply cut_app))) hnone (i := posX X t + 1) (j := X.length - (posX X t + 1)) (by omega) (by omega) (by omega) (by omega) ?_
    intro v4 c4 u ho4 H
    obtain ⟨o4, cap4, rfl⟩ := ho4.slice
    refine s_asS (h_st H (b := p) (by repeat (first | exact pick_head | apply pick_tail | apply pick_app)) (by simp) rfl fun u H => s_ret (.inr ⟨his, rfl, ?_⟩))
    rw [List.nil_append, kn_flat, kn_flat, List.drop_zero] at ho4
    have hfull : (X.drop (posX X t + 1)).take (X.length - (posX X t + 1)) = X.drop (posX X t + 1) := List.take_of_length_le (by rw [List.length_drop]; omega)
    have hfl : ((X.take (posX X t)).map knr).flatten ++ (((X.drop (posX X t + 1)).take (X.length - (posX X t + 1))).map knr).flatten = ((dropX X t).map knr).flatten := by
      rw [hfull]
      unfold dropX
      rw [List.map_append, List.flatten_append]
    rw [hfl] at ho4
    have hml : 0 + posX X t + (X.length - (posX X t + 1)) = (dropX X t).length := by
      unfold dropX
      simp
      omega
    rw [hml] at ho4 H
    refine ⟨cl p 47 [.int .i64 n, .slice o4 (dropX X t).length cap4] :: (c4 ++ pool), ⟨o4, cap4, c4, pool, rfl, ho4, fun x hx q hq => ?_⟩, ?_⟩
    · unfold dropX at hx
      rcases List.mem_append.1 hx with hx | hx
      · exact hv x (List.mem_of_mem_take hx) q hq
      · exact hv x (List.mem_of_mem_drop hx) q hq
    · simp only [List.cons_append, List.append_assoc]
      exact H.sub (by repeat (first | exact sb_refl | exact sb_nil | refine sb_cons (by repeat (first | exact pick_head | apply pick_tail | apply pick_app)) ?_ | refine sb_app (by repeat (first | exact cut_head | exact cut_all | apply cut_tail | apply cut_app)) ?_ | exact sb_one (by repeat (first | exact cut_head | exact cut_all | apply cut_tail | apply cut_app))))

/-- A store into a row. -/
theorem modl_eq {f g : KN → KN} : (modX X t f).length = (modX X t g).length := by unfold modX; simp
theorem rk_st {P : Program} {Q : Ending → World → Prop} {ρ : Lv} {f : KN → KN} {y : KN} {g off N cap k : Nat} {cr : Hp} {v : Value} {x : T} (H : Has w0 w m) (hp : Cut cr m m')
    (ho : OwnC 85 27 (.slice (some ⟨g, off, none⟩) N cap) N ((modX X t f).map knr).flatten cr) (hv : (knr (f (getX X t))).set k v = knr y) (hk : k < 27) (h1 : v.oneCell' = true)
    (hK : ∀ c' w', OwnC 85 27 (.slice (some ⟨g, off, none⟩) N cap) N ((modX X t (fun _ => y)).map knr).flatten c' → Has w0 w' (c' ++ m') → x.sem P Q ρ w') :
    (T.st g (off + posX X t * 27 + k) v x).sem P Q ρ w := by
  have hat : ((modX X t f).map knr)[posX X t]? = some (knr (f (getX X t))) := by rw [List.getElem?_map, mod_at]; rfl
  have hlt := (List.getElem?_eq_some_iff.1 hat).1
  refine h_stC H hp ho (i := posX X t) (f := k) ?_ h1 fun c' w' ho' H' => hK c' w' ?_ H'
  · rw [flat_len (knr27 _)]
    have : (posX X t + 1) * 27 ≤ ((modX X t f).map knr).length * 27 := Nat.mul_le_mul_right _ hlt
    omega
  · rw [flat_set (knr27 _) hat hk, hv, ← List.map_set, mod_set] at ho'
    exact ho'
theorem mod_isX {f : KN → KN} : ∃ x, (modX X t f)[posX X t]? = some x := ⟨_, mod_at⟩
theorem pos_mod {f : KN → KN} : posX X t < (modX X t f).length := (List.getElem?_eq_some_iff.1 (mod_at (X := X) (t := t) (f := f))).1
theorem own_some {e : TypeId} {sz n cap : Nat} {rows : List (List Value)} {c : Hp} {o : Option Addr} (ho : OwnC e sz (.slice o n cap) n rows.flatten c) (hn : 0 < n) : ∃ g, o = some ⟨g, 0, none⟩ := by
  obtain ⟨g, cap', sp, hv, _⟩ := ho.pos hn
  cases hv
  exact ⟨g, rfl⟩
theorem need_nil {x : KN} : needF [] x = { x with nd := true } := by
  unfold needF
  simp
theorem need_snoc {x : KN} {l : List Int} {q : Nat} : needF (l ++ [(q : Int)]) x = { needF l x with need := fun p => if p = q then true else (needF l x).need p } := by
  unfold needF
  simp only [KN.mk.injEq, true_and, and_true]
  funext p
  by_cases h : p = q
  · subst h; simp
  · have : ¬ (p : Int) = (q : Int) := by omega
    simp [h, this]
variable {l : List Int} {o : Option Addr} {n2 cap : Nat}
theorem rneed_c (H : Has w0 w (c ++ m)) (hR : RkAt p n X c) (hmax : X.length ≤ 4194304) (hn8 : n ≤ 8) (hl : ∀ u, Has w0 u m → ValsAt u o l) (hlen : n2 = l.length) (hsz : l.length ≤ 1099511627776) :
    Calls Tryz.prog 12 #[.pointer (some ⟨p, 0, none⟩), .agg ⟨ixr t⟩, .slice o n2 cap] w fun e w' =>
      ((¬ ∀ x ∈ l, 0 ≤ x ∧ x < n) ∧ e = .returned (.int .i64 1) ∧ Has w0 w' (c ++ m)) ∨
      ((∀ x ∈ l, 0 ≤ x ∧ x < n) ∧ (getX X t).nd = true ∧ e = .returned (.int .i64 5) ∧ Has w0 w' (c ++ m)) ∨
      ((∀ x ∈ l, 0 ≤ x ∧ x < n) ∧ (getX X t).nd = false ∧ ∃ c', e = .returned (.int .i64 0) ∧ RkAt p n (modX X t (needF l)) c' ∧ Has w0 w' (c' ++ m)) := by
  subst hlen
  have hR0 := hR
  apply c12
  refine h_new H fun n7 u H => ?_
  refine s_loop (fun vs W => ∃ i : Nat, vs = [.int .i64 i] ∧ i ≤ l.length ∧ (∀ x ∈ l.take i, 0 ≤ x ∧ x < n) ∧ Has w0 W (cl n7 32 (ixr t) :: (c ++ m))) (fun vs _ => l.length - (intOf (vs.getD 0 undef)).toNat)
    ⟨0, rfl, by omega, by simp, H⟩ ?_
  clear H
  rintro _ j W ⟨i, rfl, hi, hin, H⟩
  refine s_asI (s_ite (fun g1 => ?_) (fun g1 => ?_))
  · simp only [decide_eq_true_eq] at g1
    have hlt : i < l.length := by omega
    obtain ⟨x, hx⟩ : ∃ x, l[i]? = some x := ⟨_, List.getElem?_eq_getElem hlt⟩
    refine h_drew H fun u H => ?_
    obtain ⟨g2, off, rfl, q1⟩ := (hl u H.drop.right).get hx
    refine s_req ⟨by omega, by omega⟩ (s_sm (s_loadI q1 (s_ite (fun g3 => s_ret (.inl ⟨fun h => ?_, rfl, H.sub (by repeat (first | exact sb_refl | exact sb_nil | refine sb_cons (by repeat (first | exact pick_head | apply pick_tail | apply pick_app)) ?_ | refine sb_app (by repeat (first | exact cut_head | exact cut_all | apply cut_tail | apply cut_app)) ?_ | exact sb_one (by repeat (first | exact cut_head | exact cut_all | apply cut_tail | apply cut_app))))⟩)) (fun g3 => ?_))))
    · have := (h x (List.mem_of_getElem? hx)).1
      have g3 : x < 0 := by simpa using g3
      omega
    · have g3 : 0 ≤ x := by simpa using g3
      obtain ⟨o1, cap1, h1, _⟩ := RkAt.rw H (cut_tail cut_head) hR
      refine s_req ⟨by omega, by omega⟩ (s_sm (s_loadI q1 (s_ldI h1 rfl (s_ite (fun g4 => s_ret (.inl ⟨fun h => ?_, rfl, H.sub (by repeat (first | exact sb_refl | exact sb_nil | refine sb_cons (by repeat (first | exact pick_head | apply pick_tail | apply pick_app)) ?_ | refine sb_app (by repeat (first | exact cut_head | exact cut_all | apply cut_tail | apply cut_app)) ?_ | exact sb_one (by repeat (first | exact cut_head | exact cut_all | apply cut_tail | apply cut_app))))⟩)) (fun g4 => s_next (by first | exact ⟨rfl, rfl⟩ | trivial) ?_)))))
      · have := (h x (List.mem_of_getElem? hx)).2
        have g4 : n ≤ x := by simpa using g4
        omega
      · have g4 : x < n := by simpa using g4
        simp (config := { decide := true }) only [if_true, if_false]
        refine ⟨⟨i + 1, by rw [w_succ (by omega)], by omega, fun y hy => ?_, H⟩, by rw [w_succ (by omega)]; simp [intOf] <;> omega⟩
        rw [List.take_add_one, hx, Option.toList_some] at hy
        rcases List.mem_append.1 hy with hy | hy
        · exact hin y hy
        · rw [List.mem_singleton] at hy
          subst hy
          exact ⟨g3, g4⟩
  · simp only [decide_eq_false_iff_not] at g1
    rw [List.take_of_length_le (by omega)] at hin
    refine s_blk (fun vs W => vs = [] ∧ (getX X t).nd = false ∧ Has w0 W (cl n7 32 (ixr t) :: (c ++ m))) ?_ ?_
    · clear H
      rintro _ j2 W ⟨rfl, hnd, H⟩
      have H1 : Has w0 W (c ++ (cl n7 32 (ixr t) :: m)) := H.sub (by repeat (first | exact sb_refl | exact sb_nil | refine sb_cons (by repeat (first | exact pick_head | apply pick_tail | apply pick_app)) ?_ | refine sb_app (by repeat (first | exact cut_head | exact cut_all | apply cut_tail | apply cut_app)) ?_ | exact sb_one (by repeat (first | exact cut_head | exact cut_all | apply cut_tail | apply cut_app))))
      refine h_ldI H (b := n7) (by repeat (first | exact pick_head | apply pick_tail | apply pick_app)) rfl (h_ldI H (b := n7) (by repeat (first | exact pick_head | apply pick_tail | apply pick_app)) rfl (s_call (ropen_c H1 hR hmax) ?_))
      rintro _ u ⟨c1, rfl, hR1, H⟩
      obtain ⟨o1, cap1, cr, pool, rfl, ho, hv⟩ := hR1
      obtain ⟨g2, rfl⟩ := own_some ho (by have := pos_mod (X := X) (t := t) (f := id); omega)
      have H : Has w0 u (cl p 47 [.int .i64 n, .slice (some ⟨g2, 0, none⟩) (modX X t id).length cap1] :: (cr ++ (pool ++ (cl n7 32 (ixr t) :: m)))) := by
        simp only [List.cons_append, List.append_assoc] at H
        exact H
      have hpm := pos_mod (X := X) (t := t) (f := id)
      have hml := mod_len (X := X) (t := t) (f := id)
      refine ⟨_, rfl, s_asI (h_ldS H (b := p) (by repeat (first | exact pick_head | apply pick_tail | apply pick_app)) rfl (s_req ⟨by omega, by omega⟩ (s_sm ?_)))⟩
      refine rk_st H (by repeat (first | exact cut_head | exact cut_all | apply cut_tail | apply cut_app)) ho (y := needF [] (getX X t)) (by rw [need_nil]; exact knr_nd) (by omega) rfl fun cr2 u ho2 H => ?_
      refine s_loop (fun vs W => ∃ (i : Nat) (cr : Hp), vs = [.int .i64 i] ∧ i ≤ l.length ∧ OwnC 85 27 (.slice (some ⟨g2, 0, none⟩) (modX X t id).length cap1) (modX X t id).length ((modX X t (fun _ => needF (l.take i) (getX X t))).map knr).flatten cr ∧
          Has w0 W (cr ++ (cl p 47 [.int .i64 n, .slice (some ⟨g2, 0, none⟩) (modX X t id).length cap1] :: (pool ++ (cl n7 32 (ixr t) :: m))))) (fun vs _ => l.length - (intOf (vs.getD 0 undef)).toNat)
        ⟨0, cr2, rfl, by omega, ho2, H.sub (by repeat (first | exact sb_refl | exact sb_nil | refine sb_cons (by repeat (first | exact pick_head | apply pick_tail | apply pick_app)) ?_ | refine sb_app (by repeat (first | exact cut_head | exact cut_all | apply cut_tail | apply cut_app)) ?_ | exact sb_one (by repeat (first | exact cut_head | exact cut_all | apply cut_tail | apply cut_app))))⟩ ?_
      clear H ho ho2
      rintro _ j3 W ⟨i2, cr3, rfl, hi2, ho, H⟩
      refine s_asI (s_ite (fun g3 => ?_) (fun g3 => ?_))
      · simp only [decide_eq_true_eq] at g3
        have hlt : i2 < l.length := by omega
        obtain ⟨x, hx⟩ : ∃ x, l[i2]? = some x := ⟨_, List.getElem?_eq_getElem hlt⟩
        have hxin := hin x (List.mem_of_getElem? hx)
        obtain ⟨q, rfl⟩ : ∃ q : Nat, x = q := ⟨x.toNat, by omega⟩
        refine h_drew H fun u H => h_ldS H (b := p) (by repeat (first | exact pick_head | apply pick_tail | apply pick_app)) rfl ?_
        obtain ⟨g4, off, rfl, q1⟩ := (hl u (H.sub ⟨_, (cut_app (cut_tail (cut_app (cut_tail cut_all))) : Cut m _ _)⟩)).get hx
        refine s_req ⟨by omega, by omega⟩ (s_sm (s_loadI q1 (s_req ⟨by omega, by omega⟩ (s_sm (s_req ⟨by omega, by omega⟩ ?_)))))
        rw [show ((q : Int).toNat) = q from rfl, show ((posX X t : Int).toNat) = posX X t from rfl, show 0 + posX X t * 27 + 3 + q * 1 = 0 + posX X t * 27 + (3 + q) by omega]
        refine rk_st H (by repeat (first | exact cut_head | exact cut_all | apply cut_tail | apply cut_app)) ho (y := needF (l.take i2 ++ [(q : Int)]) (getX X t)) (by rw [need_snoc]; exact knr_setn (by omega)) (by omega) rfl fun cr4 u ho4 H => ?_
        refine s_chk c_nil (s_next (by first | exact ⟨rfl, rfl⟩ | trivial) ?_)
        simp (config := { decide := true }) only [if_true, if_false]
        refine ⟨⟨i2 + 1, cr4, by rw [w_succ (by omega)], by omega, ?_, H⟩, by rw [w_succ (by omega)]; simp [intOf] <;> omega⟩
        rw [List.take_add_one, hx, Option.toList_some]
        exact ho4
      · simp only [decide_eq_false_iff_not] at g3
        rw [List.take_of_length_le (by omega)] at ho
        refine s_ret (.inr (.inr ⟨hin, hnd, _, rfl, ⟨some ⟨g2, 0, none⟩, cap1, cr3, pool, rfl, ?_, fun x hx q hq => ?_⟩, ?_⟩))
        · rw [modl_eq (f := needF l) (g := id)]
          exact ho
        · unfold modX at hx
          rcases List.mem_append.1 hx with hx | hx
          · exact hv x (by unfold modX; simp [hx]) q hq
          · rcases List.mem_cons.1 hx with rfl | hx
            · exact hv (getX X t) (by unfold modX; simp) q hq
            · exact hv x (by unfold modX; simp [hx]) q hq
        · rw [modl_eq (f := needF l) (g := id)]
          simp only [List.cons_append, List.append_assoc]
          exact H.sub (by repeat (first | exact sb_refl | exact sb_nil | refine sb_cons (by repeat (first | exact pick_head | apply pick_tail | apply pick_app)) ?_ | refine sb_app (by repeat (first | exact cut_head | exact cut_all | apply cut_tail | apply cut_app)) ?_ | exact sb_one (by repeat (first | exact cut_head | exact cut_all | apply cut_tail | apply cut_app))))
    · refine h_ldI H (b := n7) (by repeat (first | exact pick_head | apply pick_tail | apply pick_app)) rfl (h_ldI H (b := n7) (by repeat (first | exact pick_head | apply pick_tail | apply pick_app)) rfl (s_call (rfind_c (RkAt.rw H (cut_tail cut_head) hR0) (by omega) t) ?_))
      rintro _ u ⟨rfl, f⟩
      have H := H.fr0 f
      refine ⟨_, rfl, s_asU (s_req rfl (s_asI (s_asB (s_ite (fun g => ?_) (fun g => s_next (by first | exact ⟨rfl, rfl⟩ | trivial) ?_)))))⟩
      · obtain ⟨x, hx, hxt, hgx⟩ := is_true g
        have hxl := (List.getElem?_eq_some_iff.1 hx).1
        obtain ⟨o1, cap1, h1, h2, h3⟩ := RkAt.rw H (cut_tail cut_head) hR0
        obtain ⟨g2, off, rfl, k⟩ := kat_of h2 hx
        refine s_ldS h1 rfl (s_req ⟨by omega, by omega⟩ (s_sm (s_loadB k.nd (s_ite (fun g3 => s_ret (.inr (.inl ⟨hin, by rw [hgx]; exact g3, rfl, H.sub (by repeat (first | exact sb_refl | exact sb_nil | refine sb_cons (by repeat (first | exact pick_head | apply pick_tail | apply pick_app)) ?_ | refine sb_app (by repeat (first | exact cut_head | exact cut_all | apply cut_tail | apply cut_app)) ?_ | exact sb_one (by repeat (first | exact cut_head | exact cut_all | apply cut_tail | apply cut_app))))⟩))) (fun g3 => s_next (by first | exact ⟨rfl, rfl⟩ | trivial) ?_)))))
        simp (config := { decide := true }) only [if_true, if_false]
        exact ⟨trivial, by rw [hgx]; exact g3, H⟩
      · simp (config := { decide := true }) only [if_true, if_false]
        exact ⟨trivial, by rw [(is_false g).1]; rfl, H⟩
end
end Go.Proofs.YtpjcfnnnciknmaaGreat

/- RemoteDoes: the document's box: Put, Values. -/
set_option linter.unusedVariables false
set_option linter.unusedSimpArgs false
set_option maxRecDepth 100000
set_option maxHeartbeats 4000000
namespace Go.Proofs.YtpjcfnnnciknmaaGreat
open Go hiding Expr
open Go.RowKit Tr

def lsOk (X : List KN) : Prop := ∀ x ∈ X, ∀ q, q < 8 → (x.ls q).length ≤ 1048577
theorem lsOk.get {X : List KN} {t : Ix} (h : lsOk X) : ∀ q, q < 8 → ((getX X t).ls q).length ≤ 1048577 := by
  intro q hq
  cases his : isX X t with
  | true =>
    obtain ⟨x, hx, _, hg⟩ := is_true his
    rw [hg]
    exact h x (List.mem_of_getElem? hx) q hq
  | false => rw [(is_false his).1]; exact Nat.zero_le _
section
variable {w : World} {p : Nat} {n : Int} {X : List KN} {t : Ix}
def flatT (x : KN) (i : Nat) : List PR := (List.range i).flatMap (fun p => if x.need p = true then x.ls p else [])
theorem flatT_succ (x : KN) (i : Nat) : flatT x (i + 1) = flatT x i ++ (if x.need i = true then x.ls i else []) := by
  unfold flatT
  rw [List.range_succ, List.flatMap_append]
  simp
theorem flatT_len {x : KN} (h : ∀ q, q < 8 → (x.ls q).length ≤ 1048577) (i : Nat) : i ≤ 8 → (flatT x i).length ≤ i * 1048577 := by
  induction i with
  | zero => intro _; exact Nat.zero_le _
  | succ i ih =>
    intro hi
    have h1 := ih (by omega)
    have h2 := h i (by omega)
    rw [flatT_succ, List.length_append]
    have h3 : (if x.need i = true then x.ls i else []).length ≤ 1048577 := by
      split
      · exact h2
      · exact Nat.zero_le _
    omega
theorem flatT_8 (x : KN) : flatT x 8 = flatN x := rfl
theorem rvals_c (h : RW w p n X) (hmax : X.length ≤ 1099511627776) (hls : lsOk X) : Calls Tryz.prog 17 #[.pointer (some ⟨p, 0, none⟩), .agg ⟨ixr t⟩] w fun e w' =>
    (readyN (getX X t) = false ∧ e = .returned (.tuple #[.slice none 0 0, .int .i64 4]) ∧ Fr [] w w') ∨
    (readyN (getX X t) = true ∧ ∃ out v c, IsPairs (flatN (getX X t)) out ∧ e = .returned (.tuple #[v, .int .i64 0]) ∧ OwnC 53 3 v out.length (encP out) c ∧ Has w w' c) := by
  have h0 := h
  have hg8 := hls.get (t := t)
  obtain ⟨o, cap, h1, h2, h3⟩ := h
  apply c17
  refine h_new (Has.init w) fun n4 u H => h_ldI H (by repeat (first | exact pick_head | apply pick_tail | apply pick_app)) rfl (h_ldI H (by repeat (first | exact pick_head | apply pick_tail | apply pick_app)) rfl (s_call (rfind_c (h0.fr0 H.base) hmax t) ?_))
  rintro _ u ⟨rfl, f⟩
  have H := H.fr0 f
  refine ⟨_, rfl, s_asU (s_req rfl (s_asI (s_asB ?_)))⟩
  refine s_blk (fun vs W => vs = [] ∧ isX X t = true ∧ readyN (getX X t) = true ∧ Has w W [cl n4 32 (ixr t)]) ?_ ?_
  · clear H
    rintro _ j W ⟨rfl, his, hrd, H⟩
    obtain ⟨x, hx, hxt, hgx⟩ := is_true his
    have hxl := (List.getElem?_eq_some_iff.1 hx).1
    have hx3 := h3 x (List.mem_of_getElem? hx)
    rw [hgx] at hrd hg8 ⊢
    refine s_loop (fun vs W => ∃ (i : Nat) (v : Value) (c mm : Hp), vs = [v, .int .i64 i] ∧ i ≤ 8 ∧ OwnC 53 3 v (flatT x i).length (encP (flatT x i)) c ∧ Has w W (c ++ mm)) (fun vs _ => 8 - (intOf (vs.getD 1 undef)).toNat)
      ⟨0, _, [], _, rfl, by omega, OwnC.nil, H⟩ ?_
    clear H
    rintro _ j W ⟨i, v, c, mm, rfl, hi, ho, H⟩
    obtain ⟨o2, cap2, rfl⟩ := ho.slice
    obtain ⟨g2, off, hoe, k⟩ := kat_of (RowsAt.fr h2 H.base) hx
    have hfl := flatT_len hg8 i hi
    refine s_asS (s_asI (s_ite (fun g => ?_) (fun g => ?_)))
    · have hlt : i < 8 := by
        have g : (i : Int) < 8 := by simpa using g
        omega
      have hst := flatT_succ x i
      have hil := hg8 i hlt
      subst hoe
      refine s_ldS (H.base.cells h1 (by simp)) rfl (s_req ⟨by omega, by omega⟩ (s_sm (s_req ⟨by omega, by omega⟩ (s_loadB (k.need i hlt) (s_ite (fun g2 => ?_) (fun g2 => s_next (by first | exact ⟨rfl, rfl⟩ | trivial) ?_))))))
      · rw [if_pos g2] at hst
        have hS := hx3 i hlt
        refine s_ldS (H.base.cells h1 (by simp)) rfl (s_req ⟨by omega, by omega⟩ (s_sm (s_req ⟨by omega, by omega⟩ (s_loadS (k.vals i hlt) ?_))))
        refine h_appAll elemPr (by decide) H (by repeat (first | exact cut_head | exact cut_all | apply cut_tail | apply cut_app)) ho (pr3 (x.ls i)) (pr_one (x.ls i)) (hS.2.fr0 H.base) (by rw [List.length_map]; exact hS.1) (by have := hS.1; omega) (by have := hS.1; omega) ?_
        intro v' c' u ho' H
        obtain ⟨o', cap', rfl⟩ := ho'.slice
        refine s_asS (s_next (by first | exact ⟨rfl, rfl⟩ | trivial) ?_)
        simp (config := { decide := true }) only [if_true, if_false]
        refine ⟨⟨i + 1, _, c', mm, by rw [w_succ (by omega)], by omega, ?_, H⟩, by rw [w_succ (by omega)]; simp [intOf] <;> omega⟩
        rw [hst, List.length_append, encP_append, ← hS.1]
        exact ho'
      · rw [if_neg (by rw [g2]; simp), List.append_nil] at hst
        simp (config := { decide := true }) only [if_true, if_false]
        exact ⟨⟨i + 1, _, c, mm, by rw [w_succ (by omega)], by omega, by rw [hst]; exact ho, H⟩, by rw [w_succ (by omega)]; simp [intOf] <;> omega⟩
    · have g : ¬ i < 8 := by
        have g : ¬ (i : Int) < 8 := by simpa using g
        omega
      obtain rfl : i = 8 := by omega
      rw [flatT_8] at ho hfl
      refine s_call (rpairs_c (l := flatN x) (pairsAt_own ho H (by repeat (first | exact cut_head | exact cut_all | apply cut_tail | apply cut_app))) rfl (by omega)) ?_
      rintro _ u ⟨out, v2, c2, hp, rfl, ho2, H2⟩
      have H := H.join H2
      obtain ⟨o3, cap3, rfl⟩ := ho2.slice
      exact ⟨_, rfl, s_asS (s_ret (.inr ⟨hrd, out, _, c2, hp, rfl, ho2, H.sub (by repeat (first | exact sb_refl | exact sb_nil | refine sb_cons (by repeat (first | exact pick_head | apply pick_tail | apply pick_app)) ?_ | refine sb_app (by repeat (first | exact cut_head | exact cut_all | apply cut_tail | apply cut_app)) ?_ | exact sb_one (by repeat (first | exact cut_head | exact cut_all | apply cut_tail | apply cut_app))))⟩))⟩
  · refine s_ite (fun g => ?_) (fun g => ?_)
    · have g : isX X t = false := by simpa using g
      rw [(is_false g).1, ready_new]
      exact s_ret (.inl ⟨rfl, rfl, H.base⟩)
    · have g : isX X t = true := by simpa using g
      obtain ⟨x, hx, hxt, hgx⟩ := is_true g
      have hxl := (List.getElem?_eq_some_iff.1 hx).1
      obtain ⟨g2, off, rfl, k⟩ := kat_of (RowsAt.fr h2 H.base) hx
      refine s_ldS (H.base.cells h1 (by simp)) rfl (s_req ⟨by omega, by omega⟩ (s_sm (s_call (krdy_c k) ?_)))
      rintro _ _ ⟨rfl, rfl⟩
      refine ⟨_, rfl, s_asB (s_ite (fun g3 => s_ret (.inl ⟨by rw [hgx]; simpa using g3, rfl, H.base⟩)) (fun g3 => s_next (by first | exact ⟨rfl, rfl⟩ | trivial) ?_))⟩
      simp (config := { decide := true }) only [if_true, if_false]
      exact ⟨trivial, g, by rw [hgx]; simpa using g3, H⟩
end

section
variable {w0 w : World} {m m' c : Hp} {p : Nat} {n : Int} {X : List KN} {t : Ix} {l : List PR} {o : Option Addr} {n2 cap : Nat}
theorem rput_c (H : Has w0 w (c ++ m)) (hR : RkAt p n X c) (hmax : X.length ≤ 4194304) (hls : lsOk X) (hn8 : n ≤ 8) {q : Int} (hl : ∀ u, Has w0 u m → PairsAt u o l) (hlen : n2 = l.length) (hsz : l.length * 24 ≤ 140737488355328) :
    Calls Tryz.prog 13 #[.pointer (some ⟨p, 0, none⟩), .agg ⟨ixr t⟩, .int .i64 q, .slice o n2 cap] w fun e w' =>
      ((¬ (0 ≤ q ∧ q < n)) ∧ e = .returned (.tuple #[.bool false, .int .i64 1]) ∧ Has w0 w' (c ++ m)) ∨
      (∃ k : Nat, q = k ∧ (k : Int) < n ∧ ∃ out, IsPairs l out ∧ (
        ((getX X t).came k = true ∧ (getX X t).ls k ≠ out ∧ e = .returned (.tuple #[.bool false, .int .i64 180]) ∧ Has w0 w' (c ++ m)) ∨
        (((getX X t).came k = true → (getX X t).ls k = out) ∧ ∃ s c', e = .returned (.tuple #[.bool (readyN (cameF k s out (getX X t))), .int .i64 0]) ∧ RkAt p n (modX X t (cameF k s out)) c' ∧ Has w0 w' (c' ++ m)))) := by
  subst hlen
  have hR0 := hR
  apply c13
  refine h_new H fun n8 u H => ?_
  refine s_blk (fun vs W => vs = [] ∧ 0 ≤ q ∧ q < n ∧ Has w0 W (cl n8 32 (ixr t) :: (c ++ m))) ?_ ?_
  · clear H
    rintro _ j W ⟨rfl, h0, hqn, H⟩
    obtain ⟨k, rfl⟩ : ∃ k : Nat, q = k := ⟨q.toNat, by omega⟩
    have hk8 : k < 8 := by omega
    refine s_call (rpairs_c (l := l) (hl W (H.drop.right)) rfl hsz) ?_
    rintro _ u ⟨out, v2, c2, hp, rfl, ho2, H2⟩
    have H := H.join H2
    have hol := hp.len
    obtain ⟨o3, cap3, rfl⟩ := ho2.slice
    refine ⟨_, rfl, s_asS (s_blk (fun vs W => vs = [] ∧ ((getX X t).came k = true → (getX X t).ls k = out) ∧ Has w0 W (c ++ (c2 ++ (cl n8 32 (ixr t) :: m)))) ?_ ?_)⟩
    · clear H H2
      rintro _ j2 W ⟨rfl, hsame, H⟩
      refine h_ldI H (b := n8) (by repeat (first | exact pick_head | apply pick_tail | apply pick_app)) rfl (h_ldI H (b := n8) (by repeat (first | exact pick_head | apply pick_tail | apply pick_app)) rfl (s_call (ropen_c H hR hmax) ?_))
      rintro _ u ⟨c1, rfl, hR1, H⟩
      obtain ⟨o1, cap1, cr, pool, rfl, ho, hv⟩ := hR1
      have hpm := pos_mod (X := X) (t := t) (f := id)
      have hml := mod_len (X := X) (t := t) (f := id)
      obtain ⟨g2, rfl⟩ := own_some ho (by omega)
      have H : Has w0 u (cl p 47 [.int .i64 n, .slice (some ⟨g2, 0, none⟩) (modX X t id).length cap1] :: (cr ++ (pool ++ (c2 ++ (cl n8 32 (ixr t) :: m))))) := by
        simp only [List.cons_append, List.append_assoc] at H
        exact H
      refine ⟨_, rfl, s_asI (h_ldS H (b := p) (by repeat (first | exact pick_head | apply pick_tail | apply pick_app)) rfl (s_req ⟨by omega, by omega⟩ (s_sm (s_req ⟨by omega, by omega⟩ ?_))))⟩
      rw [show ((k : Int).toNat) = k from rfl, show ((posX X t : Int).toNat) = posX X t from rfl, show 0 + posX X t * 27 + 11 + k * 1 = 0 + posX X t * 27 + (11 + k) by omega]
      refine rk_st H (by repeat (first | exact cut_head | exact cut_all | apply cut_tail | apply cut_app)) ho (knr_setc hk8) (by omega) rfl fun cr2 u ho2' H => ?_
      refine h_ldS H (b := p) (by repeat (first | exact pick_head | apply pick_tail | apply pick_app)) rfl (s_req ⟨by omega, by omega⟩ (s_sm (s_req ⟨by omega, by omega⟩ ?_)))
      rw [show 0 + posX X t * 27 + 19 + k * 1 = 0 + posX X t * 27 + (19 + k) by omega]
      refine rk_st (v := vS ⟨o3, out.length, cap3⟩) (y := cameF k ⟨o3, out.length, cap3⟩ out (getX X t)) H (by repeat (first | exact cut_head | exact cut_all | apply cut_tail | apply cut_app)) ho2' (knr_setv hk8) (by omega) rfl fun cr3 u ho3 H => ?_
      refine h_ldS H (b := p) (by repeat (first | exact pick_head | apply pick_tail | apply pick_app)) rfl (s_req ⟨by omega, by omega⟩ (s_sm ?_))
      have hR3 : RkAt p n (modX X t (cameF k ⟨o3, out.length, cap3⟩ out)) (cl p 47 [.int .i64 n, .slice (some ⟨g2, 0, none⟩) (modX X t (cameF k ⟨o3, out.length, cap3⟩ out)).length cap1] :: (cr3 ++ (c2 ++ pool))) := by
        refine ⟨some ⟨g2, 0, none⟩, cap1, cr3, c2 ++ pool, rfl, ?_, fun x hx q hq => ?_⟩
        · rw [modl_eq (f := cameF k ⟨o3, out.length, cap3⟩ out) (g := id)]
          exact ho3
        · unfold modX at hx
          rcases List.mem_append.1 hx with hx | hx
          · exact (hv x (by unfold modX; simp [hx]) q hq).mono
          · rcases List.mem_cons.1 hx with rfl | hx
            · have h1 := (hv (getX X t) (by unfold modX; simp) q hq).mono (c := c2)
              show Held (c2 ++ pool) (if q = k then _ else _) (if q = k then _ else _)
              split
              · refine ⟨rfl, fun w1 u1 Hu => pairsAt_own ho2 Hu cut_head⟩
              · exact h1
            · exact (hv x (by unfold modX; simp [hx]) q hq).mono
      have H : Has w0 u ((cl p 47 [.int .i64 n, .slice (some ⟨g2, 0, none⟩) (modX X t (cameF k ⟨o3, out.length, cap3⟩ out)).length cap1] :: (cr3 ++ (c2 ++ pool))) ++ (cl n8 32 (ixr t) :: m)) := by
        rw [modl_eq (f := cameF k ⟨o3, out.length, cap3⟩ out) (g := id)]
        simp only [List.cons_append, List.append_assoc]
        exact H.sub (by repeat (first | exact sb_refl | exact sb_nil | refine sb_cons (by repeat (first | exact pick_head | apply pick_tail | apply pick_app)) ?_ | refine sb_app (by repeat (first | exact cut_head | exact cut_all | apply cut_tail | apply cut_app)) ?_ | exact sb_one (by repeat (first | exact cut_head | exact cut_all | apply cut_tail | apply cut_app))))
      obtain ⟨o5, cap5, h51, h52, h53⟩ := RkAt.rw H cut_head hR3
      obtain ⟨g5, off5, hoe5, k5⟩ := kat_of h52 (mod_at (X := X) (t := t))
      have hge : g5 = g2 ∧ off5 = 0 := by
        have h6 := H.cells (b := p) pick_head
        have := h51.symm.trans h6
        simp at this
        have h7 := this.1
        rw [hoe5] at h7
        cases h7
        exact ⟨rfl, rfl⟩
      obtain ⟨rfl, rfl⟩ := hge
      refine s_call (krdy_c k5) ?_
      rintro _ _ ⟨rfl, rfl⟩
      exact ⟨_, rfl, s_asB (s_ret (.inr ⟨k, rfl, hqn, out, hp, .inr ⟨hsame, _, _, rfl, hR3, H.sub (by repeat (first | exact sb_refl | exact sb_nil | refine sb_cons (by repeat (first | exact pick_head | apply pick_tail | apply pick_app)) ?_ | refine sb_app (by repeat (first | exact cut_head | exact cut_all | apply cut_tail | apply cut_app)) ?_ | exact sb_one (by repeat (first | exact cut_head | exact cut_all | apply cut_tail | apply cut_app))))⟩⟩))⟩
    · have H : Has w0 u (c ++ (c2 ++ (cl n8 32 (ixr t) :: m))) := H.sub (by repeat (first | exact sb_refl | exact sb_nil | refine sb_cons (by repeat (first | exact pick_head | apply pick_tail | apply pick_app)) ?_ | refine sb_app (by repeat (first | exact cut_head | exact cut_all | apply cut_tail | apply cut_app)) ?_ | exact sb_one (by repeat (first | exact cut_head | exact cut_all | apply cut_tail | apply cut_app))))
      refine h_ldI H (b := n8) (by repeat (first | exact pick_head | apply pick_tail | apply pick_app)) rfl (h_ldI H (b := n8) (by repeat (first | exact pick_head | apply pick_tail | apply pick_app)) rfl (s_call (rfind_c (RkAt.rw H cut_head hR0) (by omega) t) ?_))
      rintro _ u ⟨rfl, f⟩
      have H := H.fr0 f
      refine ⟨_, rfl, s_asU (s_req rfl (s_asI (s_asB (s_ite (fun g => ?_) (fun g => s_next (by first | exact ⟨rfl, rfl⟩ | trivial) ?_)))))⟩
      · obtain ⟨x, hx, hxt, hgx⟩ := is_true g
        have hxl := (List.getElem?_eq_some_iff.1 hx).1
        obtain ⟨o1, cap1, h1, h2, h3⟩ := RkAt.rw H cut_head hR0
        obtain ⟨g2, off, rfl, kk⟩ := kat_of h2 hx
        have hS := h3 x (List.mem_of_getElem? hx) k hk8
        have hls1 := hls x (List.mem_of_getElem? hx) k hk8
        rw [hgx]
        refine s_ldS h1 rfl (s_req ⟨by omega, by omega⟩ (s_sm (s_req ⟨by omega, by omega⟩ (s_loadB (kk.came k hk8) (s_ite (fun g3 => ?_) (fun g3 => s_next (by first | exact ⟨rfl, rfl⟩ | trivial) ?_))))))
        · refine s_ldS h1 rfl (s_req ⟨by omega, by omega⟩ (s_sm (s_req ⟨by omega, by omega⟩ (s_loadS (kk.vals k hk8) ?_))))
          refine s_call (same_pairs_c (l := x.ls k) (l2 := out) hS.2 (pairsAt_own ho2 H (by repeat (first | exact cut_head | exact cut_all | apply cut_tail | apply cut_app))) hS.1 rfl (by omega)) ?_
          rintro _ u ⟨rfl, f⟩
          have H := H.fr0 f
          refine ⟨_, rfl, s_asB (s_ite (fun g4 => ?_) (fun g4 => s_next (by first | exact ⟨rfl, rfl⟩ | trivial) ?_))⟩
          · have g4 : ¬ x.ls k = out := by simpa using g4
            exact s_ret (.inr ⟨k, rfl, hqn, out, hp, .inl ⟨g3, g4, rfl, H.sub (by repeat (first | exact sb_refl | exact sb_nil | refine sb_cons (by repeat (first | exact pick_head | apply pick_tail | apply pick_app)) ?_ | refine sb_app (by repeat (first | exact cut_head | exact cut_all | apply cut_tail | apply cut_app)) ?_ | exact sb_one (by repeat (first | exact cut_head | exact cut_all | apply cut_tail | apply cut_app))))⟩⟩)
          · have g4 : x.ls k = out := by simpa using g4
            simp (config := { decide := true }) only [if_true, if_false]
            exact ⟨trivial, fun _ => g4, H⟩
        · simp (config := { decide := true }) only [if_true, if_false]
          exact ⟨trivial, fun h => absurd h (by rw [g3]; simp), H⟩
      · simp (config := { decide := true }) only [if_true, if_false]
        exact ⟨trivial, (fun h => by rw [(is_false g).1] at h; cases h), H⟩
  · refine s_ite (fun g => ?_) (fun g => ?_)
    · have g : q < 0 := by simpa using g
      exact s_ret (.inl ⟨by omega, rfl, H.sub (by repeat (first | exact sb_refl | exact sb_nil | refine sb_cons (by repeat (first | exact pick_head | apply pick_tail | apply pick_app)) ?_ | refine sb_app (by repeat (first | exact cut_head | exact cut_all | apply cut_tail | apply cut_app)) ?_ | exact sb_one (by repeat (first | exact cut_head | exact cut_all | apply cut_tail | apply cut_app))))⟩)
    · have g : 0 ≤ q := by simpa using g
      obtain ⟨o1, cap1, h1, _⟩ := RkAt.rw H (cut_tail cut_head) hR0
      refine s_ldI h1 rfl (s_ite (fun g2 => ?_) (fun g2 => s_next (by first | exact ⟨rfl, rfl⟩ | trivial) ?_))
      · have g2 : n ≤ q := by simpa using g2
        exact s_ret (.inl ⟨by omega, rfl, H.sub (by repeat (first | exact sb_refl | exact sb_nil | refine sb_cons (by repeat (first | exact pick_head | apply pick_tail | apply pick_app)) ?_ | refine sb_app (by repeat (first | exact cut_head | exact cut_all | apply cut_tail | apply cut_app)) ?_ | exact sb_one (by repeat (first | exact cut_head | exact cut_all | apply cut_tail | apply cut_app))))⟩)
      · have g2 : q < n := by simpa using g2
        simp (config := { decide := true }) only [if_true, if_false]
        exact ⟨trivial, g, g2, H⟩
end
end Go.Proofs.YtpjcfnnnciknmaaGreat
