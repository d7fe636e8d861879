/- A map of one's own whose values are places, each with its blocks: what a key has, by a function. -/
import Derived.Test.YtpjcfnnnciknmaaGreatMapX
import Derived.Test.YtpjcfnnnciknmaaGreatChunks
set_option linter.unusedSimpArgs false
set_option linter.unusedVariables false
set_option linter.unusedSectionVars false
namespace Go.Proofs.YtpjcfnnnciknmaaGreat.Tr
open Go
open Go.RowKit

structure SP where
  o : Option Addr
  n : Nat
  c : Nat
def vS (s : SP) : Value := .slice s.o s.n s.c

section
variable {α β γ : Type} [DecidableEq α]

def upd (F : α → Option β) (a : α) (b : Option β) : α → Option β := fun x => if a = x then b else F x

/-- The entries of D have the blocks cs; each key has what F says, but for the key a, whose entry (q) has no blocks here. -/
structure Ents (V : β → γ → Hp → Prop) (D : List (α × γ)) (cs : List Hp) (F : α → Option β) (a : Option α) (q : Option γ) : Prop where
  len : cs.length = D.length
  keys : (D.map (·.1)).Nodup
  ent : ∀ (i : Nat) (x : α) (s : γ) (c : Hp), D[i]? = some (x, s) → cs[i]? = some c → (a = some x ∧ c = []) ∨ (a ≠ some x ∧ ∃ b, F x = some b ∧ V b s c)
  all : ∀ x, a ≠ some x → (F x).isSome = true → ∃ s, (x, s) ∈ D
  at_ : ∀ x, a = some x → getAt D x = q

variable {V : β → γ → Hp → Prop} {D : List (α × γ)} {cs : List Hp} {F : α → Option β} {a x : α} {q : Option γ} {s : γ} {b : β} {c : Hp}

theorem getAt_mem {v : γ} : ∀ {D : List (α × γ)}, getAt D a = some v → (a, v) ∈ D
  | p :: r, h => by
    simp only [getAt] at h
    split at h
    · rename_i he
      cases h
      rw [← he]
      exact List.mem_cons_self ..
    · exact List.mem_cons_of_mem _ (getAt_mem (D := r) h)
theorem getAt_nodup {i : Nat} (hn : (D.map (·.1)).Nodup) (hi : D[i]? = some (a, s)) : getAt D a = some s ∧ ∀ j p, D[j]? = some p → p.1 = a → j = i := by
  have hinj : ∀ j p, D[j]? = some p → p.1 = a → j = i := by
    intro j p hj hp
    obtain ⟨h1, h2⟩ := List.getElem?_eq_some_iff.1 hi
    obtain ⟨h3, h4⟩ := List.getElem?_eq_some_iff.1 hj
    have := (List.nodup_iff_pairwise_ne.1 hn)
    rw [List.pairwise_iff_getElem] at this
    rcases Nat.lt_trichotomy i j with h | h | h
    · have := this i j (by simpa using h1) (by simpa using h3) h
      simp only [List.getElem_map, h2, h4] at this
      exact absurd hp.symm this
    · exact h.symm
    · have := this j i (by simpa using h3) (by simpa using h1) h
      simp only [List.getElem_map, h2, h4] at this
      exact absurd hp this
  refine ⟨?_, hinj⟩
  exact (putAt_some (v := s) hi rfl (fun j p hji hj hp => by have := hinj j p hj hp; omega)).2

/-- All entries have their blocks. -/
def MF (P : Program) (kt : TypeId) (kf : α → Value) (vf : γ → Value) (V : β → γ → Hp → Prop) (o : Obj) (c : Hp) (F : α → Option β) : Prop :=
  ∃ D cs, c = cs.flatten ∧ MapO P kt kf vf o D ∧ Ents V D cs F none none
/-- The key a's entry has its blocks elsewhere. -/
def MX (P : Program) (kt : TypeId) (kf : α → Value) (vf : γ → Value) (V : β → γ → Hp → Prop) (o : Obj) (c : Hp) (F : α → Option β) (a : α) (q : Option γ) : Prop :=
  ∃ D cs, c = cs.flatten ∧ MapO P kt kf vf o D ∧ Ents V D cs F (some a) q

theorem Ents.nil {V : β → γ → Hp → Prop} : Ents V ([] : List (α × γ)) [] (fun _ => none) none none :=
  ⟨rfl, by simp, by simp, by simp, by simp⟩

theorem Ents.openN (h : Ents V D cs F none none) (hF : F a = none) : Ents V D cs F (some a) none := by
  have hno : ∀ i y s' c', D[i]? = some (y, s') → cs[i]? = some c' → y ≠ a := fun i y s' c' h1 h2 e => by
    rcases h.ent i y s' c' h1 h2 with ⟨h3, _⟩ | ⟨_, b', h3, _⟩
    · cases h3
    · rw [e, hF] at h3; cases h3
  refine ⟨h.len, h.keys, fun i y s' c' h1 h2 => .inr ⟨fun e => hno i y s' c' h1 h2 (by simpa using e.symm), ?_⟩, fun y hy => h.all y (by simp), ?_⟩
  · rcases h.ent i y s' c' h1 h2 with ⟨h3, _⟩ | ⟨_, h3⟩
    · cases h3
    · exact h3
  · rintro y he
    simp only [Option.some.injEq] at he
    subst he
    rw [getAt_none]
    intro p hp he
    obtain ⟨i, hi⟩ := List.mem_iff_getElem?.1 hp
    have hlt := (List.getElem?_eq_some_iff.1 hi).1
    exact hno i p.1 p.2 _ hi (List.getElem?_eq_getElem (by rw [h.len]; exact hlt)) he

theorem Ents.openS (h : Ents V D cs F none none) (hF : F a = some b) : ∃ s c cs', Cut c cs.flatten cs'.flatten ∧ V b s c ∧ Ents V D cs' F (some a) (some s) := by
  obtain ⟨s, hs⟩ := h.all a (by simp) (by rw [hF]; rfl)
  obtain ⟨i, hi⟩ := List.mem_iff_getElem?.1 hs
  have hlt := (List.getElem?_eq_some_iff.1 hi).1
  have hlc : i < cs.length := by rw [h.len]; exact hlt
  have hc : cs[i]? = some cs[i] := List.getElem?_eq_getElem hlc
  obtain ⟨hg, hu⟩ := getAt_nodup h.keys hi
  have hV : V b s cs[i] := by
    rcases h.ent i a s _ hi hc with ⟨h3, _⟩ | ⟨_, b', h3, h4⟩
    · cases h3
    · rw [hF] at h3; cases h3; exact h4
  refine ⟨s, cs[i], cs.set i [], Go.Proofs.YtpjcfnnnciknmaaGreat.cut_flat hc, hV, ⟨by simp [h.len], h.keys, fun j y s' c' h1 h2 => ?_, fun y hy => h.all y (by simp), ?_⟩⟩
  · rw [List.getElem?_set] at h2
    split at h2
    · rename_i hij
      subst hij
      rw [hi] at h1
      cases h1
      cases h2
      exact .inl ⟨rfl, rfl⟩
    · rename_i hij
      rcases h.ent j y s' c' h1 h2 with ⟨h3, _⟩ | ⟨_, h3⟩
      · cases h3
      · exact .inr ⟨fun e => hij (hu j _ h1 (by simpa using e.symm)).symm, h3⟩
  · rintro y he
    simp only [Option.some.injEq] at he
    subst he
    exact hg

/-- The entry put in its place. -/
theorem Ents.put (h : Ents V D cs F (some a) q) (s : γ) : ∃ cs', cs'.flatten = cs.flatten ∧ Ents V (putAt D a s) cs' F (some a) (some s) := by
  have hg : getAt (putAt D a s) a = some s := by rw [getAt_put, if_pos rfl]
  cases hq : getAt D a with
  | none =>
    rw [getAt_none] at hq
    have hp := putAt_none (v := s) hq
    refine ⟨cs ++ [[]], by simp, ⟨by rw [hp]; simp [h.len], by rw [hp, List.map_append, List.nodup_append]; exact ⟨h.keys, by simp, fun y hy z hz => by
      obtain ⟨p, hm, rfl⟩ := List.mem_map.1 hy
      have hz : z = a := by simpa using hz
      rw [hz]
      exact hq p hm⟩, fun i y s' c' h1 h2 => ?_, fun y hy hs => ?_, fun y he => by cases he; exact hg⟩⟩
    · rw [hp] at h1
      rcases Nat.lt_or_ge i D.length with hi | hi
      · rw [List.getElem?_append_left hi] at h1
        rw [List.getElem?_append_left (by rw [h.len]; exact hi)] at h2
        exact h.ent i y s' c' h1 h2
      · rw [List.getElem?_append_right hi] at h1
        rw [List.getElem?_append_right (by rw [h.len]; exact hi), h.len] at h2
        cases hk : i - D.length with
        | zero => rw [hk] at h1 h2; simp at h1 h2; exact .inl ⟨by rw [h1.1], h2⟩
        | succ k => rw [hk] at h1; simp at h1
    · obtain ⟨s', hs'⟩ := h.all y hy hs
      exact ⟨s', by rw [hp]; simp [hs']⟩
  | some s0 =>
    have hm := getAt_mem hq
    obtain ⟨i, hi⟩ := List.mem_iff_getElem?.1 hm
    obtain ⟨_, hu⟩ := getAt_nodup h.keys hi
    have hp := (putAt_some (v := s) hi rfl (fun j p hji hj hp => by have := hu j p hj hp; omega)).1
    have hlt := (List.getElem?_eq_some_iff.1 hi).1
    refine ⟨cs, rfl, ⟨by rw [hp]; simp [h.len], ?_, fun j y s' c' h1 h2 => ?_, fun y hy hs => ?_, fun y he => by cases he; exact hg⟩⟩
    · rw [hp, List.map_set]
      have : (D.map (·.1)).set i a = D.map (·.1) := by
        refine List.ext_getElem? fun j => ?_
        rw [List.getElem?_set]
        split
        · rename_i hij
          subst hij
          rw [if_pos (by simpa using hlt), List.getElem?_map, hi]
          rfl
        · rfl
      rw [this]
      exact h.keys
    · rw [hp, List.getElem?_set] at h1
      split at h1
      · rename_i hij
        subst hij
        cases h1
        rcases h.ent i a s0 c' hi h2 with h3 | ⟨h3, _⟩
        · exact .inl h3
        · exact absurd rfl h3
      · exact h.ent j y s' c' h1 h2
    · obtain ⟨s', hs'⟩ := h.all y hy hs
      obtain ⟨j, hj⟩ := List.mem_iff_getElem?.1 hs'
      refine ⟨s', ?_⟩
      rw [hp]
      refine List.mem_iff_getElem?.2 ⟨j, ?_⟩
      rw [List.getElem?_set]
      split
      · rename_i hij
        subst hij
        rw [hi] at hj
        cases hj
        exact absurd rfl hy
      · exact hj

theorem Ents.del (h : Ents V D cs F (some a) q) : ∃ cs', cs'.flatten = cs.flatten ∧ Ents V (delAt D a) cs' F (some a) none := by
  have hg : getAt (delAt D a) a = none := by rw [getAt_del, if_pos rfl]
  cases hq : getAt D a with
  | none =>
    rw [getAt_none] at hq
    rw [del_none hq] at hg ⊢
    exact ⟨cs, rfl, ⟨h.len, h.keys, h.ent, h.all, fun y he => by cases he; exact hg⟩⟩
  | some s0 =>
    have hm := getAt_mem hq
    obtain ⟨i, hi⟩ := List.mem_iff_getElem?.1 hm
    obtain ⟨_, hu⟩ := getAt_nodup h.keys hi
    have hp := del_some (a := a) hi rfl hu
    have hlt := (List.getElem?_eq_some_iff.1 hi).1
    have hlc : i < cs.length := by rw [h.len]; exact hlt
    have hci : cs[i] = [] := by
      rcases h.ent i a s0 _ hi (List.getElem?_eq_getElem hlc) with ⟨_, h3⟩ | ⟨h3, _⟩
      · exact h3
      · exact absurd rfl h3
    refine ⟨cs.eraseIdx i, ?_, ⟨by rw [hp, List.length_eraseIdx, List.length_eraseIdx, h.len], ?_, fun j y s' c' h1 h2 => ?_, fun y hy hs => ?_, fun y he => by cases he; exact hg⟩⟩
    · have e1 : ∀ (cs : List Hp) (i : Nat) (hi : i < cs.length), cs[i] = [] → (cs.eraseIdx i).flatten = cs.flatten := by
        intro cs
        induction cs with
        | nil => intro i hi; simp at hi
        | cons c r ih =>
          intro i hi he
          cases i with
          | zero => simp at he; simp [he]
          | succ i => simp at he; simp [ih i (by simpa using hi) he]
      exact e1 cs i hlc hci
    · rw [hp]
      exact (List.Sublist.map _ (List.eraseIdx_sublist ..)).nodup h.keys
    · rw [hp, List.getElem?_eraseIdx] at h1
      rw [List.getElem?_eraseIdx] at h2
      split at h1
      · rename_i hj
        rw [if_pos hj] at h2
        exact h.ent j y s' c' h1 h2
      · rename_i hj
        rw [if_neg hj] at h2
        exact h.ent (j + 1) y s' c' h1 h2
    · obtain ⟨s', hs'⟩ := h.all y hy hs
      refine ⟨s', ?_⟩
      unfold delAt
      rw [List.mem_filter]
      refine ⟨hs', ?_⟩
      simp
      intro e
      exact hy (by rw [e])

theorem Ents.close (h : Ents V D cs F (some a) (some s)) (hV : V b s c) : ∃ cs', (c ++ cs.flatten).Perm cs'.flatten ∧ Ents V D cs' (upd F a (some b)) none none := by
  have hm := getAt_mem (h.at_ a rfl)
  obtain ⟨i, hi⟩ := List.mem_iff_getElem?.1 hm
  obtain ⟨_, hu⟩ := getAt_nodup h.keys hi
  have hlt := (List.getElem?_eq_some_iff.1 hi).1
  have hlc : i < cs.length := by rw [h.len]; exact hlt
  have hci : cs[i] = [] := by
    rcases h.ent i a s _ hi (List.getElem?_eq_getElem hlc) with ⟨_, h3⟩ | ⟨h3, _⟩
    · exact h3
    · exact absurd rfl h3
  have hself : cs.set i [] = cs := by rw [← hci]; exact List.set_getElem_self hlc
  have hf := Go.Proofs.YtpjcfnnnciknmaaGreat.flat_put hlc c
  rw [hself] at hf
  refine ⟨cs.set i c, hf, ⟨by simp [h.len], h.keys, fun j y s' c' h1 h2 => .inr ⟨by simp, ?_⟩, fun y _ hs => ?_, by simp⟩⟩
  · rw [List.getElem?_set] at h2
    split at h2
    · rename_i hij
      subst hij
      cases h2
      rw [hi] at h1
      cases h1
      exact ⟨b, by simp [upd], hV⟩
    · rename_i hij
      rcases h.ent j y s' c' h1 h2 with ⟨h3, _⟩ | ⟨h3, b', h4, h5⟩
      · cases h3
        exact absurd (hu j _ h1 rfl).symm hij
      · refine ⟨b', ?_, h5⟩
        unfold upd
        rw [if_neg (fun e => h3 (by rw [e]))]
        exact h4
  · by_cases hy : a = y
    · subst hy; exact ⟨s, hm⟩
    · refine h.all y (fun e => hy (by simpa using e)) ?_
      unfold upd at hs
      rw [if_neg hy] at hs
      exact hs

theorem Ents.closeN (h : Ents V D cs F (some a) none) : Ents V D cs (upd F a none) none none := by
  have hno := getAt_none.1 (h.at_ a rfl)
  refine ⟨h.len, h.keys, fun j y s' c' h1 h2 => .inr ⟨by simp, ?_⟩, fun y _ hs => ?_, by simp⟩
  · have hy : a ≠ y := fun e => hno _ (List.mem_of_getElem? h1) e.symm
    rcases h.ent j y s' c' h1 h2 with ⟨h3, _⟩ | ⟨h3, b', h4, h5⟩
    · cases h3; exact absurd rfl hy
    · exact ⟨b', by unfold upd; rw [if_neg hy]; exact h4, h5⟩
  · unfold upd at hs
    split at hs
    · cases hs
    · rename_i hy
      exact h.all y (fun e => hy (by simpa using e)) hs

variable {P : Program} {kt : TypeId} {kf : α → Value} {vf : γ → Value} {o : Obj}
theorem MF.new : MF P kt kf vf V (.map #[] 0) [] (fun _ => none) := ⟨[], [], rfl, MapO.new, Ents.nil⟩
theorem MF.plain (h : MF P kt kf vf V o c F) : plainO o = true := by obtain ⟨D, cs, _, h, _⟩ := h; exact h.plain
theorem MF.openN (h : MF P kt kf vf V o c F) (hF : F a = none) : MX P kt kf vf V o c F a none := by
  obtain ⟨D, cs, rfl, h1, h2⟩ := h
  exact ⟨D, cs, rfl, h1, h2.openN hF⟩
theorem MF.openS (h : MF P kt kf vf V o c F) (hF : F a = some b) : ∃ s c1 c2, Cut c1 c c2 ∧ V b s c1 ∧ MX P kt kf vf V o c2 F a (some s) := by
  obtain ⟨D, cs, rfl, h1, h2⟩ := h
  obtain ⟨s, c1, cs', h3, h4, h5⟩ := h2.openS hF
  exact ⟨s, c1, _, h3, h4, D, cs', rfl, h1, h5⟩
theorem MX.close {c1 : Hp} (h : MX P kt kf vf V o c F a (some s)) (hV : V b s c1) : ∃ c', (c1 ++ c).Perm c' ∧ MF P kt kf vf V o c' (upd F a (some b)) := by
  obtain ⟨D, cs, rfl, h1, h2⟩ := h
  obtain ⟨cs', h3, h4⟩ := h2.close hV
  exact ⟨_, h3, D, cs', rfl, h1, h4⟩
theorem MX.closeN (h : MX P kt kf vf V o c F a none) : MF P kt kf vf V o c (upd F a none) := by
  obtain ⟨D, cs, rfl, h1, h2⟩ := h
  exact ⟨D, cs, rfl, h1, h2.closeN⟩
theorem MF.congr {F' : α → Option β} (h : MF P kt kf vf V o c F) (he : ∀ x, F x = F' x) : MF P kt kf vf V o c F' := by
  have : F = F' := funext he
  rwa [← this]

/-! ### The steps -/
variable {Q : Ending → World → Prop} {ρ : Lv} {w0 w : World} {m m' : Hp} {bk : Nat} {t e ty : TypeId}
theorem f_look1 {k : Value → T} {z : Value} (H : Has w0 w m) (hp : Pick (bk, o) m m') (h : MX P kt kf vf V o c F a q) (K : Maps.Keyed P kt) (ht : P.underlying t = some (.map kt e)) (hz : (zeroValue e).run P w = .ok z w)
    (hinj : ∀ x, kf x = kf a → x = a) {l : Lit} (hkey : keyOf P kt (kf a) = some l) (hk : (k ((q.map vf).getD z)).sem P Q ρ w) : (T.run (Instr.lookup t (.map (some bk)) (kf a) false) k).sem P Q ρ w := by
  obtain ⟨D, cs, rfl, h1, h2⟩ := h
  refine h_look1 H hp h1 K ht hz (fun p _ => hinj _) hkey ?_
  rw [h2.at_ a rfl]
  exact hk
theorem f_look2 {k : Value → T} {z : Value} (H : Has w0 w m) (hp : Pick (bk, o) m m') (h : MX P kt kf vf V o c F a q) (K : Maps.Keyed P kt) (ht : P.underlying t = some (.map kt e)) (hz : (zeroValue e).run P w = .ok z w)
    (hinj : ∀ x, kf x = kf a → x = a) {l : Lit} (hkey : keyOf P kt (kf a) = some l) (hk : (k (.tuple #[(q.map vf).getD z, .bool q.isSome])).sem P Q ρ w) : (T.run (Instr.lookup t (.map (some bk)) (kf a) true) k).sem P Q ρ w := by
  obtain ⟨D, cs, rfl, h1, h2⟩ := h
  refine h_look2 H hp h1 K ht hz (fun p _ => hinj _) hkey ?_
  rw [h2.at_ a rfl]
  exact hk
theorem f_put {k : Value → T} {s : γ} (H : Has w0 w m) (hp : Pick (bk, o) m m') (h : MX P kt kf vf V o c F a q) (K : Maps.Keyed P kt) (ht : P.underlying t = some (.map kt e))
    (hinj : ∀ x, kf x = kf a → x = a) {l : Lit} (hkey : keyOf P kt (kf a) = some l)
    (hk : ∀ o' w', MX P kt kf vf V o' c F a (some s) → Has w0 w' ((bk, o') :: m') → (k undef).sem P Q ρ w') : (T.run (muV t (.map (some bk)) (kf a) (vf s)) k).sem P Q ρ w := by
  obtain ⟨D, cs, rfl, h1, h2⟩ := h
  refine h_put H hp h1 K ht (fun p _ => hinj _) hkey fun o' w' h3 H' => ?_
  obtain ⟨cs', h4, h5⟩ := h2.put s
  exact hk o' w' ⟨_, cs', h4.symm, h3, h5⟩ H'
theorem f_entry {k : Value → T} {z : γ} (H : Has w0 w m) (hp : Pick (bk, o) m m') (h : MX P kt kf vf V o c F a q) (K : Maps.Keyed P kt) (ht : P.underlying t = some (.map kt e)) (hz : (zeroValue e).run P w = .ok (vf z) w)
    (hinj : ∀ x, kf x = kf a → x = a) {l : Lit} (hkey : keyOf P kt (kf a) = some l)
    (hk : ∀ n o' w', MX P kt kf vf V o' c F a (some (q.getD z)) → EntO o' n (kf a) → Has w0 w' ((bk, o') :: m') → (k (.tuple #[vf (q.getD z), .int .i64 n])).sem P Q ρ w') :
    (T.run (Instr.mapEntry t (.map (some bk)) (kf a)) k).sem P Q ρ w := by
  obtain ⟨D, cs, rfl, h1, h2⟩ := h
  refine h_entry2 H hp h1 K ht hz (fun p _ => hinj _) hkey fun n o' w' h3 h4 H' => ?_
  rw [h2.at_ a rfl] at h3 ⊢
  obtain ⟨cs', h5, h6⟩ := h2.put (q.getD z)
  exact hk n o' w' ⟨_, cs', h5.symm, h3, h6⟩ h4 H'
theorem f_estore {k : Value → T} {s : γ} {n : Int} (H : Has w0 w m) (hp : Pick (bk, o) m m') (h : MX P kt kf vf V o c F a q) (hE : EntO o n (kf a)) (hinj : ∀ x, kf x = kf a → x = a)
    (hk : ∀ o' w', MX P kt kf vf V o' c F a (some s) → Has w0 w' ((bk, o') :: m') → (k undef).sem P Q ρ w') : (T.run (esV t (.map (some bk)) (.int .i64 n) (vf s)) k).sem P Q ρ w := by
  obtain ⟨D, cs, rfl, h1, h2⟩ := h
  refine h_estore H hp h1 hE (fun p _ => hinj _) fun o' w' h3 H' => ?_
  obtain ⟨cs', h4, h5⟩ := h2.put s
  exact hk o' w' ⟨_, cs', h4.symm, h3, h5⟩ H'
theorem f_delete {k : Value → T} {tk : TypeId} (H : Has w0 w m) (hp : Pick (bk, o) m m') (h : MX P kt kf vf V o c F a q) (K : Maps.Keyed P kt) (ht : P.underlying t = some (.map kt e))
    (hinj : ∀ x, kf x = kf a → x = a) {l : Lit} (hkey : keyOf P kt (kf a) = some l)
    (hk : ∀ o' w', MX P kt kf vf V o' c F a none → Has w0 w' ((bk, o') :: m') → (k (.tuple #[])).sem P Q ρ w') : (T.run (biV .delete #[t, tk] ty #[.map (some bk), kf a]) k).sem P Q ρ w := by
  obtain ⟨D, cs, rfl, h1, h2⟩ := h
  refine h_delete H hp h1 K ht (fun p _ => hinj _) hkey fun o' w' h3 H' => ?_
  obtain ⟨cs', h4, h5⟩ := h2.del
  exact hk o' w' ⟨_, cs', h4.symm, h3, h5⟩ H'
end
end Go.Proofs.YtpjcfnnnciknmaaGreat.Tr
