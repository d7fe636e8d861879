/- Blocks of one's own, as a list: what a walk holds of memory behind a world where it began; and a tree's steps over it. -/
import Derived.Test.YtihipcofjpnfbaaGreatDoorMap
import Derived.Test.YtihipcofjpnfbaaGreatDoorArgs
import Derived.Laws.Small
import Derived.Laws.CopyRow
namespace Go.Proofs.YtihipcofjpnfbaaGreatDoor.Tr
open Go
set_option linter.unusedSimpArgs false
set_option linter.unusedVariables false
set_option linter.unusedSectionVars false
open Go.RowKit

abbrev Hp := List (Nat × Obj)
def cl (b : Nat) (ty : TypeId) (l : List Value) : Nat × Obj := (b, .cells ⟨l⟩ ty (0, 0))
def plainO : Obj → Bool
  | .cells .. => true
  | .map .. => true
  | .mapIter .. => true
  | _ => false

/-- Since w0 nothing that stood has turned; m are blocks made since, each as told. -/
structure Has (w0 w : World) (m : Hp) : Prop where
  base : Fr [] w0 w
  at_ : ∀ p ∈ m, w.heap[p.1]? = some p.2
  new : ∀ p ∈ m, w0.heap.size ≤ p.1
  nodup : (m.map (·.1)).Nodup

/-- What other loops' records cannot be. -/
def Fit (n : Nat) (m : Hp) : Prop := ∀ p ∈ m, plainO p.2 = true ∨ p.1 < n

def Pick (e : Nat × Obj) (m m' : Hp) : Prop := m.Perm (e :: m')
def Cut (c m m' : Hp) : Prop := m.Perm (c ++ m')
def Sb (m2 m : Hp) : Prop := ∃ m3, m.Perm (m2 ++ m3)

section
variable {e x : Nat × Obj} {m m' m2 c d : Hp}
theorem pick_head : Pick e (e :: m) m := List.Perm.refl _
theorem pick_tail (h : Pick e m m') : Pick e (x :: m) (x :: m') := (List.Perm.cons x h).trans (List.Perm.swap e x m')
theorem pick_app (h : Pick e m m') : Pick e (c ++ m) (c ++ m') := (List.Perm.append_left c h).trans List.perm_middle
theorem pick_in (h : Pick e c d) : Pick e (c ++ m) (d ++ m) := by
  have := List.Perm.append_right m h
  simpa [Pick] using this
theorem cut_head : Cut c (c ++ m) m := List.Perm.refl _
theorem cut_all : Cut m m [] := by unfold Cut; rw [List.append_nil]
theorem cut_app' (h : Cut c m m') : Cut c (m ++ d) (m' ++ d) := by
  have := List.Perm.append_right d h
  simpa [Cut] using this
theorem cut_nil : Cut [] m m := List.Perm.refl _
theorem cut_tail (h : Cut c m m') : Cut c (x :: m) (x :: m') := (List.Perm.cons x h).trans List.perm_middle.symm
theorem cut_app (h : Cut c m m') : Cut c (d ++ m) (d ++ m') := by
  unfold Cut at *
  refine (List.Perm.append_left d h).trans ?_
  rw [← List.append_assoc, ← List.append_assoc]
  exact List.Perm.append_right m' List.perm_append_comm
theorem cut_one (h : Pick e m m') : Cut [e] m m' := h
theorem cut_cons (h : Pick e m m') (h2 : Cut c m' m2) : Cut (e :: c) m m2 := h.trans (List.Perm.cons e h2)
theorem cut_two (h : Cut c m m') (h2 : Cut d m' m2) : Cut (c ++ d) m m2 := by
  unfold Cut at *
  rw [List.append_assoc]
  exact h.trans (List.Perm.append_left c h2)
theorem sb_refl : Sb m m := ⟨[], by rw [List.append_nil]⟩
theorem sb_nil : Sb [] m := ⟨m, List.Perm.refl _⟩
theorem sb_cons (h : Pick e m m') (h2 : Sb m2 m') : Sb (e :: m2) m := by
  obtain ⟨m3, h3⟩ := h2
  exact ⟨m3, h.trans (List.Perm.cons e h3)⟩
theorem sb_app (h : Cut c m m') (h2 : Sb m2 m') : Sb (c ++ m2) m := by
  obtain ⟨m3, h3⟩ := h2
  refine ⟨m3, ?_⟩
  rw [List.append_assoc]
  exact h.trans (List.Perm.append_left c h3)
theorem sb_one (h : Cut c m m') : Sb c m := ⟨m', h⟩
theorem sb_eq (h : m = m2) : Sb m2 m := by subst h; exact sb_refl
end

section
variable {w0 w w' : World} {b r : Nat} {ty : TypeId} {l : List Value} {F : List Nat} {m m' c : Hp} {o o' : Obj} {e : Nat × Obj}

theorem Has.init (w : World) : Has w w [] := ⟨Fr.refl _ _, by simp, by simp, by simp⟩
theorem Has.perm (H : Has w0 w m) (h : m.Perm m') : Has w0 w m' :=
  ⟨H.base, fun p hp => H.at_ p (h.mem_iff.2 hp), fun p hp => H.new p (h.mem_iff.2 hp), (h.map _).nodup_iff.1 H.nodup⟩
theorem Has.left (H : Has w0 w (c ++ m)) : Has w0 w c :=
  ⟨H.base, fun p hp => H.at_ p (by simp [hp]), fun p hp => H.new p (by simp [hp]), by have := H.nodup; rw [List.map_append] at this; exact (List.nodup_append.1 this).1⟩
theorem Has.right (H : Has w0 w (c ++ m)) : Has w0 w m :=
  ⟨H.base, fun p hp => H.at_ p (by simp [hp]), fun p hp => H.new p (by simp [hp]), by have := H.nodup; rw [List.map_append] at this; exact (List.nodup_append.1 this).2.1⟩
theorem Has.drop (H : Has w0 w (e :: m)) : Has w0 w m := Has.right (c := [e]) H
theorem Has.sub (H : Has w0 w m) {m2 : Hp} (h : Sb m2 m) : Has w0 w m2 := by
  obtain ⟨m3, h⟩ := h
  exact (H.perm h).left
theorem Has.pull (H : Has w0 w m) (h : Pick e m m') : Has w0 w (e :: m') := H.perm h
theorem Has.pullc (H : Has w0 w m) (h : Cut c m m') : Has w0 w (c ++ m') := H.perm h
theorem Has.get (H : Has w0 w m) (h : Pick e m m') : w.heap[e.1]? = some e.2 := (H.pull h).at_ e (by simp)
theorem Has.cells (H : Has w0 w m) (h : Pick (cl b ty l) m m') : Cells w b ty l := H.get h
theorem Has.lt (H : Has w0 w m) {p : Nat × Obj} (hp : p ∈ m) : p.1 < w.heap.size := (Array.getElem?_eq_some_iff.1 (H.at_ p hp)).1
theorem Has.plt (H : Has w0 w m) (h : Pick e m m') : e.1 < w.heap.size := (H.pull h).lt (by simp)

theorem Has.fr (H : Has w0 w m) (hf : Fr F w w') (h0 : ∀ x ∈ F, w0.heap.size ≤ x) (h : ∀ x ∈ F, ∀ p ∈ m, p.1 ≠ x) : Has w0 w' m :=
  ⟨H.base.trans' hf (fun x hx => .inr (h0 x hx)), fun p hp => by rw [hf.block p.1 (H.lt hp) (fun hF => h _ hF p hp rfl)]; exact H.at_ p hp, H.new, H.nodup⟩
theorem Has.fr0 (H : Has w0 w m) (hf : Fr [] w w') : Has w0 w' m := H.fr hf (by simp) (by simp)
theorem Has.aux (H : Has w0 w m) (hf : Fr F w w') (ha : Aux w F) {n : Nat} (hn : ∀ x ∈ F, n ≤ x) (h0 : w0.heap.size ≤ n) (hfit : Fit n m) : Has w0 w' m :=
  H.fr hf (fun x hx => Nat.le_trans h0 (hn x hx)) (fun x hx p hp he => by
    have h1 := H.at_ p hp
    rcases hfit p hp with h2 | h2
    · rw [he] at h1
      rcases ha x hx with ⟨r, hr⟩ | ⟨r, hr⟩ <;> (unfold ObjAt at hr; rw [hr] at h1; simp only [Option.some.injEq] at h1; rw [← h1] at h2; cases h2)
    · have := hn x hx
      omega)

theorem Has.add (H : Has w0 w m) (hf : Fr [] w w') (hr : w.heap.size ≤ r) (ho : w'.heap[r]? = some o) : Has w0 w' ((r, o) :: m) := by
  have H' := H.fr0 hf
  refine ⟨H'.base, ?_, ?_, ?_⟩
  · intro p hm; rcases List.mem_cons.1 hm with rfl | hm
    · exact ho
    · exact H'.at_ p hm
  · intro p hm; rcases List.mem_cons.1 hm with rfl | hm
    · exact Nat.le_trans H.base.size hr
    · exact H'.new p hm
  · rw [List.map_cons, List.nodup_cons]
    refine ⟨fun hm => ?_, H'.nodup⟩
    obtain ⟨p, hm, he⟩ := List.mem_map.1 hm
    have := H.lt hm
    simp only at he
    omega
theorem Has.addc (H : Has w0 w m) (hf : Fr [] w w') (hr : w.heap.size ≤ r) (ho : Cells w' r ty l) : Has w0 w' (cl r ty l :: m) := H.add hf hr ho

theorem Has.upd (H : Has w0 w m) (h : Pick (b, o) m m') (hf : Fr [b] w w') (ho : w'.heap[b]? = some o') : Has w0 w' ((b, o') :: m') := by
  have H1 := H.pull h
  have hn := H1.nodup
  rw [List.map_cons, List.nodup_cons] at hn
  have H' : Has w0 w' m' := H1.drop.fr hf (fun x hx => by simp at hx; subst hx; exact H1.new (x, o) (by simp)) (fun x hx p hp he => by
    simp at hx
    subst hx
    exact hn.1 (List.mem_map.2 ⟨p, hp, he⟩))
  refine ⟨H'.base, ?_, ?_, ?_⟩
  · intro p hm; rcases List.mem_cons.1 hm with rfl | hm
    · exact ho
    · exact H'.at_ p hm
  · intro p hm; rcases List.mem_cons.1 hm with rfl | hm
    · exact H1.new (b, o) (by simp)
    · exact H'.new p hm
  · rw [List.map_cons, List.nodup_cons]; exact ⟨hn.1, H'.nodup⟩
theorem Has.updc {l' : List Value} {ty' : TypeId} (H : Has w0 w m) (h : Pick (cl b ty l) m m') (hf : Fr [b] w w') (ho : Cells w' b ty' l') : Has w0 w' (cl b ty' l' :: m') := H.upd h hf ho

theorem Has.cell0 (H : Has w0 w m) {a : Addr} {v : Value} (h : w0.cell? a = some v) : w.cell? a = some v := by
  have hlt : a.block < w0.heap.size := by
    rcases Nat.lt_or_ge a.block w0.heap.size with h' | h'
    · exact h'
    · unfold World.cell? at h
      rw [Array.getElem?_eq_none h'] at h
      simp at h
  rw [World.cell?_of_block (w := w0) (H.base.block _ hlt (by simp))]
  exact h
theorem Has.rows (H : Has w0 w m) {a : Option Addr} {sz : Nat} {rows : List (List Value)} (h : RowsAt w0 a sz rows) : RowsAt w a sz rows := h.fr H.base
end

section
variable {P : Program} {Q : Ending → World → Prop} {ρ : Lv} {w0 w : World} {b off : Nat} {ty : TypeId} {l : List Value} {m m' : Hp}

theorem h_ldI (H : Has w0 w m) (h : Pick (cl b ty l) m m') {kd : IntKind} {n : Int} {k : Int → T} (hi : l[off]? = some (.int kd n)) (hk : (k n).sem P Q ρ w) : (T.ldI kd b off k).sem P Q ρ w := s_ldI (H.cells h) hi hk
theorem h_ldB (H : Has w0 w m) (h : Pick (cl b ty l) m m') {n : Bool} {k : Bool → T} (hi : l[off]? = some (.bool n)) (hk : (k n).sem P Q ρ w) : (T.ldB b off k).sem P Q ρ w := s_ldB (H.cells h) hi hk
theorem h_ldP (H : Has w0 w m) (h : Pick (cl b ty l) m m') {n : Option Addr} {k : Option Addr → T} (hi : l[off]? = some (.pointer n)) (hk : (k n).sem P Q ρ w) : (T.ldP b off k).sem P Q ρ w := s_ldP (H.cells h) hi hk
theorem h_ldS (H : Has w0 w m) (h : Pick (cl b ty l) m m') {o : Option Addr} {n c : Nat} {k : Option Addr → Nat → Nat → T} (hi : l[off]? = some (.slice o n c)) (hk : (k o n c).sem P Q ρ w) : (T.ldS b off k).sem P Q ρ w := s_ldS (H.cells h) hi hk
theorem h_ldM (H : Has w0 w m) (h : Pick (cl b ty l) m m') {n : Option Nat} {k : Option Nat → T} (hi : l[off]? = some (.map n)) (hk : (k n).sem P Q ρ w) : (T.ldM b off k).sem P Q ρ w := s_ldM (H.cells h) hi hk
theorem h_ldT (H : Has w0 w m) (h : Pick (cl b ty l) m m') {n : ByteArray} {k : ByteArray → T} (hi : l[off]? = some (.string n)) (hk : (k n).sem P Q ρ w) : (T.ldT b off k).sem P Q ρ w := s_ldT (H.cells h) hi hk
theorem h_ldV (H : Has w0 w m) (h : Pick (cl b ty l) m m') {n : Value} {k : Value → T} (hi : l[off]? = some n) (hk : (k n).sem P Q ρ w) : (T.ldV b off k).sem P Q ρ w := s_ldV (H.cells h) hi hk
theorem h_st (H : Has w0 w m) (h : Pick (cl b ty l) m m') {v : Value} {x : T} (hi : off < l.length) (hv : v.oneCell' = true) (hk : ∀ w', Has w0 w' (cl b ty (l.set off v) :: m') → x.sem P Q ρ w') : (T.st b off v x).sem P Q ρ w :=
  s_st (H.cells h) hi hv fun w' hz hf hc => hk w' (H.updc h hf hc)
theorem h_new (H : Has w0 w m) {cs : Array Value} {k : Nat → T} (hk : ∀ r w', Has w0 w' (cl r ty cs.toList :: m) → (k r).sem P Q ρ w') : (T.new (.cells cs ty) k).sem P Q ρ w :=
  s_new fun r w' hr hz hf hc => hk r w' (H.addc hf (by omega) hc)
theorem h_newMap (H : Has w0 w m) {k : Nat → T} (hk : ∀ r w', Has w0 w' ((r, .map #[] 0) :: m) → (k r).sem P Q ρ w') : (T.new (.map #[] 0) k).sem P Q ρ w :=
  s_newMap fun r w' hr hz hf hc => hk r w' (H.add hf (by omega) hc)
theorem h_drew (H : Has w0 w m) {x : T} (hk : ∀ w', Has w0 w' m → x.sem P Q ρ w') : (T.drew x).sem P Q ρ w :=
  s_drew fun w' _ hf => hk w' (H.fr0 hf)
theorem hc_cons (H : Has w0 w m) (h : Pick (cl b ty l) m m') {v : Value} {r : List (Addr × Value)} (hi : l[off]? = some v) (hr : AllCells w r) : AllCells w ((⟨b, off, none⟩, v) :: r) := c_cons (H.cells h) hi hr
end

section
variable {P : Program} {Q : Ending → World → Prop} {ρ : Lv} {w : World}
theorem s_max {ts : Array TypeId} {t : TypeId} {kd kd' : IntKind} {x y : Int} {k : Value → T} (hk : (k (.int kd (max x y))).sem P Q ρ w) : (T.run (biV .max ts t #[.int kd x, .int kd' y]) k).sem P Q ρ w := by
  refine ⟨_, w, run_max_int2 w ts t kd kd' x y, ?_⟩
  have : (if y > x then y else x) = max x y := by omega
  rw [this]
  exact hk
theorem s_min {ts : Array TypeId} {t : TypeId} {kd kd' : IntKind} {x y : Int} {k : Value → T} (hk : (k (.int kd (min x y))).sem P Q ρ w) : (T.run (biV .min ts t #[.int kd x, .int kd' y]) k).sem P Q ρ w := by
  refine ⟨_, w, run_min_int2 w ts t kd kd' x y, ?_⟩
  have : (if y < x then y else x) = min x y := by omega
  rw [this]
  exact hk
end

/-! ### Slices of one's own -/

/-- The slice v owns n elements' cells xs; c is its block, if there is one. -/
def OwnC (e : TypeId) (sz : Nat) (v : Value) (n : Nat) (xs : List Value) (c : Hp) : Prop :=
  xs.length = n * sz ∧ ((v = .slice none 0 0 ∧ n = 0 ∧ c = []) ∨
    ∃ g cap sp, v = .slice (some ⟨g, 0, none⟩) n cap ∧ c = [cl g e (xs ++ sp)] ∧ n ≤ cap ∧ cap ≤ maxLen ∧ (xs ++ sp).length = cap * sz)

section
variable {P : Program} {Q : Ending → World → Prop} {ρ : Lv} {w0 w w' : World} {e t : TypeId} {z : Value} {sz bytes n n' : Nat} {v v' : Value} {xs xs' : List Value} {m m' c : Hp}

theorem OwnC.nil : OwnC e sz (.slice none 0 0) 0 [] [] := ⟨by simp, .inl ⟨rfl, rfl, rfl⟩⟩
theorem OwnC.len (h : OwnC e sz v n xs c) : xs.length = n * sz := h.1
theorem OwnC.slice (h : OwnC e sz v n xs c) : ∃ o cap, v = .slice o n cap := by
  rcases h.2 with ⟨rfl, rfl, _⟩ | ⟨g, cap, sp, rfl, _⟩
  · exact ⟨_, _, rfl⟩
  · exact ⟨_, _, rfl⟩
theorem OwnC.pos (h : OwnC e sz v n xs c) (hn : 0 < n) : ∃ g cap sp, v = .slice (some ⟨g, 0, none⟩) n cap ∧ c = [cl g e (xs ++ sp)] ∧ n ≤ cap ∧ cap ≤ maxLen ∧ (xs ++ sp).length = cap * sz := by
  rcases h.2 with ⟨_, h0, _⟩ | h
  · omega
  · exact h
theorem OwnC.own (h : OwnC e sz v n xs c) (H : Has w0 w (c ++ m)) : Own w e sz v n xs := by
  refine ⟨h.1, ?_⟩
  rcases h.2 with ⟨rfl, rfl, rfl⟩ | ⟨g, cap, sp, rfl, rfl, h1, h2, h3⟩
  · exact .inl ⟨rfl, rfl⟩
  · refine .inr ⟨g, cap, ⟨xs ++ sp⟩, rfl, Nat.zero_le _, H.cells (m' := m) pick_head, h1, h2, h3, ?_⟩
    simp [← h.1]
theorem OwnC.of (h : Own w e sz v n xs) : ∃ c, OwnC e sz v n xs c ∧ (∀ p ∈ c, w.heap[p.1]? = some p.2) ∧ c.map (·.1) = v.ownBlock.toList ∧ ∀ p ∈ c, plainO p.2 = true := by
  rcases h.2 with ⟨rfl, rfl⟩ | ⟨g, cap, cur, rfl, _, hg, h1, h2, h3, h4⟩
  · exact ⟨[], ⟨h.1, .inl ⟨rfl, rfl, rfl⟩⟩, by simp, rfl, by simp⟩
  · have hx : xs ++ cur.toList.drop (n * sz) = cur.toList := by rw [← h4]; exact List.take_append_drop _ _
    refine ⟨[cl g e (xs ++ cur.toList.drop (n * sz))], ⟨h.1, .inr ⟨g, cap, _, rfl, rfl, h1, h2, by rw [hx]; simpa using h3⟩⟩, ?_, rfl, by simp [cl, plainO]⟩
    intro p hp
    simp at hp
    subst hp
    rw [hx]
    exact hg

/-- A slice grown in its block, or into a new one. -/
theorem Has.grow (H : Has w0 w (c ++ m)) (ho : OwnC e sz v n xs c) (hf : Fr v.ownBlock.toList w w') (hown : Own w' e sz v' n' xs') (hb : v'.ownBlock = v.ownBlock ∨ v'.ownBlock = some w.heap.size) :
    ∃ c', OwnC e sz v' n' xs' c' ∧ Has w0 w' (c' ++ m) := by
  obtain ⟨c', h1, h2, h3, h4⟩ := OwnC.of hown
  refine ⟨c', h1, ?_⟩
  have hkeys : v.ownBlock.toList = c.map (·.1) := by
    rcases ho.2 with ⟨rfl, rfl, rfl⟩ | ⟨g, cap, sp, rfl, rfl, _⟩ <;> rfl
  have hn := H.nodup
  rw [List.map_append, List.nodup_append] at hn
  have Hm : Has w0 w' m := H.right.fr hf (fun x hx => by
    rw [hkeys] at hx
    obtain ⟨p, hp, rfl⟩ := List.mem_map.1 hx
    exact H.new p (by simp [hp])) (fun x hx p hp he => by
    rw [hkeys] at hx
    exact hn.2.2 x hx p.1 (List.mem_map.2 ⟨p, hp, rfl⟩) he.symm)
  rcases hc' : v'.ownBlock with _ | g
  · rw [hc'] at h3
    have : c' = [] := by simpa using h3
    subst this
    exact Hm
  · rw [hc'] at h3
    obtain ⟨p, rfl⟩ : ∃ p, c' = [p] := by
      cases c' with
      | nil => simp at h3
      | cons p r => cases r with
        | nil => exact ⟨p, rfl⟩
        | cons q r => simp at h3
    have hp1 : p.1 = g := by simpa using h3
    have hold : (∃ q, c = [q] ∧ q.1 = g) ∨ g = w.heap.size := by
      rcases hb with hb | hb
      · rw [hc'] at hb
        rw [← hb] at hkeys
        left
        cases c with
        | nil => simp at hkeys
        | cons q r => cases r with
          | nil => exact ⟨q, rfl, by simpa using hkeys.symm⟩
          | cons q2 r => simp at hkeys
      · rw [hc'] at hb
        right
        simpa using hb
    refine ⟨Hm.base, ?_, ?_, ?_⟩
    · intro q hq; rcases List.mem_append.1 hq with hq | hq
      · exact h2 q hq
      · exact Hm.at_ q hq
    · intro q hq; rcases List.mem_append.1 hq with hq | hq
      · simp at hq
        subst hq
        rcases hold with ⟨q', rfl, hq'⟩ | hg
        · rw [hp1, ← hq']; exact H.new q' (by simp)
        · rw [hp1, hg]; exact H.base.size
      · exact Hm.new q hq
    · rw [List.map_append, List.nodup_append]
      refine ⟨by simp, Hm.nodup, ?_⟩
      intro a ha d hd
      simp at ha
      subst ha
      rintro rfl
      rcases hold with ⟨q', rfl, hq'⟩ | hg
      · exact hn.2.2 q'.1 (by simp) p.1 hd (by omega)
      · obtain ⟨q, hq, he⟩ := List.mem_map.1 hd
        have := H.right.lt hq
        omega

theorem h_app {ty : TypeId} {k : Value → T} (E : Elem P t e z sz bytes) (H : Has w0 w m) (hp : Cut c m m') (hown : OwnC e sz v n xs c) {a : Addr} {j q : Nat} {news : List Value} (hl : news.length = j * sz) (hnews : Reads w a news) (h1 : ∀ u ∈ news, u.oneCell' = true)
    (hbytes : (n + j) * bytes ≤ 140737488355328) (hmax : n + j ≤ 140737488355328)
    (hk : ∀ v' c' w', OwnC e sz v' (n + j) (xs ++ news) c' → Has w0 w' (c' ++ m') → (v' = .slice none 0 0 ↔ v = .slice none 0 0 ∧ j = 0) → (k v').sem P Q ρ w') :
    (T.run (biV .append #[t, t] ty #[v, .slice (some a) j q]) k).sem P Q ρ w :=
  s_app E (hown.own (H.pullc hp)) hl hnews h1 hbytes hmax fun v' w' ho hf hb hn => by
    obtain ⟨c', h1, h2⟩ := (H.pullc hp).grow hown hf ho hb
    exact hk v' c' w' h1 h2 hn
theorem h_appNil {ty : TypeId} {q : Nat} {k : Value → T} (E : Elem P t e z sz bytes) (H : Has w0 w m) (hp : Cut c m m') (hown : OwnC e sz v n xs c) (hk : (k v).sem P Q ρ w) :
    (T.run (biV .append #[t, t] ty #[v, .slice none 0 q]) k).sem P Q ρ w := s_appNil E (hown.own (H.pullc hp)) hk

/-- append of one element that lies in a block of one's own. -/
theorem h_app1 {ty u : TypeId} {k : Value → T} {r q : Nat} {l : List Value} {m1 : Hp} (E : Elem P t e z sz bytes) (H : Has w0 w m) (hp : Cut c m m') (hown : OwnC e sz v n xs c) (hr : Pick (cl r u l) m m1) (hl : l.length = sz) (h1 : ∀ u ∈ l, u.oneCell' = true)
    (hbytes : (n + 1) * bytes ≤ 140737488355328) (hmax : n + 1 ≤ 140737488355328)
    (hk : ∀ v' c' w', OwnC e sz v' (n + 1) (xs ++ l) c' → Has w0 w' (c' ++ m') → (k v').sem P Q ρ w') :
    (T.run (biV .append #[t, t] ty #[v, .slice (some ⟨r, 0, none⟩) 1 q]) k).sem P Q ρ w :=
  h_app E H hp hown (by simp [hl]) (H.cells hr).reads h1 hbytes hmax fun v' c' w' a b _ => hk v' c' w' a b

theorem h_make {kl kc : IntKind} {j : Int} {k : Value → T} (E : Elem P t e z sz bytes) (H : Has w0 w m) (h0 : 0 ≤ j) (hbytes : bytes * j.toNat ≤ 281474976710656) (hmax : j.toNat ≤ 140737488355328)
    (hk : ∀ r w', Has w0 w' (cl r e (madeCells z.cells (j.toNat * sz)).toList :: m) → (k (.slice (some ⟨r, 0, none⟩) j.toNat j.toNat)).sem P Q ρ w') :
    (T.run (Instr.makeSlice t (.int kl j) (.int kc j)) k).sem P Q ρ w :=
  s_make E h0 hbytes hmax fun r w' hr hz hf hc => hk r w' (H.addc hf (by omega) hc)
end

section
variable {P : Program} {Q : Ending → World → Prop} {ρ : Lv} {w0 w : World} {g o n c : Nat} {e t ty : TypeId} {l : List Value} {z : Value} {m m' : Hp}
theorem Has.join {c : Hp} {w' : World} (H : Has w0 w m) (h : Has w w' c) : Has w0 w' (c ++ m) := by
  have H' := H.fr0 h.base
  refine ⟨H'.base, ?_, ?_, ?_⟩
  · intro p hp
    rcases List.mem_append.1 hp with hp | hp
    · exact h.at_ p hp
    · exact H'.at_ p hp
  · intro p hp
    rcases List.mem_append.1 hp with hp | hp
    · exact Nat.le_trans H.base.size (h.new p hp)
    · exact H'.new p hp
  · rw [List.map_append, List.nodup_append]
    refine ⟨h.nodup, H'.nodup, ?_⟩
    intro a ha b hb
    obtain ⟨p, hp, rfl⟩ := List.mem_map.1 ha
    obtain ⟨q, hq, rfl⟩ := List.mem_map.1 hb
    have h1 := h.new p hp
    have h2 := H.lt hq
    omega
/-- clear of a slice that lies in a block. -/
theorem s_clear {base : Option Addr} {k : Value → T} (hc : Cells w g e l) (ht : P.underlying t = some (.slice e)) (hz : ∀ w, (zeroValue e).run P w = .ok z w) (h1 : ∀ u ∈ z.cells, u.oneCell' = true) (hpos : 0 < z.cells.size) (hb : base = some ⟨g, o, none⟩) (hn : o + n * z.cells.size ≤ l.length)
    (hk : ∀ l' w', Fr [g] w w' → Cells w' g e l' → l'.length = l.length → (∀ i, i < o ∨ n = 0 → l'[i]? = l[i]?) → (k (.tuple #[])).sem P Q ρ w') :
    (T.run (biV .clear #[t] ty #[.slice base n c]) k).sem P Q ρ w := by
  subst hb
  cases n with
  | zero =>
    refine ⟨.tuple #[], w, ?_, hk l w (Fr.refl _ _) hc rfl (fun _ _ => rfl)⟩
    simp [biV, Builtin.clear_, run_underlying ht]
  | succ n =>
    have hlen : (Builtin.zeroCells z.cells (n + 1)).toList.length = (n + 1) * z.cells.size := by simp [Builtin.zeroCells]
    have hone : ∀ u ∈ (Builtin.zeroCells z.cells (n + 1)).toList, u.oneCell' = true := by
      intro u hu
      simp only [Builtin.zeroCells, Array.toList_map, List.mem_map] at hu
      obtain ⟨i, _, rfl⟩ := hu
      have hlt : i % z.cells.size < z.cells.size := Nat.mod_lt _ hpos
      rw [getElem!_pos z.cells _ hlt]
      exact h1 _ (Array.getElem_mem hlt)
    have hst := run_storeCells_at P g o e (Builtin.zeroCells z.cells (n + 1)).toList 0 ⟨l⟩ w hc (by rw [hlen]; simpa using hn) hone
    simp only [Nat.add_zero] at hst
    generalize hl' : (l.take o ++ (Builtin.zeroCells z.cells (n + 1)).toList ++ l.drop (o + (Builtin.zeroCells z.cells (n + 1)).toList.length)) = l' at hst
    have hll : l'.length = l.length := by
      rw [← hl']
      simp only [List.length_append, List.length_take, List.length_drop, hlen]
      omega
    refine ⟨.tuple #[], w.setRow g l'.toArray, ?_, hk l' _ ?_ ?_ hll ?_⟩
    · simp [biV, Builtin.clear_, run_underlying ht, hz, hst]
    · exact ⟨rfl, rfl, rfl, by simp [World.setRow], fun k hk hf => by
        simp only [World.setRow, Array.getElem?_modify]
        rw [if_neg (by intro e; apply hf; simp [e])]⟩
    · unfold Cells at hc ⊢
      simp only [World.setRow, Array.getElem?_modify, hc]
      simp
    · intro i hi
      have hi : i < o := by rcases hi with hi | hi <;> omega
      rw [← hl', List.append_assoc, List.getElem?_append_left (by simp; omega), List.getElem?_take_of_lt hi]
end

/-! ### Rows of k cells, one behind the other -/
section
variable {k : Nat} {rows : List (List Value)} {r : List Value} {i j : Nat} {v : Value}
theorem flat_len (hk : ∀ r ∈ rows, r.length = k) : rows.flatten.length = rows.length * k := by
  induction rows with
  | nil => simp
  | cons a l ih =>
    rw [List.flatten_cons, List.length_append, ih (fun r hr => hk r (by simp [hr])), hk a (by simp), List.length_cons, Nat.succ_mul]
    omega
theorem flat_get (hk : ∀ r ∈ rows, r.length = k) (hi : rows[i]? = some r) (hj : r[j]? = some v) : rows.flatten[i * k + j]? = some v := by
  induction rows generalizing i with
  | nil => simp at hi
  | cons a l ih =>
    have ha := hk a (by simp)
    cases i with
    | zero =>
      simp only [List.getElem?_cons_zero, Option.some.injEq] at hi
      subst hi
      have := (List.getElem?_eq_some_iff.1 hj).1
      rw [List.flatten_cons, Nat.zero_mul, Nat.zero_add, List.getElem?_append_left this]
      exact hj
    | succ i =>
      rw [List.flatten_cons, Nat.succ_mul, List.getElem?_append_right (by omega)]
      rw [show i * k + k + j - a.length = i * k + j by omega]
      exact ih (fun r hr => hk r (by simp [hr])) (by simpa using hi)
theorem flat_set (hk : ∀ r ∈ rows, r.length = k) (hi : rows[i]? = some r) (hj : j < k) : rows.flatten.set (i * k + j) v = (rows.set i (r.set j v)).flatten := by
  induction rows generalizing i with
  | nil => simp at hi
  | cons a l ih =>
    have ha := hk a (by simp)
    cases i with
    | zero =>
      simp only [List.getElem?_cons_zero, Option.some.injEq] at hi
      subst hi
      rw [List.flatten_cons, Nat.zero_mul, Nat.zero_add, List.set_append_left _ _ (by omega)]
      rfl
    | succ i =>
      rw [List.flatten_cons, Nat.succ_mul, List.set_append_right _ _ (by omega)]
      rw [show i * k + k + j - a.length = i * k + j by omega, ih (fun r hr => hk r (by simp [hr])) (by simpa using hi)]
      rfl
end
theorem swap_perm' {α : Type} {l : List α} {i j : Nat} {x y : α} (hx : l[i]? = some x) (hy : l[j]? = some y) : ((l.set i y).set j x).Perm l := by
  obtain ⟨hi, rfl⟩ := List.getElem?_eq_some_iff.1 hx
  obtain ⟨hj, rfl⟩ := List.getElem?_eq_some_iff.1 hy
  rcases Nat.lt_trichotomy i j with h | h | h
  · exact List.set_set_perm hi hj
  · subst h; simp
  · exact List.set_set_perm hi hj

/-! ### Maps of one's own -/

structure MapO {α β : Type} (P : Program) (kt : TypeId) (kf : α → Value) (vf : β → Value) (o : Obj) (D : List (α × β)) : Prop where
  at_ : ∃ es clock, o = .map es clock ∧ MapKept.Stamped es clock ∧ es.toList.map (fun e => (e.key, e.val)) = D.map (fun p => (kf p.1, vf p.2))
  keys : ∀ p ∈ D, ∃ l, keyOf P kt (kf p.1) = some l

section
variable {α β : Type} [DecidableEq α] {P : Program} {Q : Ending → World → Prop} {ρ : Lv} {w0 w w' : World} {kt e t : TypeId} {kf : α → Value} {vf : β → Value} {b : Nat} {D : List (α × β)} {m m' : Hp} {o : Obj}

theorem MapO.plain (h : MapO P kt kf vf o D) : plainO o = true := by
  obtain ⟨es, clock, rfl, _⟩ := h.at_
  rfl
theorem MapO.new : MapO P kt kf vf (.map #[] 0) ([] : List (α × β)) := ⟨⟨#[], 0, rfl, MapKept.stamped_empty 0, rfl⟩, by simp⟩
theorem MapO.map (h : MapO P kt kf vf o D) (hg : w.heap[b]? = some o) : MapAt P kt kf vf w b D := by
  obtain ⟨es, clock, rfl, rest⟩ := h.at_
  exact ⟨⟨es, clock, hg, rest⟩, h.keys⟩
theorem MapO.of (h : MapAt P kt kf vf w b D) : ∃ o, w.heap[b]? = some o ∧ MapO P kt kf vf o D := by
  obtain ⟨es, clock, hg, rest⟩ := h.at_
  exact ⟨_, hg, ⟨es, clock, rfl, rest⟩, h.keys⟩

theorem h_look2 {k : Value → T} {z : Value} {a : α} (H : Has w0 w m) (hp : Pick (b, o) m m') (h : MapO P kt kf vf o D) (K : Maps.Keyed P kt) (ht : P.underlying t = some (.map kt e)) (hz : (zeroValue e).run P w = .ok z w)
    (hinj : ∀ p ∈ D, kf p.1 = kf a → p.1 = a) {l : Lit} (hkey : keyOf P kt (kf a) = some l) (hk : (k (.tuple #[((getAt D a).map vf).getD z, .bool (getAt D a).isSome])).sem P Q ρ w) :
    (T.run (Instr.lookup t (.map (some b)) (kf a) true) k).sem P Q ρ w := s_look2 (h.map (H.get hp)) K ht hz hinj hkey hk
theorem h_look1 {k : Value → T} {z : Value} {a : α} (H : Has w0 w m) (hp : Pick (b, o) m m') (h : MapO P kt kf vf o D) (K : Maps.Keyed P kt) (ht : P.underlying t = some (.map kt e)) (hz : (zeroValue e).run P w = .ok z w)
    (hinj : ∀ p ∈ D, kf p.1 = kf a → p.1 = a) {l : Lit} (hkey : keyOf P kt (kf a) = some l) (hk : (k (((getAt D a).map vf).getD z)).sem P Q ρ w) :
    (T.run (Instr.lookup t (.map (some b)) (kf a) false) k).sem P Q ρ w := s_look1 (h.map (H.get hp)) K ht hz hinj hkey hk
theorem h_put {k : Value → T} {a : α} {v : β} (H : Has w0 w m) (hp : Pick (b, o) m m') (h : MapO P kt kf vf o D) (K : Maps.Keyed P kt) (ht : P.underlying t = some (.map kt e)) (hinj : ∀ p ∈ D, kf p.1 = kf a → p.1 = a) {l : Lit} (hkey : keyOf P kt (kf a) = some l)
    (hk : ∀ o' w', MapO P kt kf vf o' (putAt D a v) → Has w0 w' ((b, o') :: m') → (k undef).sem P Q ρ w') :
    (T.run (muV t (.map (some b)) (kf a) (vf v)) k).sem P Q ρ w :=
  s_put (h.map (H.get hp)) K ht hinj hkey fun w' hz hf hm => by
    obtain ⟨o', h1, h2⟩ := MapO.of hm
    exact hk o' w' h2 (H.upd hp hf h1)
end

/-! ### What keeps -/
section
variable {P : Program} {n n' : Nat} {m c : Hp} {b : Nat} {ty : TypeId} {l : List Value} {w0 w : World} {o : Obj} {e : Nat × Obj}
theorem fit_nil : Fit n [] := by intro p hp; cases hp
theorem fit_cl (h : Fit n m) : Fit n (cl b ty l :: m) := by
  intro p hp
  rcases List.mem_cons.1 hp with rfl | hp
  · exact .inl rfl
  · exact h p hp
theorem fit_o (ho : plainO o = true) (h : Fit n m) : Fit n ((b, o) :: m) := by
  intro p hp
  rcases List.mem_cons.1 hp with rfl | hp
  · exact .inl ho
  · exact h p hp
theorem fit_lt (ho : e.1 < n) (h : Fit n m) : Fit n (e :: m) := by
  intro p hp
  rcases List.mem_cons.1 hp with rfl | hp
  · exact .inr ho
  · exact h p hp
theorem fit_app (hc : Fit n c) (h : Fit n m) : Fit n (c ++ m) := by
  intro p hp
  rcases List.mem_append.1 hp with hp | hp
  · exact hc p hp
  · exact h p hp
theorem Fit.mono (h : Fit n m) (hn : n ≤ n') : Fit n' m := fun p hp => (h p hp).imp_right (fun h => Nat.lt_of_lt_of_le h hn)
theorem Fit.sub (h : Fit n m) {m2 : Hp} (hs : Sb m2 m) : Fit n m2 := by
  obtain ⟨m3, hs⟩ := hs
  exact fun p hp => h p (hs.mem_iff.2 (by simp [hp]))
theorem Has.fit (H : Has w0 w m) (hn : w.heap.size ≤ n) : Fit n m := fun p hp => .inr (Nat.lt_of_lt_of_le (H.lt hp) hn)
theorem OwnC.fit {e : TypeId} {sz k : Nat} {v : Value} {xs : List Value} (h : OwnC e sz v k xs c) : Fit n c := by
  rcases h.2 with ⟨_, _, rfl⟩ | ⟨g, cap, sp, _, rfl, _⟩
  · exact fit_nil
  · exact fit_cl fit_nil
end

/-! ### Ranges over functions -/
section
variable {P : Program} {Q : Ending → World → Prop} {ρ : Lv} {w0 w : World} {m m' : Hp} {rec : Loop} {l d : Nat}

theorem h_beg {x : T} (H : Has w0 w m) (h : Pick (l, .loop rec) m m') (hs : rec.state = .ready)
    (hk : ∀ w', Has w0 w' ((l, .loop { rec with state := .busy }) :: m') → x.sem P Q ρ w') : (T.beg l x).sem P Q ρ w :=
  s_beg (H.get h) hs fun w' z hf ho => hk w' (H.upd h hf ho)
theorem h_cont {k : Value → T} (H : Has w0 w m) (h : Pick (l, .loop { rec with state := .busy }) m m') (hs : rec.state = .ready) (hp : rec.pending = none)
    (hk : ∀ w', Has w0 w' ((l, .loop rec) :: m') → (k (.bool true)).sem P Q ρ w') : (T.run (Instr.endRound l none) k).sem P Q ρ w :=
  s_cont (H.get h) hs hp fun w' z hf ho => hk w' (H.upd h hf ho)
theorem h_stop {k : Value → T} (H : Has w0 w m) (h : Pick (l, .loop { rec with state := .busy }) m m') (jump : Code)
    (hk : ∀ w', Has w0 w' ((l, .loop (stopped rec jump)) :: m') → (k (.bool false)).sem P Q ρ w') : (T.run (Instr.endRound l (some jump)) k).sem P Q ρ w :=
  s_stop (H.get h) jump fun w' z hf ho => hk w' (H.upd h hf ho)
theorem h_col {x : T} (H : Has w0 w m) (h : Pick (d, .deferred (some [])) m m') (hk : ∀ w', Has w0 w' m' → x.sem P Q ρ w') : (T.col d x).sem P Q ρ w :=
  s_col (H.get h) fun w' z hf => by
    have H1 := H.pull h
    have hn := H1.nodup
    rw [List.map_cons, List.nodup_cons] at hn
    exact hk w' (H1.drop.fr hf (fun x hx => by simp at hx; subst hx; exact H1.new (x, .deferred (some [])) (by simp)) (fun x hx p hp he => by
      simp at hx
      subst hx
      exact hn.1 (List.mem_map.2 ⟨p, hp, he⟩)))

/-- A range over a function, of no loop around. J: what is held before each round; S: when one has been left by a return. -/
theorem h_rf {lv g : Nat} {args : List Value} {body : Nat → List Value → T} {after ret : Nat → T} {K : World → Prop} {xs : List (List Value)} (hseq : Seq P g args K xs) (H : Has w0 w m)
    (J : Nat → Hp → Prop) (S : Hp → Prop) (h0 : J 0 m)
    (hJ : ∀ i mi, J i mi → Fit w.heap.size mi) (hS : ∀ mi, S mi → Fit w.heap.size mi)
    (hK : ∀ i mi W, J i mi → Has w0 W mi → K W)
    (hround : ∀ (l : Nat) (rec : Loop) (d : Nat × Obj) (i : Nat) (W : World) (as : List Value) (mi : Hp), rec.state = .ready → rec.pending = none → xs[i]? = some as → J i mi → Has w0 W ((l, .loop rec) :: d :: mi) →
      (body l as).sem P Q (fun l' x w'' => if l' = lv then
        ((x.headD undef = .bool true ∧ ∃ mi', J (i + 1) mi' ∧ Has w0 w'' ((l, .loop rec) :: d :: mi')) ∨ (x.headD undef = .bool false ∧ ∃ mi', S mi' ∧ Has w0 w'' ((l, .loop (stopped rec .ret)) :: d :: mi'))) else ρ l' x w'') W)
    (hafter : ∀ D W mi, J xs.length mi → Has w0 W ((D, .deferred (some [])) :: mi) → (after D).sem P Q ρ W)
    (hret : ∀ D W mi, S mi → Has w0 W ((D, .deferred (some [])) :: mi) → (ret D).sem P Q ρ W) :
    (T.rf none lv g args body after ret []).sem P Q ρ w := by
  refine ⟨trivial, ?_⟩
  rintro l D rec w2 ⟨hs, hp, hd, hD, hl, rfl⟩ hY
  subst hD hl
  have H1 : Has w0 { w with heap := w.heap.push (.deferred (some [])) } ((w.heap.size, .deferred (some [])) :: m) := H.add (Fr.push _) (Nat.le_refl _) (by simp)
  have H2 : Has w0 { w with heap := (w.heap.push (.deferred (some []))).push (.loop rec) } ((w.heap.size + 1, .loop rec) :: (w.heap.size, .deferred (some [])) :: m) := by
    refine H1.add (Fr.push (w := { w with heap := w.heap.push (.deferred (some [])) }) (F := []) (.loop rec)) (by simp) ?_
    show ((w.heap.push (.deferred (some []))).push (.loop rec))[w.heap.size + 1]? = _
    rw [show w.heap.size + 1 = (w.heap.push (Obj.deferred (some []))).size by simp]
    exact Array.getElem?_push_size
  generalize hw2 : ({ w with heap := (w.heap.push (.deferred (some []))).push (.loop rec) } : World) = w2 at H2 hY ⊢
  have hsz : w2.heap.size = w.heap.size + 2 := by subst hw2; simp
  have hle : w0.heap.size ≤ w.heap.size := H.base.size
  have hfit : ∀ {mi : Hp} {r : Loop}, Fit w.heap.size mi → Fit w2.heap.size ((w.heap.size + 1, .loop r) :: (w.heap.size, .deferred (some [])) :: mi) := fun h => fit_lt (by simp; omega) (fit_lt (by simp; omega) (h.mono (by omega)))
  refine (hseq (w.heap.size + 1) w2 (fun i W => ∃ mi, J i mi ∧ Has w0 W ((w.heap.size + 1, .loop rec) :: (w.heap.size, .deferred (some [])) :: mi))
    (fun W => ∃ mi, S mi ∧ Has w0 W ((w.heap.size + 1, .loop (stopped rec .ret)) :: (w.heap.size, .deferred (some [])) :: mi))
    ⟨fun i W W' F ⟨mi, a, b⟩ h ha hF => ⟨mi, a, b.aux h ha hF (by omega) (hfit (hJ i mi a))⟩, fun W W' F ⟨mi, a, b⟩ h ha hF => ⟨mi, a, b.aux h ha hF (by omega) (hfit (hS mi a))⟩⟩
    (fun i W ⟨mi, a, b⟩ => hK i mi W a b.drop.drop) ⟨m, h0, H2⟩ ?_).mono ?_
  · rintro i W as ⟨mi, a, b⟩ hi
    refine (hY W as (fun v W' => (v = .bool true ∧ ∃ mi', J (i + 1) mi' ∧ Has w0 W' ((w.heap.size + 1, .loop rec) :: (w.heap.size, .deferred (some [])) :: mi')) ∨
      (v = .bool false ∧ ∃ mi', S mi' ∧ Has w0 W' ((w.heap.size + 1, .loop (stopped rec .ret)) :: (w.heap.size, .deferred (some [])) :: mi'))) (b.get pick_head)
      (hround (w.heap.size + 1) rec (w.heap.size, .deferred (some [])) i W as mi hs hp hi a b)).mono ?_
    rintro e W' ⟨v, he, ⟨h0, h1⟩ | ⟨h0, h1⟩⟩
    · exact ⟨v, he, .inl ⟨h0, h1⟩⟩
    · exact ⟨v, he, .inr ⟨h0, h1⟩⟩
  · rintro e w3 ⟨hv, ⟨mi, a, b⟩ | ⟨mi, a, b⟩⟩
    · have c : ObjAt w3 (w.heap.size + 1) (.loop rec) := b.get pick_head
      have hpf : Fr [w.heap.size + 1] w3 (putObj w3 (w.heap.size + 1) (.loop { rec with state := .exhausted })) := Fr.putObj (by simp)
      have b' := b.upd pick_head hpf (ObjAt.put c)
      exact ⟨hv, none, _, (endLoop_run c (by rw [hs]; decide)).trans (by rw [hp]), .inl ⟨rfl, hafter _ _ mi a b'.drop⟩⟩
    · have c : ObjAt w3 (w.heap.size + 1) (.loop (stopped rec .ret)) := b.get pick_head
      have hpf : Fr [w.heap.size + 1] w3 (putObj w3 (w.heap.size + 1) (.loop { (stopped rec .ret) with state := .exhausted })) := Fr.putObj (by simp)
      have b' := b.upd pick_head hpf (ObjAt.put c)
      exact ⟨hv, some .ret, _, endLoop_run c (by simp [stopped]), .inr (.inl ⟨rfl, hret _ _ mi a b'.drop⟩)⟩
end
end Go.Proofs.YtihipcofjpnfbaaGreatDoor.Tr
