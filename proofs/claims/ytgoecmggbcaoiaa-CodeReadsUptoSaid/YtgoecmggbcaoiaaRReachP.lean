/- What can be reached, by rounds: plain facts. -/
import Derived.Test.YtgoecmggbcaoiaaReachQ
set_option linter.unusedVariables false
set_option linter.unusedSimpArgs false
namespace Go.Proofs.Ytgoecmggbcaoiaa

def hit (r : List Bool) (a : Int) : Bool := r.getD a.toNat false
def cnt (l : List Ins) (r : List Bool) : Nat := (l.filter (fun x => hit r x.at_)).length
def Mono (r r' : List Bool) : Prop := ∀ a, hit r a = true → hit r' a = true
theorem hit_set {r : List Bool} {a b : Int} (ha : 0 ≤ a) (hl : a < r.length) (hb : 0 ≤ b) : hit (r.set a.toNat true) b = (decide (a = b) || hit r b) := by
  unfold hit List.getD
  rw [List.getElem?_set]
  by_cases h : a = b
  · subst h
    rw [if_pos rfl, if_pos (by omega)]
    simp
  · rw [if_neg (by omega)]
    simp [h]
theorem Mono.refl (r : List Bool) : Mono r r := fun _ h => h
theorem Mono.trans {a b c : List Bool} (h : Mono a b) (k : Mono b c) : Mono a c := fun x hx => k x (h x hx)
theorem Mono.set {r : List Bool} {a : Nat} : Mono r (r.set a true) := by
  intro b hb
  unfold hit List.getD at hb ⊢
  rw [List.getElem?_set]
  by_cases h : a = b.toNat
  · subst h
    rw [if_pos rfl]
    split
    · rfl
    · rename_i h'
      rw [List.getElem?_eq_none (by omega)] at hb
      simp at hb
  · rw [if_neg h]
    exact hb
theorem filter_mono {f g : Ins → Bool} : ∀ {l : List Ins}, (∀ x ∈ l, f x = true → g x = true) → (l.filter f).length ≤ (l.filter g).length ∧ ((∃ x ∈ l, g x = true ∧ f x = false) → (l.filter f).length < (l.filter g).length)
  | [], _ => by simp
  | x :: r, h => by
    have ih := filter_mono (l := r) (fun y hy => h y (by simp [hy]))
    have hx := h x (by simp)
    cases hf : f x with
    | true =>
      have hg := hx hf
      rw [List.filter_cons_of_pos hf, List.filter_cons_of_pos hg]
      simp only [List.length_cons]
      refine ⟨by omega, ?_⟩
      rintro ⟨y, hy, h1, h2⟩
      rcases List.mem_cons.1 hy with rfl | hy
      · rw [hf] at h2; cases h2
      · have := ih.2 ⟨y, hy, h1, h2⟩
        omega
    | false =>
      rw [List.filter_cons_of_neg (by simp [hf])]
      cases hg : g x with
      | true =>
        rw [List.filter_cons_of_pos hg]
        simp only [List.length_cons]
        exact ⟨by omega, fun _ => by omega⟩
      | false =>
        rw [List.filter_cons_of_neg (by simp [hg])]
        refine ⟨ih.1, ?_⟩
        rintro ⟨y, hy, h1, h2⟩
        rcases List.mem_cons.1 hy with rfl | hy
        · rw [hg] at h1; cases h1
        · exact ih.2 ⟨y, hy, h1, h2⟩

/-- What a list of instructions is that was read to its end. -/
structure Good (n : Int) (l : List Ins) : Prop where
  rise : Rises l
  rng : ∀ x ∈ l, 0 ≤ x.at_ ∧ 0 < szP x.op ∧ x.at_ + szP x.op ≤ n
  next : ∀ (i : Nat) (x : Ins), l[i]? = some x → x.at_ + szP x.op < n → ∃ y, l[i + 1]? = some y ∧ y.at_ = x.at_ + szP x.op
  consec : ∀ (i : Nat) (x y : Ins), l[i]? = some x → l[i + 1]? = some y → y.at_ = x.at_ + szP x.op
  jump : ∀ x ∈ l, jumpP x.op = true → ∃ (k : Nat) (y : Ins), l[k]? = some y ∧ y.at_ = x.imm
  first : ∀ x, l[0]? = some x → x.at_ = 0
theorem walk_end_le {bs : List Int} {at_ : Int} (h0 : 0 ≤ at_) : ∀ x ∈ (walkA bs at_).1, 0 < szP x.op ∧ x.at_ + szP x.op ≤ bs.length := by
  intro x hx
  have h := walk_mem h0 x hx
  have h1 := one_eq h.2.2.1
  have hop : x.op = bs.getD x.at_.toNat 0 := by
    conv => lhs; rw [h.2.2.2]
    rfl
  rw [hop]
  have := szP_le (bs.getD x.at_.toNat 0)
  omega
theorem walk_consec {bs : List Int} {at_ : Int} (h0 : 0 ≤ at_) : ∀ (i : Nat) (x y : Ins), (walkA bs at_).1[i]? = some x → (walkA bs at_).1[i + 1]? = some y → y.at_ = x.at_ + szP x.op := by
  refine walk_ind' (bs := bs) (fun at_ r => ∀ (i : Nat) (x y : Ins), r.1[i]? = some x → r.1[i + 1]? = some y → y.at_ = x.at_ + szP x.op) ?_ ?_ ?_ h0
  · intro a _ _ i x y hx
    simp at hx
  · intro a _ _ _ i x y hx
    simp at hx
  · intro a ha hl h1 ih i x y hx hy
    have hn := oneP_next h1
    have hq := (one_eq h1).2.2.2.2.2
    cases i with
    | zero =>
      simp only [List.getElem?_cons_zero, Option.some.injEq] at hx
      subst hx
      simp only [List.getElem?_cons_succ] at hy
      rw [hq] at hy hn ⊢
      simp only at hy hn
      by_cases hlt : a + szP (bs.getD a.toNat 0) < bs.length
      · by_cases h2 : (oneP bs (a + szP (bs.getD a.toNat 0))).2.2 = 0
        · rw [walkA_ok hlt (by omega) h2] at hy
          simp only [List.getElem?_cons_zero, Option.some.injEq] at hy
          rw [← hy, (one_eq h2).2.2.2.2.2]
          rfl
        · rw [walkA_bad hlt (by omega) h2] at hy
          simp at hy
      · rw [walkA_end (by omega)] at hy
        simp at hy
    | succ i =>
      simp only [List.getElem?_cons_succ] at hx hy
      exact ih i x y hx hy
theorem good_of {bs : List Int} (hw : (walkP bs).2 = 0) (hj : ∀ x ∈ (walkP bs).1, jumpP x.op = true → ∃ (k : Nat) (y : Ins), (walkP bs).1[k]? = some y ∧ y.at_ = x.imm) : Good bs.length (walkP bs).1 := by
  refine ⟨walk_rise (by omega), fun x hx => ?_, walk_next (by omega) hw, walk_consec (by omega), hj, fun x hx => ?_⟩
  · have h1 := walk_mem (bs := bs) (at_ := 0) (by omega) x hx
    have h2 := walk_end_le (bs := bs) (at_ := 0) (by omega) x hx
    omega
  · have hpos : (0 : Int) < bs.length := by
      have h1 := walk_mem (bs := bs) (at_ := 0) (by omega) x (List.mem_of_getElem? hx)
      omega
    obtain ⟨r, hr⟩ := walk_head (bs := bs) (at_ := 0) (by omega) hpos hw
    have hx : (walkA bs 0).1[0]? = some x := hx
    rw [hr] at hx
    simp at hx
    subst hx
    rfl

section
variable {n : Int} {l : List Ins} {r r0 : List Bool} {i k : Nat} {x : Ins}
def Sound (l : List Ins) (r : List Bool) : Prop := ∀ i x, l[i]? = some x → hit r x.at_ = true → Re l i
def Full (l : List Ins) (r : List Bool) : Prop := ∀ i x, l[i]? = some x → Re l i → hit r x.at_ = true
/-- What x leads to is there. -/
def Leads (r : List Bool) (x : Ins) : Prop := (jumpP x.op = true → hit r x.imm = true) ∧ (goesP x.op = true → hit r (x.at_ + szP x.op) = true)
theorem Leads.mono {r r' : List Bool} (h : Leads r x) (hm : Mono r r') : Leads r' x := ⟨fun h1 => hm _ (h.1 h1), fun h1 => hm _ (h.2 h1)⟩

theorem sound_jump (hg : Good n l) (hs : Sound l r) (hlen : (r.length : Int) = n + 1) (hx : l[i]? = some x) (hit0 : hit r x.at_ = true) (hj : jumpP x.op = true) : 0 ≤ x.imm ∧ x.imm < r.length ∧ Sound l (r.set x.imm.toNat true) := by
  obtain ⟨k, y, hk, hy⟩ := hg.jump x (List.mem_of_getElem? hx) hj
  have hyr := hg.rng y (List.mem_of_getElem? hk)
  refine ⟨by omega, by omega, ?_⟩
  intro j z hz hh
  have hzr := hg.rng z (List.mem_of_getElem? hz)
  rw [hit_set (by omega) (by omega) (by omega)] at hh
  rw [Bool.or_eq_true, decide_eq_true_eq] at hh
  rcases hh with hh | hh
  · have : j = k := rises_inj hg.rise hz hk (by omega)
    subst this
    exact (hs i x hx hit0).jump hx hj hk hy
  · exact hs j z hz hh
theorem sound_next (hg : Good n l) (hs : Sound l r) (hlen : (r.length : Int) = n + 1) (hx : l[i]? = some x) (hit0 : hit r x.at_ = true) (hj : goesP x.op = true) : 0 ≤ x.at_ + szP x.op ∧ x.at_ + szP x.op < r.length ∧ Sound l (r.set (x.at_ + szP x.op).toNat true) := by
  have hxr := hg.rng x (List.mem_of_getElem? hx)
  refine ⟨by omega, by omega, ?_⟩
  intro j z hz hh
  have hzr := hg.rng z (List.mem_of_getElem? hz)
  rw [hit_set (by omega) (by omega) (by omega)] at hh
  rw [Bool.or_eq_true, decide_eq_true_eq] at hh
  rcases hh with hh | hh
  · obtain ⟨y, hy, hya⟩ := hg.next i x hx (by omega)
    have : j = i + 1 := rises_inj hg.rise hz hy (by omega)
    subst this
    exact (hs i x hx hit0).next hx hj (List.getElem?_eq_some_iff.1 hy).1
  · exact hs j z hz hh
theorem full_of (hg : Good n l) (h0 : hit r 0 = true) (hc : ∀ x ∈ l, hit r x.at_ = true → (jumpP x.op = true → ∀ y ∈ l, y.at_ = x.imm → hit r y.at_ = true) ∧ (goesP x.op = true → ∀ y ∈ l, y.at_ = x.at_ + szP x.op → hit r y.at_ = true)) : Full l r := by
  suffices key : ∀ i, Re l i → ∀ x, l[i]? = some x → hit r x.at_ = true from fun i x hx hre => key i hre x hx
  intro i hre
  induction hre with
  | zero _ =>
    intro x hx
    rw [hg.first x hx]
    exact h0
  | @next i z h1 h2 h3 h4 ih =>
    intro x hx
    have hz := ih z h2
    exact (hc z (List.mem_of_getElem? h2) hz).2 h3 x (List.mem_of_getElem? hx) (hg.consec i z x h2 hx)
  | @jump i k z y h1 h2 h3 h4 h5 ih =>
    intro x hx
    have hz := ih z h2
    have hxy : x = y := by
      rw [hx] at h4
      simpa using h4
    exact (hc z (List.mem_of_getElem? h2) hz).1 h3 x (List.mem_of_getElem? hx) (by rw [hxy]; exact h5)

/-- One round, so far through the first i of them. -/
structure Round (n : Int) (l : List Ins) (r0 r : List Bool) (i : Nat) : Prop where
  len : (r.length : Int) = n + 1
  mono : Mono r0 r
  sound : Sound l r
  led : ∀ j x, j < i → l[j]? = some x → hit r0 x.at_ = true → Leads r x
/-- k rounds. -/
structure Rounds13 (n : Int) (l : List Ins) (r : List Bool) (k : Nat) : Prop where
  len : (r.length : Int) = n + 1
  zero : hit r 0 = true
  sound : Sound l r
  prog : Full l r ∨ k + 1 ≤ cnt l r
theorem Round.start (h : (r.length : Int) = n + 1) (hs : Sound l r) : Round n l r r 0 := ⟨h, Mono.refl _, hs, fun j x hj => by omega⟩
theorem Round.skip (h : Round n l r0 r i) (hx : l[i]? = some x) (hn : hit r x.at_ = false) : Round n l r0 r (i + 1) := by
  refine ⟨h.len, h.mono, h.sound, fun j y hj hy h0 => ?_⟩
  rcases Nat.lt_or_ge j i with h' | h'
  · exact h.led j y h' hy h0
  · have : j = i := by omega
    subst this
    rw [hx] at hy
    cases hy
    rw [h.mono _ h0] at hn
    cases hn
theorem Round.step (h : Round n l r0 r i) (hx : l[i]? = some x) {r' : List Bool} (hl : r'.length = r.length) (hm : Mono r r') (hs : Sound l r') (hL : Leads r' x) : Round n l r0 r' (i + 1) := by
  refine ⟨by rw [hl]; exact h.len, h.mono.trans hm, hs, fun j y hj hy h0 => ?_⟩
  rcases Nat.lt_or_ge j i with h' | h'
  · exact (h.led j y h' hy h0).mono hm
  · have : j = i := by omega
    subst this
    rw [hx] at hy
    cases hy
    exact hL
theorem Rounds13.next (hg : Good n l) (h : Rounds13 n l r0 k) (hr : Round n l r0 r l.length) : Rounds13 n l r (k + 1) := by
  refine ⟨hr.len, hr.mono _ h.zero, hr.sound, ?_⟩
  have hfm := filter_mono (f := fun x => hit r0 x.at_) (g := fun x => hit r x.at_) (l := l) (fun x _ hx => hr.mono _ hx)
  by_cases hnew : ∃ x ∈ l, hit r x.at_ = true ∧ hit r0 x.at_ = false
  · have hlt := hfm.2 hnew
    rcases h.prog with hf | hc
    · left
      intro i x hx hre
      exact hr.mono _ (hf i x hx hre)
    · right
      unfold cnt at hc ⊢
      omega
  · left
    refine full_of hg (hr.mono _ h.zero) fun x hx hhx => ?_
    have h0 : hit r0 x.at_ = true := by
      cases hc : hit r0 x.at_ with
      | true => rfl
      | false => exact absurd ⟨x, hx, hhx, hc⟩ hnew
    obtain ⟨j, hj⟩ := List.mem_iff_getElem?.1 hx
    have hL := hr.led j x (List.getElem?_eq_some_iff.1 hj).1 hj h0
    exact ⟨fun h1 y hy hya => by rw [hya]; exact hL.1 h1, fun h1 y hy hya => by rw [hya]; exact hL.2 h1⟩
theorem Rounds13.init (hg : Good n l) (hn : 0 ≤ n) : Rounds13 n l ((List.replicate (n.toNat + 1) false).set 0 true) 0 := by
  have hh : ∀ a, 0 ≤ a → (hit ((List.replicate (n.toNat + 1) false).set 0 true) a = true ↔ a = 0) := by
    intro a ha
    have := hit_set (r := List.replicate (n.toNat + 1) false) (a := 0) (b := a) (by omega) (by simp; omega) ha
    rw [show (0 : Int).toNat = 0 from rfl] at this
    rw [this]
    unfold hit List.getD
    rw [List.getElem?_replicate]
    split <;> simp <;> omega
  refine ⟨by simp; omega, (hh 0 (by omega)).2 rfl, ?_, ?_⟩
  · intro i x hx hit0
    have hxr := hg.rng x (List.mem_of_getElem? hx)
    have h1 := (hh x.at_ (by omega)).1 hit0
    have hpos : 0 < l.length := by have := (List.getElem?_eq_some_iff.1 hx).1; omega
    obtain ⟨y, hy⟩ : ∃ y, l[0]? = some y := ⟨_, List.getElem?_eq_getElem hpos⟩
    have : i = 0 := rises_inj hg.rise hx hy (by rw [h1, hg.first y hy])
    subst this
    exact .zero hpos
  · cases hl : l with
    | nil =>
      left
      intro i x hx
      simp at hx
    | cons y t =>
      right
      have hy := hg.first y (by rw [hl]; rfl)
      unfold cnt
      rw [List.filter_cons_of_pos (by rw [hy]; exact (hh 0 (by omega)).2 rfl)]
      simp
theorem Rounds13.fin (h : Rounds13 n l r l.length) : Full l r := by
  rcases h.prog with hf | hc
  · exact hf
  · exfalso
    have : cnt l r ≤ l.length := List.length_filter_le _ _
    omega
theorem out_hit : ∀ (l : List Ins) (f : Ins → Bool), outP l (l.map f) = (l.filter f).map (·.at_)
  | [], _ => rfl
  | x :: t, f => by
    have ih := out_hit t f
    unfold outP at ih ⊢
    rw [List.map_cons, List.zip_cons_cons]
    cases h : f x with
    | true => rw [List.filter_cons_of_pos (by rfl), List.filter_cons_of_pos h, List.map_cons, List.map_cons, ih]
    | false => rw [List.filter_cons_of_neg (by simp), List.filter_cons_of_neg (by simp [h]), ih]
theorem reach_hit {bs : List Int} (he : (decP bs).2 = 0) (hr : Rounds13 n (decP bs).1 r (decP bs).1.length) : IsReach bs (((decP bs).1.filter (fun x => hit r x.at_)).map (·.at_)) := by
  unfold IsReach
  have hfull := hr.fin
  by_cases h0 : (decP bs).1.length = 0
  · rw [if_pos (.inr h0), List.eq_nil_of_length_eq_zero h0]
    rfl
  · rw [if_neg (by omega)]
    refine ⟨(decP bs).1.map (fun x => hit r x.at_), by simp, fun i => ?_, (out_hit _ _).symm⟩
    rw [List.getElem?_map]
    constructor
    · intro h
      cases hx : (decP bs).1[i]? with
      | none => rw [hx] at h; simp at h
      | some x =>
        rw [hx] at h
        simp at h
        exact hr.sound i x hx h
    · intro h
      obtain ⟨x, hx⟩ : ∃ x, (decP bs).1[i]? = some x := ⟨_, List.getElem?_eq_getElem h.lt⟩
      rw [hx]
      simp
      exact hfull i x hx h
end
end Go.Proofs.Ytgoecmggbcaoiaa
