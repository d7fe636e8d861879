/- One leader a term, in plain Lean: replicas that stand and ask each other; no program in sight. -/
import Derived.Test.YteebkalajidehaaDoes
import Derived.Test.YteebkalajidehaaMap
set_option linter.unusedVariables false
set_option linter.unusedSimpArgs false

namespace Go.Proofs.Yteebkalajidehaa
open Go hiding Expr
open Go.RowKit Tr

structure St where
  vs : List VS
  leads : List (Int × Int)
  gave : List ((Int × Int) × Int)

def have_ (g : List ((Int × Int) × Int)) (n : Int) (T who : Int) : Nat := (List.range n.toNat).countP fun (k : Nat) => getAt g ((k : Int), T) == some who

structure Inv (n : Int) (m : Nat) (S : St) : Prop where
  len : S.vs.length = n.toNat
  ok : ∀ (j : Nat) (s : VS), S.vs[j]? = some s → s.Ok ∧ s.n = n ∧ s.self = (j : Int) ∧ s.term ≤ m
  gaveT : ∀ k T i, getAt S.gave (k, T) = some i → 0 ≤ k ∧ 0 ≤ i ∧ ∃ s, S.vs[k.toNat]? = some s ∧ T ≤ s.term ∧ (T = s.term → s.voted = i)
  votedG : ∀ (j : Nat) (s : VS), S.vs[j]? = some s → s.voted ≥ 0 → getAt S.gave ((j : Int), s.term) = some s.voted
  votes : ∀ (j : Nat) (s : VS), S.vs[j]? = some s → s.up = true → ∀ k : Nat, s.votes[k]? = some true → getAt S.gave ((k : Int), s.term) = some (j : Int)
  lead : ∀ T who, getAt S.leads T = some who → 2 * (have_ S.gave n T who : Int) > n

def Ext (g g' : List ((Int × Int) × Int)) : Prop := ∀ k x, getAt g k = some x → getAt g' k = some x
theorem have_mono {g g' : List ((Int × Int) × Int)} (h : Ext g g') (n T who : Int) : have_ g n T who ≤ have_ g' n T who := by
  unfold have_
  apply List.countP_mono_left
  intro k _ hk
  simp only [beq_iff_eq] at hk ⊢
  exact h _ _ hk

theorem count_both {α : Type} (p q : α → Bool) : ∀ l : List α, (∀ k ∈ l, ¬ (p k = true ∧ q k = true)) → l.countP p + l.countP q ≤ l.length
  | [], _ => by simp
  | a :: r, h => by
    have ih := count_both p q r (fun k hk => h k (by simp [hk]))
    have ha := h a (by simp)
    simp only [List.countP_cons, List.length_cons]
    by_cases hp : p a = true <;> by_cases hq : q a = true <;> simp [hp, hq] at ha ⊢ <;> omega

theorem one_lead {g : List ((Int × Int) × Int)} {n T a b : Int} (h0 : 0 ≤ n) (ha : 2 * (have_ g n T a : Int) > n) (hb : 2 * (have_ g n T b : Int) > n) : a = b := by
  rcases Classical.em (a = b) with h | h
  · exact h
  · exfalso
    have := count_both (fun k : Nat => getAt g ((k : Int), T) == some a) (fun k : Nat => getAt g ((k : Int), T) == some b) (List.range n.toNat) (fun k _ ⟨h1, h2⟩ => by
      simp only [beq_iff_eq] at h1 h2
      rw [h1] at h2
      exact h (Option.some.inj h2))
    unfold have_ at ha hb
    rw [List.length_range] at this
    omega

theorem cnt_count (l : List Bool) (h : l.length ≤ 5) : cnt l = ((List.range l.length).countP fun (k : Nat) => l[k]? == some true : Nat) :=
  all5 (Q := fun l => cnt l = ((List.range l.length).countP fun (k : Nat) => l[k]? == some true : Nat)) (by decide) (by decide) (by decide) (by decide) (by decide) (by decide +kernel) l h

section
variable {n : Int} {m : Nat} {S : St}

/-- Who has won has a majority. -/
theorem won_have (I : Inv n m S) {j : Nat} {s : VS} (hj : S.vs[j]? = some s) (hw : s.won = true) : 2 * (have_ S.gave n s.term (j : Int) : Int) > n := by
  obtain ⟨hok, hn, hself, _⟩ := I.ok j s hj
  simp only [VS.won, Bool.and_eq_true, decide_eq_true_eq] at hw
  obtain ⟨hup, hc⟩ := hw
  rw [cnt_count _ (VS.len5 hok)] at hc
  have hlen : s.votes.length = n.toNat := by have := hok.len; omega
  have : (List.range s.votes.length).countP (fun k => s.votes[k]? == some true) ≤ have_ S.gave n s.term (j : Int) := by
    unfold have_
    rw [hlen]
    apply List.countP_mono_left
    intro k _ hk
    simp only [beq_iff_eq] at hk ⊢
    exact I.votes j s hj hup k hk
  omega

theorem lead_one (I : Inv n m S) (h0 : 0 ≤ n) {j : Nat} {s : VS} (hj : S.vs[j]? = some s) (hw : s.won = true) {who : Int} (hl : getAt S.leads s.term = some who) : who = (j : Int) :=
  one_lead h0 (I.lead _ _ hl) (won_have I hj hw)

theorem lead_put (I : Inv n m S) {j : Nat} {s : VS} (hj : S.vs[j]? = some s) (hw : s.won = true) : Inv n m { S with leads := putAt S.leads s.term (j : Int) } := by
  refine ⟨I.len, I.ok, I.gaveT, I.votedG, I.votes, fun T who h => ?_⟩
  simp only [getAt_put] at h
  split at h
  · rename_i he
    cases h
    rw [← he]
    exact won_have I hj hw
  · exact I.lead T who h

theorem get_set (l : List VS) (i j : Nat) (x s : VS) (h : (l.set i x)[j]? = some s) : (j = i ∧ s = x) ∨ (j ≠ i ∧ l[j]? = some s) := by
  rw [List.getElem?_set] at h
  split at h
  · rename_i he
    split at h
    · cases h; exact .inl ⟨he.symm, rfl⟩
    · cases h
  · rename_i he
    exact .inr ⟨fun e => he e.symm, h⟩

/-- One stands. -/
theorem stand_inv (I : Inv n m S) {i : Nat} {s : VS} (hi : S.vs[i]? = some s) (hlt : s.term ≠ maxT) :
    Inv n (m + 1) { S with vs := S.vs.set i s.stand.2, gave := putAt S.gave ((i : Int), s.term + 1) (i : Int) } := by
  obtain ⟨hok, hn, hself, hterm⟩ := I.ok i s hi
  have hs : s.stand.2 = { s with term := s.term + 1, voted := s.self, up := true, votes := (List.replicate s.n.toNat false).set s.self.toNat true } := by
    unfold VS.stand; rw [if_neg hlt]
  have hlen : i < S.vs.length := (List.getElem?_eq_some_iff.1 hi).1
  have habs : getAt S.gave ((i : Int), s.term + 1) = none := by
    cases hg : getAt S.gave ((i : Int), s.term + 1) with
    | none => rfl
    | some x =>
      obtain ⟨_, _, s', hs', hle, _⟩ := I.gaveT _ _ _ hg
      simp only [Int.toNat_natCast, hi, Option.some.injEq] at hs'
      subst hs'
      omega
  have hext : Ext S.gave (putAt S.gave ((i : Int), s.term + 1) (i : Int)) := fun k x hk => by
    rw [getAt_put]
    split
    · rename_i he
      rw [← he, habs] at hk
      cases hk
    · exact hk
  refine ⟨by simp [I.len], fun j t hj => ?_, fun k T x hk => ?_, fun j t hj hv => ?_, fun j t hj hup k hk => ?_, fun T who h => ?_⟩
  · rcases get_set _ _ _ _ _ hj with ⟨rfl, rfl⟩ | ⟨_, hj⟩
    · refine ⟨VS.stand_ok hok, ?_, ?_, ?_⟩ <;> rw [hs]
      · exact hn
      · exact hself
      · show s.term + 1 ≤ ((m + 1 : Nat) : Int); omega
    · obtain ⟨a, b, c, d⟩ := I.ok j t hj
      exact ⟨a, b, c, by omega⟩
  · simp only [getAt_put] at hk
    split at hk
    · rename_i he
      cases hk
      simp only [Prod.mk.injEq] at he
      obtain ⟨rfl, rfl⟩ := he
      refine ⟨by omega, by omega, s.stand.2, by simp [List.getElem?_set, hlen], ?_⟩
      rw [hs]
      exact ⟨by simp, fun _ => hself⟩
    · rename_i he
      obtain ⟨h0, hx0, t, ht, hle, heq⟩ := I.gaveT k T x hk
      refine ⟨h0, hx0, ?_⟩
      by_cases hki : k.toNat = i
      · refine ⟨s.stand.2, by simp [List.getElem?_set, hki, hlen], ?_⟩
        rw [hki, hi] at ht
        cases ht
        rw [hs]
        exact ⟨by simp; omega, fun e => by simp at e; omega⟩
      · refine ⟨t, ?_, hle, heq⟩
        show (S.vs.set i s.stand.2)[k.toNat]? = _
        rw [List.getElem?_set_ne (fun e => hki e.symm)]
        exact ht
  · rcases get_set _ _ _ _ _ hj with ⟨rfl, rfl⟩ | ⟨hne, hj⟩
    · simp only [hs, getAt_put, if_true, hself]
    · exact hext _ _ (I.votedG j t hj hv)
  · rcases get_set _ _ _ _ _ hj with ⟨rfl, rfl⟩ | ⟨hne, hj⟩
    · rw [hs] at hk ⊢
      simp only at hk ⊢
      rw [List.getElem?_set] at hk
      split at hk
      · rename_i he
        have : k = j := by omega
        subst this
        simp only [getAt_put, if_true]
      · simp only [List.getElem?_replicate] at hk
        split at hk <;> cases hk
    · exact hext _ _ (I.votes j t hj hup k hk)
  · have := I.lead T who h
    have h2 := have_mono hext n T who
    show 2 * (have_ (putAt S.gave ((i : Int), s.term + 1) (i : Int)) n T who : Int) > n
    omega

/-- What granting does. -/
theorem grant_facts {w : VS} (hok : w.Ok) (x : Cl) (len last : Int) :
    ((w.grant x len last).2.n = w.n ∧ (w.grant x len last).2.self = w.self ∧ w.term ≤ (w.grant x len last).2.term ∧ ((w.grant x len last).2.term = w.term ∨ (w.grant x len last).2.term = x.term)) ∧
    ((w.grant x len last).2.term = w.term → (w.grant x len last).2.up = w.up ∧ (w.grant x len last).2.votes = w.votes) ∧
    ((w.grant x len last).2.term ≠ w.term → (w.grant x len last).2.up = false) ∧
    ((w.grant x len last).1 = true → (w.grant x len last).2.term = x.term ∧ (w.grant x len last).2.voted = x.who ∧ newer ⟨0, 0, len, last⟩ x = false ∧ 0 ≤ x.who ∧ x.who ≠ w.self ∧ (x.term = w.term → w.voted < 0 ∨ w.voted = x.who)) ∧
    ((w.grant x len last).1 = false → ((w.grant x len last).2.term = w.term → (w.grant x len last).2.voted = w.voted) ∧ ((w.grant x len last).2.term ≠ w.term → (w.grant x len last).2.voted < 0)) := by
  unfold VS.grant
  split
  · simp
  · rename_i h
    simp only [not_or, Bool.not_eq_false] at h
    obtain ⟨ho, h1, h2⟩ := h
    have ho' : 0 ≤ x.who ∧ x.who ≠ w.self := by
      simp only [VS.other, Bool.and_eq_true, decide_eq_true_eq, bne_iff_ne, ne_eq] at ho
      exact ⟨by omega, ho.2⟩
    dsimp only
    unfold VS.hear
    by_cases hh : x.term ≤ w.term ∨ x.term > maxT
    · rw [if_pos hh]
      dsimp only
      split
      · simp
      · rename_i hn
        simp only [not_or, not_and, Bool.not_eq_true] at hn
        obtain ⟨hn1, hn2, hn3⟩ := hn
        refine ⟨⟨rfl, rfl, Int.le_refl _, .inl rfl⟩, fun _ => ⟨rfl, rfl⟩, fun e => absurd rfl e, fun _ => ⟨by simp; omega, rfl, hn3, ho'.1, ho'.2, fun _ => ?_⟩, fun e => by cases e⟩
        by_cases hv : w.voted < 0
        · exact .inl hv
        · have := hn2 (by omega)
          exact .inr (by simpa using this)
    · rw [if_neg hh]
      simp only [not_or] at hh
      dsimp only
      split
      · refine ⟨⟨rfl, rfl, by simp; omega, .inr rfl⟩, fun e => absurd e (by simp; omega), fun _ => rfl, fun e => (by cases e), fun _ => ⟨fun e => absurd e (by simp; omega), fun _ => by simp⟩⟩
      · rename_i hn
        simp only [not_or, not_and, Bool.not_eq_true] at hn
        obtain ⟨hn1, hn2, hn3⟩ := hn
        exact ⟨⟨rfl, rfl, by simp; omega, .inr rfl⟩, fun e => absurd e (by simp; omega), fun _ => rfl, fun _ => ⟨rfl, rfl, hn3, ho'.1, ho'.2, fun e => absurd e (by omega)⟩, fun e => (by cases e)⟩

theorem grant_free (I : Inv n m S) {i k : Nat} {s w : VS} (hi : S.vs[i]? = some s) (hk : S.vs[k]? = some w) (len last : Int) {a b : Int}
    (hyes : (w.grant ⟨(i : Int), s.term, a, b⟩ len last).1 = true) {t : Int} (hg : getAt S.gave ((k : Int), s.term) = some t) : t = (i : Int) := by
  obtain ⟨hok, _, hself, _⟩ := I.ok k w hk
  obtain ⟨⟨_, _, hle, _⟩, _, _, hy, _⟩ := grant_facts hok ⟨(i : Int), s.term, a, b⟩ len last
  obtain ⟨h1, h2, h3, h4, h5, h6⟩ := hy hyes
  obtain ⟨_, ht0, w', hw', hT, hv⟩ := I.gaveT _ _ _ hg
  simp only [Int.toNat_natCast, hk, Option.some.injEq] at hw'
  subst hw'
  simp only at h1 h6
  have hT' : s.term = w.term := by omega
  have := hv hT'
  rcases h6 hT' with h | h <;> omega

/-- One asks another one. -/
theorem ask_inv (I : Inv n m S) {i k : Nat} {s w : VS} (hi : S.vs[i]? = some s) (hk : S.vs[k]? = some w) (hik : i ≠ k) (len last a b : Int) :
    Inv n m { S with vs := S.vs.set k (w.grant ⟨(i : Int), s.term, a, b⟩ len last).2, gave := if (w.grant ⟨(i : Int), s.term, a, b⟩ len last).1 then putAt S.gave ((k : Int), s.term) (i : Int) else S.gave } := by
  obtain ⟨hok, hn, hself, hterm⟩ := I.ok k w hk
  obtain ⟨_, _, _, hsterm⟩ := I.ok i s hi
  obtain ⟨⟨f1, f2, f3, f4⟩, f5, f6, f7, f8⟩ := grant_facts hok ⟨(i : Int), s.term, a, b⟩ len last
  have hfree : ∀ {t : Int}, (w.grant ⟨(i : Int), s.term, a, b⟩ len last).1 = true → getAt S.gave ((k : Int), s.term) = some t → t = (i : Int) := fun h1 h2 => grant_free I hi hk len last h1 h2
  have hgok := VS.grant_ok hok ⟨(i : Int), s.term, a, b⟩ len last
  generalize w.grant ⟨(i : Int), s.term, a, b⟩ len last = g at *
  obtain ⟨yes, w'⟩ := g
  simp only at f1 f2 f3 f4 f5 f6 f7 f8 hgok hfree ⊢
  have hlen : k < S.vs.length := (List.getElem?_eq_some_iff.1 hk).1
  have hext : Ext S.gave (if yes then putAt S.gave ((k : Int), s.term) (i : Int) else S.gave) := fun q x hq => by
    split
    · rename_i hy
      rw [getAt_put]
      split
      · rename_i he
        rw [← he] at hq
        rw [hfree hy hq]
      · exact hq
    · exact hq
  refine ⟨by simp [I.len], fun j t hj => ?_, fun q T x hq => ?_, fun j t hj hv => ?_, fun j t hj hup q hq => ?_, fun T who h => ?_⟩
  · rcases get_set _ _ _ _ _ hj with ⟨rfl, rfl⟩ | ⟨_, hj⟩
    · exact ⟨hgok, by omega, by omega, by omega⟩
    · exact I.ok j t hj
  · by_cases hput : yes = true ∧ (((k : Int), s.term) = (q, T))
    · obtain ⟨hy, he⟩ := hput
      simp only [Prod.mk.injEq] at he
      obtain ⟨rfl, rfl⟩ := he
      simp only [hy, if_true, getAt_put] at hq
      cases hq
      obtain ⟨h1, h2, _⟩ := f7 hy
      exact ⟨by omega, by omega, w', by simp [List.getElem?_set, hlen], by omega, fun _ => h2⟩
    · have hold : getAt S.gave (q, T) = some x := by
        split at hq
        · rename_i hy
          rw [getAt_put, if_neg (fun e => hput ⟨hy, e⟩)] at hq
          exact hq
        · exact hq
      obtain ⟨h0, hx0, t, ht, hle, heq⟩ := I.gaveT q T x hold
      refine ⟨h0, hx0, ?_⟩
      by_cases hqk : q.toNat = k
      · refine ⟨w', by simp [List.getElem?_set, hqk, hlen], ?_, fun e => ?_⟩
        · rw [hqk, hk] at ht; cases ht; omega
        · rw [hqk, hk] at ht
          cases ht
          cases yes with
          | true =>
            obtain ⟨h1, _⟩ := f7 rfl
            exact absurd ⟨rfl, by rw [Prod.mk.injEq]; exact ⟨by omega, by omega⟩⟩ hput
          | false =>
            have := (f8 rfl).1 (by omega)
            rw [this]
            exact heq (by omega)
      · refine ⟨t, ?_, hle, heq⟩
        show (S.vs.set k w')[q.toNat]? = _
        rw [List.getElem?_set_ne (fun e => hqk e.symm)]
        exact ht
  · rcases get_set _ _ _ _ _ hj with ⟨rfl, rfl⟩ | ⟨_, hj⟩
    · cases yes with
      | true =>
        obtain ⟨h1, h2, _⟩ := f7 rfl
        simp only [if_true, h1, h2, getAt_put]
      | false =>
        have hwt : t.term = w.term := by
          rcases Classical.em (t.term = w.term) with h | h
          · exact h
          · exact absurd ((f8 rfl).2 h) (by omega)
        have := (f8 rfl).1 hwt
        simp only [hwt, this]
        exact I.votedG j w hk (by omega)
    · exact hext _ _ (I.votedG j t hj hv)
  · rcases get_set _ _ _ _ _ hj with ⟨rfl, rfl⟩ | ⟨_, hj⟩
    · have hwt : t.term = w.term := by
        rcases Classical.em (t.term = w.term) with h | h
        · exact h
        · exact absurd (f6 h) (by simp [hup])
      obtain ⟨h1, h2⟩ := f5 hwt
      rw [hwt]
      exact hext _ _ (I.votes j w hk (by rw [← h1]; exact hup) q (by rw [← h2]; exact hq))
    · exact hext _ _ (I.votes j t hj hup q hq)
  · have h1 := I.lead T who h
    have h2 := have_mono hext n T who
    show 2 * (have_ (if yes then putAt S.gave ((k : Int), s.term) (i : Int) else S.gave) n T who : Int) > n
    omega

/-- One counts a vote that was given. -/
theorem count_inv (I : Inv n m S) {i k : Nat} {s : VS} (hi : S.vs[i]? = some s) (yes : Bool) (hyes : yes = true → getAt S.gave ((k : Int), s.term) = some (i : Int)) :
    Inv n m { S with vs := S.vs.set i (s.count (k : Int) s.term yes).2 } := by
  obtain ⟨hok, hn, hself, hterm⟩ := I.ok i s hi
  have hcok := VS.count_ok hok (k : Int) s.term yes
  have hfacts : (s.count (k : Int) s.term yes).2.n = s.n ∧ (s.count (k : Int) s.term yes).2.self = s.self ∧ (s.count (k : Int) s.term yes).2.term = s.term ∧ (s.count (k : Int) s.term yes).2.voted = s.voted ∧
      (s.count (k : Int) s.term yes).2.up = s.up ∧ ((s.count (k : Int) s.term yes).2.votes = s.votes ∨ (yes = true ∧ (s.count (k : Int) s.term yes).2.votes = s.votes.set k true)) := by
    unfold VS.count
    split
    · simp
    · rename_i h
      simp only [not_or, Bool.not_eq_false] at h
      exact ⟨rfl, rfl, rfl, rfl, rfl, .inr ⟨h.2.2.1, by simp⟩⟩
  generalize (s.count (k : Int) s.term yes).2 = c at *
  obtain ⟨h1, h2, h3, h4, h5, h6⟩ := hfacts
  have hlen : i < S.vs.length := (List.getElem?_eq_some_iff.1 hi).1
  refine ⟨by simp [I.len], fun j t hj => ?_, fun q T x hq => ?_, fun j t hj hv => ?_, fun j t hj hup q hq => ?_, I.lead⟩
  · rcases get_set _ _ _ _ _ hj with ⟨rfl, rfl⟩ | ⟨_, hj⟩
    · exact ⟨hcok, by omega, by omega, by omega⟩
    · exact I.ok j t hj
  · obtain ⟨h0, hx0, t, ht, hle, heq⟩ := I.gaveT q T x hq
    refine ⟨h0, hx0, ?_⟩
    by_cases hqk : q.toNat = i
    · rw [hqk, hi] at ht
      cases ht
      exact ⟨c, by simp [List.getElem?_set, hqk, hlen], by omega, fun e => by rw [h4]; exact heq (by omega)⟩
    · refine ⟨t, ?_, hle, heq⟩
      show (S.vs.set i c)[q.toNat]? = _
      rw [List.getElem?_set_ne (fun e => hqk e.symm)]
      exact ht
  · rcases get_set _ _ _ _ _ hj with ⟨rfl, rfl⟩ | ⟨_, hj⟩
    · rw [h3, h4]
      exact I.votedG j s hi (by omega)
    · exact I.votedG j t hj hv
  · rcases get_set _ _ _ _ _ hj with ⟨rfl, rfl⟩ | ⟨_, hj⟩
    · rw [h3]
      rcases h6 with h6 | ⟨hy, h6⟩
      · rw [h6] at hq
        exact I.votes j s hi (by rw [← h5]; exact hup) q hq
      · rw [h6, List.getElem?_set] at hq
        split at hq
        · rename_i he
          subst he
          exact hyes hy
        · exact I.votes j s hi (by rw [← h5]; exact hup) q hq
    · exact I.votes j t hj hup q hq

/-- The beginning. -/
theorem begin_inv (h1 : 1 ≤ n) (h5 : n ≤ 5) : Inv n 0 ⟨(List.range n.toNat).map fun (j : Nat) => mkV n (j : Int) 0 (-1), [], []⟩ := by
  have hget : ∀ (j : Nat) (s : VS), ((List.range n.toNat).map fun (j : Nat) => mkV n (j : Int) 0 (-1))[j]? = some s → j < n.toNat ∧ s = mkV n (j : Int) 0 (-1) := fun j s h => by
    obtain ⟨hj, he⟩ := List.getElem?_eq_some_iff.1 h
    simp at hj he
    exact ⟨by omega, he.symm⟩
  refine ⟨by simp, fun j s h => ?_, fun k T i h => (by simp [getAt] at h), fun j s h hv => ?_, fun j s h hup => ?_, fun T who h => (by simp [getAt] at h)⟩
  · obtain ⟨hj, rfl⟩ := hget j s h
    refine ⟨mkV_ok ?_, rfl, rfl, by simp [mkV]⟩
    simp [okNew, maxT]
    omega
  · obtain ⟨hj, rfl⟩ := hget j s h
    simp [mkV] at hv
  · obtain ⟨hj, rfl⟩ := hget j s h
    simp [mkV] at hup
theorem Inv.more (I : Inv n m S) {m' : Nat} (h : m ≤ m') : Inv n m' S := ⟨I.len, fun j s hj => by obtain ⟨a, b, c, d⟩ := I.ok j s hj; exact ⟨a, b, c, by omega⟩, I.gaveT, I.votedG, I.votes, I.lead⟩
end
end Go.Proofs.Yteebkalajidehaa
