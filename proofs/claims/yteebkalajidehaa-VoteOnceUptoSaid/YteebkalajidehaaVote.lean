/- Contracts of the package vote's methods, each over its tree. -/
import Derived.Test.YteebkalajidehaaMem
import Derived.Test.YteebkalajidehaaTrees
namespace Go.Proofs.Yteebkalajidehaa
open Go hiding Expr
open Go.Proofs.Yteebkalajidehaa.Tr
set_option linter.unusedVariables false
set_option linter.unusedSimpArgs false

/-! ### The vote, as plain data -/

structure VS where
  n : Int
  self : Int
  term : Int
  voted : Int
  up : Bool
  votes : List Bool

def maxT : Int := 1099511627776

structure VS.Ok (s : VS) : Prop where
  n1 : 1 ≤ s.n
  n5 : s.n ≤ 5
  self0 : 0 ≤ s.self
  self1 : s.self < s.n
  term0 : 0 ≤ s.term
  term1 : s.term ≤ maxT
  voted0 : -1 ≤ s.voted
  voted1 : s.voted < s.n
  len : (s.votes.length : Int) = s.n
  up0 : s.up = false → s.votes = List.replicate s.n.toNat false
  up1 : s.up = true → s.votes[s.self.toNat]? = some true

/-- The votes as bits. -/
def bits : List Bool → Int
  | [] => 0
  | b :: r => (if b then 1 else 0) + 2 * bits r

def cnt : List Bool → Int
  | [] => 0
  | b :: r => (if b then 1 else 0) + cnt r

def VS.hear (s : VS) (t : Int) : Bool × VS :=
  if t ≤ s.term ∨ t > maxT then (false, s) else (true, { s with term := t, voted := -1, up := false, votes := List.replicate s.n.toNat false })
def VS.other (s : VS) (i : Int) : Bool := decide (i ≥ 0) && decide (i < s.n) && (i != s.self)
structure Cl where
  who : Int
  term : Int
  len : Int
  last : Int
def newer (a b : Cl) : Bool := decide (a.last > b.last) || (a.last == b.last && decide (a.len > b.len))
def VS.grant (s : VS) (x : Cl) (len last : Int) : Bool × VS :=
  if s.other x.who = false ∨ x.term < 0 ∨ x.term > maxT then (false, s)
  else
    let s1 := (s.hear x.term).2
    if x.term < s1.term ∨ (s1.voted ≥ 0 ∧ s1.voted ≠ x.who) ∨ newer ⟨0, 0, len, last⟩ x = true then (false, s1) else (true, { s1 with voted := x.who })
def VS.stand (s : VS) : Int × VS :=
  if s.term = maxT then (3, s) else (0, { s with term := s.term + 1, voted := s.self, up := true, votes := (List.replicate s.n.toNat false).set s.self.toNat true })
def VS.won (s : VS) : Bool := s.up && decide (2 * cnt s.votes > s.n)
def VS.count (s : VS) (who term : Int) (yes : Bool) : Bool × VS :=
  if s.up = false ∨ term ≠ s.term ∨ yes = false ∨ s.other who = false ∨ s.votes[who.toNat]? = some true then (false, s)
  else
    let s1 := { s with votes := s.votes.set who.toNat true }
    (s1.won && !s.won, s1)

/-! ### Bits and lists -/

theorem bits_bound (l : List Bool) (h : l.length ≤ 5) : 0 ≤ bits l ∧ bits l < 32 := by
  match l, h with
  | [], _ => decide
  | [a], _ => revert a; decide
  | [a, b], _ => revert a b; decide
  | [a, b, c], _ => revert a b c; decide
  | [a, b, c, d], _ => revert a b c d; decide
  | [a, b, c, d, e], _ => revert a b c d e; decide
  | _ :: _ :: _ :: _ :: _ :: _ :: _, h => simp at h

theorem all5 {Q : List Bool → Prop} [DecidablePred Q] (h0 : Q []) (h1 : ∀ a, Q [a]) (h2 : ∀ a b, Q [a, b]) (h3 : ∀ a b c, Q [a, b, c]) (h4 : ∀ a b c d, Q [a, b, c, d]) (h5 : ∀ a b c d e, Q [a, b, c, d, e])
    (l : List Bool) (h : l.length ≤ 5) : Q l := by
  match l, h with
  | [], _ => exact h0
  | [a], _ => exact h1 a
  | [a, b], _ => exact h2 a b
  | [a, b, c], _ => exact h3 a b c
  | [a, b, c, d], _ => exact h4 a b c d
  | [a, b, c, d, e], _ => exact h5 a b c d e
  | _ :: _ :: _ :: _ :: _ :: _ :: _, h => simp at h

/-- Whether the number i's bit is set. -/
theorem bits_get (l : List Bool) (h : l.length ≤ 5) : ∀ i : Fin 5, (bitsI .and .u8 (shrI .u8 (bits l) (i.val : Int)) 1 == 1) = (l[i.val]?.getD false) :=
  all5 (Q := fun l => ∀ i : Fin 5, (bitsI .and .u8 (shrI .u8 (bits l) (i.val : Int)) 1 == 1) = (l[i.val]?.getD false)) (by decide) (by decide) (by decide) (by decide) (by decide) (by decide) l h

theorem bits_set (l : List Bool) (h : l.length ≤ 5) : ∀ i : Fin 5, i.val < l.length → bitsI .or .u8 (bits l) (shlI .u8 1 (i.val : Int)) = bits (l.set i.val true) :=
  all5 (Q := fun l => ∀ i : Fin 5, i.val < l.length → bitsI .or .u8 (bits l) (shlI .u8 1 (i.val : Int)) = bits (l.set i.val true)) (by decide) (by decide) (by decide) (by decide) (by decide) (by decide) l h

theorem bits_zero (n : Nat) : bits (List.replicate n false) = 0 := by
  induction n with
  | zero => rfl
  | succ n ih => simp [List.replicate_succ, bits, ih]


/-! ### The program's vote in memory -/

def pv (s : VS) : List Value := [.int .i64 s.n, .int .i64 s.self, .int .i64 s.term, .int .i64 s.voted, .int .u8 (bits s.votes)]

section
variable {w : World} {b : Nat} {s : VS}

theorem none_c (h : Cells w b 57 (pv s)) (hs : s.Ok) : Calls Try.prog 25 #[.pointer (some ⟨b, 0, none⟩)] w fun e w' => e = .returned (.bool false) ∧ w = w' := by
  apply c25
  refine s_ldI h rfl (s_ret ⟨?_, rfl⟩)
  have := hs.n1
  have : (s.n == 0) = false := by simp; omega
  rw [this]

theorem other_c (h : Cells w b 57 (pv s)) (i : Int) : Calls Try.prog 26 #[.pointer (some ⟨b, 0, none⟩), .int .i64 i] w fun e w' => e = .returned (.bool (s.other i)) ∧ w = w' := by
  apply c26
  refine s_ite (fun h1 => ?_) (fun h1 => ?_)
  · refine s_ldI h rfl (s_ite (fun h2 => ?_) (fun h2 => ?_))
    · refine s_ldI h rfl (s_ret ⟨?_, rfl⟩)
      simp only [VS.other, h1, h2, Bool.true_and]
    · exact s_ret ⟨by simp only [VS.other, h1, h2, Bool.true_and, Bool.false_and], rfl⟩
  · exact s_ret ⟨by simp only [VS.other, h1, Bool.false_and], rfl⟩

theorem term_c (h : Cells w b 57 (pv s)) (hs : s.Ok) : Calls Try.prog 7 #[.pointer (some ⟨b, 0, none⟩)] w fun e w' => e = .returned (.int .i64 s.term) ∧ w = w' := by
  apply c7
  refine s_call (none_c h hs) ?_
  rintro _ _ ⟨rfl, rfl⟩
  refine ⟨_, rfl, s_asB (s_false rfl (s_ldI h rfl (s_ret ⟨rfl, rfl⟩)))⟩

theorem standing_c (h : Cells w b 57 (pv s)) (hs : s.Ok) : Calls Try.prog 9 #[.pointer (some ⟨b, 0, none⟩)] w fun e w' => e = .returned (.bool (bits s.votes != 0)) ∧ w = w' := by
  apply c9
  refine s_call (none_c h hs) ?_
  rintro _ _ ⟨rfl, rfl⟩
  exact ⟨_, rfl, s_asB (s_true rfl (s_ldI h rfl (s_ret ⟨rfl, rfl⟩)))⟩

theorem voted_c (h : Cells w b 57 (pv s)) (hs : s.Ok) : Calls Try.prog 19 #[.pointer (some ⟨b, 0, none⟩)] w fun e w' => e = .returned (.tuple #[.int .i64 s.voted, .bool (decide (s.voted ≥ 0))]) ∧ Fr [] w w' := by
  apply c19
  refine s_call (none_c h hs) ?_
  rintro _ _ ⟨rfl, rfl⟩
  refine ⟨_, rfl, s_asB (s_false rfl (s_drew ?_))⟩
  intro w' hh hf
  have h := hf.cells h (by simp)
  exact s_ldI h rfl (s_ldI h rfl (s_ret ⟨rfl, hf⟩))

theorem hear_c (h : Cells w b 57 (pv s)) (hs : s.Ok) (t : Int) : Calls Try.prog 20 #[.pointer (some ⟨b, 0, none⟩), .int .i64 t] w fun e w' =>
    e = .returned (.bool (s.hear t).1) ∧ Fr [b] w w' ∧ Cells w' b 57 (pv (s.hear t).2) := by
  apply c20
  refine s_call (none_c h hs) ?_
  rintro _ _ ⟨rfl, rfl⟩
  refine ⟨_, rfl, s_asB (s_false rfl (s_ldI h rfl (s_ite (fun h1 => ?_) (fun h1 => ?_))))⟩
  · have h1 : t ≤ s.term := by simpa using h1
    have : s.hear t = (false, s) := by simp [VS.hear, h1]
    rw [this]
    exact s_ret ⟨rfl, Fr.refl _ _, h⟩
  · have h1 : ¬ t ≤ s.term := by simpa using h1
    refine s_ite (fun h2 => ?_) (fun h2 => ?_)
    · have h2 : t > maxT := by simpa [maxT] using h2
      have : s.hear t = (false, s) := by simp [VS.hear, h2]
      rw [this]
      exact s_ret ⟨rfl, Fr.refl _ _, h⟩
    · have h2 : ¬ t > maxT := by simpa [maxT] using h2
      have : s.hear t = (true, { s with term := t, voted := -1, up := false, votes := List.replicate s.n.toNat false }) := by simp only [VS.hear, h1, h2, or_self, if_false]
      rw [this]
      refine s_st h (by simp [pv]) rfl fun w1 _ hf1 h => s_st h (by simp [pv]) rfl fun w2 _ hf2 h => s_st h (by simp [pv]) rfl fun w3 _ hf3 h => s_ret ⟨rfl, (hf1.trans hf2).trans hf3, ?_⟩
      simpa [pv, bits_zero] using h
end
section
variable {w : World} {b : Nat} {s : VS}

theorem newer_c (a c : Cl) : Calls Try.prog 11 #[.agg #[.int .i64 a.who, .int .i64 a.term, .int .i64 a.len, .int .i64 a.last], .agg #[.int .i64 c.who, .int .i64 c.term, .int .i64 c.len, .int .i64 c.last]] w fun e w' =>
    e = .returned (.bool (newer a c)) ∧ Fr [] w w' := by
  apply c11
  refine s_new fun r1 w1 hr1 hz1 hf1 h1 => s_new fun r2 w2 hr2 hz2 hf2 h2 => ?_
  have h1 := hf2.cells h1 (by simp)
  have hf := hf1.trans hf2
  refine s_ldI h1 rfl (s_ldI h2 rfl (s_ite (fun g1 => ?_) (fun g1 => ?_)))
  · exact s_ret ⟨by simp only [newer, g1, Bool.true_or], hf⟩
  · refine s_ldI h1 rfl (s_ldI h2 rfl (s_ite (fun g2 => ?_) (fun g2 => ?_)))
    · exact s_ldI h1 rfl (s_ldI h2 rfl (s_ret ⟨by simp only [newer, g1, g2, Bool.false_or, Bool.true_and], hf⟩))
    · exact s_ret ⟨by simp only [newer, g1, g2, Bool.false_or, Bool.false_and], hf⟩

theorem VS.hear_ok (hs : s.Ok) (t : Int) (h0 : 0 ≤ t) : (s.hear t).2.Ok := by
  unfold VS.hear
  split
  · exact hs
  · rename_i h
    have := hs.n1
    refine ⟨hs.n1, hs.n5, hs.self0, hs.self1, h0, by simp only [not_or] at h; exact Int.not_lt.1 h.2, by simp, by simp; omega, ?_, fun _ => rfl, fun h => by simp at h⟩
    simp only [List.length_replicate]; omega

theorem grant_c (h : Cells w b 57 (pv s)) (hs : s.Ok) (x : Cl) (len last : Int) :
    Calls Try.prog 10 #[.pointer (some ⟨b, 0, none⟩), .agg #[.int .i64 x.who, .int .i64 x.term, .int .i64 x.len, .int .i64 x.last], .int .i64 len, .int .i64 last] w fun e w' =>
      e = .returned (.bool (s.grant x len last).1) ∧ Fr [b] w w' ∧ Cells w' b 57 (pv (s.grant x len last).2) := by
  apply c10
  have hb := h.lt
  refine s_new fun r w1 hr hz hf hc => ?_
  have h := hf.cells h (by simp)
  refine s_call (none_c h hs) ?_
  rintro _ _ ⟨rfl, rfl⟩
  refine ⟨_, rfl, s_asB (s_false rfl (s_ldI hc rfl (s_call (other_c h _) ?_)))⟩
  rintro _ _ ⟨rfl, rfl⟩
  refine ⟨_, rfl, s_asB (s_ite (fun g1 => ?_) (fun g1 => ?_))⟩
  · have : s.grant x len last = (false, s) := by simp only [VS.grant, Bool.not_eq_true'] at *; simp [g1]
    rw [this]
    exact s_ret ⟨rfl, hf.nil, h⟩
  have g1 : s.other x.who = true := by simpa using g1
  refine s_ldI hc rfl (s_ite (fun g2 => ?_) (fun g2 => ?_))
  · have g2 : x.term < 0 := by simpa using g2
    have : s.grant x len last = (false, s) := by simp [VS.grant, g2]
    rw [this]
    exact s_ret ⟨rfl, hf.nil, h⟩
  have g2 : ¬ x.term < 0 := by simpa using g2
  refine s_ldI hc rfl (s_ite (fun g3 => ?_) (fun g3 => ?_))
  · have g3 : x.term > maxT := by simpa [maxT] using g3
    have : s.grant x len last = (false, s) := by simp [VS.grant, g3]
    rw [this]
    exact s_ret ⟨rfl, hf.nil, h⟩
  have g3 : ¬ x.term > maxT := by simpa [maxT] using g3
  have hgr : s.grant x len last = (let s1 := (s.hear x.term).2
    if x.term < s1.term ∨ (s1.voted ≥ 0 ∧ s1.voted ≠ x.who) ∨ newer ⟨0, 0, len, last⟩ x = true then (false, s1) else (true, { s1 with voted := x.who })) := by
    unfold VS.grant
    rw [if_neg (by simp [g1, g2, g3])]
  have hs1 := VS.hear_ok hs x.term (by omega)
  refine s_ldI hc rfl (s_call (hear_c h hs x.term) ?_)
  rintro _ w2 ⟨rfl, hf2, h2⟩
  generalize (s.hear x.term).2 = s1 at *
  simp only at hgr
  have hc := hf2.cells hc (by simp; omega)
  refine ⟨_, rfl, s_asB (s_drew ?_)⟩
  intro w3 _ hf3
  have hc := hf3.cells hc (by simp)
  have h := hf3.cells h2 (by simp)
  have hfr : Fr [b] w w3 := (hf.nil.trans hf2).trans hf3.nil
  clear hf2 h2 hf3 hf
  refine s_ldI hc rfl (s_ldI h rfl (s_ite (fun g4 => ?_) (fun g4 => ?_)))
  · have g4 : x.term < s1.term := by simpa using g4
    rw [hgr, if_pos (.inl g4)]
    exact s_chk (c_cons h rfl (c_cons hc rfl c_nil)) (s_ret ⟨rfl, hfr, h⟩)
  have g4 : ¬ x.term < s1.term := by simpa using g4
  have fin : ∀ (w4 : World) (g : ¬ (s1.voted ≥ 0 ∧ s1.voted ≠ x.who)) (bb : Bool), bb = newer ⟨0, 0, len, last⟩ x → Fr [] w3 w4 → Cells w4 b 57 (pv s1) → Cells w4 r 39 [.int .i64 x.who, .int .i64 x.term, .int .i64 x.len, .int .i64 x.last] →
      (T.ite bb (T.ret (.bool false)) (T.ldI .i64 r 0 fun i => T.st b (0 + 3) (.int .i64 i) (T.ret (.bool true)))).sem Try.prog (fun e w' => e = .returned (.bool (s.grant x len last).1) ∧ Fr [b] w w' ∧ Cells w' b 57 (pv (s.grant x len last).2)) ρ0 w4 := by
    intro w4 g bb hbb hf4 h hc
    subst hbb
    refine s_ite (fun g6 => ?_) (fun g6 => ?_)
    · rw [hgr, if_pos (.inr (.inr g6))]
      exact s_ret ⟨rfl, hfr.trans hf4.nil, h⟩
    · rw [hgr, if_neg (by simp [g4, g6]; simpa using g)]
      refine s_ldI hc rfl (s_st h (by simp [pv]) rfl fun w5 _ hf5 h => s_ret ⟨rfl, (hfr.trans hf4.nil).trans hf5, ?_⟩)
      simpa [pv] using h
  refine s_ldI h rfl (s_ite (fun g5 => ?_) (fun g5 => ?_))
  · have g5 : s1.voted ≥ 0 := by simpa using g5
    refine s_ldI h rfl (s_ldI hc rfl (s_ite (fun g6 => ?_) (fun g6 => ?_)))
    · have g6 : s1.voted ≠ x.who := by simpa using g6
      rw [hgr, if_pos (.inr (.inl ⟨g5, g6⟩))]
      exact s_chk (c_cons hc rfl (c_cons h rfl (c_cons h rfl (c_cons h rfl (c_cons hc rfl c_nil))))) (s_ret ⟨rfl, hfr, h⟩)
    · have g6 : s1.voted = x.who := by simpa using g6
      refine s_ldI hc rfl (s_ldI hc rfl (s_ldI hc rfl (s_ldI hc rfl (s_call (newer_c ⟨0, 0, len, last⟩ x) ?_))))
      rintro _ w4 ⟨rfl, hf4⟩
      have h := hf4.cells h (by simp)
      have hc := hf4.cells hc (by simp)
      exact ⟨_, rfl, s_asB (s_chk (c_cons hc rfl (c_cons h rfl (c_cons h rfl (c_cons h rfl (c_cons hc rfl c_nil))))) (fin w4 (by simp [g6]) _ rfl hf4 h hc))⟩
  · have g5 : ¬ s1.voted ≥ 0 := by simpa using g5
    refine s_ldI hc rfl (s_ldI hc rfl (s_ldI hc rfl (s_ldI hc rfl (s_call (newer_c ⟨0, 0, len, last⟩ x) ?_))))
    rintro _ w4 ⟨rfl, hf4⟩
    have h := hf4.cells h (by simp)
    have hc := hf4.cells hc (by simp)
    exact ⟨_, rfl, s_asB (s_chk (c_cons h rfl (c_cons h rfl (c_cons hc rfl c_nil))) (fin w4 (fun hh => g5 hh.1) _ rfl hf4 h hc))⟩
end
theorem wrap64 {n : Int} (h1 : -9223372036854775808 ≤ n) (h2 : n ≤ 9223372036854775807) : IntKind.wrap .i64 n = n := by
  simp only [IntKind.wrap, IntKind.bits, IntKind.signed]
  simp only [show ((2 : Int) ^ 64) = 18446744073709551616 from rfl, show (64 - 1) = 63 from rfl, show ((2 : Int) ^ 63) = 9223372036854775808 from rfl, Bool.true_and, decide_eq_true_eq]
  split <;> omega

theorem bits_one : ∀ n : Fin 6, ∀ i : Fin 5, i.val < n.val → shlI .u8 1 (i.val : Int) = bits ((List.replicate n.val false).set i.val true) := by decide

theorem bits_nonneg (l : List Bool) : 0 ≤ bits l := by
  induction l with
  | nil => simp [bits]
  | cons b r ih => simp only [bits]; split <;> omega

theorem bits_pos : ∀ (l : List Bool) (i : Nat), l[i]? = some true → 1 ≤ bits l
  | [], i, h => by simp at h
  | b :: r, 0, h => by
    simp at h; subst h
    have := bits_nonneg r
    simp [bits]; omega
  | b :: r, i + 1, h => by
    have := bits_pos r i (by simpa using h)
    simp only [bits]; split <;> omega

theorem cnt_bound (l : List Bool) : 0 ≤ cnt l ∧ cnt l ≤ l.length := by
  induction l with
  | nil => simp [cnt]
  | cons b r ih => simp only [cnt, List.length_cons]; split <;> omega

theorem VS.up_bits {s : VS} (hs : s.Ok) : (bits s.votes != 0) = s.up := by
  cases hu : s.up with
  | false => rw [hs.up0 hu, bits_zero]; rfl
  | true => have := bits_pos _ _ (hs.up1 hu); simp; omega

theorem VS.len5 {s : VS} (hs : s.Ok) : s.votes.length ≤ 5 := by have := hs.len; have := hs.n5; omega

section
variable {w : World} {b : Nat} {s : VS}

set_option maxRecDepth 100000 in
theorem ones_c (l : List Bool) (h : l.length ≤ 5) : Calls Try.prog 27 #[.int .u8 (bits l)] w fun e w' => e = .returned (.int .i64 (cnt l)) ∧ w = w' := by
  apply c27
  have hb := bits_bound l h
  refine s_req (by omega) (s_ret ⟨?_, rfl⟩)
  refine congrArg (fun n => Ending.returned (Value.int .i64 n)) ?_
  clear hb
  match l, h with
  | [], _ => decide +kernel
  | [a], _ => revert a; decide +kernel
  | [a, b], _ => revert a b; decide +kernel
  | [a, b, c], _ => revert a b c; decide +kernel
  | [a, b, c, d], _ => revert a b c d; decide +kernel
  | [a, b, c, d, e], _ => revert a b c d e; decide +kernel
  | _ :: _ :: _ :: _ :: _ :: _ :: _, h => simp at h

theorem stand_c (h : Cells w b 57 (pv s)) (hs : s.Ok) : Calls Try.prog 8 #[.pointer (some ⟨b, 0, none⟩)] w fun e w' =>
    e = .returned (.int .i64 s.stand.1) ∧ Fr [b] w w' ∧ Cells w' b 57 (pv s.stand.2) := by
  apply c8
  refine s_call (none_c h hs) ?_
  rintro _ _ ⟨rfl, rfl⟩
  refine ⟨_, rfl, s_asB (s_false rfl (s_ldI h rfl (s_ite (fun g1 => ?_) (fun g1 => ?_))))⟩
  · have g1 : s.term = maxT := by simpa [maxT] using g1
    have : s.stand = (3, s) := by simp [VS.stand, g1]
    rw [this]
    exact s_ret ⟨rfl, Fr.refl _ _, h⟩
  have g1 : ¬ s.term = maxT := by simpa [maxT] using g1
  have hst : s.stand = (0, { s with term := s.term + 1, voted := s.self, up := true, votes := (List.replicate s.n.toNat false).set s.self.toNat true }) := by simp [VS.stand, g1]
  rw [hst]
  have h0 := hs.term0
  have h1 := hs.term1
  unfold maxT at h1
  refine s_ldI h rfl (s_st h (by simp [pv]) rfl fun w1 _ hf1 h => s_drew fun w2 _ hf2 => ?_)
  have h := hf2.cells h (by simp)
  have h3 := hs.self0
  have h4 := hs.self1
  have h5 := hs.n5
  refine s_ldI h rfl (s_ldI h rfl (s_req h3 (s_st h (by simp [pv]) rfl fun w3 _ hf3 h => s_chk c_nil (s_st h (by simp [pv]) rfl fun w4 _ hf4 h => s_chk c_nil (s_ret ⟨rfl, ((hf1.trans hf2.nil).trans hf3).trans hf4, ?_⟩)))))
  have hb := bits_one ⟨s.n.toNat, by omega⟩ ⟨s.self.toNat, by omega⟩ (by show s.self.toNat < s.n.toNat; omega)
  have hself : ((s.self.toNat : Nat) : Int) = s.self := by omega
  simp only [hself] at hb
  rw [hb] at h
  rw [wrap64 (by omega) (by omega)] at h
  simpa [pv] using h

theorem VS.stand_ok (hs : s.Ok) : s.stand.2.Ok := by
  unfold VS.stand
  split
  · exact hs
  · rename_i h
    have := hs.n1; have := hs.self0; have := hs.self1; have := hs.term0; have := hs.term1
    refine ⟨hs.n1, hs.n5, hs.self0, hs.self1, by show 0 ≤ s.term + 1; omega, by show s.term + 1 ≤ maxT; omega, by show -1 ≤ s.self; omega, hs.self1, ?_, fun h => by simp at h, fun _ => ?_⟩
    · simp; omega
    · show ((List.replicate s.n.toNat false).set s.self.toNat true)[s.self.toNat]? = some true
      rw [List.getElem?_set_self (by simp; omega)]

theorem won_c (h : Cells w b 57 (pv s)) (hs : s.Ok) : Calls Try.prog 13 #[.pointer (some ⟨b, 0, none⟩)] w fun e w' => e = .returned (.bool s.won) ∧ Fr [] w w' := by
  apply c13
  refine s_drew fun w1 _ hf => ?_
  have h := hf.cells h (by simp)
  refine s_call (standing_c h hs) ?_
  rintro _ _ ⟨rfl, rfl⟩
  rw [VS.up_bits hs]
  refine ⟨_, rfl, s_asB (s_chk c_nil (s_ite (fun g1 => ?_) (fun g1 => ?_)))⟩
  · refine s_ldI h rfl (s_ldI h rfl (s_call (ones_c _ (VS.len5 hs)) ?_))
    rintro _ _ ⟨rfl, rfl⟩
    refine ⟨_, rfl, s_asI (s_chk (c_cons h rfl c_nil) (s_ret ⟨?_, hf⟩))⟩
    have h1 := cnt_bound s.votes
    have h2 := VS.len5 hs
    rw [wrap64 (by omega) (by omega)]
    simp [VS.won, g1]
  · exact s_chk c_nil (s_ret ⟨by simp [VS.won, g1], hf⟩)

theorem VS.get_who (hs : s.Ok) {who : Int} (h : s.other who = true) : (bitsI .and .u8 (shrI .u8 (bits s.votes) who) 1 == 1) = (s.votes[who.toNat]?.getD false) := by
  have h5 := hs.n5
  simp [VS.other] at h
  have := bits_get s.votes (VS.len5 hs) ⟨who.toNat, by omega⟩
  have hw : ((who.toNat : Nat) : Int) = who := by omega
  simp only [hw] at this
  exact this

theorem VS.count_ok (hs : s.Ok) (who term : Int) (yes : Bool) : (s.count who term yes).2.Ok := by
  unfold VS.count
  split
  · exact hs
  · rename_i h
    simp only [not_or] at h
    refine ⟨hs.n1, hs.n5, hs.self0, hs.self1, hs.term0, hs.term1, hs.voted0, hs.voted1, ?_, fun hu => absurd hu h.1, fun hu => ?_⟩
    · show ((s.votes.set who.toNat true).length : Int) = s.n
      rw [List.length_set]; exact hs.len
    · show (s.votes.set who.toNat true)[s.self.toNat]? = some true
      have h1 := hs.up1 hu
      by_cases he : who.toNat = s.self.toNat
      · rw [he, List.getElem?_set_self (by have := List.getElem?_eq_some_iff.1 h1; exact this.1)]
      · rw [List.getElem?_set_ne he]; exact h1

theorem count_c (h : Cells w b 57 (pv s)) (hs : s.Ok) (who term : Int) (yes : Bool) : Calls Try.prog 12 #[.pointer (some ⟨b, 0, none⟩), .int .i64 who, .int .i64 term, .bool yes] w fun e w' =>
    e = .returned (.bool (s.count who term yes).1) ∧ Fr [b] w w' ∧ Cells w' b 57 (pv (s.count who term yes).2) := by
  apply c12
  have same : (s.up = false ∨ term ≠ s.term ∨ yes = false ∨ s.other who = false ∨ s.votes[who.toNat]? = some true) → s.count who term yes = (false, s) := fun g => by unfold VS.count; rw [if_pos g]
  refine s_call (standing_c h hs) ?_
  rintro _ _ ⟨rfl, rfl⟩
  rw [VS.up_bits hs]
  refine ⟨_, rfl, s_asB (s_ite (fun g1 => ?_) (fun g1 => ?_))⟩
  · rw [same (.inl (by simpa using g1))]; exact s_ret ⟨rfl, Fr.refl _ _, h⟩
  have g1 : s.up = true := by simpa using g1
  refine s_ldI h rfl (s_ite (fun g2 => ?_) (fun g2 => ?_))
  · rw [same (.inr (.inl (by simpa using g2)))]; exact s_ret ⟨rfl, Fr.refl _ _, h⟩
  have g2 : term = s.term := by simpa using g2
  refine s_ite (fun g3 => ?_) (fun g3 => ?_)
  · rw [same (.inr (.inr (.inl (by simpa using g3))))]; exact s_ret ⟨rfl, Fr.refl _ _, h⟩
  have g3 : yes = true := by simpa using g3
  refine s_call (other_c h _) ?_
  rintro _ _ ⟨rfl, rfl⟩
  refine ⟨_, rfl, s_asB (s_ite (fun g4 => ?_) (fun g4 => ?_))⟩
  · rw [same (.inr (.inr (.inr (.inl (by simpa using g4)))))]; exact s_ret ⟨rfl, Fr.refl _ _, h⟩
  have g4 : s.other who = true := by simpa using g4
  have hw0 : 0 ≤ who ∧ who < s.n := by simp [VS.other] at g4; omega
  refine s_ldI h rfl (s_req hw0.1 (s_ite (fun g5 => ?_) (fun g5 => ?_)))
  · rw [VS.get_who hs g4] at g5
    have g5 : s.votes[who.toNat]? = some true := by cases hx : s.votes[who.toNat]? <;> simp_all
    rw [same (.inr (.inr (.inr (.inr g5))))]; exact s_ret ⟨rfl, Fr.refl _ _, h⟩
  rw [VS.get_who hs g4] at g5
  have g5 : ¬ s.votes[who.toNat]? = some true := by intro hx; simp [hx] at g5
  have hcnt : s.count who term yes = (({ s with votes := s.votes.set who.toNat true } : VS).won && !s.won, { s with votes := s.votes.set who.toNat true }) := by
    unfold VS.count
    rw [if_neg (by simp [g1, g2, g3, g4, g5])]
  have hok := VS.count_ok hs who term yes
  rw [hcnt] at hok ⊢
  refine s_call (won_c h hs) ?_
  rintro _ w1 ⟨rfl, hf1⟩
  have h := hf1.cells h (by simp)
  refine ⟨_, rfl, s_asB (s_drew fun w2 _ hf2 => ?_)⟩
  have h := hf2.cells h (by simp)
  refine s_ldI h rfl (s_req hw0.1 (s_st h (by simp [pv]) rfl fun w3 _ hf3 h => s_chk c_nil ?_))
  have hl := hs.len
  have h5 := hs.n5
  have hb := bits_set s.votes (VS.len5 hs) ⟨who.toNat, by omega⟩ (by show who.toNat < s.votes.length; omega)
  have hww : ((who.toNat : Nat) : Int) = who := by omega
  simp only [hww] at hb
  rw [hb] at h
  have h : Cells w3 b 57 (pv { s with votes := s.votes.set who.toNat true }) := by simpa [pv] using h
  refine s_call (won_c h hok) ?_
  rintro _ w4 ⟨rfl, hf4⟩
  have h := hf4.cells h (by simp)
  have hfr : Fr [b] w w4 := ((hf1.nil.trans hf2.nil).trans hf3).trans hf4.nil
  refine ⟨_, rfl, s_asB (s_ite (fun g6 => ?_) (fun g6 => ?_))⟩
  · exact s_ret ⟨by simp only [g6, Bool.true_and], hfr, h⟩
  · exact s_ret ⟨by simp only [g6, Bool.false_and], hfr, h⟩

theorem clone_c (h : Cells w b 57 (pv s)) (hs : s.Ok) : Calls Try.prog 23 #[.pointer (some ⟨b, 0, none⟩)] w fun e w' =>
    ∃ b', e = .returned (.pointer (some ⟨b', 0, none⟩)) ∧ w.heap.size ≤ b' ∧ Fr [] w w' ∧ Cells w' b' 57 (pv s) := by
  apply c23
  refine s_call (none_c h hs) ?_
  rintro _ _ ⟨rfl, rfl⟩
  refine ⟨_, rfl, s_asB (s_false rfl (s_ldI h rfl (s_ldI h rfl (s_ldI h rfl (s_ldI h rfl (s_ldI h rfl ?_))))))⟩
  refine s_new fun r w1 hr hz hf1 hc => s_st hc (by simp) rfl fun w2 _ hf2 hc => s_st hc (by simp) rfl fun w3 _ hf3 hc => s_st hc (by simp) rfl fun w4 _ hf4 hc => s_st hc (by simp) rfl fun w5 _ hf5 hc => s_st hc (by simp) rfl fun w6 _ hf6 hc => s_ret ⟨r, rfl, by omega, ?_, ?_⟩
  · refine Fr.trans' hf1 ((((hf2.trans hf3).trans hf4).trans hf5).trans hf6) ?_
    intro x hx
    simp at hx
    exact .inr (by omega)
  · simpa [pv] using hc
end

end Go.Proofs.Yteebkalajidehaa
