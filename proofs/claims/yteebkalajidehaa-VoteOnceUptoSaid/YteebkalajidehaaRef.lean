/- Contracts of the reference's vote, each over its tree. -/
import Derived.Test.YteebkalajidehaaVote
namespace Go.Proofs.Yteebkalajidehaa
open Go hiding Expr
open Go.Proofs.Yteebkalajidehaa.Tr Go.RowKit
set_option linter.unusedVariables false
set_option linter.unusedSimpArgs false

theorem elem68 : Elem Try.prog 68 4 (.bool false) 1 1 := ⟨by kernel_rfl, by kernel_rfl, rfl, by decide⟩
theorem elem71 : Elem Try.prog 71 3 (.int .i64 0) 1 8 := ⟨by kernel_rfl, by kernel_rfl, rfl, by decide⟩

def bv (l : List Bool) : List Value := l.map Value.bool
def rv (s : VS) (b2 cap : Nat) : List Value := [.int .i64 s.n, .int .i64 s.self, .int .i64 s.term, .int .i64 s.voted, .bool s.up, .slice (some ⟨b2, 0, none⟩) s.votes.length cap]

structure RefAt (w : World) (b b2 : Nat) (s : VS) : Prop where
  obj : ∃ cap, Cells w b 70 (rv s b2 cap)
  own : ∃ rest, Cells w b2 4 (bv s.votes ++ rest)
  ne : b ≠ b2

section
variable {w w' : World} {b b2 : Nat} {s : VS}

theorem RefAt.fr {F : List Nat} (h : RefAt w b b2 s) (hf : Fr F w w') (h1 : b ∉ F) (h2 : b2 ∉ F) : RefAt w' b b2 s := by
  obtain ⟨⟨cap, ho⟩, ⟨rest, hv⟩, hne⟩ := h
  exact ⟨⟨cap, hf.cells ho h1⟩, ⟨rest, hf.cells hv h2⟩, hne⟩

theorem RefAt.lt (h : RefAt w b b2 s) : b < w.heap.size ∧ b2 < w.heap.size := by
  obtain ⟨⟨cap, ho⟩, ⟨rest, hv⟩, hne⟩ := h
  exact ⟨ho.lt, hv.lt⟩

theorem rother_c (h : RefAt w b b2 s) (i : Int) : Calls Try.prog 35 #[.pointer (some ⟨b, 0, none⟩), .int .i64 i] w fun e w' => e = .returned (.bool (s.other i)) ∧ w = w' := by
  obtain ⟨⟨cap, h⟩, _, _⟩ := h
  apply c35
  refine s_ite (fun h1 => ?_) (fun h1 => ?_)
  · refine s_ldI h rfl (s_ite (fun h2 => ?_) (fun h2 => ?_))
    · refine s_ldI h rfl (s_ret ⟨?_, rfl⟩)
      simp only [VS.other, h1, h2, Bool.true_and]
    · exact s_ret ⟨by simp only [VS.other, h1, h2, Bool.true_and, Bool.false_and], rfl⟩
  · exact s_ret ⟨by simp only [VS.other, h1, Bool.false_and], rfl⟩

theorem rnewer_c (a c : Cl) : Calls Try.prog 18 #[.agg #[.int .i64 a.who, .int .i64 a.term, .int .i64 a.len, .int .i64 a.last], .agg #[.int .i64 c.who, .int .i64 c.term, .int .i64 c.len, .int .i64 c.last]] w fun e w' =>
    e = .returned (.bool (newer a c)) ∧ Fr [] w w' := by
  apply c18
  refine s_new fun r1 w1 hr1 hz1 hf1 h1 => s_new fun r2 w2 hr2 hz2 hf2 h2 => ?_
  have h1 := hf2.cells h1 (by simp)
  have hf := hf1.trans hf2
  refine s_ldI h1 rfl (s_ldI h2 rfl (s_ite (fun g1 => ?_) (fun g1 => ?_)))
  · exact s_ret ⟨by simp only [newer, g1, Bool.true_or], hf⟩
  · refine s_ldI h1 rfl (s_ldI h2 rfl (s_ite (fun g2 => ?_) (fun g2 => ?_)))
    · exact s_ldI h1 rfl (s_ldI h2 rfl (s_ret ⟨by simp only [newer, g1, g2, Bool.false_or, Bool.true_and], hf⟩))
    · exact s_ret ⟨by simp only [newer, g1, g2, Bool.false_or, Bool.false_and], hf⟩

theorem rhear_c (h : RefAt w b b2 s) (hs : s.Ok) (t : Int) : Calls Try.prog 28 #[.pointer (some ⟨b, 0, none⟩), .int .i64 t] w fun e w' =>
    e = .returned (.bool (s.hear t).1) ∧ ∃ b2', (b2' = b2 ∨ w.heap.size ≤ b2') ∧ Fr [b] w w' ∧ RefAt w' b b2' (s.hear t).2 := by
  obtain ⟨⟨cap, ho⟩, hv, hne⟩ := id h
  apply c28
  refine s_ldI ho rfl (s_ite (fun h1 => ?_) (fun h1 => ?_))
  · have h1 : t ≤ s.term := by simpa using h1
    have : s.hear t = (false, s) := by simp [VS.hear, h1]
    rw [this]
    exact s_ret ⟨rfl, b2, .inl rfl, Fr.refl _ _, h⟩
  · have h1 : ¬ t ≤ s.term := by simpa using h1
    refine s_ite (fun h2 => ?_) (fun h2 => ?_)
    · have h2 : t > maxT := by simpa [maxT] using h2
      have : s.hear t = (false, s) := by simp [VS.hear, h2]
      rw [this]
      exact s_ret ⟨rfl, b2, .inl rfl, Fr.refl _ _, h⟩
    · have h2 : ¬ t > maxT := by simpa [maxT] using h2
      have : s.hear t = (true, { s with term := t, voted := -1, up := false, votes := List.replicate s.n.toNat false }) := by simp only [VS.hear, h1, h2, or_self, if_false]
      rw [this]
      have hn1 := hs.n1
      have hn5 := hs.n5
      have hb := ho.lt
      refine s_st ho (by simp [rv]) rfl fun w1 z1 hf1 h => s_st h (by simp [rv]) rfl fun w2 z2 hf2 h => s_st h (by simp [rv]) rfl fun w3 z3 hf3 h => s_ldI h rfl ?_
      refine s_make elem68 (by omega) (by omega) (by omega) fun r w4 hr z4 hf4 hc => s_asS ?_
      rw [made_one _ _ rfl] at hc
      have h := hf4.cells h (by simp)
      refine s_st h (by simp [rv]) rfl fun w5 z5 hf5 h => s_ret ⟨rfl, r, .inr (by omega), (((hf1.trans hf2).trans hf3).trans hf4.nil).trans hf5, ⟨⟨s.n.toNat, ?_⟩, ⟨[], ?_⟩, by omega⟩⟩
      · simpa [rv] using h
      · have hc := hf5.cells hc (by simp; omega)
        simpa [bv] using hc

theorem many_c (h : RefAt w b b2 s) (hs : s.Ok) : Calls Try.prog 36 #[.pointer (some ⟨b, 0, none⟩)] w fun e w' => e = .returned (.int .i64 (cnt s.votes)) ∧ w = w' := by
  obtain ⟨⟨cap, ho⟩, ⟨rest, hv⟩, hne⟩ := h
  have hl5 := VS.len5 hs
  apply c36
  refine s_loop (fun vs w1 => w = w1 ∧ ∃ i : Nat, i ≤ s.votes.length ∧ vs = [.int .i64 (cnt (s.votes.take i)), .int .i64 i]) (fun vs _ => s.votes.length - (intOf (vs.getD 1 undef)).toNat) ⟨rfl, 0, Nat.zero_le _, rfl⟩ ?_
  rintro vs j w1 ⟨rfl, i, hi, rfl⟩
  refine s_asI (s_asI (s_ldS ho rfl (s_ite (fun g1 => ?_) (fun g1 => ?_))))
  · have g1 : i < s.votes.length := by simpa using g1
    have hcb := cnt_bound (s.votes.take i)
    have hlt : (s.votes.take i).length ≤ i := List.length_take_le _ _
    have hnext : cnt (s.votes.take (i + 1)) = cnt (s.votes.take i) + (if s.votes[i] then 1 else 0) := by
      rw [List.take_succ_eq_append_getElem g1]
      generalize s.votes.take i = l
      generalize s.votes[i] = c
      induction l with
      | nil => simp [cnt]
      | cons a r ih => simp only [List.cons_append, cnt, ih]; omega
    refine s_ldS ho rfl (s_req (by omega) (s_sm (s_ldB hv (n := s.votes[i]) ?_ (s_ite (fun g2 => ?_) (fun g2 => ?_)))))
    · show (bv s.votes ++ rest)[0 + ((i : Int)).toNat * 1]? = _
      rw [List.getElem?_append_left (by simp [bv]; omega)]
      simp [bv, g1]
    · refine s_next ⟨rfl, rfl⟩ ?_
      simp only [if_true]
      rw [wrap64 (by omega) (by omega), wrap64 (by omega) (by omega)]
      refine ⟨⟨trivial, i + 1, by omega, ?_⟩, ?_⟩
      · rw [hnext, g2]; simp
      · simp [intOf]; omega
    · refine s_next ⟨rfl, rfl⟩ ?_
      simp only [if_true]
      rw [wrap64 (by omega) (by omega)]
      refine ⟨⟨trivial, i + 1, by omega, ?_⟩, ?_⟩
      · rw [hnext, g2]; simp
      · simp [intOf]; omega
  · have g1 : ¬ i < s.votes.length := by simpa using g1
    have : s.votes.take i = s.votes := List.take_of_length_le (by omega)
    rw [this]
    exact s_ret ⟨rfl, rfl⟩

theorem rwon_c (h : RefAt w b b2 s) (hs : s.Ok) : Calls Try.prog 32 #[.pointer (some ⟨b, 0, none⟩)] w fun e w' => e = .returned (.bool s.won) ∧ Fr [] w w' := by
  apply c32
  refine s_drew fun w1 _ hf => ?_
  have h := h.fr hf (by simp) (by simp)
  obtain ⟨⟨cap, ho⟩, _, _⟩ := id h
  refine s_ldB ho rfl (s_ite (fun g1 => ?_) (fun g1 => ?_))
  · refine s_ldI ho rfl (s_call (many_c h hs) ?_)
    rintro _ _ ⟨rfl, rfl⟩
    refine ⟨_, rfl, s_asI (s_chk (c_cons ho rfl (c_cons ho rfl c_nil)) (s_ret ⟨?_, hf⟩))⟩
    have h1 := cnt_bound s.votes
    have h2 := VS.len5 hs
    rw [wrap64 (by omega) (by omega)]
    simp [VS.won, g1]
  · exact s_chk (c_cons ho rfl c_nil) (s_ret ⟨by simp [VS.won, g1], hf⟩)

theorem rgrant_c (h : RefAt w b b2 s) (hs : s.Ok) (x : Cl) (len last : Int) :
    Calls Try.prog 29 #[.pointer (some ⟨b, 0, none⟩), .agg #[.int .i64 x.who, .int .i64 x.term, .int .i64 x.len, .int .i64 x.last], .int .i64 len, .int .i64 last] w fun e w' =>
      e = .returned (.bool (s.grant x len last).1) ∧ ∃ b2', (b2' = b2 ∨ w.heap.size ≤ b2') ∧ Fr [b] w w' ∧ RefAt w' b b2' (s.grant x len last).2 := by
  apply c29
  have hb := h.lt
  refine s_new fun r w1 hr hz hf hc => ?_
  have h := h.fr hf (by simp) (by simp)
  refine s_ldI hc rfl (s_call (rother_c h _) ?_)
  rintro _ _ ⟨rfl, rfl⟩
  refine ⟨_, rfl, s_asB (s_ite (fun g1 => ?_) (fun g1 => ?_))⟩
  · have : s.grant x len last = (false, s) := by simp only [VS.grant, Bool.not_eq_true'] at *; simp [g1]
    rw [this]
    exact s_ret ⟨rfl, b2, .inl rfl, hf.nil, h⟩
  have g1 : s.other x.who = true := by simpa using g1
  refine s_ldI hc rfl (s_ite (fun g2 => ?_) (fun g2 => ?_))
  · have g2 : x.term < 0 := by simpa using g2
    have : s.grant x len last = (false, s) := by simp [VS.grant, g2]
    rw [this]
    exact s_ret ⟨rfl, b2, .inl rfl, hf.nil, h⟩
  have g2 : ¬ x.term < 0 := by simpa using g2
  refine s_ldI hc rfl (s_ite (fun g3 => ?_) (fun g3 => ?_))
  · have g3 : x.term > maxT := by simpa [maxT] using g3
    have : s.grant x len last = (false, s) := by simp [VS.grant, g3]
    rw [this]
    exact s_ret ⟨rfl, b2, .inl rfl, hf.nil, h⟩
  have g3 : ¬ x.term > maxT := by simpa [maxT] using g3
  have hgr : s.grant x len last = (let s1 := (s.hear x.term).2
    if x.term < s1.term ∨ (s1.voted ≥ 0 ∧ s1.voted ≠ x.who) ∨ newer ⟨0, 0, len, last⟩ x = true then (false, s1) else (true, { s1 with voted := x.who })) := by
    unfold VS.grant
    rw [if_neg (by simp [g1, g2, g3])]
  have hs1 := VS.hear_ok hs x.term (by omega)
  refine s_ldI hc rfl (s_call (rhear_c h hs x.term) ?_)
  rintro _ w2 ⟨rfl, b2', hb2', hf2, h2⟩
  generalize (s.hear x.term).2 = s1 at *
  simp only at hgr
  have hc := hf2.cells hc (by simp; omega)
  refine ⟨_, rfl, s_asB (s_drew ?_)⟩
  intro w3 _ hf3
  have hc := hf3.cells hc (by simp)
  have hne : r ≠ b ∧ r ≠ b2' := by omega
  have hall := h2.fr hf3 (by simp) (by simp)
  obtain ⟨⟨cap, h⟩, ⟨rest, hv⟩, hbb⟩ := id hall
  have hfr : Fr [b] w w3 := (hf.nil.trans hf2).trans hf3.nil
  have hbn : b2' = b2 ∨ w.heap.size ≤ b2' := by omega
  clear hf2 h2 hf3 hf
  refine s_ldI hc rfl (s_ldI h rfl (s_ite (fun g4 => ?_) (fun g4 => ?_)))
  · have g4 : x.term < s1.term := by simpa using g4
    rw [hgr, if_pos (.inl g4)]
    exact s_chk (c_cons h rfl (c_cons hc rfl c_nil)) (s_ret ⟨rfl, b2', hbn, hfr, hall⟩)
  have g4 : ¬ x.term < s1.term := by simpa using g4
  have fin : ∀ (w4 : World) (g : ¬ (s1.voted ≥ 0 ∧ s1.voted ≠ x.who)) (bb : Bool), bb = newer ⟨0, 0, len, last⟩ x → Fr [] w3 w4 → Cells w4 b 70 (rv s1 b2' cap) → Cells w4 r 39 [.int .i64 x.who, .int .i64 x.term, .int .i64 x.len, .int .i64 x.last] →
      (T.ite bb (T.ret (.bool false)) (T.ldI .i64 r 0 fun i => T.st b (0 + 3) (.int .i64 i) (T.ret (.bool true)))).sem Try.prog (fun e w' => e = .returned (.bool (s.grant x len last).1) ∧ ∃ b2', (b2' = b2 ∨ w.heap.size ≤ b2') ∧ Fr [b] w w' ∧ RefAt w' b b2' (s.grant x len last).2) ρ0 w4 := by
    intro w4 g bb hbb2 hf4 h hc
    subst hbb2
    refine s_ite (fun g6 => ?_) (fun g6 => ?_)
    · rw [hgr, if_pos (.inr (.inr g6))]
      exact s_ret ⟨rfl, b2', hbn, hfr.trans hf4.nil, hall.fr hf4 (by simp) (by simp)⟩
    · rw [hgr, if_neg (by simp [g4, g6]; simpa using g)]
      refine s_ldI hc rfl (s_st h (by simp [rv]) rfl fun w5 _ hf5 h => s_ret ⟨rfl, b2', hbn, (hfr.trans hf4.nil).trans hf5, ⟨⟨cap, ?_⟩, ⟨rest, ?_⟩, hbb⟩⟩)
      · simpa [rv] using h
      · exact hf5.cells (hf4.cells hv (by simp)) (by simp; omega)
  refine s_ldI h rfl (s_ite (fun g5 => ?_) (fun g5 => ?_))
  · have g5 : s1.voted ≥ 0 := by simpa using g5
    refine s_ldI h rfl (s_ldI hc rfl (s_ite (fun g6 => ?_) (fun g6 => ?_)))
    · have g6 : s1.voted ≠ x.who := by simpa using g6
      rw [hgr, if_pos (.inr (.inl ⟨g5, g6⟩))]
      exact s_chk (c_cons hc rfl (c_cons h rfl (c_cons h rfl (c_cons h rfl (c_cons hc rfl c_nil))))) (s_ret ⟨rfl, b2', hbn, hfr, hall⟩)
    · have g6 : s1.voted = x.who := by simpa using g6
      refine s_ldI hc rfl (s_ldI hc rfl (s_ldI hc rfl (s_ldI hc rfl (s_call (rnewer_c ⟨0, 0, len, last⟩ x) ?_))))
      rintro _ w4 ⟨rfl, hf4⟩
      have h := hf4.cells h (by simp)
      have hc := hf4.cells hc (by simp)
      exact ⟨_, rfl, s_asB (s_chk (c_cons hc rfl (c_cons h rfl (c_cons h rfl (c_cons h rfl (c_cons hc rfl c_nil))))) (fin w4 (by simp [g6]) _ rfl hf4 h hc))⟩
  · have g5 : ¬ s1.voted ≥ 0 := by simpa using g5
    refine s_ldI hc rfl (s_ldI hc rfl (s_ldI hc rfl (s_ldI hc rfl (s_call (rnewer_c ⟨0, 0, len, last⟩ x) ?_))))
    rintro _ w4 ⟨rfl, hf4⟩
    have h := hf4.cells h (by simp)
    have hc := hf4.cells hc (by simp)
    exact ⟨_, rfl, s_asB (s_chk (c_cons h rfl (c_cons h rfl (c_cons hc rfl c_nil))) (fin w4 (fun hh => g5 hh.1) _ rfl hf4 h hc))⟩

theorem bv_set (l : List Bool) (i : Nat) (rest : List Value) (hi : i < l.length) : (bv l ++ rest).set i (.bool true) = bv (l.set i true) ++ rest := by
  rw [List.set_append_left _ _ (by simpa [bv] using hi)]
  simp [bv, List.map_set]

theorem rstand_c (h : RefAt w b b2 s) (hs : s.Ok) : Calls Try.prog 30 #[.pointer (some ⟨b, 0, none⟩)] w fun e w' =>
    e = .returned (.int .i64 s.stand.1) ∧ ∃ b2', (b2' = b2 ∨ w.heap.size ≤ b2') ∧ Fr [b, b2] w w' ∧ RefAt w' b b2' s.stand.2 := by
  apply c30
  have hb := h.lt
  obtain ⟨⟨cap, ho⟩, _, _⟩ := id h
  refine s_ldI ho rfl (s_ite (fun g1 => ?_) (fun g1 => ?_))
  · have g1 : s.term = maxT := by simpa [maxT] using g1
    have : s.stand = (3, s) := by simp [VS.stand, g1]
    rw [this]
    exact s_ret ⟨rfl, b2, .inl rfl, Fr.refl _ _, h⟩
  have g1 : ¬ s.term = maxT := by simpa [maxT] using g1
  have hst : s.stand = (0, { s with term := s.term + 1, voted := s.self, up := true, votes := (List.replicate s.n.toNat false).set s.self.toNat true }) := by simp [VS.stand, g1]
  rw [hst]
  have h0 := hs.term0
  have h1 := hs.term1
  have hn1 := hs.n1
  have hs0 := hs.self0
  have hs1 := hs.self1
  have hh : s.hear (s.term + 1) = (true, { s with term := s.term + 1, voted := -1, up := false, votes := List.replicate s.n.toNat false }) := by
    simp only [VS.hear]
    rw [if_neg (by omega)]
  unfold maxT at h1
  refine s_ldI ho rfl (s_call (rhear_c h hs _) ?_)
  rw [wrap64 (by omega) (by omega), hh]
  rintro _ w1 ⟨rfl, b2', hb2', hf1, ⟨cap', ho⟩, ⟨rest, hv⟩, hbb⟩
  refine ⟨_, rfl, s_asB (s_ldI ho rfl (s_st ho (by simp [rv]) rfl fun w2 _ hf2 ho => s_st ho (by simp [rv]) rfl fun w3 _ hf3 ho => s_drew fun w4 _ hf4 => ?_))⟩
  have ho := hf4.cells ho (by simp)
  have hv := hf4.cells (hf3.cells (hf2.cells hv (by simp; omega)) (by simp; omega)) (by simp)
  refine s_ldS ho rfl (s_ldI ho rfl (s_req (by simp; omega) (s_sm (s_st hv ?_ rfl fun w5 _ hf5 hv => s_chk c_nil (s_ret ⟨rfl, b2', hb2', ?_, ⟨⟨cap', ?_⟩, ⟨rest, ?_⟩, hbb⟩⟩)))))
  · simp [bv]; omega
  · have h6 : Fr [b] w w4 := ((hf1.trans hf2).trans hf3).trans hf4.nil
    have h7 : Fr [b, b2] w w4 := h6.mono (fun x hx => by simp at hx; simp [hx])
    refine h7.trans' hf5 (fun x hx => ?_)
    simp at hx
    subst hx
    rcases hb2' with rfl | h8
    · simp
    · exact .inr h8
  · have := hf5.cells ho (by simp; omega)
    simpa [rv] using this
  · rw [show 0 + s.self.toNat * 1 = s.self.toNat by omega, bv_set _ _ _ (by simp; omega)] at hv
    exact hv

theorem rcount_c (h : RefAt w b b2 s) (hs : s.Ok) (who term : Int) (yes : Bool) : Calls Try.prog 31 #[.pointer (some ⟨b, 0, none⟩), .int .i64 who, .int .i64 term, .bool yes] w fun e w' =>
    e = .returned (.bool (s.count who term yes).1) ∧ Fr [b2] w w' ∧ RefAt w' b b2 (s.count who term yes).2 := by
  apply c31
  have same : (s.up = false ∨ term ≠ s.term ∨ yes = false ∨ s.other who = false ∨ s.votes[who.toNat]? = some true) → s.count who term yes = (false, s) := fun g => by unfold VS.count; rw [if_pos g]
  obtain ⟨⟨cap, ho⟩, ⟨rest, hv⟩, hbb⟩ := id h
  refine s_ldB ho rfl (s_ite (fun g1 => ?_) (fun g1 => ?_))
  · rw [same (.inl (by simpa using g1))]; exact s_ret ⟨rfl, Fr.refl _ _, h⟩
  have g1 : s.up = true := by simpa using g1
  refine s_ldI ho rfl (s_ite (fun g2 => ?_) (fun g2 => ?_))
  · rw [same (.inr (.inl (by simpa using g2)))]; exact s_ret ⟨rfl, Fr.refl _ _, h⟩
  have g2 : term = s.term := by simpa using g2
  refine s_ite (fun g3 => ?_) (fun g3 => ?_)
  · rw [same (.inr (.inr (.inl (by simpa using g3))))]; exact s_ret ⟨rfl, Fr.refl _ _, h⟩
  have g3 : yes = true := by simpa using g3
  refine s_call (rother_c h _) ?_
  rintro _ _ ⟨rfl, rfl⟩
  refine ⟨_, rfl, s_asB (s_ite (fun g4 => ?_) (fun g4 => ?_))⟩
  · rw [same (.inr (.inr (.inr (.inl (by simpa using g4)))))]; exact s_ret ⟨rfl, Fr.refl _ _, h⟩
  have g4 : s.other who = true := by simpa using g4
  have hw0 : 0 ≤ who ∧ who < s.n := by simp [VS.other] at g4; omega
  have hl := hs.len
  have hlt : who.toNat < s.votes.length := by omega
  have hget : (bv s.votes ++ rest)[0 + who.toNat * 1]? = some (.bool s.votes[who.toNat]) := by
    rw [show 0 + who.toNat * 1 = who.toNat by omega, List.getElem?_append_left (by simpa [bv] using hlt)]
    simp [bv, hlt]
  refine s_ldS ho rfl (s_req (by omega) (s_sm (s_ldB hv hget (s_ite (fun g5 => ?_) (fun g5 => ?_)))))
  · rw [same (.inr (.inr (.inr (.inr (by simp [hlt, g5])))))]; exact s_ret ⟨rfl, Fr.refl _ _, h⟩
  have hcnt : s.count who term yes = (({ s with votes := s.votes.set who.toNat true } : VS).won && !s.won, { s with votes := s.votes.set who.toNat true }) := by
    unfold VS.count
    rw [if_neg (by simp [g1, g2, g3, g4, g5, hlt])]
  have hok := VS.count_ok hs who term yes
  rw [hcnt] at hok ⊢
  refine s_call (rwon_c h hs) ?_
  rintro _ w1 ⟨rfl, hf1⟩
  have ho := hf1.cells ho (by simp)
  have hv := hf1.cells hv (by simp)
  refine ⟨_, rfl, s_asB (s_ldS ho rfl (s_req (by omega) (s_sm (s_st hv ?_ rfl fun w2 _ hf2 hv => ?_))))⟩
  · simp [bv]; omega
  rw [show 0 + who.toNat * 1 = who.toNat by omega, bv_set _ _ _ hlt] at hv
  have ho := hf2.cells ho (by simp; omega)
  have h' : RefAt w2 b b2 { s with votes := s.votes.set who.toNat true } := ⟨⟨cap, by simpa [rv] using ho⟩, ⟨rest, hv⟩, hbb⟩
  have hfr : Fr [b2] w w2 := hf1.nil.trans hf2
  refine s_ite (fun g6 => ?_) (fun g6 => ?_)
  · refine s_call (rwon_c h' hok) ?_
    rintro _ w3 ⟨rfl, hf3⟩
    exact ⟨_, rfl, s_asB (s_ret ⟨by simp only [g6, Bool.and_true], hfr.trans hf3.nil, h'.fr hf3 (by simp) (by simp)⟩)⟩
  · exact s_ret ⟨by simp only [g6, Bool.and_false], hfr, h'⟩

theorem rclone_c (h : RefAt w b b2 s) (hs : s.Ok) : Calls Try.prog 24 #[.pointer (some ⟨b, 0, none⟩)] w fun e w' =>
    ∃ b' b2', e = .returned (.pointer (some ⟨b', 0, none⟩)) ∧ w.heap.size ≤ b' ∧ w.heap.size ≤ b2' ∧ Fr [] w w' ∧ RefAt w' b' b2' s := by
  apply c24
  obtain ⟨⟨cap, ho⟩, ⟨rest, hv⟩, hbb⟩ := id h
  have hb := h.lt
  have hl := hs.len
  have hl5 := VS.len5 hs
  have hn1 := hs.n1
  refine s_ldI ho rfl (s_ldI ho rfl (s_ldI ho rfl (s_ldI ho rfl (s_ldB ho rfl (s_ldS ho rfl ?_)))))
  refine s_new fun r w1 hr hz hf1 hc => s_st hc (by simp) rfl fun w2 z2 hf2 hc => s_st hc (by simp) rfl fun w3 z3 hf3 hc => s_st hc (by simp) rfl fun w4 z4 hf4 hc => s_st hc (by simp) rfl fun w5 z5 hf5 hc => s_st hc (by simp) rfl fun w6 z6 hf6 hc => s_st hc (by simp) rfl fun w7 z7 hf7 hc => ?_
  have hfr : Fr [r] w w7 := (((((hf1.nil.trans hf2).trans hf3).trans hf4).trans hf5).trans hf6).trans hf7
  have ho := hfr.cells ho (by simp; omega)
  have hv := hfr.cells hv (by simp; omega)
  refine s_ldS ho rfl (s_app elem68 (Own.nil w7 4 1) (m := s.votes.length) (news := bv s.votes) (by simp [bv]) ?_ ?_ (by omega) (by omega) ?_)
  · intro j u hu
    refine hv.reads j u ?_
    rw [List.getElem?_append_left (List.getElem?_eq_some_iff.1 hu).1]
    exact hu
  · intro u hu
    obtain ⟨x, _, rfl⟩ := List.mem_map.1 hu
    rfl
  · intro v' w8 hown hf8 hblk hnil
    rcases hown.2 with ⟨rfl, h0⟩ | ⟨g, cap', cur, rfl, _, hg, hle, _, hsz, htk⟩
    · omega
    refine s_asS ?_
    have hgb : g = w7.heap.size := by simpa [Value.ownBlock] using hblk
    have hf8' : Fr [] w7 w8 := hf8
    have hc := hf8'.cells hc (by simp)
    refine s_st hc (by simp) rfl fun w9 z9 hf9 hc => s_ret ⟨r, g, rfl, by omega, by omega, ?_, ⟨⟨cap', ?_⟩, ⟨cur.toList.drop s.votes.length, ?_⟩, by omega⟩⟩
    · refine ((hfr.trans hf8'.nil).trans hf9).mono (fun x hx => ?_)
      simp at hx
      exact .inr (by omega)
    · simpa [rv] using hc
    · have hgc : Cells w8 g 4 cur.toList := hg
      have : cur.toList = bv s.votes ++ cur.toList.drop s.votes.length := by
        have h1 : cur.toList.take s.votes.length = bv s.votes := by simpa using htk
        rw [← h1, List.take_append_drop]
      rw [← this]
      exact hf9.cells hgc (by simp; omega)
end

end Go.Proofs.Yteebkalajidehaa
