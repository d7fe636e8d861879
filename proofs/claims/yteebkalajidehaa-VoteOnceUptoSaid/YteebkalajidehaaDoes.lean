/- does, live and same of the law. -/
import Derived.Test.YteebkalajidehaaSame
set_option linter.unusedVariables false
set_option linter.unusedSimpArgs false
set_option maxRecDepth 100000

namespace Go.Proofs.Yteebkalajidehaa
open Go hiding Expr
open Go.RowKit Tr

section
variable {w w' : World} {b b1 b2 : Nat} {s : VS}

theorem votes_c : Calls Try.prog 22 #[.pointer (some ⟨b, 0, none⟩)] w fun e w' =>
    ∃ p, e = .returned (.func (.func 34) #[] #[.pointer (some ⟨p, 0, none⟩)]) ∧ w.heap.size ≤ p ∧ Fr [] w w' ∧ Cells w' p 24 [.pointer (some ⟨b, 0, none⟩)] := by
  apply c22
  refine s_new fun r w1 hr hz hf hc => s_ret ⟨r, rfl, by omega, hf, hc⟩

theorem same_c (h : Cells w b 57 (pv s)) (hr : RefAt w b1 b2 s) (hs : s.Ok) : Calls Try.prog 17 #[.pointer (some ⟨b, 0, none⟩), .pointer (some ⟨b1, 0, none⟩)] w fun e w' =>
    e = .returned (.bool true) ∧ Fr [] w w' := by
  apply c17
  have hvl : (voters s.votes).length ≤ 5 := Nat.le_trans (voters_len _) (VS.len5 hs)
  obtain ⟨⟨cap, ho⟩, ⟨rest, hv⟩, hbb⟩ := id hr
  refine s_call (voted_c h hs) ?_
  rintro _ w1 ⟨rfl, f1⟩
  refine ⟨_, rfl, s_asU (s_req rfl (s_asI (s_asB (s_drew fun w2 _ f2 => ?_))))⟩
  have f := f1.trans f2
  refine s_ldI (f.cells ho (by simp)) rfl (s_call (term_c (f.cells h (by simp)) hs) ?_)
  rintro _ _ ⟨rfl, rfl⟩
  refine ⟨_, rfl, s_asI (s_chk (c_cons (f.cells ho (by simp)) rfl c_nil) (s_true (by simp) (s_ldI (f.cells ho (by simp)) rfl (s_true (by simp) ?_))))⟩
  refine s_ite (fun g1 => ?_) (fun g1 => s_ldI (f.cells ho (by simp)) rfl (s_true (by simp) ?_))
  · refine s_ldB (f.cells ho (by simp)) rfl (s_call (standing_c (f.cells h (by simp)) hs) ?_)
    rintro _ _ ⟨rfl, rfl⟩
    refine ⟨_, rfl, s_asB (s_chk (by repeat (first | exact c_nil | refine c_cons (f.cells ho (by simp)) rfl ?_)) (s_true (by simp [VS.up_bits hs]) (s_call (won_c (f.cells h (by simp)) hs) ?_)))⟩
    rintro _ w3 ⟨rfl, f3⟩
    have f := f.trans f3
    refine ⟨_, rfl, s_asB (s_chk (by repeat (first | exact c_nil | refine c_cons (f.cells ho (by simp)) rfl ?_)) (s_call (rwon_c (hr.fr f (by simp) (by simp)) hs) ?_))⟩
    rintro _ w4 ⟨rfl, f4⟩
    have f := f.trans f4
    refine ⟨_, rfl, s_asB (s_chk (by repeat (first | exact c_nil | refine c_cons (f.cells ho (by simp)) rfl ?_)) (s_true (by simp) (s_call votes_c ?_)))⟩
    rintro _ w5 ⟨p, rfl, hp, f5, hc⟩
    have fb := f.trans f5
    refine ⟨_, rfl, s_chk (by repeat (first | exact c_nil | refine c_cons (fb.cells ho (by simp)) rfl ?_)) (s_call (rlist_c (hr.fr fb (by simp) (by simp)) hs) ?_)⟩
    rintro _ w6 ⟨v, rfl, hown, f6⟩
    have f := fb.trans f6
    have hp2 : p < w5.heap.size := hc.lt
    obtain ⟨o, c, rfl⟩ := hown.slice
    refine ⟨_, rfl, s_asS (s_chk (by repeat (first | exact c_nil | refine c_cons (f.cells ho (by simp)) rfl ?_)) (s_call (tells_c (seq_c (p := p) (b := b) hs) (fun W hW => ⟨(f.trans hW).cells h (by simp), (f6.trans hW).cells hc (by simp)⟩) hown rfl hvl (.inl rfl)) ?_))⟩
    rintro _ w7 ⟨rfl, f7⟩
    have f := f.trans f7
    refine ⟨_, rfl, s_asB (s_chk (by repeat (first | exact c_nil | refine c_cons (f.cells ho (by simp)) rfl ?_)) (s_true rfl (s_call votes_c ?_)))⟩
    rintro _ w8 ⟨p2, rfl, hp2, f8, hc⟩
    have fb := f.trans f8
    refine ⟨_, rfl, s_chk (by repeat (first | exact c_nil | refine c_cons (fb.cells ho (by simp)) rfl ?_)) (s_call (rlist_c (hr.fr fb (by simp) (by simp)) hs) ?_)⟩
    rintro _ w9 ⟨v, rfl, hown, f9⟩
    have f := fb.trans f9
    obtain ⟨o, c, rfl⟩ := hown.slice
    refine ⟨_, rfl, s_asS (s_chk (by repeat (first | exact c_nil | refine c_cons (f.cells ho (by simp)) rfl ?_)) (s_call (tells_c (seq_c (p := p2) (b := b) hs) (fun W hW => ⟨(f.trans hW).cells h (by simp), (f9.trans hW).cells hc (by simp)⟩) hown rfl hvl (.inr rfl)) ?_))⟩
    rintro _ w10 ⟨rfl, f10⟩
    exact ⟨_, rfl, s_asB (s_chk (by repeat (first | exact c_nil | refine c_cons ((f.trans f10).cells ho (by simp)) rfl ?_)) (s_ret ⟨rfl, f.trans f10⟩))⟩
  · refine s_ldB (f.cells ho (by simp)) rfl (s_call (standing_c (f.cells h (by simp)) hs) ?_)
    rintro _ _ ⟨rfl, rfl⟩
    refine ⟨_, rfl, s_asB (s_chk (by repeat (first | exact c_nil | refine c_cons (f.cells ho (by simp)) rfl ?_)) (s_true (by simp [VS.up_bits hs]) (s_call (won_c (f.cells h (by simp)) hs) ?_)))⟩
    rintro _ w3 ⟨rfl, f3⟩
    have f := f.trans f3
    refine ⟨_, rfl, s_asB (s_chk (by repeat (first | exact c_nil | refine c_cons (f.cells ho (by simp)) rfl ?_)) (s_call (rwon_c (hr.fr f (by simp) (by simp)) hs) ?_))⟩
    rintro _ w4 ⟨rfl, f4⟩
    have f := f.trans f4
    refine ⟨_, rfl, s_asB (s_chk (by repeat (first | exact c_nil | refine c_cons (f.cells ho (by simp)) rfl ?_)) (s_true (by simp) (s_call votes_c ?_)))⟩
    rintro _ w5 ⟨p, rfl, hp, f5, hc⟩
    have fb := f.trans f5
    refine ⟨_, rfl, s_chk (by repeat (first | exact c_nil | refine c_cons (fb.cells ho (by simp)) rfl ?_)) (s_call (rlist_c (hr.fr fb (by simp) (by simp)) hs) ?_)⟩
    rintro _ w6 ⟨v, rfl, hown, f6⟩
    have f := fb.trans f6
    have hp2 : p < w5.heap.size := hc.lt
    obtain ⟨o, c, rfl⟩ := hown.slice
    refine ⟨_, rfl, s_asS (s_chk (by repeat (first | exact c_nil | refine c_cons (f.cells ho (by simp)) rfl ?_)) (s_call (tells_c (seq_c (p := p) (b := b) hs) (fun W hW => ⟨(f.trans hW).cells h (by simp), (f6.trans hW).cells hc (by simp)⟩) hown rfl hvl (.inl rfl)) ?_))⟩
    rintro _ w7 ⟨rfl, f7⟩
    have f := f.trans f7
    refine ⟨_, rfl, s_asB (s_chk (by repeat (first | exact c_nil | refine c_cons (f.cells ho (by simp)) rfl ?_)) (s_true rfl (s_call votes_c ?_)))⟩
    rintro _ w8 ⟨p2, rfl, hp2, f8, hc⟩
    have fb := f.trans f8
    refine ⟨_, rfl, s_chk (by repeat (first | exact c_nil | refine c_cons (fb.cells ho (by simp)) rfl ?_)) (s_call (rlist_c (hr.fr fb (by simp) (by simp)) hs) ?_)⟩
    rintro _ w9 ⟨v, rfl, hown, f9⟩
    have f := fb.trans f9
    obtain ⟨o, c, rfl⟩ := hown.slice
    refine ⟨_, rfl, s_asS (s_chk (by repeat (first | exact c_nil | refine c_cons (f.cells ho (by simp)) rfl ?_)) (s_call (tells_c (seq_c (p := p2) (b := b) hs) (fun W hW => ⟨(f.trans hW).cells h (by simp), (f9.trans hW).cells hc (by simp)⟩) hown rfl hvl (.inr rfl)) ?_))⟩
    rintro _ w10 ⟨rfl, f10⟩
    exact ⟨_, rfl, s_asB (s_chk (by repeat (first | exact c_nil | refine c_cons ((f.trans f10).cells ho (by simp)) rfl ?_)) (s_ret ⟨rfl, f.trans f10⟩))⟩

theorem VS.hear_ok' (hs : s.Ok) (t : Int) : (s.hear t).2.Ok := by
  rcases (by omega : t < 0 ∨ 0 ≤ t) with h | h
  · have : s.hear t = (false, s) := by unfold VS.hear; rw [if_pos (.inl (by have := hs.term0; omega))]
    rw [this]; exact hs
  · exact VS.hear_ok hs t h

theorem VS.grant_ok (hs : s.Ok) (x : Cl) (len last : Int) : (s.grant x len last).2.Ok := by
  unfold VS.grant
  split
  · exact hs
  · rename_i h
    have h1 := VS.hear_ok' hs x.term
    have hn : (s.hear x.term).2.n = s.n := by unfold VS.hear; split <;> rfl
    dsimp only
    split
    · exact h1
    · simp only [not_or, Bool.not_eq_false] at h
      have ho := h.1
      simp only [VS.other, Bool.and_eq_true, decide_eq_true_eq] at ho
      exact ⟨h1.n1, h1.n5, h1.self0, h1.self1, h1.term0, h1.term1, by simp; omega, by simp [hn]; omega, h1.len, h1.up0, h1.up1⟩

structure OpV where
  act : Int
  term : Int
  cl : Cl
  len : Int
  last : Int
  who : Int
  yes : Bool
def OpV.val (o : OpV) : Value := .agg #[.int .i64 o.act, .int .i64 o.term, .int .i64 o.cl.who, .int .i64 o.cl.term, .int .i64 o.cl.len, .int .i64 o.cl.last, .int .i64 o.len, .int .i64 o.last, .int .i64 o.who, .bool o.yes]

def VS.does (s : VS) (o : OpV) : VS :=
  if o.act = 0 then (s.hear o.term).2 else if o.act = 1 then (s.grant o.cl o.len o.last).2 else if o.act = 2 then s.stand.2 else if o.act = 3 then (s.count o.who o.term o.yes).2 else s
theorem VS.does_ok (hs : s.Ok) (o : OpV) : (s.does o).Ok := by
  unfold VS.does
  split
  · exact VS.hear_ok' hs _
  split
  · exact VS.grant_ok hs _ _ _
  split
  · exact VS.stand_ok hs
  split
  · exact VS.count_ok hs _ _ _
  · exact hs

/-- Both votes, side by side. -/
structure Both (w : World) (b b1 b2 : Nat) (s : VS) : Prop where
  prog : Cells w b 57 (pv s)
  ref : RefAt w b1 b2 s
  n1 : b ≠ b1
  n2 : b ≠ b2
theorem Both.fr {F : List Nat} (h : Both w b b1 b2 s) (hf : Fr F w w') (h0 : b ∉ F) (h1 : b1 ∉ F) (h2 : b2 ∉ F) : Both w' b b1 b2 s :=
  ⟨hf.cells h.prog h0, h.ref.fr hf h1 h2, h.n1, h.n2⟩
theorem Both.lt (h : Both w b b1 b2 s) : b < w.heap.size ∧ b1 < w.heap.size ∧ b2 < w.heap.size := ⟨h.prog.lt, h.ref.lt.1, h.ref.lt.2⟩

theorem does_c (h : Both w b b1 b2 s) (hs : s.Ok) (o : OpV) : Calls Try.prog 16 #[.pointer (some ⟨b, 0, none⟩), .pointer (some ⟨b1, 0, none⟩), o.val] w fun e w' =>
    e = .returned (.bool true) ∧ ∃ b2', (b2' = b2 ∨ w.heap.size ≤ b2') ∧ Fr [b, b1, b2] w w' ∧ Both w' b b1 b2' (s.does o) := by
  have hb := h.lt
  have hn1 := h.n1
  have hn2 := h.n2
  have hn3 := h.ref.ne
  apply c16
  refine s_new fun r w1 hr hz f1 hc => ?_
  refine s_ldI hc rfl (s_ite (fun g1 => ?_) (fun g1 => s_ite (fun g2 => ?_) (fun g2 => s_ite (fun g3 => ?_) (fun g3 => s_ite (fun g4 => ?_) (fun g4 => ?_)))))
  · simp only [beq_iff_eq] at g1
    refine s_drew fun w2 hq f2 => ?_
    have f := f1.trans f2
    have hc := f2.cells hc (by simp)
    refine s_ldI hc rfl (s_ldI hc rfl (s_call (hear_c (f.cells h.prog (by simp)) hs _) ?_))
    rintro _ w3 ⟨rfl, f3, hp⟩
    have fr : Fr [b] w w3 := f.nil.trans f3
    have hc := f3.cells hc (by simp; omega)
    refine ⟨_, rfl, s_asB (s_chk (c_cons hc rfl c_nil) (s_call (rhear_c (h.ref.fr fr (by simp; omega) (by simp; omega)) hs _) ?_))⟩
    rintro _ w4 ⟨rfl, b2', hb2, f4, hr4⟩
    have hz3 := fr.size
    refine ⟨_, rfl, s_asB (s_chk c_nil (s_ret ⟨by simp, b2', by omega, ?_, ?_, ?_, ?_, ?_⟩))⟩
    · refine (fr.mono ?_).trans' f4 ?_ <;> (intro x hx; simp at hx; subst hx; simp)
    · rw [VS.does, if_pos g1]; exact f4.cells hp (by simp; omega)
    · rw [VS.does, if_pos g1]; exact hr4
    · exact hn1
    · omega
  · simp only [beq_iff_eq, beq_eq_false_iff_ne] at g1 g2
    refine s_drew fun w2 hq f2 => ?_
    have f := f1.trans f2
    have hc := f2.cells hc (by simp)
    refine s_ldI hc rfl (s_ldI hc rfl (s_ldI hc rfl (s_ldI hc rfl (s_ldI hc rfl (s_ldI hc rfl (s_ldI hc rfl (s_ldI hc rfl (s_ldI hc rfl (s_ldI hc rfl (s_ldI hc rfl (s_ldI hc rfl ?_)))))))))))
    refine s_call (grant_c (f.cells h.prog (by simp)) hs o.cl o.len o.last) ?_
    rintro _ w3 ⟨rfl, f3, hp⟩
    have fr : Fr [b] w w3 := f.nil.trans f3
    have hc := f3.cells hc (by simp; omega)
    refine ⟨_, rfl, s_asB (s_chk (c_cons hc rfl (c_cons hc rfl (c_cons hc rfl (c_cons hc rfl (c_cons hc rfl (c_cons hc rfl c_nil)))))) ?_)⟩
    refine s_call (rgrant_c (h.ref.fr fr (by simp; omega) (by simp; omega)) hs o.cl o.len o.last) ?_
    rintro _ w4 ⟨rfl, b2', hb2, f4, hr4⟩
    have hz3 := fr.size
    refine ⟨_, rfl, s_asB (s_chk c_nil (s_ret ⟨by simp, b2', by omega, ?_, ?_, ?_, ?_, ?_⟩))⟩
    · refine (fr.mono ?_).trans' f4 ?_ <;> (intro x hx; simp at hx; subst hx; simp)
    · rw [VS.does, if_neg g1, if_pos g2]; exact f4.cells hp (by simp; omega)
    · rw [VS.does, if_neg g1, if_pos g2]; exact hr4
    · exact hn1
    · omega
  · simp only [beq_iff_eq, beq_eq_false_iff_ne] at g1 g2 g3
    refine s_call (stand_c (f1.cells h.prog (by simp)) hs) ?_
    rintro _ w3 ⟨rfl, f3, hp⟩
    have fr : Fr [b] w w3 := f1.nil.trans f3
    refine ⟨_, rfl, s_asI (s_call (rstand_c (h.ref.fr fr (by simp; omega) (by simp; omega)) hs) ?_)⟩
    rintro _ w4 ⟨rfl, b2', hb2, f4, hr4⟩
    have hz3 := fr.size
    refine ⟨_, rfl, s_asI (s_ret ⟨by simp, b2', by omega, ?_, ?_, ?_, ?_, ?_⟩)⟩
    · refine (fr.mono ?_).trans' f4 ?_ <;> (intro x hx; simp at hx ⊢; omega)
    · rw [VS.does, if_neg g1, if_neg g2, if_pos g3]; exact f4.cells hp (by simp; omega)
    · rw [VS.does, if_neg g1, if_neg g2, if_pos g3]; exact hr4
    · exact hn1
    · omega
  · simp only [beq_iff_eq, beq_eq_false_iff_ne] at g1 g2 g3 g4
    refine s_drew fun w2 hq f2 => ?_
    have f := f1.trans f2
    have hc := f2.cells hc (by simp)
    refine s_ldI hc rfl (s_ldI hc rfl (s_ldB hc rfl (s_ldI hc rfl (s_ldI hc rfl (s_ldB hc rfl ?_)))))
    refine s_call (count_c (f.cells h.prog (by simp)) hs o.who o.term o.yes) ?_
    rintro _ w3 ⟨rfl, f3, hp⟩
    have fr : Fr [b] w w3 := f.nil.trans f3
    have hc := f3.cells hc (by simp; omega)
    refine ⟨_, rfl, s_asB (s_chk (c_cons hc rfl (c_cons hc rfl (c_cons hc rfl c_nil))) ?_)⟩
    refine s_call (rcount_c (h.ref.fr fr (by simp; omega) (by simp; omega)) hs o.who o.term o.yes) ?_
    rintro _ w4 ⟨rfl, f4, hr4⟩
    have hz3 := fr.size
    refine ⟨_, rfl, s_asB (s_chk c_nil (s_ret ⟨by simp, b2, .inl rfl, ?_, ?_, ?_, ?_, ?_⟩))⟩
    · refine (fr.mono ?_).trans' f4 ?_ <;> (intro x hx; simp at hx ⊢; omega)
    · rw [VS.does, if_neg g1, if_neg g2, if_neg g3, if_pos g4]; exact f4.cells hp (by simp; omega)
    · rw [VS.does, if_neg g1, if_neg g2, if_neg g3, if_pos g4]; exact hr4
    · exact hn1
    · omega
  · simp only [beq_eq_false_iff_ne] at g1 g2 g3 g4
    refine s_ret ⟨rfl, b2, .inl rfl, f1.nil, ?_⟩
    rw [VS.does, if_neg g1, if_neg g2, if_neg g3, if_neg g4]
    exact h.fr f1 (by simp) (by simp) (by simp)

theorem live_c : Calls Try.prog 14 #[] w fun e w' => e = .returned (.bool true) ∧ Fr [] w w' := by
  apply c14
  refine s_call (new_c 3 0 4 (-1)) ?_
  rintro _ w1 ⟨f1, ⟨h, _⟩ | ⟨hok, b, rfl, hb, h⟩⟩
  · exact absurd h (by decide)
  have hs := mkV_ok hok
  refine ⟨_, rfl, s_asU (s_req rfl (s_asP (s_asI (s_false rfl (s_false rfl (s_call (stand_c h hs) ?_))))))⟩
  rintro _ w2 ⟨rfl, f2, h⟩
  have hs := VS.stand_ok hs
  refine ⟨_, rfl, s_asI (s_false (by decide) (s_call (term_c h hs) ?_))⟩
  rintro _ _ ⟨rfl, rfl⟩
  refine ⟨_, rfl, s_asI (s_false (by decide) (s_call (count_c h hs 1 5 true) ?_))⟩
  rintro _ w3 ⟨rfl, f3, h⟩
  have hs := VS.count_ok hs 1 5 true
  refine ⟨_, rfl, s_asB (s_true (by decide) (s_call (won_c h hs) ?_))⟩
  rintro _ w4 ⟨rfl, f4⟩
  have h := f4.cells h (by simp)
  refine ⟨_, rfl, s_asB (s_true (by decide) (s_call (grant_c h hs ⟨2, 5, 0, 0⟩ 0 0) ?_))⟩
  rintro _ w5 ⟨rfl, f5, h⟩
  have hs := VS.grant_ok hs ⟨2, 5, 0, 0⟩ 0 0
  refine ⟨_, rfl, s_asB (s_true (by decide) (s_call (grant_c h hs ⟨2, 6, 9, 5⟩ 9 5) ?_))⟩
  rintro _ w6 ⟨rfl, f6, h⟩
  refine ⟨_, rfl, s_asB (s_ret ⟨?_, ?_⟩)⟩
  · have : (((((mkV 3 0 4 (-1)).stand.2.count 1 5 true).2.grant ⟨2, 5, 0, 0⟩ 0 0).2.grant ⟨2, 6, 9, 5⟩ 9 5).1) = true := by decide
    rw [this]
  · refine ((((f1.trans' f2 ?_).trans' f3 ?_).trans f4).trans' f5 ?_).trans' f6 ?_ <;> (intro x hx; simp at hx; subst hx; exact .inr hb)
end
end Go.Proofs.Yteebkalajidehaa
