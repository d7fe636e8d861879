/- The law VoteNone, walked: a nil vote and one that no call made answer as none; a twin goes its own way. -/
import Derived.Test.YteebkalajidehaaDoesW
import Derived.Test.YteebkalajidehaaTreesN
set_option linter.unusedVariables false
set_option linter.unusedSimpArgs false
set_option maxRecDepth 100000

namespace Go.Proofs.Yteebkalajidehaa
open Go hiding Expr
open Go.RowKit Tr

/-- A pointer to no vote. -/
def NoVote (w : World) (o : Option Addr) : Prop := o = none ∨ ∃ b, o = some ⟨b, 0, none⟩ ∧ Cells w b 57 [.int .i64 0, .int .i64 0, .int .i64 0, .int .i64 0, .int .u8 0]

section
variable {w w' : World} {o : Option Addr}

theorem NoVote.fr (h : NoVote w o) (hf : Fr [] w w') : NoVote w' o := by
  rcases h with h | ⟨b, rfl, hc⟩
  · exact .inl h
  · exact .inr ⟨b, rfl, hf.cells hc (by simp)⟩

theorem none_n (h : NoVote w o) : Calls Try.prog 25 #[.pointer o] w fun e w' => e = .returned (.bool true) ∧ w = w' := by
  rcases h with rfl | ⟨b, rfl, hc⟩
  · apply c25n
    exact s_true rfl (s_ret ⟨rfl, rfl⟩)
  · apply c25
    exact s_ldI hc rfl (s_ret ⟨rfl, rfl⟩)
theorem term_n (h : NoVote w o) : Calls Try.prog 7 #[.pointer o] w fun e w' => e = .returned (.int .i64 0) ∧ w = w' := by
  apply c7o
  refine s_call (none_n h) ?_
  rintro _ _ ⟨rfl, rfl⟩
  exact ⟨_, rfl, s_asB (s_true rfl (s_ret ⟨rfl, rfl⟩))⟩
theorem stand_n (h : NoVote w o) : Calls Try.prog 8 #[.pointer o] w fun e w' => e = .returned (.int .i64 2) ∧ w = w' := by
  apply c8o
  refine s_call (none_n h) ?_
  rintro _ _ ⟨rfl, rfl⟩
  exact ⟨_, rfl, s_asB (s_true rfl (s_ret ⟨rfl, rfl⟩))⟩
theorem standing_n (h : NoVote w o) : Calls Try.prog 9 #[.pointer o] w fun e w' => e = .returned (.bool false) ∧ w = w' := by
  apply c9o
  refine s_call (none_n h) ?_
  rintro _ _ ⟨rfl, rfl⟩
  exact ⟨_, rfl, s_asB (s_false rfl (s_ret ⟨rfl, rfl⟩))⟩
theorem grant_n (h : NoVote w o) (x : Cl) (len last : Int) : Calls Try.prog 10 #[.pointer o, .agg #[.int .i64 x.who, .int .i64 x.term, .int .i64 x.len, .int .i64 x.last], .int .i64 len, .int .i64 last] w fun e w' =>
    e = .returned (.bool false) ∧ Fr [] w w' := by
  apply c10o
  refine s_new fun r w1 hr hz f1 hc => ?_
  refine s_call (none_n (h.fr f1)) ?_
  rintro _ _ ⟨rfl, rfl⟩
  exact ⟨_, rfl, s_asB (s_true rfl (s_ret ⟨rfl, f1⟩))⟩
theorem count_n (h : NoVote w o) (who term : Int) (yes : Bool) : Calls Try.prog 12 #[.pointer o, .int .i64 who, .int .i64 term, .bool yes] w fun e w' => e = .returned (.bool false) ∧ Fr [] w w' := by
  apply c12o
  refine s_call (standing_n h) ?_
  rintro _ _ ⟨rfl, rfl⟩
  exact ⟨_, rfl, s_asB (s_true rfl (s_ret ⟨rfl, Fr.refl _ _⟩))⟩
theorem won_n (h : NoVote w o) : Calls Try.prog 13 #[.pointer o] w fun e w' => e = .returned (.bool false) ∧ Fr [] w w' := by
  apply c13o
  refine s_drew fun w1 _ f1 => ?_
  refine s_call (standing_n (h.fr f1)) ?_
  rintro _ _ ⟨rfl, rfl⟩
  exact ⟨_, rfl, s_asB (s_chk c_nil (s_false rfl (s_chk c_nil (s_ret ⟨rfl, f1⟩))))⟩
theorem voted_n (h : NoVote w o) : Calls Try.prog 19 #[.pointer o] w fun e w' => e = .returned (.tuple #[.int .i64 0, .bool false]) ∧ w = w' := by
  apply c19o
  refine s_call (none_n h) ?_
  rintro _ _ ⟨rfl, rfl⟩
  exact ⟨_, rfl, s_asB (s_true rfl (s_ret ⟨rfl, rfl⟩))⟩
theorem hear_n (h : NoVote w o) (t : Int) : Calls Try.prog 20 #[.pointer o, .int .i64 t] w fun e w' => e = .returned (.bool false) ∧ w = w' := by
  apply c20o
  refine s_call (none_n h) ?_
  rintro _ _ ⟨rfl, rfl⟩
  exact ⟨_, rfl, s_asB (s_true rfl (s_ret ⟨rfl, rfl⟩))⟩
theorem clone_n (h : NoVote w o) : Calls Try.prog 23 #[.pointer o] w fun e w' => e = .returned (.pointer none) ∧ w = w' := by
  apply c23o
  refine s_call (none_n h) ?_
  rintro _ _ ⟨rfl, rfl⟩
  exact ⟨_, rfl, s_asB (s_true rfl (s_ret ⟨rfl, rfl⟩))⟩
theorem votes_n : Calls Try.prog 22 #[.pointer o] w fun e w' =>
    ∃ p, e = .returned (.func (.func 34) #[] #[.pointer (some ⟨p, 0, none⟩)]) ∧ w.heap.size ≤ p ∧ Fr [] w w' ∧ Cells w' p 24 [.pointer o] := by
  apply c22o
  refine s_new fun r w1 hr hz hf hc => s_ret ⟨r, rfl, by omega, hf, hc⟩
theorem seq_n {p : Nat} : Seq Try.prog 34 [.pointer (some ⟨p, 0, none⟩)] (fun W => NoVote W o ∧ Cells W p 24 [.pointer o]) (told []) := by
  intro l w I S hh hK h0 hY
  apply c34
  obtain ⟨h, hp⟩ := hK 0 w h0
  refine s_ldP hp rfl (s_call (none_n h) ?_)
  rintro _ _ ⟨rfl, rfl⟩
  exact ⟨_, rfl, s_asB (s_true rfl (s_ret ⟨⟨_, rfl⟩, .inl h0⟩))⟩
end

section
variable {w : World}
theorem voteNone_c (n self term voted : Int) (o : Option Addr) (c : Nat) (ops : List OpV) (hmax : ops.length ≤ maxLen) (hrows : RowsAt w o 10 (ops.map OpV.cells)) :
    Calls Try.prog 5 #[.agg #[.int .i64 n, .int .i64 self, .int .i64 term, .int .i64 voted], .slice o ops.length c] w fun e w' => e = .returned (.bool true) ∧ Fr [] w w' := by
  apply c5
  have hmax' : ops.length ≤ 9223372036854775807 := by simp only [maxLen] at hmax; omega
  refine s_new fun r w1 hr hz f1 hc => ?_
  refine s_call live_c ?_
  rintro _ w2 ⟨rfl, f2⟩
  have hc := f2.cells hc (by simp)
  have f := f1.trans f2
  refine ⟨_, rfl, s_asB (s_false rfl ?_)⟩
  refine s_new fun z w3 hrz hzz f3 hz3 => s_new fun v w4 hrv hzv f4 hv4 => ?_
  have hz4 := f4.cells hz3 (by simp)
  have hc := f4.cells (f3.cells hc (by simp)) (by simp)
  have f := (f.trans f3).trans f4
  refine s_loop (fun vs W => ∃ i : Nat, vs = [.int .i64 i] ∧ i ≤ 2 ∧ Fr [] w4 W) (fun vs _ => 2 - (intOf (vs.getD 0 undef)).toNat) ⟨0, rfl, by omega, Fr.refl _ _⟩ ?_
  rintro _ j W ⟨i, rfl, hi, fW⟩
  refine s_asI (s_ite (fun g1 => ?_) (fun g1 => ?_))
  · simp only [decide_eq_true_eq] at g1
    have hi' : i < 2 := by omega
    have hw : IntKind.wrap .i64 ((i : Int) + 1) = ((i + 1 : Nat) : Int) := by rw [wrap64 (by omega) (by omega)]; rfl
    obtain ⟨q, hq, hno⟩ : ∃ q, ([Value.pointer none, .pointer (some ⟨z, 0, none⟩)] : List Value)[i]? = some (.pointer q) ∧ NoVote W q := by
      rcases (by omega : i = 0 ∨ i = 1) with rfl | rfl
      · exact ⟨_, rfl, .inl rfl⟩
      · exact ⟨_, rfl, .inr ⟨z, rfl, fW.cells hz4 (by simp)⟩⟩
    refine s_req ⟨by omega, g1⟩ (s_sm (s_loadP (n := q) ?_ ?_))
    · have := (fW.cells hv4 (by simp)).cell hq
      simpa using this
    refine s_call (voted_n hno) ?_
    rintro _ _ ⟨rfl, rfl⟩
    refine ⟨_, rfl, s_asU (s_req rfl (s_asI (s_asB (s_call (term_n hno) ?_))))⟩
    rintro _ _ ⟨rfl, rfl⟩
    refine ⟨_, rfl, s_asI (s_false rfl (s_false rfl (s_call (hear_n hno 5) ?_)))⟩
    rintro _ _ ⟨rfl, rfl⟩
    refine ⟨_, rfl, s_asB (s_false rfl (s_call (grant_n hno ⟨1, 5, 0, 0⟩ 0 0) ?_))⟩
    rintro _ W1 ⟨rfl, k1⟩
    have hno := hno.fr k1
    refine ⟨_, rfl, s_asB (s_false rfl (s_call (stand_n hno) ?_))⟩
    rintro _ _ ⟨rfl, rfl⟩
    refine ⟨_, rfl, s_asI (s_false rfl (s_call (standing_n hno) ?_))⟩
    rintro _ _ ⟨rfl, rfl⟩
    refine ⟨_, rfl, s_asB (s_false rfl (s_call (count_n hno 1 0 true) ?_))⟩
    rintro _ W2 ⟨rfl, k2⟩
    have hno := hno.fr k2
    refine ⟨_, rfl, s_asB (s_false rfl (s_call (won_n hno) ?_))⟩
    rintro _ W3 ⟨rfl, k3⟩
    have hno := hno.fr k3
    refine ⟨_, rfl, s_asB (s_false rfl (s_call votes_n ?_))⟩
    rintro _ W4 ⟨p, rfl, hp, k4, hpc⟩
    have hno := hno.fr k4
    refine ⟨_, rfl, s_call (tells_c (w := W4) (p := p) (xs := []) seq_n (fun W' hW' => ⟨hno.fr hW', hW'.cells hpc (by simp)⟩) (Tr.Own.nil W4 3 1) rfl (by simp) (.inl rfl)) ?_⟩
    rintro _ W5 ⟨rfl, k5⟩
    have hno := hno.fr k5
    refine ⟨_, rfl, s_asB (s_false rfl (s_call (clone_n hno) ?_))⟩
    rintro _ _ ⟨rfl, rfl⟩
    refine ⟨_, rfl, s_asP (s_false rfl (s_next ⟨rfl, rfl⟩ ?_))⟩
    simp only [if_true]
    refine ⟨⟨i + 1, by rw [hw], by omega, ((((fW.trans k1).trans k2).trans k3).trans k4).trans k5⟩, ?_⟩
    rw [hw]; simp [intOf]; omega
  · have hc := fW.cells hc (by simp)
    have f := f.trans fW
    refine s_ldI hc rfl (s_ldI hc rfl (s_ldI hc rfl (s_ldI hc rfl (s_call (new_c n self term voted) ?_))))
    rintro e w5 ⟨f5, hnew⟩
    have hc := f5.cells hc (by simp)
    have f := f.trans f5
    obtain ⟨p, err, rfl, hcase⟩ : ∃ (p : Option Addr) (err : Int), e = .returned (.tuple #[.pointer p, .int .i64 err]) ∧ ((okNew n self term voted = false ∧ p = none ∧ err = 1) ∨
        (okNew n self term voted = true ∧ ∃ b, p = some ⟨b, 0, none⟩ ∧ err = 0 ∧ W.heap.size ≤ b ∧ Cells w5 b 57 (pv (mkV n self term voted)))) := by
      rcases hnew with ⟨h, rfl⟩ | ⟨h, b, rfl, hb, hcb⟩
      · exact ⟨_, _, rfl, .inl ⟨h, rfl, rfl⟩⟩
      · exact ⟨_, _, rfl, .inr ⟨h, b, rfl, rfl, hb, hcb⟩⟩
    clear hnew
    refine ⟨_, rfl, s_asU (s_req rfl (s_asP (s_asI (s_ldI hc rfl (s_ldI hc rfl (s_ldI hc rfl (s_ldI hc rfl (s_call (rnew_c n self term voted) ?_))))))))⟩
    rintro e w6 ⟨f6, hnew3⟩
    have f := f.trans f6
    rcases hcase with ⟨hno, rfl, rfl⟩ | ⟨hok, b, rfl, rfl, hb, hcb⟩
    · rcases hnew3 with ⟨_, rfl⟩ | ⟨h, _⟩
      · exact ⟨_, rfl, s_asU (s_req rfl (s_asP (s_asI (s_true rfl (s_ret ⟨rfl, f⟩)))))⟩
      · rw [hno] at h; cases h
    · rcases hnew3 with ⟨h, _⟩ | ⟨_, b1, b2, rfl, hb1, hb2, href⟩
      · rw [hok] at h; cases h
      have hblt := hcb.lt
      have hzf := f.size
      have hzW := fW.size
      have h5W := f5.size
      have hboth : Both w6 b b1 b2 (mkV n self term voted) := ⟨f6.cells hcb (by simp), href, by omega, by omega⟩
      have hmk := mkV_ok hok
      refine ⟨_, rfl, s_asU (s_req rfl (s_asP (s_asI (s_false rfl (s_call (clone_c hboth.prog hmk) ?_)))))⟩
      rintro _ w7 ⟨d, rfl, hd, f7, hdc⟩
      have hboth := hboth.fr f7 (by simp) (by simp) (by simp)
      have hlt6 := hboth.lt
      refine ⟨_, rfl, s_asP (s_call (rclone_c hboth.ref hmk) ?_)⟩
      rintro _ w8 ⟨d1, d2, rfl, hd1, hd2, f8, hdr⟩
      have hdlt := hdc.lt
      have hbothd : Both w8 d d1 d2 (mkV n self term voted) := ⟨f8.cells hdc (by simp), hdr, by omega, by omega⟩
      have hboth := hboth.fr f8 (by simp) (by simp) (by simp)
      have f := (f.trans f7).trans f8
      have h6lt : b < w6.heap.size ∧ b1 < w6.heap.size ∧ b2 < w6.heap.size := ⟨(f6.cells hcb (by simp)).lt, href.lt.1, href.lt.2⟩
      have h67 := f7.size
      have h56 := f6.size
      refine ⟨_, rfl, s_asP ?_⟩
      refine s_loop (fun vs W => ∃ (i : Nat) (d2 : Nat) (s : VS), vs = [.int .i64 i] ∧ i ≤ ops.length ∧ s.Ok ∧ Fr [] w W ∧ w6.heap.size ≤ d ∧ w6.heap.size ≤ d1 ∧ w6.heap.size ≤ d2 ∧ w6.heap.size ≤ W.heap.size ∧ Both W b b1 b2 (mkV n self term voted) ∧ Both W d d1 d2 s)
        (fun vs _ => ops.length - (intOf (vs.getD 0 undef)).toNat) ⟨0, d2, _, rfl, by omega, hmk, f, by omega, by omega, by omega, by have := f8.size; omega, hboth, hbothd⟩ ?_
      clear hc hboth hbothd hdc hdr href hcb hz4 hv4 hz3
      rintro _ j X ⟨i, d2, s, rfl, hi, hs, fX, hd, hd1, hd2, h6X, hboth, hbothd⟩
      refine s_asI (s_ite (fun g1 => ?_) (fun g1 => ?_))
      · simp only [decide_eq_true_eq] at g1
        have hi' : i < ops.length := by omega
        have hw : IntKind.wrap .i64 ((i : Int) + 1) = ((i + 1 : Nat) : Int) := by rw [wrap64 (by omega) (by omega)]; rfl
        obtain ⟨g, off, rfl, hg, hcell⟩ := (hrows.fr fX).at (j := i) (r := ops[i].cells) (by simp [hi'])
        have hcl : ∀ k v, ops[i].cells[k]? = some v → X.cell? ⟨g, off + (i : Int).toNat * 10 + k, none⟩ = some v := hcell
        refine s_req ⟨by omega, g1⟩ (s_sm ?_)
        refine s_loadI (hcl 0 _ rfl) (s_loadI (hcl 1 _ rfl) (s_loadI (hcl 2 _ rfl) (s_loadI (hcl 3 _ rfl) (s_loadI (hcl 4 _ rfl) (s_loadI (hcl 5 _ rfl) (s_loadI (hcl 6 _ rfl) (s_loadI (hcl 7 _ rfl) (s_loadI (hcl 8 _ rfl) (s_loadB (hcl 9 _ rfl) ?_)))))))))
        generalize ops[i] = op
        refine s_new fun q W1 hq hzq fq hc => ?_
        refine s_st hc (by simp) rfl fun W2 z2 f2 hc => s_st hc (by simp) rfl fun W3 z3 f3 hc => s_st hc (by simp) rfl fun W4 z4 f4 hc => s_st hc (by simp) rfl fun W5 z5 f5 hc => s_st hc (by simp) rfl fun W6 z6 f6 hc => s_st hc (by simp) rfl fun W7 z7 f7 hc => s_st hc (by simp) rfl fun W8 z8 f8 hc => s_st hc (by simp) rfl fun W9 z9 f9 hc => s_st hc (by simp) rfl fun W10 z10 f10 hc => s_st hc (by simp) rfl fun W11 z11 f11 hc => ?_
        have fS := ((((((((f2.trans f3).trans f4).trans f5).trans f6).trans f7).trans f8).trans f9).trans f10).trans f11
        have hc : Cells W11 q 52 op.cells := by simpa [OpV.cells] using hc
        have fN : Fr [] X W11 := fq.trans' fS (fun x hx => by simp at hx; exact .inr (by omega))
        clear f2 f3 f4 f5 f6 f7 f8 f9 f10 f11 z2 z3 z4 z5 z6 z7 z8 z9 z10 z11
        have hlt := hboth.lt
        have hltd := hbothd.lt
        have hboth := hboth.fr fN (by simp) (by simp) (by simp)
        have hbothd := hbothd.fr fN (by simp) (by simp) (by simp)
        have hXz := fN.size
        refine s_ldI hc rfl (s_ldI hc rfl (s_ldI hc rfl (s_ldI hc rfl (s_ldI hc rfl (s_ldI hc rfl (s_ldI hc rfl (s_ldI hc rfl (s_ldI hc rfl (s_ldB hc rfl ?_)))))))))
        refine s_call (does_c hbothd hs op) ?_
        rintro _ W13 ⟨rfl, d2', hd2', f13, hbothd⟩
        have hs := VS.does_ok hs op
        have hboth := hboth.fr f13 (by simp; omega) (by simp; omega) (by simp; omega)
        have fT : Fr [] w W13 := (fX.trans fN).trans' f13 (fun x hx => by simp at hx; exact .inr (by omega))
        have hd2'' : w6.heap.size ≤ d2' := by rcases hd2' with h | h <;> omega
        have h13 := f13.size
        refine ⟨_, rfl, s_asB (s_false rfl (s_next ⟨rfl, rfl⟩ ?_))⟩
        simp only [if_true]
        refine ⟨⟨i + 1, d2', _, by rw [hw], by omega, hs, fT, hd, hd1, hd2'', by omega, hboth, hbothd⟩, ?_⟩
        rw [hw]; simp [intOf]; omega
      · refine s_call (same_c hboth.prog hboth.ref hmk) ?_
        rintro _ w9 ⟨rfl, f9⟩
        have hbothd := hbothd.fr f9 (by simp) (by simp) (by simp)
        refine ⟨_, rfl, s_asB (s_true rfl (s_call (same_c hbothd.prog hbothd.ref hs) ?_))⟩
        rintro _ w10 ⟨rfl, f10⟩
        exact ⟨_, rfl, s_asB (s_ret ⟨rfl, (fX.trans f9).trans f10⟩)⟩
end
end Go.Proofs.Yteebkalajidehaa
