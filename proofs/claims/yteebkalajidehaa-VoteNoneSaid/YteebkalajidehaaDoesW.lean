/- The law VoteDoes, walked. -/
import Derived.Test.YteebkalajidehaaDoes
import Derived.Test.YteebkalajidehaaTreesB
import Derived.Test.YteebkalajidehaaArgs
set_option linter.unusedVariables false
set_option linter.unusedSimpArgs false
set_option maxRecDepth 100000

namespace Go.Proofs.Yteebkalajidehaa
open Go hiding Expr
open Go.RowKit Tr

def OpV.cells (o : OpV) : List Value := [.int .i64 o.act, .int .i64 o.term, .int .i64 o.cl.who, .int .i64 o.cl.term, .int .i64 o.cl.len, .int .i64 o.cl.last, .int .i64 o.len, .int .i64 o.last, .int .i64 o.who, .bool o.yes]
def opLeaves : List Leaf := [.int .i64, .int .i64, .int .i64, .int .i64, .int .i64, .int .i64, .int .i64, .int .i64, .int .i64, .bool]
theorem ops_of : ∀ (rows : List (List Value)), (∀ r ∈ rows, Fits opLeaves r) → ∃ ops : List OpV, rows = ops.map OpV.cells
  | [], _ => ⟨[], rfl⟩
  | r :: rest, h => by
    obtain ⟨ops, rfl⟩ := ops_of rest (fun x hx => h x (by simp [hx]))
    have hr := h r (by simp)
    obtain ⟨m0, _, rfl, _, hr⟩ := hr.int
    obtain ⟨m1, _, rfl, _, hr⟩ := hr.int
    obtain ⟨m2, _, rfl, _, hr⟩ := hr.int
    obtain ⟨m3, _, rfl, _, hr⟩ := hr.int
    obtain ⟨m4, _, rfl, _, hr⟩ := hr.int
    obtain ⟨m5, _, rfl, _, hr⟩ := hr.int
    obtain ⟨m6, _, rfl, _, hr⟩ := hr.int
    obtain ⟨m7, _, rfl, _, hr⟩ := hr.int
    obtain ⟨m8, _, rfl, _, hr⟩ := hr.int
    obtain ⟨m9, _, rfl, hr'⟩ := hr.bool
    obtain rfl := hr'.nil
    exact ⟨⟨m0, m1, ⟨m2, m3, m4, m5⟩, m6, m7, m8, m9⟩ :: ops, rfl⟩

section
variable {w : World}
theorem voteDoes_c (n self term voted : Int) (o : Option Addr) (c : Nat) (ops : List OpV) (hmax : ops.length ≤ maxLen) (hrows : RowsAt w o 10 (ops.map OpV.cells)) :
    Calls Try.prog 4 #[.agg #[.int .i64 n, .int .i64 self, .int .i64 term, .int .i64 voted], .slice o ops.length c] w fun e w' => e = .returned (.bool true) ∧ Fr [] w w' := by
  apply c4
  have hmax' : ops.length ≤ 9223372036854775807 := by simp only [maxLen] at hmax; omega
  refine s_new fun r w1 hr hz f1 hc => ?_
  refine s_ldI hc rfl (s_ldI hc rfl (s_ldI hc rfl (s_ldI hc rfl (s_call (new_c n self term voted) ?_))))
  rintro e w2 ⟨f2, hnew⟩
  have hc := f2.cells hc (by simp)
  have f := f1.trans f2
  obtain ⟨p, err, rfl, hcase⟩ : ∃ (p : Option Addr) (err : Int), e = .returned (.tuple #[.pointer p, .int .i64 err]) ∧ ((okNew n self term voted = false ∧ p = none ∧ err = 1) ∨
      (okNew n self term voted = true ∧ ∃ b, p = some ⟨b, 0, none⟩ ∧ err = 0 ∧ w1.heap.size ≤ b ∧ Cells w2 b 57 (pv (mkV n self term voted)))) := by
    rcases hnew with ⟨h, rfl⟩ | ⟨h, b, rfl, hb, hcb⟩
    · exact ⟨_, _, rfl, .inl ⟨h, rfl, rfl⟩⟩
    · exact ⟨_, _, rfl, .inr ⟨h, b, rfl, rfl, hb, hcb⟩⟩
  refine ⟨_, rfl, s_asU (s_req rfl (s_asP (s_asI (s_ldI hc rfl (s_ldI hc rfl (s_ldI hc rfl (s_ldI hc rfl (s_call (rnew_c n self term voted) ?_))))))))⟩
  rintro e w3 ⟨f3, hnew3⟩
  have f := f.trans f3
  rcases hcase with ⟨hno, rfl, rfl⟩ | ⟨hok, b, rfl, rfl, hb, hcb⟩
  · rcases hnew3 with ⟨_, rfl⟩ | ⟨h, _⟩
    · refine ⟨_, rfl, s_asU (s_req rfl (s_asP (s_asI (s_call live_c ?_))))⟩
      rintro _ w4 ⟨rfl, f4⟩
      exact ⟨_, rfl, s_asB (s_false rfl (s_false rfl (s_false rfl (s_true rfl (s_ret ⟨rfl, f.trans f4⟩)))))⟩
    · rw [hno] at h; cases h
  · rcases hnew3 with ⟨h, _⟩ | ⟨_, b1, b2, rfl, hb1, hb2, href⟩
    · rw [hok] at h; cases h
    refine ⟨_, rfl, s_asU (s_req rfl (s_asP (s_asI (s_call live_c ?_))))⟩
    rintro _ w4 ⟨rfl, f4⟩
    have hblt := hcb.lt
    have hz2 := f1.size
    have hz3 := f2.size
    have hboth : Both w4 b b1 b2 (mkV n self term voted) := ⟨f4.cells (f3.cells hcb (by simp)) (by simp), href.fr f4 (by simp) (by simp), by omega, by omega⟩
    have hmk := mkV_ok hok
    have f := f.trans f4
    refine ⟨_, rfl, s_asB (s_false rfl (s_false rfl (s_false rfl (s_false rfl ?_))))⟩
    refine s_loop (fun vs W => ∃ (i : Nat) (b2 : Nat) (s : VS), vs = [.int .i64 i] ∧ i ≤ ops.length ∧ s.Ok ∧ Fr [] w W ∧ w.heap.size ≤ b ∧ w.heap.size ≤ b1 ∧ w.heap.size ≤ b2 ∧ Both W b b1 b2 s)
      (fun vs _ => ops.length - (intOf (vs.getD 0 undef)).toNat) ⟨0, b2, _, rfl, by omega, hmk, f, by omega, by omega, by omega, hboth⟩ ?_
    rintro _ j W ⟨i, b2, s, rfl, hi, hs, fW, hb, hb1, hb2, hboth⟩
    refine s_asI (s_ite (fun g1 => ?_) (fun g1 => ?_))
    · simp only [decide_eq_true_eq] at g1
      have hi' : i < ops.length := by omega
      have hw : IntKind.wrap .i64 ((i : Int) + 1) = ((i + 1 : Nat) : Int) := by rw [wrap64 (by omega) (by omega)]; rfl
      obtain ⟨g, off, rfl, hg, hcell⟩ := (hrows.fr fW).at (j := i) (r := ops[i].cells) (by simp [hi'])
      have hcl : ∀ k v, ops[i].cells[k]? = some v → W.cell? ⟨g, off + (i : Int).toNat * 10 + k, none⟩ = some v := hcell
      refine s_req ⟨by omega, g1⟩ (s_sm ?_)
      refine s_loadI (hcl 0 _ rfl) (s_loadI (hcl 1 _ rfl) (s_loadI (hcl 2 _ rfl) (s_loadI (hcl 3 _ rfl) (s_loadI (hcl 4 _ rfl) (s_loadI (hcl 5 _ rfl) (s_loadI (hcl 6 _ rfl) (s_loadI (hcl 7 _ rfl) (s_loadI (hcl 8 _ rfl) (s_loadB (hcl 9 _ rfl) ?_)))))))))
      generalize ops[i] = op
      refine s_new fun q W1 hq hzq fq hc => ?_
      refine s_st hc (by simp) rfl fun W2 z2 f2 hc => s_st hc (by simp) rfl fun W3 z3 f3 hc => s_st hc (by simp) rfl fun W4 z4 f4 hc => s_st hc (by simp) rfl fun W5 z5 f5 hc => s_st hc (by simp) rfl fun W6 z6 f6 hc => s_st hc (by simp) rfl fun W7 z7 f7 hc => s_st hc (by simp) rfl fun W8 z8 f8 hc => s_st hc (by simp) rfl fun W9 z9 f9 hc => s_st hc (by simp) rfl fun W10 z10 f10 hc => s_st hc (by simp) rfl fun W11 z11 f11 hc => ?_
      have fS := ((((((((f2.trans f3).trans f4).trans f5).trans f6).trans f7).trans f8).trans f9).trans f10).trans f11
      have hzS : W11.heap.size = q + 1 := by omega
      clear f2 f3 f4 f5 f6 f7 f8 f9 f10 f11 z2 z3 z4 z5 z6 z7 z8 z9 z10 z11
      have hc : Cells W11 q 52 op.cells := by simpa [OpV.cells] using hc
      have fN : Fr [] W W11 := fq.trans' fS (fun x hx => by simp at hx; exact .inr (by omega))
      have hlt := hboth.lt
      have hboth := hboth.fr fN (by simp) (by simp) (by simp)
      refine s_drew fun W12 hq12 f12 => ?_
      have hboth := hboth.fr f12 (by simp) (by simp) (by simp)
      have hc := f12.cells hc (by simp)
      have fN := fN.trans f12
      have hzN : q < W12.heap.size := hc.lt
      refine s_ldI hc rfl (s_ldI hc rfl (s_ldI hc rfl (s_ldI hc rfl (s_ldI hc rfl (s_ldI hc rfl (s_ldI hc rfl (s_ldI hc rfl (s_ldI hc rfl (s_ldB hc rfl ?_)))))))))
      refine s_call (does_c hboth hs op) ?_
      rintro _ W13 ⟨rfl, b2', hb2', f13, hboth⟩
      have hwz := fW.size
      have hc := f13.cells hc (by simp; omega)
      have hs := VS.does_ok hs op
      have fN : Fr [b, b1, b2] W W13 := fN.nil.trans f13
      have fT : Fr [] w W13 := fW.trans' fN (fun x hx => by simp at hx; exact .inr (by omega))
      have hb2'' : w.heap.size ≤ b2' := by have := W12.heap.size; rcases hb2' with h | h <;> omega
      refine ⟨_, rfl, s_asB (s_chk c_nil (s_false rfl (s_call (same_c hboth.prog hboth.ref hs) ?_)))⟩
      rintro _ W14 ⟨rfl, f14⟩
      have hc := f14.cells hc (by simp)
      refine ⟨_, rfl, s_asB (s_chk c_nil (s_false rfl ?_))⟩
      refine s_ldI hc rfl (s_ldI hc rfl (s_ldI hc rfl (s_ldI hc rfl (s_ldI hc rfl (s_ldI hc rfl (s_ldI hc rfl (s_ldI hc rfl (s_ldI hc rfl (s_ldI hc rfl (s_ldI hc rfl (s_ldI hc rfl ?_)))))))))))
      refine s_call (newer_c op.cl ⟨0, 0, op.len, op.last⟩) ?_
      rintro _ W15 ⟨rfl, f15⟩
      have hc := f15.cells hc (by simp)
      refine ⟨_, rfl, s_asB (s_chk (by repeat (first | exact c_nil | refine c_cons hc rfl ?_)) (s_call (rnewer_c op.cl ⟨0, 0, op.len, op.last⟩) ?_))⟩
      rintro _ W16 ⟨rfl, f16⟩
      have hc := f16.cells hc (by simp)
      refine ⟨_, rfl, s_asB (s_chk (by repeat (first | exact c_nil | refine c_cons hc rfl ?_)) (s_false (by simp) (s_next ⟨rfl, rfl⟩ ?_)))⟩
      simp only [if_true]
      have fE := (f14.trans f15).trans f16
      refine ⟨⟨i + 1, b2', _, by rw [hw], by omega, hs, fT.trans fE, hb, hb1, hb2'', hboth.fr fE (by simp) (by simp) (by simp)⟩, ?_⟩
      rw [hw]; simp [intOf]; omega
    · refine s_call (same_c hboth.prog hboth.ref hs) ?_
      rintro _ w5 ⟨rfl, f5⟩
      exact ⟨_, rfl, s_asB (s_ret ⟨rfl, fW.trans f5⟩)⟩
end
end Go.Proofs.Yteebkalajidehaa
