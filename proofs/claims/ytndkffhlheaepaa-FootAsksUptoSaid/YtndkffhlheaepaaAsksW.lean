/- The walk of FootAsks. -/
import Derived.Test.YtndkffhlheaepaaRof
import Derived.Test.YtndkffhlheaepaaTreesL
set_option linter.unusedVariables false
set_option linter.unusedSimpArgs false
set_option maxRecDepth 100000
set_option maxHeartbeats 4000000
namespace Go.Proofs.Ytndkffhlheaepaa
open Go hiding Expr
open Go.RowKit Tr

section
variable {w : World}
theorem atOf_len (x : TX) (part parts : Int) : (atOf x part parts).length ≤ (locksOf x).length := List.length_filter_le _ _
theorem fasks_c {x : TX} (h : TxAt w x) (hx : TxOk x) (parts part : Int) : Calls Try.prog 5 #[.agg ⟨txr x⟩, .int .i64 parts, .int .i64 part] w fun en w' => en = .returned (.bool true) ∧ Fr [] w w' := by
  have hsz := hx.sz
  have hrl : ∀ p, p < 8 → (FP parts (KS x.rd) p).length < 9223372036854775807 := fun p _ => by have := FP_len parts (KS x.rd) p; have := KS_len x.rd; omega
  have hwl : ∀ p, p < 8 → (FP parts (KS x.wr) p).length < 9223372036854775807 := fun p _ => by have := FP_len parts (KS x.wr) p; have := KS_len x.wr; omega
  have hpl := partsOf_len parts x
  have hal := activeOf_len parts x
  have hll := locksOf_len x
  have hatl := atOf_len x part parts
  apply c5
  refine h_new (Has.init w) fun n16 u H => h_drew H fun u H => ?_
  have H : Has w u [cl n16 39 (txr x)] := H
  refine s_call live_c ?_
  rintro _ u ⟨rfl, f0⟩
  have H := H.fr0 f0
  refine ⟨_, rfl, s_asB ?_⟩
  refine s_chk (by repeat (first | exact c_nil | refine hc_cons H (by repeat (first | exact pick_head | apply pick_tail | apply pick_app)) rfl ?_)) ?_
  refine s_true rfl ?_
  iterate 2 refine h_ldI H (by repeat (first | exact pick_head | apply pick_tail | apply pick_app)) rfl ?_
  iterate 4 refine h_ldS H (by repeat (first | exact pick_head | apply pick_tail | apply pick_app)) rfl ?_
  iterate 2 refine h_ldI H (by repeat (first | exact pick_head | apply pick_tail | apply pick_app)) rfl ?_
  iterate 4 refine h_ldS H (by repeat (first | exact pick_head | apply pick_tail | apply pick_app)) rfl ?_
  refine s_call (of_c (h.fr0 H.base) hx parts) ?_
  rintro _ u ⟨l, c, rfl, hC, Hc⟩
  have H := H.join Hc
  have hrd : ∀ {u : World} {m : Hp}, Has w u m → Sb c m → FootRd u l (FP parts (KS x.rd)) (FP parts (KS x.wr)) (partsOf parts x) (activeOf parts x) := fun H hs => hC.rd H hs
  obtain ⟨f, g, o1, o2, c1, c2, cr, cw, cp, ca, rfl, hc, -, -, -, -⟩ := hC
  refine ⟨_, rfl, s_asA (s_req rfl ?_)⟩
  unfold footAll at hrd ⊢
  rw [foot_lits] at hrd ⊢
  iterate 18 refine s_asS ?_
  refine s_chk (by repeat (first | exact c_nil | refine hc_cons H (by repeat (first | exact pick_head | apply pick_tail | apply pick_app)) rfl ?_)) ?_
  refine s_call (rof_c (h.fr0 H.base) hx parts) ?_
  rintro _ u ⟨l', c', rfl, hC', Hc'⟩
  have H := H.join Hc'
  have hrd' : ∀ {u : World} {m : Hp}, Has w u m → Sb c' m → FootRd u l' (FP parts (KS x.rd)) (FP parts (KS x.wr)) (partsOf parts x) (activeOf parts x) := fun H hs => hC'.rd H hs
  obtain ⟨f', g', o1', o2', c1', c2', cr', cw', cp', ca', rfl, hc', -, -, -, -⟩ := hC'
  refine ⟨_, rfl, s_asA (s_req rfl ?_)⟩
  unfold footAll at hrd' ⊢
  rw [foot_lits] at hrd' ⊢
  iterate 18 refine s_asS ?_
  refine s_chk (by repeat (first | exact c_nil | refine hc_cons H (by repeat (first | exact pick_head | apply pick_tail | apply pick_app)) rfl ?_)) ?_
  refine s_call (same_c (hrd H (by repeat (first | exact sb_refl | exact sb_nil | refine sb_cons (by repeat (first | exact pick_head | apply pick_tail | apply pick_app)) ?_ | refine sb_app (by repeat (first | exact cut_head | exact cut_all | apply cut_tail | apply cut_app)) ?_ | exact sb_one (by repeat (first | exact cut_head | exact cut_all | apply cut_tail | apply cut_app))))) (hrd' H (by repeat (first | exact sb_refl | exact sb_nil | refine sb_cons (by repeat (first | exact pick_head | apply pick_tail | apply pick_app)) ?_ | refine sb_app (by repeat (first | exact cut_head | exact cut_all | apply cut_tail | apply cut_app)) ?_ | exact sb_one (by repeat (first | exact cut_head | exact cut_all | apply cut_tail | apply cut_app))))) hrl hwl (by omega) (by omega)) ?_
  rintro _ u ⟨rfl, f0⟩
  have H := H.fr0 f0
  rw [sameF_self]
  refine ⟨_, rfl, s_asB ?_⟩
  refine s_chk (by repeat (first | exact c_nil | refine hc_cons H (by repeat (first | exact pick_head | apply pick_tail | apply pick_app)) rfl ?_)) ?_
  refine s_true rfl ?_
  iterate 2 refine h_ldI H (by repeat (first | exact pick_head | apply pick_tail | apply pick_app)) rfl ?_
  iterate 4 refine h_ldS H (by repeat (first | exact pick_head | apply pick_tail | apply pick_app)) rfl ?_
  iterate 2 refine h_ldI H (by repeat (first | exact pick_head | apply pick_tail | apply pick_app)) rfl ?_
  iterate 4 refine h_ldS H (by repeat (first | exact pick_head | apply pick_tail | apply pick_app)) rfl ?_
  refine s_call (locks_c (h.fr0 H.base) hx) ?_
  rintro _ u ⟨v3, c3, rfl, ho3, Hc3⟩
  have H := H.join Hc3
  obtain ⟨o3, cap3, rfl⟩ := ho3.slice
  refine ⟨_, rfl, s_asS ?_⟩
  refine s_chk (by repeat (first | exact c_nil | refine hc_cons H (by repeat (first | exact pick_head | apply pick_tail | apply pick_app)) rfl ?_)) ?_
  refine s_call (rlocks_c (h.fr0 H.base) hx) ?_
  rintro _ u ⟨v4, c4, rfl, ho4, Hc4⟩
  have H := H.join Hc4
  obtain ⟨o4, cap4, rfl⟩ := ho4.slice
  refine ⟨_, rfl, s_asS ?_⟩
  refine s_chk (by repeat (first | exact c_nil | refine hc_cons H (by repeat (first | exact pick_head | apply pick_tail | apply pick_app)) rfl ?_)) ?_
  refine s_call (eqL_c (locksAt_own ho3 H (by repeat (first | exact cut_head | exact cut_all | apply cut_tail | apply cut_app))) (locksAt_own ho4 H (by repeat (first | exact cut_head | exact cut_all | apply cut_tail | apply cut_app))) rfl rfl (by omega)) ?_
  rintro _ u ⟨rfl, f0⟩
  have H := H.fr0 f0
  refine ⟨_, rfl, s_asB ?_⟩
  refine s_chk (by repeat (first | exact c_nil | refine hc_cons H (by repeat (first | exact pick_head | apply pick_tail | apply pick_app)) rfl ?_)) ?_
  refine s_true (decide_eq_true rfl) ?_
  iterate 2 refine h_ldI H (by repeat (first | exact pick_head | apply pick_tail | apply pick_app)) rfl ?_
  iterate 4 refine h_ldS H (by repeat (first | exact pick_head | apply pick_tail | apply pick_app)) rfl ?_
  iterate 2 refine h_ldI H (by repeat (first | exact pick_head | apply pick_tail | apply pick_app)) rfl ?_
  iterate 4 refine h_ldS H (by repeat (first | exact pick_head | apply pick_tail | apply pick_app)) rfl ?_
  refine s_call (at_c (h.fr0 H.base) hx part parts) ?_
  rintro _ u ⟨v5, c5, rfl, ho5, Hc5⟩
  have H := H.join Hc5
  obtain ⟨o5, cap5, rfl⟩ := ho5.slice
  refine ⟨_, rfl, s_asS ?_⟩
  refine s_chk (by repeat (first | exact c_nil | refine hc_cons H (by repeat (first | exact pick_head | apply pick_tail | apply pick_app)) rfl ?_)) ?_
  refine s_call (rat_c (h.fr0 H.base) hx part parts) ?_
  rintro _ u ⟨v6, c6, rfl, ho6, Hc6⟩
  have H := H.join Hc6
  obtain ⟨o6, cap6, rfl⟩ := ho6.slice
  refine ⟨_, rfl, s_asS ?_⟩
  refine s_chk (by repeat (first | exact c_nil | refine hc_cons H (by repeat (first | exact pick_head | apply pick_tail | apply pick_app)) rfl ?_)) ?_
  refine s_call (eqL_c (locksAt_own ho5 H (by repeat (first | exact cut_head | exact cut_all | apply cut_tail | apply cut_app))) (locksAt_own ho6 H (by repeat (first | exact cut_head | exact cut_all | apply cut_tail | apply cut_app))) rfl rfl (by omega)) ?_
  rintro _ u ⟨rfl, f0⟩
  have H := H.fr0 f0
  refine ⟨_, rfl, s_asB ?_⟩
  refine s_chk (by repeat (first | exact c_nil | refine hc_cons H (by repeat (first | exact pick_head | apply pick_tail | apply pick_app)) rfl ?_)) ?_
  exact s_ret ⟨by rw [decide_eq_true rfl], H.base⟩
end
end Go.Proofs.Ytndkffhlheaepaa
