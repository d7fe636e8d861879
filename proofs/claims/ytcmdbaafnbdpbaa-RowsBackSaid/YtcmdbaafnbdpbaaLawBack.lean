/- The row RowsBack: the arguments opened, the walk, and the row closed over it. -/
import Derived.Test.YtcmdbaafnbdpbaaRows
import Derived.Test.YtcmdbaafnbdpbaaBackW
import Derived.Test.YtcmdbaafnbdpbaaArgs20
import Derived.WalkKit
import Derived.ProofKit
import Derived.OpenShut
import Derived.ShutString
import Derived.ChangeOld
import Derived.Below
import Derived.SizedLaws
import Derived.Carry
set_option linter.unusedVariables false
set_option linter.unusedSimpArgs false
namespace Go.Proofs.Ytcmdbaafnbdpbaa.rowsBack
open Go hiding Expr
open Go.ChangeShapes Go.WideShapes Go.ChangeAt Go.RowKit
open Go.ChangeMaps (open_string shut_string)
open Go.Proofs.Ytcmdbaafnbdpbaa Go.Proofs.Ytcmdbaafnbdpbaa.Tr
theorem own : ownKnob Try.prog.godebug = none := by kernel_rfl
theorem laidOut : laidOutB Try.prog = true := by kernel_rfl
set_option maxRecDepth 100000 in
theorem lifted (os : Os) (started : os.Started) (H : Type) (enc : TypeId × Value → H) :
    ReturnsInHanded {} Try.checked os 7 .any (Rows.rowsBackSpec.pre6 enc Try.prog Try.f7 Rows.rowsBackRow.domain false) (Rows.rowsBackSpec.post enc Try.prog Try.f7 false true false false) := by
  refine returnsInHanded_of_change_sized (C := Try.checked) own started (by kernel_rfl) Try.func7
    (ChangeSpec.witness6 (enc := enc) (C := Try.checked) false ⟨#[], #[.slice none 0 0, .slice none 0 0], []⟩ 8 (by kernel_rfl) (by kernel_rfl) (by kernel_rfl) (by kernel_rfl)) ?_
  intro W base args ds gs before hval0 hW hcnd hsz0 _
  have hsz : (DataW.weightsEach Try.prog (Try.f7.params.toList ++ Rows.rowsBackSpec.plain.varTypes Try.prog) (ds ++ gs)).all (· ≤ reachBytes) = true := hsz0
  have hval : ∀ (j : Nat) t v, Try.f7.params[j]? = some t → args[j]? = some v → Value.okWide Try.prog W .any base t v := hval0
  have hW' := hW
  obtain ⟨p, q, hA0, hV, rfl, hfz, hnd⟩ := hW
  have hA : DataW.TrodAll enc Try.prog W 0 (fun _ => true) true Try.f7.params.toList args.toList ds p := hA0
  rw [Try.params7] at hA hval hsz
  obtain ⟨v0, vs0, d0, ds0, p0, q0, hargs, rfl, rfl, h0, r0⟩ := trodAll_cons hA
  obtain ⟨v1, vs1, d1, ds1, p1, q1, rfl, rfl, rfl, h1, r1⟩ := trodAll_cons r0
  obtain ⟨rfl, rfl, rfl⟩ := trodAll_nil r1
  obtain rfl : args = #[v0, v1] := by cases args; simp_all
  obtain ⟨rfl, rfl⟩ := trodVars_none hV
  have k0 := h0
  have lt0 : ∀ x ∈ p0, x.block < W.heap.size := by obtain ⟨m, hm⟩ := k0; exact DataW.trod_lt m _ _ _ hm
  obtain ⟨fuel0, hf0⟩ := h0
  obtain ⟨a0, len0, cap0, rfl⟩ := okWide_slice Try.underlying22 (hval 0 22 v0 rfl rfl)
  have k1 := h1
  have lt1 : ∀ x ∈ p1, x.block < W.heap.size := by obtain ⟨m, hm⟩ := k1; exact DataW.trod_lt m _ _ _ hm
  obtain ⟨fuel1, hf1⟩ := h1
  obtain ⟨a1, len1, cap1, rfl⟩ := okWide_slice Try.underlying22 (hval 1 22 v1 rfl rfl)
  have hw0 : ∀ k ∈ d0.weights Try.prog 22, k ≤ reachBytes := fun k hk => by simpa using List.all_eq_true.1 hsz k (DataW.weights_mem_each (j := 0) (t := 22) rfl rfl k hk)
  have hfit0 : FitsD W [.lst lfOp 80] [.slice a0 len0 cap0] := leavesD_ok 9 22 [.lst lfOp 80] fuel0 _ _ (by kernel_rfl) hf0 hw0
  obtain ⟨o, len, cap, rows, _, he, hlen, hcap, hbytes0, hrows0, hfits, _⟩ := hfit0.lst
  obtain ⟨X, rfl, hX⟩ := ops_of rows hfits
  obtain ⟨⟨rfl, rfl, rfl⟩, _⟩ : (a0 = o ∧ len0 = len ∧ cap0 = cap) ∧ True := ⟨by simpa using (List.cons.inj he).1, trivial⟩
  rw [List.length_map] at hlen
  subst hlen
  have hw1 : ∀ k ∈ d1.weights Try.prog 22, k ≤ reachBytes := fun k hk => by simpa using List.all_eq_true.1 hsz k (DataW.weights_mem_each (j := 1) (t := 22) rfl rfl k hk)
  have hfit1 : FitsD W [.lst lfOp 80] [.slice a1 len1 cap1] := leavesD_ok 9 22 [.lst lfOp 80] fuel1 _ _ (by kernel_rfl) hf1 hw1
  obtain ⟨o, len, cap, rows, _, he, hlen, hcap, hbytes1, hrows1, hfits, _⟩ := hfit1.lst
  obtain ⟨Y, rfl, hY⟩ := ops_of rows hfits
  obtain ⟨⟨rfl, rfl, rfl⟩, _⟩ : (a1 = o ∧ len1 = len ∧ cap1 = cap) ∧ True := ⟨by simpa using (List.cons.inj he).1, trivial⟩
  rw [List.length_map] at hlen
  subst hlen
  have walk := back_c (w := W) (o := a0) (cap := cap0) (o2 := a1) (cap2 := cap1) ⟨hrows0, hX⟩ rfl (by simp only [reachBytes] at hbytes0; omega) ⟨hrows1, hY⟩ rfl (by simp only [reachBytes] at hbytes1; omega)
  refine walk.mono fun e W' ⟨he, hfr⟩ => ?_
  have bel : Below W.heap.size W W' := ⟨hfr.os, hfr.tape, hfr.output, hfr.size, fun k hk => hfr.block k hk (by simp)⟩
  subst he
  exact ⟨_, rfl, _, _, _, [], _, [], hW', trodAll_mk1 (shut_bool Try.underlying4 _), (trodAll_cons_mk (Below.trod laidOut (by kernel_rfl) (of_decide_eq_true (by kernel_rfl)) k0 bel lt0) (trodAll_cons_mk (Below.trod laidOut (by kernel_rfl) (of_decide_eq_true (by kernel_rfl)) k1 bel lt1) trodAll_mk0)), rfl, bel.frame _, fun h => by cases h⟩
theorem over : Rows.rowsBackRow.holds Try.pinned (OpenSpec.ofChange Rows.rowsBackSpec) :=
  OpenClaim.holds_of_wide 7 Try.f7 rfl rfl rfl rfl rfl rfl rfl ⟨rfl, rfl, rfl, rfl, rfl⟩ rfl rfl rfl rfl rfl (by kernel_rfl) Try.func7 (by kernel_rfl)
    (of_decide_eq_true (by kernel_rfl)) (by unfold Func.isWrapper; first | (rw [if_pos (by decide +kernel)]; kernel_rfl) | (rw [if_neg (by decide +kernel)]; exact ⟨rfl, rfl⟩))
    (fun os started H enc _ => lifted os started H enc)
end Go.Proofs.Ytcmdbaafnbdpbaa.rowsBack
namespace Go.Proofs.Ytcmdbaafnbdpbaa
/-- The row RowsBack. -/
theorem rowsBack_holds : Rows.RowsBackSaid := rowsBack.over
end Go.Proofs.Ytcmdbaafnbdpbaa
