/- The row LocksFirst: the arguments opened, the walk, and the row closed over it. -/
import Derived.Test.YtdepohepogocgaaRows
import Derived.Test.YtdepohepogocgaaFirstW
import Derived.Test.YtdepohepogocgaaArgs16
import Derived.WalkKit
import Derived.ProofKit
import Derived.OpenShut
import Derived.ShutString
import Derived.ChangeOld
import Derived.Below
import Derived.SizedLaws
import Derived.Carry
set_option linter.unusedVariables false
set_option linter.unusedSimpArgs false
namespace Go.Proofs.Ytdepohepogocgaa.locksFirst
open Go hiding Expr
open Go.ChangeShapes Go.WideShapes Go.ChangeAt Go.RowKit
open Go.ChangeMaps (open_string shut_string)
open Go.Proofs.Ytdepohepogocgaa Go.Proofs.Ytdepohepogocgaa.Tr
theorem own : ownKnob Try.prog.godebug = none := by kernel_rfl
theorem laidOut : laidOutB Try.prog = true := by kernel_rfl
set_option maxRecDepth 100000 in
theorem lifted (os : Os) (started : os.Started) (H : Type) (enc : TypeId × Value → H) :
    ReturnsInHanded {} Try.checked os 4 .any (Rows.locksFirstSpec.pre6 enc Try.prog Try.f4 Rows.locksFirstRow.domain false) (Rows.locksFirstSpec.post enc Try.prog Try.f4 false true false false) := by
  refine returnsInHanded_of_change_sized (C := Try.checked) own started (by kernel_rfl) Try.func4
    (ChangeSpec.witness6 (enc := enc) (C := Try.checked) false ⟨#[], #[.slice none 0 0, .slice none 0 0], []⟩ 8 (by kernel_rfl) (by kernel_rfl) (by kernel_rfl) (by kernel_rfl)) ?_
  intro W base args ds gs before hval0 hW hcnd hsz0 _
  have hsz : (DataW.weightsEach Try.prog (Try.f4.params.toList ++ Rows.locksFirstSpec.plain.varTypes Try.prog) (ds ++ gs)).all (· ≤ reachBytes) = true := hsz0
  have hval : ∀ (j : Nat) t v, Try.f4.params[j]? = some t → args[j]? = some v → Value.okWide Try.prog W .any base t v := hval0
  have hW' := hW
  obtain ⟨p, q, hA0, hV, rfl, hfz, hnd⟩ := hW
  have hA : DataW.TrodAll enc Try.prog W 0 (fun _ => true) true Try.f4.params.toList args.toList ds p := hA0
  rw [Try.params4] at hA hval hsz
  obtain ⟨v0, vs0, d0, ds0, p0, q0, hargs, rfl, rfl, h0, r0⟩ := trodAll_cons hA
  obtain ⟨v1, vs1, d1, ds1, p1, q1, rfl, rfl, rfl, h1, r1⟩ := trodAll_cons r0
  obtain ⟨rfl, rfl, rfl⟩ := trodAll_nil r1
  obtain rfl : args = #[v0, v1] := by cases args; simp_all
  obtain ⟨rfl, rfl⟩ := trodVars_none hV
  have k0 := h0
  have lt0 : ∀ x ∈ p0, x.block < W.heap.size := by obtain ⟨m, hm⟩ := k0; exact DataW.trod_lt m _ _ _ hm
  obtain ⟨fuel0, hf0⟩ := h0
  obtain ⟨a0, len0, cap0, rfl⟩ := okWide_slice Try.underlying45 (hval 0 45 v0 rfl rfl)
  have k1 := h1
  have lt1 : ∀ x ∈ p1, x.block < W.heap.size := by obtain ⟨m, hm⟩ := k1; exact DataW.trod_lt m _ _ _ hm
  obtain ⟨fuel1, hf1⟩ := h1
  obtain ⟨a1, len1, cap1, rfl⟩ := okWide_slice Try.underlying46 (hval 1 46 v1 rfl rfl)
  have hw0' : ∀ k ∈ d0.weights Try.prog 45, k ≤ reachBytes := fun k hk => by simpa using List.all_eq_true.1 hsz k (DataW.weights_mem_each (j := 0) (t := 45) rfl rfl k hk)
  have hw1' : ∀ k ∈ d1.weights Try.prog 46, k ≤ reachBytes := fun k hk => by simpa using List.all_eq_true.1 hsz k (DataW.weights_mem_each (j := 1) (t := 46) rfl rfl k hk)
  have hfit : FitsD W [.lst [.lst lfLk 24] 24] [.slice a0 len0 cap0] := leavesD_ok 9 45 [.lst [.lst lfLk 24] 24] fuel0 _ _ (by kernel_rfl) hf0 hw0'
  have hfit1 : FitsD W [.lst [.flat (.int .u8)] 1] [.slice a1 len1 cap1] := leavesD_ok 9 46 [.lst [.flat (.int .u8)] 1] fuel1 _ _ (by kernel_rfl) hf1 hw1'
  obtain ⟨o, len, cap, rows, _, he, hlen, hcap, hbytes, hrows, hfits, _⟩ := hfit.lst
  obtain ⟨S, rfl, hS1, hS2⟩ := wws_of rows hfits
  obtain ⟨⟨rfl, rfl, rfl⟩, _⟩ : (a0 = o ∧ len0 = len ∧ cap0 = cap) ∧ True := ⟨by simpa using (List.cons.inj he).1, trivial⟩
  rw [List.length_map] at hlen
  subst hlen
  obtain ⟨o', len', cap', rows', _, he', hlen', hcap', hbytes', hrows', hfits', _⟩ := hfit1.lst
  obtain ⟨U, rfl, hU⟩ := u8s_of rows' hfits'
  obtain ⟨⟨rfl, rfl, rfl⟩, _⟩ : (a1 = o' ∧ len1 = len' ∧ cap1 = cap') ∧ True := ⟨by simpa using (List.cons.inj he').1, trivial⟩
  rw [List.length_map] at hlen'
  subst hlen'
  have walk := first_c (w := W) (o := a0) (cap := cap0) (o3 := a1) (cap3 := cap1) hrows hS1 hS2 hcap hrows' hU
  refine walk.mono fun e W' ⟨he, hfr⟩ => ?_
  have bel : Below W.heap.size W W' := ⟨hfr.os, hfr.tape, hfr.output, hfr.size, fun k hk => hfr.block k hk (by simp)⟩
  subst he
  exact ⟨_, rfl, _, _, _, [], _, [], hW', trodAll_mk1 (shut_bool Try.underlying4 _), (trodAll_cons_mk (Below.trod laidOut (by kernel_rfl) (of_decide_eq_true (by kernel_rfl)) k0 bel lt0) (trodAll_cons_mk (Below.trod laidOut (by kernel_rfl) (of_decide_eq_true (by kernel_rfl)) k1 bel lt1) trodAll_mk0)), rfl, bel.frame _, fun h => by cases h⟩
theorem over : Rows.locksFirstRow.holds Try.pinned (OpenSpec.ofChange Rows.locksFirstSpec) :=
  OpenClaim.holds_of_wide 4 Try.f4 rfl rfl rfl rfl rfl rfl rfl ⟨rfl, rfl, rfl, rfl, rfl⟩ rfl rfl rfl rfl rfl (by kernel_rfl) Try.func4 (by kernel_rfl)
    (of_decide_eq_true (by kernel_rfl)) (by unfold Func.isWrapper; first | (rw [if_pos (by decide +kernel)]; kernel_rfl) | (rw [if_neg (by decide +kernel)]; exact ⟨rfl, rfl⟩))
    (fun os started H enc _ => lifted os started H enc)
end Go.Proofs.Ytdepohepogocgaa.locksFirst
namespace Go.Proofs.Ytdepohepogocgaa
/-- The row LocksFirst. -/
theorem locksFirst_holds : Rows.LocksFirstSaid := locksFirst.over
end Go.Proofs.Ytdepohepogocgaa
