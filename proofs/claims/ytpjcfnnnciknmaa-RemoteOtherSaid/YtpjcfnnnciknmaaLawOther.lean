/- The row RemoteOther: the arguments opened, the walk, and the row closed over it. -/
import Derived.Test.YtpjcfnnnciknmaaRows
import Derived.Test.YtpjcfnnnciknmaaOtherW
import Derived.Test.YtpjcfnnnciknmaaArgs
import Derived.WalkKit
import Derived.ProofKit
import Derived.OpenShut
import Derived.ShutString
import Derived.ChangeOld
import Derived.Below
import Derived.SizedLaws
import Derived.Carry
set_option linter.unusedVariables false
set_option linter.unusedSimpArgs false
namespace Go.Proofs.Ytpjcfnnnciknmaa.remoteOther
open Go hiding Expr
open Go.ChangeShapes Go.WideShapes Go.ChangeAt Go.RowKit
open Go.ChangeMaps (open_string shut_string)
open Go.Proofs.Ytpjcfnnnciknmaa Go.Proofs.Ytpjcfnnnciknmaa.Tr
theorem own : ownKnob Try.prog.godebug = none := by kernel_rfl
theorem laidOut : laidOutB Try.prog = true := by kernel_rfl
set_option maxRecDepth 100000 in
theorem lifted (os : Os) (started : os.Started) (H : Type) (enc : TypeId × Value → H) :
    ReturnsInHanded {} Try.checked os 3 .any (Rows.remoteOtherSpec.pre6 enc Try.prog Try.f3 Rows.remoteOtherRow.domain false) (Rows.remoteOtherSpec.post enc Try.prog Try.f3 false true false false) := by
  refine returnsInHanded_of_change_sized (C := Try.checked) own started (by kernel_rfl) Try.func3
    (ChangeSpec.witness6 (enc := enc) (C := Try.checked) false ⟨#[], #[.slice none 0 0, .slice none 0 0], []⟩ 8 (by kernel_rfl) (by kernel_rfl) (by kernel_rfl) (by kernel_rfl)) ?_
  intro W base args ds gs before hval0 hW hcnd hsz0 _
  have hsz : (DataW.weightsEach Try.prog (Try.f3.params.toList ++ Rows.remoteOtherSpec.plain.varTypes Try.prog) (ds ++ gs)).all (· ≤ reachBytes) = true := hsz0
  have hval : ∀ (j : Nat) t v, Try.f3.params[j]? = some t → args[j]? = some v → Value.okWide Try.prog W .any base t v := hval0
  have hW' := hW
  obtain ⟨p, q, hA0, hV, rfl, hfz, hnd⟩ := hW
  have hA : DataW.TrodAll enc Try.prog W 0 (fun _ => true) true Try.f3.params.toList args.toList ds p := hA0
  rw [Try.params3] at hA hval hsz
  obtain ⟨v0, vs0, d0, ds0, p0, q0, hargs, rfl, rfl, h0, r0⟩ := trodAll_cons hA
  obtain ⟨v1, vs1, d1, ds1, p1, q1, rfl, rfl, rfl, h1, r1⟩ := trodAll_cons r0
  obtain ⟨rfl, rfl, rfl⟩ := trodAll_nil r1
  obtain rfl : args = #[v0, v1] := by cases args; simp_all
  obtain ⟨rfl, rfl⟩ := trodVars_none hV
  have k0 := h0
  have lt0 : ∀ x ∈ p0, x.block < W.heap.size := by obtain ⟨m, hm⟩ := k0; exact DataW.trod_lt m _ _ _ hm
  obtain ⟨fuel0, hf0⟩ := h0
  obtain ⟨a0, len0, cap0, rfl⟩ := okWide_slice Try.underlying22 (hval 0 22 v0 rfl rfl)
  have k1 := h1
  have lt1 : ∀ x ∈ p1, x.block < W.heap.size := by obtain ⟨m, hm⟩ := k1; exact DataW.trod_lt m _ _ _ hm
  obtain ⟨fuel1, hf1⟩ := h1
  obtain ⟨a1, len1, cap1, rfl⟩ := okWide_slice Try.underlying22 (hval 1 22 v1 rfl rfl)
  obtain ⟨o, len, cap, rows, hcs, hlen, hmax, hfits, hrows0⟩ := open_rows (ls := [.int .i32, .int .i64, .int .i64]) (n := 9) Try.underlying22 (by kernel_rfl) (by kernel_rfl) hf0 (by decide)
  obtain ⟨la, rfl, in0⟩ := pairs_of rows hfits
  obtain ⟨rfl, rfl, rfl⟩ : a0 = o ∧ len0 = len ∧ cap0 = cap := by simpa [Value.cells] using hcs
  have hsl := slice_len Try.underlying22 (show DataW.trod enc Try.prog W 0 (fun _ => true) true fuel0 22 [.slice a0 len0 cap0] = some (d0, p0) from hf0)
  rw [List.length_map] at hlen
  subst hlen
  have few0 : la.length * 24 ≤ 140737488355328 := by
    rcases hsl with h | ⟨el, sp, hd, hel⟩
    · omega
    · simp only at hd
      subst hd
      have z := sized_slice hsz (j := 0) (t := 22) rfl rfl Try.underlying22
      have hb : Try.prog.bytesOf 40 = 24 := by kernel_rfl
      rw [hb] at z
      simp only [reachBytes] at z
      omega
  obtain ⟨o, len, cap, rows, hcs, hlen, hmax, hfits, hrows1⟩ := open_rows (ls := [.int .i32, .int .i64, .int .i64]) (n := 9) Try.underlying22 (by kernel_rfl) (by kernel_rfl) hf1 (by decide)
  obtain ⟨lb, rfl, in1⟩ := pairs_of rows hfits
  obtain ⟨rfl, rfl, rfl⟩ : a1 = o ∧ len1 = len ∧ cap1 = cap := by simpa [Value.cells] using hcs
  have hsl := slice_len Try.underlying22 (show DataW.trod enc Try.prog W 0 (fun _ => true) true fuel1 22 [.slice a1 len1 cap1] = some (d1, p1) from hf1)
  rw [List.length_map] at hlen
  subst hlen
  have few1 : lb.length * 24 ≤ 140737488355328 := by
    rcases hsl with h | ⟨el, sp, hd, hel⟩
    · omega
    · simp only at hd
      subst hd
      have z := sized_slice hsz (j := 1) (t := 22) rfl rfl Try.underlying22
      have hb : Try.prog.bytesOf 40 = 24 := by kernel_rfl
      rw [hb] at z
      simp only [reachBytes] at z
      omega
  have walk := other_c (w := W) (ca := cap0) (cb := cap1) hrows0 in0 rfl few0 hrows1 in1 rfl few1
  refine walk.mono fun e W' ⟨he, hfr⟩ => ?_
  have bel : Below W.heap.size W W' := ⟨hfr.os, hfr.tape, hfr.output, hfr.size, fun k hk => hfr.block k hk (by simp)⟩
  subst he
  exact ⟨_, rfl, _, _, _, [], _, [], hW', trodAll_mk1 (shut_bool Try.underlying4 _), (trodAll_cons_mk (Below.trod laidOut (by kernel_rfl) (of_decide_eq_true (by kernel_rfl)) k0 bel lt0) (trodAll_cons_mk (Below.trod laidOut (by kernel_rfl) (of_decide_eq_true (by kernel_rfl)) k1 bel lt1) trodAll_mk0)), rfl, bel.frame _, fun h => by cases h⟩
theorem over : Rows.remoteOtherRow.holds Try.pinned (OpenSpec.ofChange Rows.remoteOtherSpec) :=
  OpenClaim.holds_of_wide 3 Try.f3 rfl rfl rfl rfl rfl rfl rfl ⟨rfl, rfl, rfl, rfl, rfl⟩ rfl rfl rfl rfl rfl (by kernel_rfl) Try.func3 (by kernel_rfl)
    (of_decide_eq_true (by kernel_rfl)) (by unfold Func.isWrapper; first | (rw [if_pos (by decide +kernel)]; kernel_rfl) | (rw [if_neg (by decide +kernel)]; exact ⟨rfl, rfl⟩))
    (fun os started H enc _ => lifted os started H enc)
end Go.Proofs.Ytpjcfnnnciknmaa.remoteOther
namespace Go.Proofs.Ytpjcfnnnciknmaa
/-- The row RemoteOther. -/
theorem remoteOther_holds : Rows.RemoteOtherSaid := remoteOther.over
end Go.Proofs.Ytpjcfnnnciknmaa
