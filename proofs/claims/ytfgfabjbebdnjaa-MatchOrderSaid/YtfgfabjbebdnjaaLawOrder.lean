/- The row MatchOrder: the arguments opened, the walk, and the row closed over it. -/
import Derived.Test.YtfgfabjbebdnjaaRows
import Derived.Test.YtfgfabjbebdnjaaOrderW
import Derived.Test.YtfgfabjbebdnjaaArgs
import Derived.WalkKit
import Derived.ProofKit
import Derived.OpenShut
import Derived.ShutString
import Derived.ChangeOld
import Derived.Below
import Derived.SizedLaws
import Derived.Carry
set_option linter.unusedVariables false
set_option linter.unusedSimpArgs false
namespace Go.Proofs.Ytfgfabjbebdnjaa.matchOrder
open Go hiding Expr
open Go.ChangeShapes Go.WideShapes Go.ChangeAt Go.RowKit
open Go.ChangeMaps (open_string shut_string)
open Go.Proofs.Ytfgfabjbebdnjaa Go.Proofs.Ytfgfabjbebdnjaa.Tr
theorem own : ownKnob Try.prog.godebug = none := by kernel_rfl
theorem laidOut : laidOutB Try.prog = true := by kernel_rfl
set_option maxRecDepth 100000 in
theorem lifted (os : Os) (started : os.Started) (H : Type) (enc : TypeId × Value → H) :
    ReturnsInHanded {} Try.checked os 4 .any (Rows.matchOrderSpec.pre6 enc Try.prog Try.f4 Rows.matchOrderRow.domain false) (Rows.matchOrderSpec.post enc Try.prog Try.f4 false true false false) := by
  refine returnsInHanded_of_change_sized (C := Try.checked) own started (by kernel_rfl) Try.func4
    (ChangeSpec.witness6 (enc := enc) (C := Try.checked) false ⟨#[], #[.agg #[.int .i64 0, .int .i64 0], .int .i64 0, .slice none 0 0, .slice none 0 0], []⟩ 8 (by kernel_rfl) (by kernel_rfl) (by kernel_rfl) (by kernel_rfl)) ?_
  intro W base args ds gs before hval0 hW hcnd hsz0 _
  have hsz : (DataW.weightsEach Try.prog (Try.f4.params.toList ++ Rows.matchOrderSpec.plain.varTypes Try.prog) (ds ++ gs)).all (· ≤ reachBytes) = true := hsz0
  have hval : ∀ (j : Nat) t v, Try.f4.params[j]? = some t → args[j]? = some v → Value.okWide Try.prog W .any base t v := hval0
  have hW' := hW
  obtain ⟨p, q, hA0, hV, rfl, hfz, hnd⟩ := hW
  have hA : DataW.TrodAll enc Try.prog W 0 (fun _ => true) true Try.f4.params.toList args.toList ds p := hA0
  rw [Try.params4] at hA hval hsz
  obtain ⟨v0, vs0, d0, ds0, p0, q0, hargs, rfl, rfl, h0, r0⟩ := trodAll_cons hA
  obtain ⟨v1, vs1, d1, ds1, p1, q1, rfl, rfl, rfl, h1, r1⟩ := trodAll_cons r0
  obtain ⟨v2, vs2, d2, ds2, p2, q2, rfl, rfl, rfl, h2, r2⟩ := trodAll_cons r1
  obtain ⟨v3, vs3, d3, ds3, p3, q3, rfl, rfl, rfl, h3, r3⟩ := trodAll_cons r2
  obtain ⟨rfl, rfl, rfl⟩ := trodAll_nil r3
  obtain rfl : args = #[v0, v1, v2, v3] := by cases args; simp_all
  obtain ⟨rfl, rfl⟩ := trodVars_none hV
  have k0 := h0
  have lt0 : ∀ x ∈ p0, x.block < W.heap.size := by obtain ⟨m, hm⟩ := k0; exact DataW.trod_lt m _ _ _ hm
  obtain ⟨fuel0, hf0⟩ := h0
  obtain ⟨cs0, rfl, _⟩ := okWide_struct Try.underlying23 (hval 0 23 v0 rfl rfl)
  have k1 := h1
  have lt1 : ∀ x ∈ p1, x.block < W.heap.size := by obtain ⟨m, hm⟩ := k1; exact DataW.trod_lt m _ _ _ hm
  obtain ⟨fuel1, hf1⟩ := h1
  obtain ⟨a1, rfl, rfl, rfl, w1⟩ := open_int Try.underlying2 (hval 1 2 v1 rfl rfl) k1
  have k2 := h2
  have lt2 : ∀ x ∈ p2, x.block < W.heap.size := by obtain ⟨m, hm⟩ := k2; exact DataW.trod_lt m _ _ _ hm
  obtain ⟨fuel2, hf2⟩ := h2
  obtain ⟨a2, len2, cap2, rfl⟩ := okWide_slice Try.underlying24 (hval 2 24 v2 rfl rfl)
  have k3 := h3
  have lt3 : ∀ x ∈ p3, x.block < W.heap.size := by obtain ⟨m, hm⟩ := k3; exact DataW.trod_lt m _ _ _ hm
  obtain ⟨fuel3, hf3⟩ := h3
  obtain ⟨a3, len3, cap3, rfl⟩ := okWide_slice Try.underlying37 (hval 3 37 v3 rfl rfl)
  have hfit := leaves_ok 9 23 [.int .i64, .int .i64] fuel0 _ _ (by kernel_rfl) hf0
  obtain ⟨cs0⟩ := cs0
  have hfit : Fits [.int .i64, .int .i64] cs0 := hfit
  obtain ⟨m0, _, rfl, _, hfit1⟩ := hfit.int
  obtain ⟨m1, _, rfl, _, hfit2⟩ := hfit1.int
  obtain rfl := hfit2.nil
  obtain ⟨o, len, cap, rows, hcs, hlen, hmax, hfits, hrows⟩ := open_rows (ls := opLeaves) (n := 9) Try.underlying24 (by kernel_rfl) (by kernel_rfl) hf2 (by decide)
  obtain ⟨ops, rfl⟩ := ops_of rows hfits
  obtain ⟨rfl, rfl, rfl⟩ : a2 = o ∧ len2 = len ∧ cap2 = cap := by simpa [Value.cells] using hcs
  have hsl := slice_len Try.underlying24 (show DataW.trod enc Try.prog W 0 (fun _ => true) true fuel2 24 [.slice a2 len2 cap2] = some (d2, p2) from hf2)
  rw [List.length_map] at hlen
  subst hlen
  have hfew : ops.length * 24 ≤ 140737488355328 := by
    rcases hsl with h | ⟨el, sp, hd, hel⟩
    · omega
    · simp only at hd
      subst hd
      have z := sized_slice hsz (j := 2) (t := 24) rfl rfl Try.underlying24
      have hb : Try.prog.bytesOf 31 = 24 := by kernel_rfl
      rw [hb] at z
      simp only [reachBytes] at z
      omega
  obtain ⟨o3, len, cap, rows, hcs, hlen, hmax, hfits, htrows⟩ := open_rows (ls := [.int .u8]) (n := 9) Try.underlying37 (by kernel_rfl) (by kernel_rfl) hf3 (by decide)
  obtain ⟨turn, rfl, hturn⟩ := turns_of rows hfits
  obtain ⟨rfl, rfl, rfl⟩ : a3 = o3 ∧ len3 = len ∧ cap3 = cap := by simpa [Value.cells] using hcs
  rw [List.length_map] at hlen
  subst hlen
  have walk := order_c (w := W) m0 m1 a1 a2 cap2 ops hfew hrows a3 cap3 turn hturn htrows
  refine walk.mono fun e W' ⟨he, hfr⟩ => ?_
  have bel : Below W.heap.size W W' := ⟨hfr.os, hfr.tape, hfr.output, hfr.size, fun k hk => hfr.block k hk (by simp)⟩
  subst he
  exact ⟨_, rfl, _, _, _, [], _, [], hW', trodAll_mk1 (shut_bool Try.underlying4 _), (trodAll_cons_mk (Below.trod laidOut (by kernel_rfl) (of_decide_eq_true (by kernel_rfl)) k0 bel lt0) (trodAll_cons_mk (shut_int Try.underlying2 w1) (trodAll_cons_mk (Below.trod laidOut (by kernel_rfl) (of_decide_eq_true (by kernel_rfl)) k2 bel lt2) (trodAll_cons_mk (Below.trod laidOut (by kernel_rfl) (of_decide_eq_true (by kernel_rfl)) k3 bel lt3) trodAll_mk0)))), rfl, bel.frame _, fun h => by cases h⟩
theorem over : Rows.matchOrderRow.holds Try.pinned (OpenSpec.ofChange Rows.matchOrderSpec) :=
  OpenClaim.holds_of_wide 4 Try.f4 rfl rfl rfl rfl rfl rfl rfl ⟨rfl, rfl, rfl, rfl, rfl⟩ rfl rfl rfl rfl rfl (by kernel_rfl) Try.func4 (by kernel_rfl)
    (of_decide_eq_true (by kernel_rfl)) (by unfold Func.isWrapper; first | (rw [if_pos (by decide +kernel)]; kernel_rfl) | (rw [if_neg (by decide +kernel)]; exact ⟨rfl, rfl⟩))
    (fun os started H enc _ => lifted os started H enc)
end Go.Proofs.Ytfgfabjbebdnjaa.matchOrder
namespace Go.Proofs.Ytfgfabjbebdnjaa
/-- The row MatchOrder. -/
theorem matchOrder_holds : Rows.MatchOrderSaid := matchOrder.over
end Go.Proofs.Ytfgfabjbebdnjaa
