/- The row CodeParts: the arguments opened, the walk, and the row closed over it. -/
import Derived.Test.YtgoecmggbcaoiaaRows
import Derived.Test.YtgoecmggbcaoiaaArgsV
import Derived.Test.YtgoecmggbcaoiaaArgs
import Derived.WalkKit
import Derived.JoinedCond
import Derived.ProofKit
import Derived.OpenShut
import Derived.ShutString
import Derived.ChangeOld
import Derived.Below
import Derived.SizedLaws
import Derived.Carry
set_option linter.unusedVariables false
set_option linter.unusedSimpArgs false
namespace Go.Proofs.Ytgoecmggbcaoiaa.codeParts
open Go hiding Expr
open Go.ChangeShapes Go.WideShapes Go.ChangeAt Go.RowKit
open Go.ChangeMaps (open_string shut_string)
open Go.Proofs.Ytgoecmggbcaoiaa Go.Proofs.Ytgoecmggbcaoiaa.Tr
theorem own : ownKnob Try.prog.godebug = none := by kernel_rfl
theorem laidOut : laidOutB Try.prog = true := by kernel_rfl
theorem bulk_pos {H : Type} (d : DataW H) : 1 ≤ Rows.uptoBulk d := by
  cases d with
  | lit l => cases l <;> simp [Rows.uptoBulk]
  | _ => simp [Rows.uptoBulk]
theorem bulk_len {H : Type} : ∀ l : List (DataW H), l.length ≤ Rows.uptoBulkAll l
  | [] => by simp [Rows.uptoBulkAll]
  | d :: r => by have := bulk_len r; have := bulk_pos d; simp only [Rows.uptoBulkAll, List.length_cons]; omega
theorem bulk_mem {H : Type} {d : DataW H} : ∀ l : List (DataW H), d ∈ l → Rows.uptoBulk d ≤ Rows.uptoBulkAll l
  | a :: r, h => by
    simp only [Rows.uptoBulkAll]
    rcases List.mem_cons.1 h with rfl | h
    · omega
    · have := bulk_mem r h; omega
theorem bulk_s1 {H : Type} (el sp : List (DataW H)) : el.length ≤ Rows.uptoBulk (.slice el sp) := by
  have := bulk_len el
  have h3 : Rows.uptoBulk (DataW.slice el sp) = Rows.uptoBulkAll el + Rows.uptoBulkAll sp + 1 := by simp [Rows.uptoBulk]
  omega
theorem bulk_s2 {H : Type} (el sp : List (DataW H)) (d : DataW H) (h : d ∈ el) : Rows.uptoBulk d ≤ Rows.uptoBulk (.slice el sp) := by
  have := bulk_mem el h
  have h3 : Rows.uptoBulk (DataW.slice el sp) = Rows.uptoBulkAll el + Rows.uptoBulkAll sp + 1 := by simp [Rows.uptoBulk]
  omega
theorem bulk_s3 {H : Type} (parts : List (DataW H)) (d : DataW H) (h : d ∈ parts) : Rows.uptoBulk d ≤ Rows.uptoBulk (.agg parts) := by
  have := bulk_mem parts h
  have h3 : Rows.uptoBulk (DataW.agg parts) = Rows.uptoBulkAll parts + 1 := by simp [Rows.uptoBulk]
  omega
set_option maxRecDepth 100000 in
theorem lifted (os : Os) (started : os.Started) (H : Type) (enc : TypeId × Value → H) (F : Stop.Interp) :
    ReturnsInHanded {} Try.checked os 9 .any ((Rows.OpenSpec.upto Rows.codePartsSpec).pre6 enc Try.prog Try.f9 Rows.codePartsUptoRow.domain false) (((Rows.OpenSpec.upto Rows.codePartsSpec).at F).post enc Try.prog Try.f9 false true false false) := by
  have hw : (DataW.whole enc Try.prog (World.plainHolding Try.prog os ⟨#[], #[.slice none 0 0, .slice none 0 0, .int .u16 0], []⟩).memory Try.f9.params.toList (Rows.OpenSpec.upto Rows.codePartsSpec).vars false (#[.slice none 0 0, .slice none 0 0, .int .u16 0] : Array Value).toList 8).map (fun x => (x.1, x.2.1)) = some ([.nil, .nil, .lit (.int .u16 0)], []) := by kernel_rfl
  obtain ⟨⟨x1, x2, x3⟩, hx, hx1⟩ := Option.map_eq_some_iff.1 hw
  simp only [Prod.mk.injEq] at hx1
  obtain ⟨rfl, rfl⟩ := hx1
  refine returnsInHanded_of_cond (C := Try.checked) (s := Rows.OpenSpec.upto Rows.codePartsSpec) (k := Rows.uptoSmall) rfl own started (by kernel_rfl) Try.func9
    (OpenSpec.witness (enc := enc) (C := Try.checked) (s := Rows.OpenSpec.upto Rows.codePartsSpec) (k := Rows.uptoSmall) rfl false ⟨#[], #[.slice none 0 0, .slice none 0 0, .int .u16 0], []⟩ 8 (by kernel_rfl) (by kernel_rfl) (by kernel_rfl) hx (by kernel_rfl) (by kernel_rfl)) ?_
  intro W base args ds gs before hval0 hW hcnd hk0 _
  have hbulk : Rows.uptoBulkAll (ds ++ gs) ≤ 1048576 := of_decide_eq_true hk0
  have hval : ∀ (j : Nat) t v, Try.f9.params[j]? = some t → args[j]? = some v → Value.okWide Try.prog W .any base t v := hval0
  have hW' := hW
  obtain ⟨p, q, hA0, hV, rfl, hfz, hnd⟩ := hW
  have hA : DataW.TrodAll enc Try.prog W 0 (fun _ => true) true Try.f9.params.toList args.toList ds p := hA0
  rw [Try.params9] at hA hval
  obtain ⟨v0, vs0, d0, ds0, p0, q0, hargs, rfl, rfl, h0, r0⟩ := trodAll_cons hA
  obtain ⟨v1, vs1, d1, ds1, p1, q1, rfl, rfl, rfl, h1, r1⟩ := trodAll_cons r0
  obtain ⟨v2, vs2, d2, ds2, p2, q2, rfl, rfl, rfl, h2, r2⟩ := trodAll_cons r1
  obtain ⟨rfl, rfl, rfl⟩ := trodAll_nil r2
  obtain rfl : args = #[v0, v1, v2] := by cases args; simp_all
  obtain ⟨rfl, rfl⟩ := trodVars_none hV
  have k0 := h0
  have lt0 : ∀ x ∈ p0, x.block < W.heap.size := by obtain ⟨m, hm⟩ := k0; exact DataW.trod_lt m _ _ _ hm
  obtain ⟨fuel0, hf0⟩ := h0
  obtain ⟨a0, len0, cap0, rfl⟩ := okWide_slice Try.underlying23 (hval 0 23 v0 rfl rfl)
  have k1 := h1
  have lt1 : ∀ x ∈ p1, x.block < W.heap.size := by obtain ⟨m, hm⟩ := k1; exact DataW.trod_lt m _ _ _ hm
  obtain ⟨fuel1, hf1⟩ := h1
  obtain ⟨a1, len1, cap1, rfl⟩ := okWide_slice Try.underlying23 (hval 1 23 v1 rfl rfl)
  have k2 := h2
  have lt2 : ∀ x ∈ p2, x.block < W.heap.size := by obtain ⟨m, hm⟩ := k2; exact DataW.trod_lt m _ _ _ hm
  obtain ⟨fuel2, hf2⟩ := h2
  obtain ⟨a2, rfl, rfl, rfl, w2⟩ := open_int Try.underlying61 (hval 2 61 v2 rfl rfl) k2
  have hw0' : Rows.uptoBulk d0 ≤ 1048576 := Nat.le_trans (bulk_mem _ (by simp)) hbulk
  have hfit := leavesU_ok bulk_s1 bulk_s2 bulk_s3 9 23 [.lst lfB 134217727] fuel0 _ _ (by kernel_rfl) hf0 hw0'
  obtain ⟨o, bs, cap, _, hcs, hcap, few, hu, ha, hnil⟩ := open_bytsU hfit
  obtain rfl := hnil.nil
  obtain ⟨rfl, rfl, rfl⟩ : a0 = o ∧ len0 = bs.length ∧ cap0 = cap := by simpa [Value.cells] using hcs
  have hw1' : Rows.uptoBulk d1 ≤ 1048576 := Nat.le_trans (bulk_mem _ (by simp)) hbulk
  have hfit1 := leavesU_ok bulk_s1 bulk_s2 bulk_s3 9 23 [.lst lfB 134217727] fuel1 _ _ (by kernel_rfl) hf1 hw1'
  obtain ⟨o2, c, cap2, _, hcs1, hcap1, few1, hu1, ha1, hnil1⟩ := open_bytsU hfit1
  obtain rfl := hnil1.nil
  obtain ⟨rfl, rfl, rfl⟩ : a1 = o2 ∧ len1 = c.length ∧ cap1 = cap2 := by simpa [Value.cells] using hcs1
  have hk : 0 ≤ a2 ∧ a2 ≤ 65535 := by
    have := w2
    simp [Lit.wf, IntKind.min, IntKind.max, IntKind.signed, IntKind.bits] at this
    omega
  have walk := parts_c ha hu hcap few ha1 hu1 hcap1 few1 hk
  refine walk.mono fun e W' ⟨he, hfr⟩ => ?_
  have bel : Below W.heap.size W W' := ⟨hfr.os, hfr.tape, hfr.output, hfr.size, fun k hk => hfr.block k hk (by simp)⟩
  subst he
  exact ⟨_, rfl, _, _, _, [], _, [], hW', trodAll_mk1 (shut_bool Try.underlying4 _), (trodAll_cons_mk (Below.trod laidOut (by kernel_rfl) (of_decide_eq_true (by kernel_rfl)) k0 bel lt0) (trodAll_cons_mk (Below.trod laidOut (by kernel_rfl) (of_decide_eq_true (by kernel_rfl)) k1 bel lt1) (trodAll_cons_mk (shut_int Try.underlying61 w2) trodAll_mk0))), rfl, bel.frame _, fun h => by cases h⟩
theorem over : Rows.codePartsUptoRow.holds Try.pinned (Rows.OpenSpec.upto Rows.codePartsSpec) :=
  OpenClaim.holds_of_cond 9 Try.f9 rfl rfl rfl rfl rfl rfl rfl ⟨rfl, rfl, rfl, rfl, rfl⟩ rfl rfl rfl rfl rfl (by kernel_rfl) Try.func9 (by kernel_rfl)
    (of_decide_eq_true (by kernel_rfl)) (by unfold Func.isWrapper; first | (rw [if_pos (by decide +kernel)]; kernel_rfl) | (rw [if_neg (by decide +kernel)]; exact ⟨rfl, rfl⟩))
    (fun os started H enc _ F => lifted os started H enc F)
end Go.Proofs.Ytgoecmggbcaoiaa.codeParts
namespace Go.Proofs.Ytgoecmggbcaoiaa
/-- The row CodeParts. -/
theorem codeParts_holds : Rows.CodePartsUptoSaid := codeParts.over
end Go.Proofs.Ytgoecmggbcaoiaa
