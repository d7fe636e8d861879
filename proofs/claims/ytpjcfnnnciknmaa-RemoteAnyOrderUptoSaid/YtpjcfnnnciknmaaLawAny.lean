/- The row RemoteAnyOrder: the arguments opened, the walk, and the row closed over it. -/
import Derived.Test.YtpjcfnnnciknmaaRows
import Derived.Test.YtpjcfnnnciknmaaAnyW
import Derived.Test.YtpjcfnnnciknmaaArgsA
import Derived.WalkKit
import Derived.JoinedCond
import Derived.ProofKit
import Derived.OpenShut
import Derived.ShutString
import Derived.ChangeOld
import Derived.Below
import Derived.SizedLaws
import Derived.Carry
set_option linter.unusedVariables false
set_option linter.unusedSimpArgs false
namespace Go.Proofs.Ytpjcfnnnciknmaa.remoteAnyOrder
open Go hiding Expr
open Go.ChangeShapes Go.WideShapes Go.ChangeAt Go.RowKit
open Go.ChangeMaps (open_string shut_string)
open Go.Proofs.Ytpjcfnnnciknmaa Go.Proofs.Ytpjcfnnnciknmaa.Tr
theorem own : ownKnob Try.prog.godebug = none := by kernel_rfl
theorem laidOut : laidOutB Try.prog = true := by kernel_rfl
theorem bulk_pos {H : Type} (d : DataW H) : 1 ≤ Rows.uptoBulk d := by
  cases d with
  | lit l => cases l <;> simp [Rows.uptoBulk]
  | _ => simp [Rows.uptoBulk]
theorem bulk_len {H : Type} : ∀ l : List (DataW H), l.length ≤ Rows.uptoBulkAll l
  | [] => by simp [Rows.uptoBulkAll]
  | d :: r => by have := bulk_len r; have := bulk_pos d; simp only [Rows.uptoBulkAll, List.length_cons]; omega
theorem bulk_mem {H : Type} {d : DataW H} : ∀ l : List (DataW H), d ∈ l → Rows.uptoBulk d ≤ Rows.uptoBulkAll l
  | a :: r, h => by
    simp only [Rows.uptoBulkAll]
    rcases List.mem_cons.1 h with rfl | h
    · omega
    · have := bulk_mem r h; omega
theorem bulk_s1 {H : Type} (el sp : List (DataW H)) : el.length ≤ Rows.uptoBulk (.slice el sp) := by
  have := bulk_len el
  have h3 : Rows.uptoBulk (DataW.slice el sp) = Rows.uptoBulkAll el + Rows.uptoBulkAll sp + 1 := by simp [Rows.uptoBulk]
  omega
theorem bulk_s2 {H : Type} (el sp : List (DataW H)) (d : DataW H) (h : d ∈ el) : Rows.uptoBulk d ≤ Rows.uptoBulk (.slice el sp) := by
  have := bulk_mem el h
  have h3 : Rows.uptoBulk (DataW.slice el sp) = Rows.uptoBulkAll el + Rows.uptoBulkAll sp + 1 := by simp [Rows.uptoBulk]
  omega
theorem bulk_s3 {H : Type} (parts : List (DataW H)) (d : DataW H) (h : d ∈ parts) : Rows.uptoBulk d ≤ Rows.uptoBulk (.agg parts) := by
  have := bulk_mem parts h
  have h3 : Rows.uptoBulk (DataW.agg parts) = Rows.uptoBulkAll parts + 1 := by simp [Rows.uptoBulk]
  omega
set_option maxRecDepth 100000 in
theorem lifted (os : Os) (started : os.Started) (H : Type) (enc : TypeId × Value → H) (F : Stop.Interp) :
    ReturnsInHanded {} Try.checked os 4 .any ((Rows.OpenSpec.upto Rows.remoteAnyOrderSpec).pre6 enc Try.prog Try.f4 Rows.remoteAnyOrderUptoRow.domain false) (((Rows.OpenSpec.upto Rows.remoteAnyOrderSpec).at F).post enc Try.prog Try.f4 false true false false) := by
  have hw : (DataW.whole enc Try.prog (World.plainHolding Try.prog os ⟨#[], #[.slice none 0 0, .slice none 0 0, .int .u8 0], []⟩).memory Try.f4.params.toList (Rows.OpenSpec.upto Rows.remoteAnyOrderSpec).vars false (#[.slice none 0 0, .slice none 0 0, .int .u8 0] : Array Value).toList 8).map (fun x => (x.1, x.2.1)) = some ([.nil, .nil, .lit (.int .u8 0)], []) := by kernel_rfl
  obtain ⟨⟨x1, x2, x3⟩, hx, hx1⟩ := Option.map_eq_some_iff.1 hw
  simp only [Prod.mk.injEq] at hx1
  obtain ⟨rfl, rfl⟩ := hx1
  refine returnsInHanded_of_cond (C := Try.checked) (s := Rows.OpenSpec.upto Rows.remoteAnyOrderSpec) (k := Rows.uptoSmall) rfl own started (by kernel_rfl) Try.func4
    (OpenSpec.witness (enc := enc) (C := Try.checked) (s := Rows.OpenSpec.upto Rows.remoteAnyOrderSpec) (k := Rows.uptoSmall) rfl false ⟨#[], #[.slice none 0 0, .slice none 0 0, .int .u8 0], []⟩ 8 (by kernel_rfl) (by kernel_rfl) (by kernel_rfl) hx (by kernel_rfl) (by kernel_rfl)) ?_
  intro W base args ds gs before hval0 hW hcnd hk0 _
  have hbulk : Rows.uptoBulkAll (ds ++ gs) ≤ 1048576 := of_decide_eq_true hk0
  have hval : ∀ (j : Nat) t v, Try.f4.params[j]? = some t → args[j]? = some v → Value.okWide Try.prog W .any base t v := hval0
  have hW' := hW
  obtain ⟨p, q, hA0, hV, rfl, hfz, hnd⟩ := hW
  have hA : DataW.TrodAll enc Try.prog W 0 (fun _ => true) true Try.f4.params.toList args.toList ds p := hA0
  rw [Try.params4] at hA hval
  obtain ⟨v0, vs0, d0, ds0, p0, q0, hargs, rfl, rfl, h0, r0⟩ := trodAll_cons hA
  obtain ⟨v1, vs1, d1, ds1, p1, q1, rfl, rfl, rfl, h1, r1⟩ := trodAll_cons r0
  obtain ⟨v2, vs2, d2, ds2, p2, q2, rfl, rfl, rfl, h2, r2⟩ := trodAll_cons r1
  obtain ⟨rfl, rfl, rfl⟩ := trodAll_nil r2
  obtain rfl : args = #[v0, v1, v2] := by cases args; simp_all
  obtain ⟨rfl, rfl⟩ := trodVars_none hV
  have k0 := h0
  have lt0 : ∀ x ∈ p0, x.block < W.heap.size := by obtain ⟨m, hm⟩ := k0; exact DataW.trod_lt m _ _ _ hm
  obtain ⟨fuel0, hf0⟩ := h0
  obtain ⟨a0, len0, cap0, rfl⟩ := okWide_slice Try.underlying41 (hval 0 41 v0 rfl rfl)
  have k1 := h1
  have lt1 : ∀ x ∈ p1, x.block < W.heap.size := by obtain ⟨m, hm⟩ := k1; exact DataW.trod_lt m _ _ _ hm
  obtain ⟨fuel1, hf1⟩ := h1
  obtain ⟨a1, len1, cap1, rfl⟩ := okWide_slice Try.underlying42 (hval 1 42 v1 rfl rfl)
  have k2 := h2
  have lt2 : ∀ x ∈ p2, x.block < W.heap.size := by obtain ⟨m, hm⟩ := k2; exact DataW.trod_lt m _ _ _ hm
  obtain ⟨fuel2, hf2⟩ := h2
  obtain ⟨a2, rfl, rfl, rfl, w2⟩ := open_int Try.underlying5 (hval 2 5 v2 rfl rfl) k2
  have hw0 : Rows.uptoBulk d0 ≤ 1048576 := Nat.le_trans (bulk_mem _ (by simp)) hbulk
  have hw1 : Rows.uptoBulk d1 ≤ 1048576 := Nat.le_trans (bulk_mem _ (by simp)) hbulk
  have hfit0 : FitsD W [.lst lfL 134217727] [.slice a0 len0 cap0] := leavesU_ok bulk_s1 bulk_s2 bulk_s3 9 41 [.lst lfL 134217727] fuel0 _ _ (by kernel_rfl) hf0 hw0
  have hfit1 : FitsD W [.lst lfB 134217727] [.slice a1 len1 cap1] := leavesU_ok bulk_s1 bulk_s2 bulk_s3 9 42 [.lst lfB 134217727] fuel1 _ _ (by kernel_rfl) hf1 hw1
  obtain ⟨o, len, cap, rows, _, he, hlen, hcap, hbytes, hrows, hfits, _⟩ := hfit0.lst
  obtain ⟨L, rfl, hL⟩ := pls_of rows hfits
  obtain ⟨⟨rfl, rfl, rfl⟩, _⟩ : (a0 = o ∧ len0 = len ∧ cap0 = cap) ∧ True := ⟨by simpa using (List.cons.inj he).1, trivial⟩
  rw [List.length_map] at hlen
  obtain ⟨o', len', cap', rows', _, he', hlen', hcap', hbytes', hrows', hfits', _⟩ := hfit1.lst
  obtain ⟨od, rfl, hod⟩ := u8s_of rows' hfits'
  obtain ⟨⟨rfl, rfl, rfl⟩, _⟩ : (a1 = o' ∧ len1 = len' ∧ cap1 = cap') ∧ True := ⟨by simpa using (List.cons.inj he').1, trivial⟩
  rw [List.length_map] at hlen'
  subst hlen hlen'
  simp only [reachBytes] at hbytes'
  have h6 : 0 ≤ a2 ∧ a2 ≤ 255 := by simpa [Lit.wf, IntKind.min, IntKind.max, IntKind.signed, IntKind.bits] using w2
  have walk := any_c (w := W) (o := a0) (n2 := cap0) (o3 := a1) (n5 := cap1) (i6 := a2) ⟨hrows, fun x hx => (hL x hx).1⟩ rfl hcap (fun y hy => (hL y hy).2) hrows' hod rfl (by omega) h6
  refine walk.mono fun e W' ⟨he, hfr⟩ => ?_
  have bel : Below W.heap.size W W' := ⟨hfr.os, hfr.tape, hfr.output, hfr.size, fun k hk => hfr.block k hk (by simp)⟩
  subst he
  exact ⟨_, rfl, _, _, _, [], _, [], hW', trodAll_mk1 (shut_bool Try.underlying4 _), (trodAll_cons_mk (Below.trod laidOut (by kernel_rfl) (of_decide_eq_true (by kernel_rfl)) k0 bel lt0) (trodAll_cons_mk (Below.trod laidOut (by kernel_rfl) (of_decide_eq_true (by kernel_rfl)) k1 bel lt1) (trodAll_cons_mk (shut_int Try.underlying5 w2) trodAll_mk0))), rfl, bel.frame _, fun h => by cases h⟩
theorem over : Rows.remoteAnyOrderUptoRow.holds Try.pinned (Rows.OpenSpec.upto Rows.remoteAnyOrderSpec) :=
  OpenClaim.holds_of_cond 4 Try.f4 rfl rfl rfl rfl rfl rfl rfl ⟨rfl, rfl, rfl, rfl, rfl⟩ rfl rfl rfl rfl rfl (by kernel_rfl) Try.func4 (by kernel_rfl)
    (of_decide_eq_true (by kernel_rfl)) (by unfold Func.isWrapper; first | (rw [if_pos (by decide +kernel)]; kernel_rfl) | (rw [if_neg (by decide +kernel)]; exact ⟨rfl, rfl⟩))
    (fun os started H enc _ F => lifted os started H enc F)
end Go.Proofs.Ytpjcfnnnciknmaa.remoteAnyOrder
namespace Go.Proofs.Ytpjcfnnnciknmaa
/-- The row RemoteAnyOrder. -/
theorem remoteAnyOrder_holds : Rows.RemoteAnyOrderUptoSaid := remoteAnyOrder.over
end Go.Proofs.Ytpjcfnnnciknmaa
