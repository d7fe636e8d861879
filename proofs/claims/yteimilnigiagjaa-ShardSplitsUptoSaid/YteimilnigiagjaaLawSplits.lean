/- The row ShardSplits: the arguments opened, the walk, and the row closed over it. -/
import Derived.Test.YteimilnigiagjaaRows
import Derived.Test.YteimilnigiagjaaSplitsArg
import Derived.Test.YteimilnigiagjaaArgs
import Derived.WalkKit
import Derived.JoinedCond
import Derived.ProofKit
import Derived.OpenShut
import Derived.ShutString
import Derived.ChangeOld
import Derived.Below
import Derived.SizedLaws
import Derived.Carry
set_option linter.unusedVariables false
set_option linter.unusedSimpArgs false
namespace Go.Proofs.Yteimilnigiagjaa.shardSplits
open Go hiding Expr
open Go.ChangeShapes Go.WideShapes Go.ChangeAt Go.RowKit
open Go.ChangeMaps (open_string shut_string)
open Go.Proofs.Yteimilnigiagjaa Go.Proofs.Yteimilnigiagjaa.Tr
theorem own : ownKnob Try.prog.godebug = none := by kernel_rfl
theorem laidOut : laidOutB Try.prog = true := by kernel_rfl
theorem bulk_pos {H : Type} (d : DataW H) : 1 ≤ Rows.uptoBulk d := by
  cases d with
  | lit l => cases l <;> simp [Rows.uptoBulk]
  | _ => simp [Rows.uptoBulk]
theorem bulk_len {H : Type} : ∀ l : List (DataW H), l.length ≤ Rows.uptoBulkAll l
  | [] => by simp [Rows.uptoBulkAll]
  | d :: r => by have := bulk_len r; have := bulk_pos d; simp only [Rows.uptoBulkAll, List.length_cons]; omega
theorem bulk_mem {H : Type} {d : DataW H} : ∀ l : List (DataW H), d ∈ l → Rows.uptoBulk d ≤ Rows.uptoBulkAll l
  | a :: r, h => by
    simp only [Rows.uptoBulkAll]
    rcases List.mem_cons.1 h with rfl | h
    · omega
    · have := bulk_mem r h; omega
theorem flat_bulk {H : Type} : ∀ (ls : List PL) (el : List (DataW H)), ls.length = el.length → (∀ (j : Nat) (x : PL), ls[j]? = some x → x.l.length = 0 ∨ ∃ el' sp', el[j]? = some (.slice el' sp') ∧ el'.length = x.l.length) → (flatP ls).length ≤ Rows.uptoBulkAll el
  | [], el, _, _ => by simp [flatP]
  | x :: ls, [], h, _ => by simp at h
  | x :: ls, d :: el, h, hx => by
    have ih := flat_bulk ls el (by simpa using h) (fun j y hj => by simpa using hx (j + 1) y (by simpa using hj))
    have e1 : (flatP (x :: ls)).length = x.l.length + (flatP ls).length := by simp [flatP]
    have e2 : Rows.uptoBulkAll (d :: el) = Rows.uptoBulk d + Rows.uptoBulkAll el := by simp [Rows.uptoBulkAll]
    have e3 : x.l.length ≤ Rows.uptoBulk d := by
      rcases hx 0 x rfl with h0 | ⟨el', sp', he, hl⟩
      · omega
      · simp only [List.getElem?_cons_zero, Option.some.injEq] at he
        subst he
        have := bulk_len el'
        have e4 : Rows.uptoBulk (DataW.slice el' sp') = Rows.uptoBulkAll el' + Rows.uptoBulkAll sp' + 1 := by simp [Rows.uptoBulk]
        omega
    omega
set_option maxRecDepth 100000 in
theorem lifted (os : Os) (started : os.Started) (H : Type) (enc : TypeId × Value → H) (F : Stop.Interp) :
    ReturnsInHanded {} Try.checked os 9 .any ((Rows.OpenSpec.upto Rows.shardSplitsSpec).pre6 enc Try.prog Try.f9 Rows.shardSplitsUptoRow.domain false) (((Rows.OpenSpec.upto Rows.shardSplitsSpec).at F).post enc Try.prog Try.f9 false true false false) := by
  have hw : (DataW.whole enc Try.prog (World.plainHolding Try.prog os ⟨#[], #[.slice none 0 0, .int .i64 0, .slice none 0 0], []⟩).memory Try.f9.params.toList (Rows.OpenSpec.upto Rows.shardSplitsSpec).vars false (#[.slice none 0 0, .int .i64 0, .slice none 0 0] : Array Value).toList 8).map (fun x => (x.1, x.2.1)) = some ([.nil, .lit (.int .i64 0), .nil], []) := by kernel_rfl
  obtain ⟨⟨x1, x2, x3⟩, hx, hx1⟩ := Option.map_eq_some_iff.1 hw
  simp only [Prod.mk.injEq] at hx1
  obtain ⟨rfl, rfl⟩ := hx1
  refine returnsInHanded_of_cond (C := Try.checked) (s := Rows.OpenSpec.upto Rows.shardSplitsSpec) (k := Rows.uptoSmall) rfl own started (by kernel_rfl) Try.func9
    (OpenSpec.witness (enc := enc) (C := Try.checked) (s := Rows.OpenSpec.upto Rows.shardSplitsSpec) (k := Rows.uptoSmall) rfl false ⟨#[], #[.slice none 0 0, .int .i64 0, .slice none 0 0], []⟩ 8 (by kernel_rfl) (by kernel_rfl) (by kernel_rfl) hx (by kernel_rfl) (by kernel_rfl)) ?_
  intro W base args ds gs before hval0 hW hcnd hk0 _
  have hbulk : Rows.uptoBulkAll (ds ++ gs) ≤ 1048576 := of_decide_eq_true hk0
  have hval : ∀ (j : Nat) t v, Try.f9.params[j]? = some t → args[j]? = some v → Value.okWide Try.prog W .any base t v := hval0
  have hW' := hW
  obtain ⟨p, q, hA0, hV, rfl, hfz, hnd⟩ := hW
  have hA : DataW.TrodAll enc Try.prog W 0 (fun _ => true) true Try.f9.params.toList args.toList ds p := hA0
  rw [Try.params9] at hA hval
  obtain ⟨v0, vs0, d0, ds0, p0, q0, hargs, rfl, rfl, h0, r0⟩ := trodAll_cons hA
  obtain ⟨v1, vs1, d1, ds1, p1, q1, rfl, rfl, rfl, h1, r1⟩ := trodAll_cons r0
  obtain ⟨v2, vs2, d2, ds2, p2, q2, rfl, rfl, rfl, h2, r2⟩ := trodAll_cons r1
  obtain ⟨rfl, rfl, rfl⟩ := trodAll_nil r2
  obtain rfl : args = #[v0, v1, v2] := by cases args; simp_all
  obtain ⟨rfl, rfl⟩ := trodVars_none hV
  have k0 := h0
  have lt0 : ∀ x ∈ p0, x.block < W.heap.size := by obtain ⟨m, hm⟩ := k0; exact DataW.trod_lt m _ _ _ hm
  obtain ⟨fuel0, hf0⟩ := h0
  obtain ⟨a0, len0, cap0, rfl⟩ := okWide_slice Try.underlying35 (hval 0 35 v0 rfl rfl)
  have k1 := h1
  have lt1 : ∀ x ∈ p1, x.block < W.heap.size := by obtain ⟨m, hm⟩ := k1; exact DataW.trod_lt m _ _ _ hm
  obtain ⟨fuel1, hf1⟩ := h1
  obtain ⟨a1, rfl, rfl, rfl, w1⟩ := open_int Try.underlying3 (hval 1 3 v1 rfl rfl) k1
  have k2 := h2
  have lt2 : ∀ x ∈ p2, x.block < W.heap.size := by obtain ⟨m, hm⟩ := k2; exact DataW.trod_lt m _ _ _ hm
  obtain ⟨fuel2, hf2⟩ := h2
  obtain ⟨a2, len2, cap2, rfl⟩ := okWide_slice Try.underlying53 (hval 2 53 v2 rfl rfl)
  obtain ⟨o, len, cap, rows, hcs, hlen, hmax, hfits, hrows0⟩ := open_rows (ls := [.int .i32, .int .i64]) (n := 9) Try.underlying35 (by kernel_rfl) (by kernel_rfl) hf0 (by decide)
  obtain ⟨lk, rfl, in0⟩ := keys_of rows hfits
  obtain ⟨rfl, rfl, rfl⟩ : a0 = o ∧ len0 = len ∧ cap0 = cap := by simpa [Value.cells] using hcs
  have hsl := slice_len Try.underlying35 (show DataW.trod enc Try.prog W 0 (fun _ => true) true fuel0 35 [.slice a0 len0 cap0] = some (d0, p0) from hf0)
  rw [List.length_map] at hlen
  subst hlen
  have few0 : lk.length ≤ 1048576 := by
    rcases hsl with h | ⟨el, sp, hd, hel⟩
    · omega
    · simp only at hd
      subst hd
      have h1 : Rows.uptoBulk (DataW.slice el sp) ≤ 1048576 := Nat.le_trans (bulk_mem _ (by simp)) hbulk
      have h2 := bulk_len el
      have h3 : Rows.uptoBulk (DataW.slice el sp) = Rows.uptoBulkAll el + Rows.uptoBulkAll sp + 1 := by simp [Rows.uptoBulk]
      omega
  obtain ⟨o, len, cap, q, rows, el, sp, hcs, hlen, hcap, hmax, hrows1, hel, hd, hr⟩ := open_rowsD Try.underlying53 (by rw [show Try.prog.cellsOf 40 = 1 from by kernel_rfl]; decide) hf2
  obtain ⟨ls, rfl, hP, hlel, hlens⟩ := pls_of rows el (by rw [hel, hlen]) hr
  obtain ⟨rfl, rfl, rfl⟩ : a2 = o ∧ len2 = len ∧ cap2 = cap := by simpa [Value.cells] using hcs
  rw [List.length_map] at hlen
  subst hlen
  have hb : Rows.uptoBulkAll el ≤ 1048576 := by
    rcases hd with hd | ⟨h0, hd⟩
    · simp only at hd
      subst hd
      have h1 : Rows.uptoBulk (DataW.slice el sp) ≤ 1048576 := Nat.le_trans (bulk_mem _ (by simp)) hbulk
      have h3 : Rows.uptoBulk (DataW.slice el sp) = Rows.uptoBulkAll el + Rows.uptoBulkAll sp + 1 := by simp [Rows.uptoBulk]
      omega
    · have : el = [] := List.eq_nil_of_length_eq_zero (by omega)
      subst this
      simp [Rows.uptoBulkAll]
  have hlb := bulk_len el
  have hall := flat_bulk ls el hlel hlens
  have walk := splits_c (w := W) (ok := a0) (o := a2) (ck := cap0) (cap := cap2) a1 hrows0 rfl (by omega) ⟨by have := hrows1; rw [show Try.prog.cellsOf 40 = 1 from by kernel_rfl] at this; exact this, fun x hx => (hP x hx).1⟩
    (fun p hp => by
      obtain ⟨l, hl, hp⟩ := List.mem_flatten.1 hp
      obtain ⟨x, hx, rfl⟩ := List.mem_map.1 hl
      exact (hP x hx).2 p hp) rfl (by omega) (by omega)
  refine walk.mono fun e W' ⟨he, hfr⟩ => ?_
  have bel : Below W.heap.size W W' := ⟨hfr.os, hfr.tape, hfr.output, hfr.size, fun k hk => hfr.block k hk (by simp)⟩
  subst he
  exact ⟨_, rfl, _, _, _, [], _, [], hW', trodAll_mk1 (shut_bool Try.underlying4 _), (trodAll_cons_mk (Below.trod laidOut (by kernel_rfl) (of_decide_eq_true (by kernel_rfl)) k0 bel lt0) (trodAll_cons_mk (shut_int Try.underlying3 w1) (trodAll_cons_mk (Below.trod laidOut (by kernel_rfl) (of_decide_eq_true (by kernel_rfl)) k2 bel lt2) trodAll_mk0))), rfl, bel.frame _, fun h => by cases h⟩
theorem over : Rows.shardSplitsUptoRow.holds Try.pinned (Rows.OpenSpec.upto Rows.shardSplitsSpec) :=
  OpenClaim.holds_of_cond 9 Try.f9 rfl rfl rfl rfl rfl rfl rfl ⟨rfl, rfl, rfl, rfl, rfl⟩ rfl rfl rfl rfl rfl (by kernel_rfl) Try.func9 (by kernel_rfl)
    (of_decide_eq_true (by kernel_rfl)) (by unfold Func.isWrapper; first | (rw [if_pos (by decide +kernel)]; kernel_rfl) | (rw [if_neg (by decide +kernel)]; exact ⟨rfl, rfl⟩))
    (fun os started H enc _ F => lifted os started H enc F)
end Go.Proofs.Yteimilnigiagjaa.shardSplits
namespace Go.Proofs.Yteimilnigiagjaa
/-- The row ShardSplits. -/
theorem shardSplits_holds : Rows.ShardSplitsUptoSaid := shardSplits.over
end Go.Proofs.Yteimilnigiagjaa
