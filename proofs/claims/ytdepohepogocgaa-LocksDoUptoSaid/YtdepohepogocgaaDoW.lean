/- LocksDo, walked. -/
import Derived.Test.YtdepohepogocgaaStepW
import Derived.Test.YtdepohepogocgaaDeepU
set_option linter.unusedVariables false
set_option linter.unusedSimpArgs false
set_option maxRecDepth 100000
set_option maxHeartbeats 4000000
namespace Go.Proofs.Ytdepohepogocgaa
open Go hiding Expr
open Go.RowKit Tr

theorem OP.kin {x : OP} (h : OpOk x) : True := trivial
section
variable {w : World} {o : Option Addr} {S : List OP} {cap : Nat}
theorem do_c (hS : RowsAt w o 4 (S.map opr)) (hin : ∀ x ∈ S, RowsAt w x.o 3 (x.l.map lr)) (hok : ∀ x ∈ S, OpOk x) (hmax : S.length ≤ 1048576) :
    Calls Try.prog 6 #[.slice o S.length cap] w fun e w' => e = .returned (.bool true) ∧ Fr [] w w' := by
  apply c6
  refine s_call new_c ?_
  rintro _ u ⟨r, c, rfl, hL, H⟩
  refine ⟨_, rfl, s_asP (s_call rnew_c ?_)⟩
  rintro _ u ⟨r2, cr, rfl, hR, H2⟩
  have H := H.join H2
  refine ⟨_, rfl, s_asP ?_⟩
  have H : Has w u (c ++ (cr ++ [])) := by rw [List.append_nil]; exact H.sub (by repeat (first | exact sb_refl | exact sb_nil | refine sb_cons (by repeat (first | exact pick_head | apply pick_tail | apply pick_app)) ?_ | refine sb_app (by repeat (first | exact cut_head | exact cut_all | apply cut_tail | apply cut_app)) ?_ | exact sb_one (by repeat (first | exact cut_head | exact cut_all | apply cut_tail | apply cut_app))))
  refine s_blk (fun x W => ∃ mm, Has w W (c ++ (cr ++ mm))) ?_ ?_
  · clear H H2
    rintro vs j W ⟨mm, H⟩
    refine s_loop (fun vs W => ∃ (i p : Nat) (A : St) (X : List AW) (c cr mm : Hp), vs = [.pointer (some ⟨p, 0, none⟩), .int .i64 i] ∧ i ≤ S.length ∧ LkAt p A c ∧ RefAt r2 X cr ∧ X.map AW.row = A ∧ Lim i A ∧ Has w W (c ++ (cr ++ mm))) (fun vs _ => S.length - (intOf (vs.getD 1 undef)).toNat)
      ⟨0, r, [], [], c, cr, mm, rfl, by omega, hL, hR, rfl, Lim.nil, H⟩ ?_
    clear H hL hR
    rintro _ j W ⟨i, p, A, X, c, cr, mm, rfl, hi, hL, hR, hAX, hl, H⟩
    refine s_asP (s_asI (s_ite (fun g1 => ?_) (fun g1 => s_ret ⟨rfl, H.base⟩)))
    simp only [decide_eq_true_eq] at g1
    have hlt : i < S.length := by omega
    obtain ⟨x, hx⟩ : ∃ x, S[i]? = some x := ⟨_, List.getElem?_eq_getElem hlt⟩
    have hxm := List.mem_of_getElem? hx
    obtain ⟨g, off, he, _, hc⟩ := (H.rows hS).at (j := i) (r := opr x) (by rw [List.getElem?_map, hx]; rfl)
    refine s_req ⟨by omega, by omega⟩ ⟨g, off, he, s_loadI (hc 0 _ rfl) (s_loadI (hc 1 _ rfl) (s_loadI (hc 2 _ rfl) (s_loadS (hc 3 _ rfl) ?_)))⟩
    (refine h_new H fun n21 u H => ?_)
    iterate 4 refine h_st H (by repeat (first | exact pick_head | apply pick_tail | apply pick_app)) (by first | (simp; done) | exact Nat.le_of_ble_eq_true rfl) rfl fun u H => ?_
    refine h_ldI H (by repeat (first | exact pick_head | apply pick_tail | apply pick_app)) rfl (h_ldI H (by repeat (first | exact pick_head | apply pick_tail | apply pick_app)) rfl (h_ldI H (by repeat (first | exact pick_head | apply pick_tail | apply pick_app)) rfl (h_ldS H (by repeat (first | exact pick_head | apply pick_tail | apply pick_app)) rfl ?_)))
    have H : Has w u (c ++ (cr ++ (cl n21 30 (opr x) :: mm))) := H.sub (by repeat (first | exact sb_refl | exact sb_nil | refine sb_cons (by repeat (first | exact pick_head | apply pick_tail | apply pick_app)) ?_ | refine sb_app (by repeat (first | exact cut_head | exact cut_all | apply cut_tail | apply cut_app)) ?_ | exact sb_one (by repeat (first | exact cut_head | exact cut_all | apply cut_tail | apply cut_app))))
    refine s_call (step_c H hL hR hAX hl (by omega) (hok x hxm) (hin x hxm)) ?_
    rintro _ u ⟨p', A', X', c', cr', m', rfl, hL', hR', hAX', hl', H⟩
    refine ⟨_, rfl, s_asU (s_req rfl (s_asP (s_asB (s_false rfl (h_ldI H (by repeat (first | exact pick_head | apply pick_tail | apply pick_app)) rfl (h_ldI H (by repeat (first | exact pick_head | apply pick_tail | apply pick_app)) rfl ?_))))))⟩
    refine s_call (equal_c (t := x.t) (LkW.of H cut_head hL') (RefAt.rv H (c := cr') (by repeat (first | exact cut_head | exact cut_all | apply cut_tail | apply cut_app)) hR') hAX' (hl'.sz (by omega)) ?_ (hok x hxm).1) ?_
    · have := hl'.2.2
      have h3 : (i + 1) * 1048576 ≤ 1048576 * 1048576 := Nat.mul_le_mul_right _ (by omega)
      omega
    rintro _ u ⟨rfl, f⟩
    have H := H.fr0 f
    refine ⟨_, rfl, s_asB (s_false rfl (s_next (by first | exact ⟨rfl, rfl⟩ | trivial) ?_))⟩
    simp (config := { decide := true }) only [if_true, if_false]
    exact ⟨⟨i + 1, p', A', X', c', cr', _, by rw [w_succ (by omega)], by omega, hL', hR', hAX', hl', H⟩, by rw [w_succ (by omega)]; simp [intOf] <;> omega⟩
  · refine s_call begun_c ?_
    rintro _ u ⟨rfl, f⟩
    have H := H.fr0 f
    refine ⟨_, rfl, s_asB (s_false rfl (s_false rfl (s_next (by first | exact ⟨rfl, rfl⟩ | trivial) ?_)))⟩
    simp (config := { decide := true }) only [if_true, if_false]
    exact ⟨[], H⟩
end

/-! ### The script that is handed in -/
abbrev lfLkU : List DLeaf := [.flat (.int .i32), .flat (.int .i64), .flat .bool]
abbrev lfOpU : List DLeaf := [.flat (.int .i64), .flat (.int .i64), .flat (.int .i64), .lst lfLkU 134217727]
theorem locksU_of {w : World} (rows : List (List Value)) (h : ∀ r ∈ rows, FitsD w lfLkU r) : ∃ l : List Lk, rows = l.map lr ∧ ∀ y ∈ l, InK y.k := by
  induction rows with
  | nil => exact ⟨[], rfl, by simp⟩
  | cons r rows ih =>
    obtain ⟨l, rfl, hl⟩ := ih (fun r hr => h r (by simp [hr]))
    obtain ⟨a, _, rfl, w1, h1⟩ := (h r (by simp)).int
    obtain ⟨b, _, rfl, w2, h2⟩ := h1.int
    obtain ⟨x, _, rfl, h3⟩ := h2.bool
    obtain rfl := h3.nil
    refine ⟨⟨⟨a, b⟩, x⟩ :: l, rfl, fun y hy => ?_⟩
    rcases List.mem_cons.1 hy with rfl | hy
    · simp [Lit.wf, IntKind.min, IntKind.max, IntKind.signed, IntKind.bits] at w1 w2
      unfold InK
      simp only
      omega
    · exact hl y hy
theorem opU_of {w : World} {vs : List Value} (h : FitsD w lfOpU vs) : ∃ x : OP, vs = opr x ∧ RowsAt w x.o 3 (x.l.map lr) ∧ OpOk x := by
  obtain ⟨d, _, rfl, _, h1⟩ := h.int
  obtain ⟨a, _, rfl, w1, h2⟩ := h1.int
  obtain ⟨b, _, rfl, w2, h3⟩ := h2.int
  obtain ⟨o, len, cap, rows, _, rfl, hl, hc, hb, ha, hr, h4⟩ := h3.lst
  obtain rfl := h4.nil
  obtain ⟨l, rfl, hk⟩ := locksU_of rows hr
  rw [List.length_map] at hl
  subst hl
  refine ⟨⟨d, ⟨a, b⟩, o, cap, l⟩, rfl, ha, ?_, hk, ?_⟩
  · simp [Lit.wf, IntKind.min, IntKind.max, IntKind.signed, IntKind.bits] at w1 w2
    unfold InI
    simp only
    omega
  · simp only [reachBytes] at hb
    simp only
    omega
theorem opsU_of {w : World} (rows : List (List Value)) (h : ∀ r ∈ rows, FitsD w lfOpU r) : ∃ X : List OP, rows = X.map opr ∧ (∀ x ∈ X, RowsAt w x.o 3 (x.l.map lr)) ∧ ∀ x ∈ X, OpOk x := by
  induction rows with
  | nil => exact ⟨[], rfl, by simp, by simp⟩
  | cons r rows ih =>
    obtain ⟨X, rfl, h1, h2⟩ := ih (fun r hr => h r (by simp [hr]))
    obtain ⟨x, rfl, h3, h4⟩ := opU_of (h r (by simp))
    refine ⟨x :: X, rfl, fun y hy => ?_, fun y hy => ?_⟩
    · rcases List.mem_cons.1 hy with rfl | hy
      · exact h3
      · exact h1 y hy
    · rcases List.mem_cons.1 hy with rfl | hy
      · exact h4
      · exact h2 y hy
end Go.Proofs.Ytdepohepogocgaa
