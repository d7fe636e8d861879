/- step, walked: an operation with both. -/
import Derived.Test.YtdepohepogocgaaEqW
set_option linter.unusedVariables false
set_option linter.unusedSimpArgs false
set_option maxRecDepth 100000
set_option maxHeartbeats 4000000
namespace Go.Proofs.Ytdepohepogocgaa
open Go hiding Expr
open Go.RowKit Tr

def Lim (n : Nat) (A : St) : Prop := A.length ≤ n ∧ (∀ r ∈ A, r.2.length ≤ 1048576) ∧ total A ≤ n * 1048576
theorem Lim.sz {n : Nat} {A : St} (h : Lim n A) (hn : n ≤ 1099511627776) : Sz A := ⟨Nat.le_trans h.1 hn, fun r hr => Nat.le_trans (h.2.1 r hr) (by decide)⟩
theorem Lim.mono {n n' : Nat} {A : St} (h : Lim n A) (hn : n ≤ n') : Lim n' A := ⟨Nat.le_trans h.1 hn, h.2.1, Nat.le_trans h.2.2 (Nat.mul_le_mul_right _ hn)⟩
theorem Lim.req {n : Nat} {A : St} {t : Ix} {l : List Lk} (h : Lim n A) (hl : l.length ≤ 1048576) : Lim (n + 1) (reqS A t l) := by
  unfold reqS
  split
  · refine ⟨by rw [List.length_append]; have := h.1; simp; omega, fun r hr => ?_, ?_⟩
    · rcases List.mem_append.1 hr with hr | hr
      · exact h.2.1 r hr
      · rw [List.mem_singleton] at hr; subst hr; exact hl
    · rw [total_append, Nat.succ_mul]
      have := h.2.2
      have e : total [(t, l)] = l.length := by simp [total]
      omega
  · exact h.mono (by omega)
theorem Lim.rel {n : Nat} {A : St} {t : Ix} (h : Lim n A) : Lim n (relA A t) :=
  ⟨Nat.le_trans rel_len h.1, fun r hr => h.2.1 r (List.mem_filter.1 hr).1, Nat.le_trans rel_total h.2.2⟩
theorem Lim.nil : Lim 0 [] := ⟨by simp, by simp, by simp [total]⟩
theorem relL_len (A : St) (t : Ix) : (relL A t).length ≤ A.length := by
  unfold relL
  split
  · unfold relOut
    exact Nat.le_trans (List.length_filter_le ..) (Nat.le_trans (allA_len _) rel_len)
  · simp
structure OP where
  d : Int
  t : Ix
  o : Option Addr
  cap : Nat
  l : List Lk
def opr (x : OP) : List Value := [.int .i64 x.d, .int .i64 x.t.s, .int .i64 x.t.p, .slice x.o x.l.length x.cap]
def OpOk (x : OP) : Prop := InI x.t ∧ (∀ y ∈ x.l, InK y.k) ∧ x.l.length ≤ 1048576
theorem cut_snd {a b m : Hp} : Cut b (a ++ (b ++ m)) (a ++ m) := cut_app cut_head
section
variable {w0 w : World} {m c cr : Hp} {p p2 : Nat} {A : St} {X : List AW} {n : Nat}
theorem step_c {x : OP} (H : Has w0 w (c ++ (cr ++ m))) (hL : LkAt p A c) (hR : RefAt p2 X cr) (hAX : X.map AW.row = A) (hl : Lim n A) (hn : n < 1099511627776) (hx : OpOk x)
    (hW : RowsAt w0 x.o 3 (x.l.map lr)) :
    Calls Try.prog 28 #[.pointer (some ⟨p, 0, none⟩), .pointer (some ⟨p2, 0, none⟩), .agg ⟨opr x⟩] w fun e w' => ∃ p' A' X' c' cr' m', e = .returned (.tuple #[.pointer (some ⟨p', 0, none⟩), .bool true]) ∧
      LkAt p' A' c' ∧ RefAt p2 X' cr' ∧ X'.map AW.row = A' ∧ Lim (n + 1) A' ∧ Has w0 w' (c' ++ (cr' ++ (m ++ m'))) := by
  have hg : Good A := by obtain ⟨_, _, _, _, _, _, _, _, _, _, _, _, hg, hi⟩ := hL; exact hg
  have hgX : Good (X.map AW.row) := by rw [hAX]; exact hg
  have hXA : X.length = A.length := by rw [← hAX, List.length_map]
  have hl1 := hl.1
  have hX : X.length ≤ 1099511627776 := by omega
  have hmw : ∀ x ∈ X, x.w.length ≤ 5864062014805 := fun x hx => Nat.le_trans (hl.2.1 x.row (by rw [← hAX]; exact List.mem_map.2 ⟨x, hx, rfl⟩)) (by decide)
  have hxl := hx.2.2
  have hz := hl.sz (by omega)
  apply c28
  refine h_new H fun n10 u H => h_ldI H (by repeat (first | exact pick_head | apply pick_tail | apply pick_app)) rfl (s_ite (fun g1 => ?_) (fun g1 => s_ite (fun g2 => ?_) (fun g2 => ?_)))
  · refine h_drew H fun u H => h_ldI H (by repeat (first | exact pick_head | apply pick_tail | apply pick_app)) rfl (h_ldI H (by repeat (first | exact pick_head | apply pick_tail | apply pick_app)) rfl (h_ldS H (by repeat (first | exact pick_head | apply pick_tail | apply pick_app)) rfl (h_ldI H (by repeat (first | exact pick_head | apply pick_tail | apply pick_app)) rfl (h_ldI H (by repeat (first | exact pick_head | apply pick_tail | apply pick_app)) rfl (h_ldS H (by repeat (first | exact pick_head | apply pick_tail | apply pick_app)) rfl ?_)))))
    refine s_call (req_c (t := x.t) (l := x.l) H (cut_tail cut_head) hL ⟨by omega, by omega⟩ hx.1 rfl hx.2.1 (fun u2 H2 => H2.rows hW)) ?_
    rintro _ u ⟨rfl, c', hL', H⟩
    refine ⟨_, rfl, s_asI (s_chk (by repeat (first | exact c_nil | refine hc_cons H (by repeat (first | exact pick_head | apply pick_tail | apply pick_app)) rfl ?_)) ?_)⟩
    refine s_call (rreq_c (t := x.t) (l := x.l) H (c := cr) (by repeat (first | exact cut_head | exact cut_all | apply cut_tail | apply cut_app)) hR ⟨by omega, by omega⟩ rfl (fun u2 H2 => H2.rows hW)) ?_
    rintro _ u ⟨rfl, X', cr', hX', hR', H⟩
    rw [hAX] at hX' ⊢
    refine ⟨_, rfl, s_asI (s_chk c_nil (s_ret ⟨p, reqS A x.t x.l, X', c', cr', _, by simp, hL', hR', hX', hl.req hxl, H.sub (m2 := c' ++ (cr' ++ (m ++ []))) (by repeat (first | exact sb_refl | exact sb_nil | refine sb_cons (by repeat (first | exact pick_head | apply pick_tail | apply pick_app)) ?_ | refine sb_app (by repeat (first | exact cut_head | exact cut_all | apply cut_tail | apply cut_app)) ?_ | exact sb_one (by repeat (first | exact cut_head | exact cut_all | apply cut_tail | apply cut_app))))⟩))⟩
  · refine h_ldI H (by repeat (first | exact pick_head | apply pick_tail | apply pick_app)) rfl (h_ldI H (by repeat (first | exact pick_head | apply pick_tail | apply pick_app)) rfl ?_)
    refine s_call (rel_c (t := x.t) H (cut_tail cut_head) hL hz hx.1) ?_
    rintro _ u ⟨o1, cap1, c1, c', rfl, ho1, hL', H⟩
    refine ⟨_, rfl, s_asU (s_req rfl (s_asS (s_asI (h_ldI H (by repeat (first | exact pick_head | apply pick_tail | apply pick_app)) rfl (h_ldI H (by repeat (first | exact pick_head | apply pick_tail | apply pick_app)) rfl ?_)))))⟩
    refine s_call (rrel_c (t := x.t) H (c := cr) (by repeat (first | exact cut_head | exact cut_all | apply cut_tail | apply cut_app)) hR hgX hX hmw) ?_
    rintro _ u ⟨o2, cap2, c2, cr', X', rfl, ho2, hX', hR', H⟩
    rw [hAX] at hX' ho2 ⊢
    have hll := relL_len A x.t
    refine ⟨_, rfl, s_asU (s_req rfl (s_asS (s_asI (s_call (eqI_c (rowsAt_own (ir2 _) (by decide) ho1 H (by repeat (first | exact cut_head | exact cut_all | apply cut_tail | apply cut_app))) (rowsAt_own (ir2 _) (by decide) ho2 H (by repeat (first | exact cut_head | exact cut_all | apply cut_tail | apply cut_app))) rfl rfl (by omega)) ?_))))⟩
    rintro _ u ⟨rfl, f⟩
    have H := H.fr0 f
    exact ⟨_, rfl, s_asB (s_true (by simp) (s_ret ⟨p, relA A x.t, X', c', cr', [], by simp, hL', hR', hX', hl.rel.mono (by omega), H.sub (by repeat (first | exact sb_refl | exact sb_nil | refine sb_cons (by repeat (first | exact pick_head | apply pick_tail | apply pick_app)) ?_ | refine sb_app (by repeat (first | exact cut_head | exact cut_all | apply cut_tail | apply cut_app)) ?_ | exact sb_one (by repeat (first | exact cut_head | exact cut_all | apply cut_tail | apply cut_app))))⟩))⟩
  · refine s_call (clone16_c (LkW.of H (cut_tail cut_head) hL) hz) ?_
    rintro _ u ⟨r3, c3, rfl, hL3, H3⟩
    have H := H.join H3
    refine ⟨_, rfl, s_asP (s_false (by simp) (h_ldS H (by repeat (first | exact pick_head | apply pick_tail | apply pick_app)) rfl ?_))⟩
    refine s_call (req_c (t := ⟨-7, 0⟩) (l := x.l) H (c := c) (by repeat (first | exact cut_head | exact cut_all | apply cut_tail | apply cut_app)) hL ⟨by omega, by omega⟩ (by unfold InI; simp only; omega) rfl hx.2.1 (fun u2 H2 => H2.rows hW)) ?_
    rintro _ u ⟨rfl, c', hL', H⟩
    refine ⟨_, rfl, s_asI (h_ldI H (by repeat (first | exact pick_head | apply pick_tail | apply pick_app)) rfl (h_ldI H (by repeat (first | exact pick_head | apply pick_tail | apply pick_app)) rfl ?_))⟩
    refine s_call (rel_c (t := x.t) H (c := c') (by repeat (first | exact cut_head | exact cut_all | apply cut_tail | apply cut_app)) hL' ((hl.req hxl).sz (by omega)) hx.1) ?_
    rintro _ u ⟨o1, cap1, c1, c'', rfl, ho1, hL'', H⟩
    exact ⟨_, rfl, s_asU (s_req rfl (s_asS (s_asI (s_ret ⟨r3, A, X, c3, cr, [], rfl, hL3, hR, hAX, hl.mono (by omega), H.sub (by repeat (first | exact sb_refl | exact sb_nil | refine sb_cons (by repeat (first | exact pick_head | apply pick_tail | apply pick_app)) ?_ | refine sb_app (by repeat (first | exact cut_head | exact cut_all | apply cut_tail | apply cut_app)) ?_ | exact sb_one (by repeat (first | exact cut_head | exact cut_all | apply cut_tail | apply cut_app))))⟩))))⟩
end
end Go.Proofs.Ytdepohepogocgaa
