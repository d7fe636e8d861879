/- The document's has and waits, walked. -/
import Derived.Test.YtdepohepogocgaaRef
set_option linter.unusedVariables false
set_option linter.unusedSimpArgs false
set_option maxRecDepth 100000
set_option maxHeartbeats 4000000
namespace Go.Proofs.Ytdepohepogocgaa
open Go hiding Expr
open Go.RowKit Tr

def clash (mine : Bool) (k : K) (r : AW) : Bool := (lockOf r.w k).isSome && ((lockV r.w k).x || mine)
def hasR (X : List AW) (at_ : Nat) (x : AW) (k : K) : Bool := !(X.take at_).any (clash (lockV x.w k).x k)
section
variable {w : World} {p : Nat} {X : List AW}
theorem has_c (h : RV w p X) (hmax : X.length ≤ 1099511627776) (hmw : ∀ x ∈ X, x.w.length ≤ 5864062014805) {at_ : Nat} {xa : AW} (hxa : X[at_]? = some xa) (k : K) :
    Calls Try.prog 72 #[.pointer (some ⟨p, 0, none⟩), .int .i64 at_, .agg ⟨kr k⟩] w fun e w' => e = .returned (.bool (hasR X at_ xa k)) ∧ Fr [] w w' := by
  obtain ⟨o, cap, h1, h2, h3⟩ := h
  have hat := (List.getElem?_eq_some_iff.1 hxa).1
  have hmine : ∀ b, b = (lockV xa.w k).x → hasR X at_ xa k = !(X.take at_).any (clash b k) := fun b e => by rw [e]; rfl
  apply c72
  refine h_new (Has.init w) fun n5 u H => h_drew H fun u H => s_ldS (H.base.cells h1 (by simp)) rfl ?_
  obtain ⟨g, off, he, _, hc⟩ := h2.at (j := at_) (r := ar xa) (by rw [List.getElem?_map, hxa]; rfl)
  refine s_req ⟨by omega, by omega⟩ ⟨g, off, he, s_loadI (H.cell0 (hc 0 _ rfl)) (s_loadI (H.cell0 (hc 1 _ rfl)) (s_loadS (H.cell0 (hc 2 _ rfl)) (h_ldI H (by repeat (first | exact pick_head | apply pick_tail | apply pick_app)) rfl (h_ldI H (by repeat (first | exact pick_head | apply pick_tail | apply pick_app)) rfl (s_both ?_ ?_)))))⟩
  all_goals
    first
      | (refine s_call (lock_c (x := xa) (k := k) (RowsAt.fr (h3 xa (List.mem_of_getElem? hxa)) H.base) (hmw xa (List.mem_of_getElem? hxa))) ?_
         rintro _ u ⟨rfl, f⟩
         have H := H.fr0 f
         refine ⟨_, rfl, s_asU (s_req rfl (s_asA (s_req rfl (s_asI (s_asI (s_asB (s_asB (s_chk ⟨(H.base.cells h1 (by simp)).cell rfl, trivial⟩ ?_))))))))⟩
         refine h_new H fun nm u H => s_chk ⟨(H.base.cells h1 (by simp)).cell rfl, trivial⟩ ?_)
      | (refine h_new H fun nm u H => s_chk ⟨(H.cells (by repeat (first | exact pick_head | apply pick_tail | apply pick_app))).cell rfl, (H.cells (by repeat (first | exact pick_head | apply pick_tail | apply pick_app))).cell rfl, H.cell0 (hc 0 _ rfl), H.cell0 (hc 1 _ rfl), H.cell0 (hc 2 _ rfl), (H.base.cells h1 (by simp)).cell rfl, trivial⟩ ?_
         refine s_call (lock_c (x := xa) (k := k) (RowsAt.fr (h3 xa (List.mem_of_getElem? hxa)) H.base) (hmw xa (List.mem_of_getElem? hxa))) ?_
         rintro _ u ⟨rfl, f⟩
         have H := H.fr0 f
         refine ⟨_, rfl, s_asU (s_req rfl (s_asA (s_req rfl (s_asI (s_asI (s_asB (s_asB (s_chk ⟨(H.base.cells h1 (by simp)).cell rfl, trivial⟩ ?_))))))))⟩)
    iterate 3 refine h_st H (by repeat (first | exact pick_head | apply pick_tail | apply pick_app)) (by first | (simp; done) | exact Nat.le_of_ble_eq_true rfl) rfl fun u H => ?_
    refine s_chk c_nil ?_
    refine s_loop (fun vs W => ∃ (i : Nat) (m : Hp), vs = [.int .i64 i] ∧ i ≤ at_ ∧ (X.take i).any (clash (lockV xa.w k).x k) = false ∧ Has w W (cl nm 63 (lr (lockV xa.w k)) :: cl n5 39 (kr k) :: m)) (fun vs _ => at_ - (intOf (vs.getD 0 undef)).toNat)
      ⟨0, [], rfl, by omega, by simp, H⟩ ?_
    clear H
    rintro _ j W ⟨i, mm, rfl, hil, hno, H⟩
    refine s_asI (s_ite (fun g1 => ?_) (fun g1 => ?_))
    · simp only [decide_eq_true_eq] at g1
      have hlt : i < X.length := by omega
      obtain ⟨x, hx⟩ : ∃ x, X[i]? = some x := ⟨_, List.getElem?_eq_getElem hlt⟩
      have hst : (X.take (i + 1)).any (clash (lockV xa.w k).x k) = clash (lockV xa.w k).x k x := by
        rw [List.take_add_one, hx, Option.toList_some, List.any_append, hno]
        simp
      have hret : clash (lockV xa.w k).x k x = true → hasR X at_ xa k = false := fun g => by
        have : (X.take at_).any (clash (lockV xa.w k).x k) = true := by
          rw [List.any_eq_true]
          refine ⟨x, ?_, g⟩
          rw [List.mem_take_iff_getElem]
          obtain ⟨hl, rfl⟩ := List.getElem?_eq_some_iff.1 hx
          exact ⟨i, by omega, rfl⟩
        unfold hasR
        rw [this]
        rfl
      refine h_drew H fun u H => s_ldS (H.base.cells h1 (by simp)) rfl ?_
      obtain ⟨g, off, he, _, hc⟩ := h2.at (j := i) (r := ar x) (by rw [List.getElem?_map, hx]; rfl)
      refine s_req ⟨by omega, by omega⟩ ⟨g, off, he, s_loadI (H.cell0 (hc 0 _ rfl)) (s_loadI (H.cell0 (hc 1 _ rfl)) (s_loadS (H.cell0 (hc 2 _ rfl)) (h_ldI H (by repeat (first | exact pick_head | apply pick_tail | apply pick_app)) rfl (h_ldI H (by repeat (first | exact pick_head | apply pick_tail | apply pick_app)) rfl (s_both ?_ ?_)))))⟩
      all_goals
        first
          | (refine s_call (lock_c (x := x) (k := k) (RowsAt.fr (h3 x (List.mem_of_getElem? hx)) H.base) (hmw x (List.mem_of_getElem? hx))) ?_
             rintro _ u ⟨rfl, f⟩
             have H := H.fr0 f
             refine ⟨_, rfl, s_asU (s_req rfl (s_asA (s_req rfl (s_asI (s_asI (s_asB (s_asB (s_chk ⟨(H.base.cells h1 (by simp)).cell rfl, trivial⟩ ?_))))))))⟩
             refine h_new H fun nx u H => s_chk ⟨(H.base.cells h1 (by simp)).cell rfl, trivial⟩ ?_)
          | (refine h_new H fun nx u H => s_chk ⟨(H.cells (by repeat (first | exact pick_head | apply pick_tail | apply pick_app))).cell rfl, (H.cells (by repeat (first | exact pick_head | apply pick_tail | apply pick_app))).cell rfl, H.cell0 (hc 0 _ rfl), H.cell0 (hc 1 _ rfl), H.cell0 (hc 2 _ rfl), (H.base.cells h1 (by simp)).cell rfl, trivial⟩ ?_
             refine s_call (lock_c (x := x) (k := k) (RowsAt.fr (h3 x (List.mem_of_getElem? hx)) H.base) (hmw x (List.mem_of_getElem? hx))) ?_
             rintro _ u ⟨rfl, f⟩
             have H := H.fr0 f
             refine ⟨_, rfl, s_asU (s_req rfl (s_asA (s_req rfl (s_asI (s_asI (s_asB (s_asB (s_chk ⟨(H.base.cells h1 (by simp)).cell rfl, trivial⟩ ?_))))))))⟩)
        iterate 3 refine h_st H (by repeat (first | exact pick_head | apply pick_tail | apply pick_app)) (by first | (simp; done) | exact Nat.le_of_ble_eq_true rfl) rfl fun u H => ?_
        refine s_chk c_nil ?_
        refine s_ite (fun g2 => h_ldB H (by repeat (first | exact pick_head | apply pick_tail | apply pick_app)) rfl (s_ite (fun g3 => s_ret ⟨?_, H.base⟩) (fun g3 => h_ldB H (by repeat (first | exact pick_head | apply pick_tail | apply pick_app)) rfl (s_ite (fun g4 => s_ret ⟨?_, H.base⟩) (fun g4 => s_next (by first | exact ⟨rfl, rfl⟩ | trivial) ?_))))) (fun g2 => s_next (by first | exact ⟨rfl, rfl⟩ | trivial) ?_)
        · rw [hret (by unfold clash; rw [g2, g3]; rfl)]
        · rw [hret (by unfold clash; rw [g2, g3, g4]; rfl)]
        all_goals simp (config := { decide := true }) only [if_true, if_false]
        · exact ⟨⟨i + 1, _, by rw [w_succ (by omega)], by omega, by rw [hst]; unfold clash; rw [g2, g3, g4]; rfl, H.sub (by repeat (first | exact sb_refl | exact sb_nil | refine sb_cons (by repeat (first | exact pick_head | apply pick_tail | apply pick_app)) ?_ | refine sb_app (by repeat (first | exact cut_head | exact cut_all | apply cut_tail | apply cut_app)) ?_ | exact sb_one (by repeat (first | exact cut_head | exact cut_all | apply cut_tail | apply cut_app))))⟩, by rw [w_succ (by omega)]; simp [intOf] <;> omega⟩
        · exact ⟨⟨i + 1, _, by rw [w_succ (by omega)], by omega, by rw [hst]; unfold clash; rw [g2]; rfl, H.sub (by repeat (first | exact sb_refl | exact sb_nil | refine sb_cons (by repeat (first | exact pick_head | apply pick_tail | apply pick_app)) ?_ | refine sb_app (by repeat (first | exact cut_head | exact cut_all | apply cut_tail | apply cut_app)) ?_ | exact sb_one (by repeat (first | exact cut_head | exact cut_all | apply cut_tail | apply cut_app))))⟩, by rw [w_succ (by omega)]; simp [intOf] <;> omega⟩
    · simp only [decide_eq_false_iff_not] at g1
      obtain rfl : i = at_ := by omega
      exact s_ret ⟨by unfold hasR; rw [hno]; rfl, H.base⟩
end
end Go.Proofs.Ytdepohepogocgaa
