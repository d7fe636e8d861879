/- The document's queues in memory, and what they are asked. -/
import Derived.Test.YtdepohepogocgaaLkA
set_option linter.unusedVariables false
set_option linter.unusedSimpArgs false
set_option maxRecDepth 100000
set_option maxHeartbeats 2000000
namespace Go.Proofs.Ytdepohepogocgaa
open Go hiding Expr
open Go.RowKit Tr

/-- One who has asked, with the place of the locks. -/
structure AW where
  t : Ix
  o : Option Addr
  cap : Nat
  w : List Lk
def AW.row (x : AW) : Row := (x.t, x.w)
def ar (x : AW) : List Value := [.int .i64 x.t.s, .int .i64 x.t.p, .slice x.o x.w.length x.cap]
theorem ar3 (l : List AW) : ∀ r ∈ l.map ar, r.length = 3 := by
  intro r hr; obtain ⟨x, _, rfl⟩ := List.mem_map.1 hr; rfl
theorem ar_one (l : List AW) : ∀ r ∈ l.map ar, ∀ u ∈ r, u.oneCell' = true := by
  intro r hr u hu; obtain ⟨x, _, rfl⟩ := List.mem_map.1 hr; simp [ar] at hu; rcases hu with rfl | rfl | rfl <;> rfl

/-- What is read of the document's queues in a world. -/
def RV (w : World) (p : Nat) (X : List AW) : Prop := ∃ o cap, Cells w p 98 [.slice o X.length cap] ∧ RowsAt w o 3 (X.map ar) ∧ ∀ x ∈ X, RowsAt w x.o 3 (x.w.map lr)
theorem RV.fr0 {w w' : World} {p : Nat} {X : List AW} (h : RV w p X) (f : Fr [] w w') : RV w' p X := by
  obtain ⟨o, cap, h1, h2, h3⟩ := h
  exact ⟨o, cap, f.cells h1 (by simp), RowsAt.fr h2 f, fun x hx => RowsAt.fr (h3 x hx) f⟩

def lockV (l : List Lk) (k : K) : Lk := match lockOf l k with | some x => ⟨k, x⟩ | none => ⟨⟨0, 0⟩, false⟩
theorem lockOf_cons {y : Lk} {l : List Lk} {k : K} : lockOf (y :: l) k = if y.k = k then some y.x else lockOf l k := by
  unfold lockOf
  rw [List.find?_cons]
  by_cases h : y.k = k <;> simp [h]
theorem eqKb (a b : K) : (a.t == b.t && (a.r == b.r && true)) = decide (a = b) := by
  rw [Bool.eq_iff_iff]
  simp
  exact ⟨fun h => K.ext' h.1 h.2, fun h => by subst h; exact ⟨rfl, rfl⟩⟩
section
variable {w : World} {p : Nat} {X : List AW}
theorem find_c (h : RV w p X) (hmax : X.length ≤ 1099511627776) (t : Ix) : Calls Try.prog 52 #[.pointer (some ⟨p, 0, none⟩), .agg ⟨ir t⟩] w fun e w' => ∃ z : Int, e = .returned (.int .i64 z) ∧ Fr [] w w' ∧
    ((z = -1 ∧ ∀ x ∈ X, x.t ≠ t) ∨ ∃ i : Nat, i < X.length ∧ z = i ∧ (∀ x ∈ X.take i, x.t ≠ t) ∧ ∀ x, X[i]? = some x → x.t = t) := by
  obtain ⟨o, cap, h1, h2, h3⟩ := h
  apply c52
  refine h_new (Has.init w) fun n4 u H => ?_
  refine s_loop (fun vs W => ∃ i : Nat, vs = [.int .i64 i] ∧ i ≤ X.length ∧ (∀ x ∈ X.take i, x.t ≠ t) ∧ Has w W [cl n4 27 (ir t)]) (fun vs _ => X.length - (intOf (vs.getD 0 undef)).toNat)
    ⟨0, rfl, by omega, by simp, H⟩ ?_
  clear H
  rintro _ j W ⟨i, rfl, hil, hno, H⟩
  refine s_asI (s_ldS (H.base.cells h1 (by simp)) rfl (s_ite (fun g1 => ?_) (fun g1 => ?_)))
  · simp only [decide_eq_true_eq] at g1
    obtain ⟨x, hx⟩ : ∃ x, X[i]? = some x := ⟨_, List.getElem?_eq_getElem (by omega)⟩
    refine h_drew H fun u H => s_ldS (H.base.cells h1 (by simp)) rfl ?_
    obtain ⟨g, off, he, _, hc⟩ := (RowsAt.fr h2 H.base).at (j := i) (r := ar x) (by rw [List.getElem?_map, hx]; rfl)
    refine s_req ⟨by omega, g1⟩ ⟨g, off, he, s_loadI (hc 0 _ rfl) (s_loadI (hc 1 _ rfl) (h_ldI H (by repeat (first | exact pick_head | apply pick_tail | apply pick_app)) rfl (h_ldI H (by repeat (first | exact pick_head | apply pick_tail | apply pick_app)) rfl (s_ite (fun g2 => s_ret ⟨i, rfl, H.base, .inr ⟨i, by omega, rfl, hno, fun y hy => ?_⟩⟩) (fun g2 => s_next (by first | exact ⟨rfl, rfl⟩ | trivial) ?_)))))⟩
    · rw [hx] at hy
      cases hy
      exact Ix.ext' (by simp at g2; exact g2.1) (by simp at g2; exact g2.2)
    · have g2 : ¬ x.t = t := fun h => by subst h; simp at g2
      simp (config := { decide := true }) only [if_true, if_false]
      refine ⟨⟨i + 1, by rw [w_succ (by omega)], by omega, fun y hy => ?_, H⟩, by rw [w_succ (by omega)]; simp [intOf] <;> omega⟩
      rw [List.take_add_one, hx, Option.toList_some] at hy
      rcases List.mem_append.1 hy with hy | hy
      · exact hno y hy
      · simp only [List.mem_singleton] at hy
        subst hy
        exact g2
  · simp only [decide_eq_false_iff_not] at g1
    rw [List.take_of_length_le (by omega)] at hno
    exact s_ret ⟨-1, rfl, H.base, .inl ⟨rfl, hno⟩⟩

theorem lock_c {x : AW} {k : K} (hl : RowsAt w x.o 3 (x.w.map lr)) (hmax : x.w.length ≤ 5864062014805) : Calls Try.prog 71 #[.agg ⟨ar x⟩, .agg ⟨kr k⟩] w fun e w' =>
    e = .returned (.tuple #[.agg ⟨lr (lockV x.w k)⟩, .bool (lockOf x.w k).isSome]) ∧ Fr [] w w' := by
  apply c71
  refine h_new (Has.init w) fun n7 u H => ?_
  (refine h_new H fun n8 u H => ?_)
  (refine h_new H fun n9 u H => ?_)
  refine s_loop (fun vs W => ∃ i : Nat, vs = [.int .i64 i] ∧ i ≤ x.w.length ∧ lockOf x.w k = lockOf (x.w.drop i) k ∧ Has w W (cl n9 63 [.int .i32 0, .int .i64 0, .bool false] :: cl n8 39 (kr k) :: cl n7 101 (ar x) :: [])) (fun vs _ => x.w.length - (intOf (vs.getD 0 undef)).toNat)
    ⟨0, rfl, by omega, rfl, H⟩ ?_
  clear H
  rintro _ j W ⟨i, rfl, hil, hgo, H⟩
  refine s_asI (h_ldS H (by repeat (first | exact pick_head | apply pick_tail | apply pick_app)) rfl (s_ite (fun g1 => ?_) (fun g1 => ?_)))
  · simp only [decide_eq_true_eq] at g1
    obtain ⟨y, hy⟩ : ∃ y, x.w[i]? = some y := ⟨_, List.getElem?_eq_getElem (by omega)⟩
    have hd : x.w.drop i = y :: x.w.drop (i + 1) := by
      obtain ⟨h1, rfl⟩ := List.getElem?_eq_some_iff.1 hy
      exact List.drop_eq_getElem_cons h1
    rw [hd, lockOf_cons] at hgo
    refine h_drew H fun u H => h_ldS H (by repeat (first | exact pick_head | apply pick_tail | apply pick_app)) rfl ?_
    obtain ⟨g, off, he, _, hc⟩ := (RowsAt.fr hl H.base).at (j := i) (r := lr y) (by rw [List.getElem?_map, hy]; rfl)
    refine s_req ⟨by omega, g1⟩ ⟨g, off, he, s_loadI (hc 0 _ rfl) (s_loadI (hc 1 _ rfl) (h_ldI H (by repeat (first | exact pick_head | apply pick_tail | apply pick_app)) rfl (h_ldI H (by repeat (first | exact pick_head | apply pick_tail | apply pick_app)) rfl (s_ite (fun g2 => ?_) (fun g2 => s_next (by first | exact ⟨rfl, rfl⟩ | trivial) ?_)))))⟩
    · have g2 : y.k = k := K.ext' (by simp at g2; exact g2.1) (by simp at g2; exact g2.2)
      rw [if_pos g2] at hgo
      refine h_ldS H (by repeat (first | exact pick_head | apply pick_tail | apply pick_app)) rfl (s_req ⟨by omega, g1⟩ ⟨g, off, he, s_loadI (hc 0 _ rfl) (s_loadI (hc 1 _ rfl) (s_loadB (hc 2 _ rfl) ?_))⟩)
      iterate 3 refine h_st H (by repeat (first | exact pick_head | apply pick_tail | apply pick_app)) (by first | (simp; done) | exact Nat.le_of_ble_eq_true rfl) rfl fun u H => ?_
      refine h_ldI H (by repeat (first | exact pick_head | apply pick_tail | apply pick_app)) rfl (h_ldI H (by repeat (first | exact pick_head | apply pick_tail | apply pick_app)) rfl (h_ldB H (by repeat (first | exact pick_head | apply pick_tail | apply pick_app)) rfl (s_ret ⟨?_, H.base⟩)))
      unfold lockV
      rw [hgo, ← g2]
      rfl
    · have g2 : ¬ y.k = k := fun h => by subst h; simp at g2
      rw [if_neg g2] at hgo
      simp (config := { decide := true }) only [if_true, if_false]
      exact ⟨⟨i + 1, by rw [w_succ (by omega)], by omega, hgo, H⟩, by rw [w_succ (by omega)]; simp [intOf] <;> omega⟩
  · simp only [decide_eq_false_iff_not] at g1
    rw [List.drop_of_length_le (by omega)] at hgo
    iterate 3 refine h_st H (by repeat (first | exact pick_head | apply pick_tail | apply pick_app)) (by first | (simp; done) | exact Nat.le_of_ble_eq_true rfl) rfl fun u H => ?_
    refine h_ldI H (by repeat (first | exact pick_head | apply pick_tail | apply pick_app)) rfl (h_ldI H (by repeat (first | exact pick_head | apply pick_tail | apply pick_app)) rfl (h_ldB H (by repeat (first | exact pick_head | apply pick_tail | apply pick_app)) rfl (s_ret ⟨?_, H.base⟩)))
    unfold lockV
    rw [hgo]
    rfl
end
end Go.Proofs.Ytdepohepogocgaa
