/- Release and Clone: what they make of the queues in memory. -/
import Derived.Test.YtdepohepogocgaaLkC
import Derived.Test.YtdepohepogocgaaLkA
set_option linter.unusedVariables false
set_option linter.unusedSimpArgs false
set_option maxRecDepth 100000
set_option maxHeartbeats 4000000
namespace Go.Proofs.Ytdepohepogocgaa
open Go hiding Expr
open Go.RowKit Tr

def ne (t : Ix) (p : Ix × Bool) : Bool := !decide (p.1 = t)
/-- The queues when the first i locks have been left. -/
def relF (A : St) (t : Ix) (l : List Lk) (i : Nat) (k : K) : Option Qu := optQ (if k ∈ (l.take i).map (·.k) then (queueOf A k).filter (fun x => !decide (x.1 = t)) else queueOf A k)
theorem relF_zero {A : St} {t : Ix} {l : List Lk} (k : K) : optQ (queueOf A k) = relF A t l 0 k := by simp [relF]
theorem srt_notin {l : List Lk} {i : Nat} {y : Lk} (hs : Srt l) (hy : l[i]? = some y) : y.k ∉ (l.take i).map (·.k) := by
  intro h
  obtain ⟨z, hz, he⟩ := List.mem_map.1 h
  obtain ⟨hlt, rfl⟩ := List.getElem?_eq_some_iff.1 hy
  obtain ⟨j, hj, rfl⟩ := List.getElem_of_mem hz
  rw [List.length_take] at hj
  rw [List.getElem_take] at he
  exact ltK_ne (List.pairwise_iff_getElem.1 hs j i (by omega) hlt (by omega)) he
theorem relF_at {A : St} {t : Ix} {l : List Lk} {i : Nat} {y : Lk} (hs : Srt l) (hy : l[i]? = some y) : relF A t l i y.k = optQ (queueOf A y.k) := by
  unfold relF
  rw [if_neg (srt_notin hs hy)]
theorem relF_step {A : St} {t : Ix} {l : List Lk} {i : Nat} {y : Lk} (hy : l[i]? = some y) (k : K) : upd (relF A t l i) y.k (optQ ((queueOf A y.k).filter (fun x => !decide (x.1 = t)))) k = relF A t l (i + 1) k := by
  unfold upd relF
  have e : (l.take (i + 1)).map (·.k) = (l.take i).map (·.k) ++ [y.k] := by rw [List.take_add_one, hy, Option.toList_some, List.map_append]; rfl
  rw [e]
  by_cases h : y.k = k
  · subst h
    simp
  · have h' : ¬ k = y.k := fun e => h e.symm
    rw [if_neg h]
    congr 1
    simp only [List.mem_append, List.mem_singleton, h', or_false]
theorem relF_end {A : St} {t : Ix} {l : List Lk} (hg : Good A) (hw : wantOf A t = some l) (k : K) : relF A t l l.length k = optQ (queueOf (relA A t) k) := by
  unfold relF
  rw [List.take_length]
  split
  · rw [queue_rel]
  · rename_i h
    rw [queue_keep]
    intro r hr he
    obtain ⟨t', l'⟩ := r
    simp only at he
    subst he
    have := want_of hg hr
    rw [hw] at this
    cases this
    rw [lockOf_none]
    intro y hy e
    exact h (List.mem_map.2 ⟨y, hy, e⟩)
theorem want_rel {A : St} {t : Ix} (x : Ix) : upd (wantOf A) t none x = wantOf (relA A t) x := by
  unfold upd wantOf relA
  induction A with
  | nil => split <;> rfl
  | cons r A ih =>
    by_cases h : r.1 = t
    · rw [List.filter_cons_of_neg (by simp [h]), ← ih]
      by_cases hx : t = x
      · simp [hx]
      · rw [if_neg hx, if_neg hx, List.find?_cons_of_neg]
        simp [h, hx]
    · rw [List.filter_cons_of_pos (by simp [h]), List.find?_cons, List.find?_cons]
      by_cases hx : r.1 = x
      · simp [hx]
        intro e
        exact h (hx.trans e.symm)
      · simp only [hx, decide_false]
        exact ih
theorem ids_rel {A : St} {t : Ix} : ids (relA A t) = (ids A).filter (fun x => !decide (x = t)) := by
  unfold ids relA
  rw [List.filter_map]
  rfl
theorem rel_len {A : St} {t : Ix} : (relA A t).length ≤ A.length := List.length_filter_le ..
theorem rel_total {A : St} {t : Ix} : total (relA A t) ≤ total A := by
  unfold total relA
  induction A with
  | nil => simp
  | cons r A ih =>
    rw [List.filter_cons]
    split
    · simp only [List.map_cons, List.sum_cons]
      omega
    · simp only [List.map_cons, List.sum_cons]
      omega
theorem rel_sz {A : St} {t : Ix} (h : Sz A) : Sz (relA A t) := by
  unfold Sz at *
  have h1 := rel_len (A := A) (t := t)
  exact ⟨by omega, fun r hr => h.2 r (List.mem_filter.1 hr).1⟩
theorem rel_in {A : St} {t : Ix} (h : InA A) : InA (relA A t) := fun r hr => h r (List.mem_filter.1 hr).1
def relL (A : St) (t : Ix) : List Ix := if (wantOf A t).isSome then relOut A t else []
def relE (A : St) (t : Ix) : Int := if (wantOf A t).isSome then 0 else 4

section
variable {w0 w : World} {m m' c : Hp} {p : Nat} {A : St}
theorem rel_c {t : Ix} (H : Has w0 w m) (hp : Cut c m m') (hL : LkAt p A c) (hz : Sz A) (ht : InI t) :
    Calls Try.prog 11 #[.pointer (some ⟨p, 0, none⟩), .agg ⟨ir t⟩] w fun e w' => ∃ o cap cv c', e = .returned (.tuple #[.slice o (relL A t).length cap, .int .i64 (relE A t)]) ∧
      OwnC 27 2 (.slice o (relL A t).length cap) (relL A t).length ((relL A t).map ir).flatten cv ∧ LkAt p (relA A t) c' ∧ Has w0 w' (cv ++ (c' ++ m')) := by
  have hLw := LkW.of H hp hL
  obtain ⟨bq, bw, oq, ow, so, cq, cw, co, rfl, hq, hw, ⟨ho1, ho2⟩, hg, hi⟩ := hL
  have H := H.pullc hp
  simp only [List.cons_append, List.append_assoc] at H
  apply c11
  refine h_new H fun n4 u H => ?_
  have mk : ∀ {u : World} {r : Hp}, Has w0 u (cl p 71 (lkC bq bw so) :: (bq, oq) :: (bw, ow) :: (cq ++ (cw ++ (co ++ r)))) → LkW u p A := fun {u r} H => LkW.of (w0 := w0) (w := u) (m := (cl p 71 (lkC bq bw so) :: (bq, oq) :: (bw, ow) :: (cq ++ (cw ++ co))) ++ r) (c := cl p 71 (lkC bq bw so) :: (bq, oq) :: (bw, ow) :: (cq ++ (cw ++ co))) (A := A) (p := p)
    (by simp only [List.cons_append, List.append_assoc]; exact H) cut_head ⟨bq, bw, oq, ow, so, cq, cw, co, rfl, hq, hw, ⟨ho1, ho2⟩, hg, hi⟩
  refine s_call (none_c (mk (H.sub (m2 := cl p 71 (lkC bq bw so) :: (bq, oq) :: (bw, ow) :: (cq ++ (cw ++ (co ++ m')))) (by repeat (first | exact sb_refl | exact sb_nil | refine sb_cons (by repeat (first | exact pick_head | apply pick_tail | apply pick_app)) ?_ | refine sb_app (by repeat (first | exact cut_head | exact cut_all | apply cut_tail | apply cut_app)) ?_ | exact sb_one (by repeat (first | exact cut_head | exact cut_all | apply cut_tail | apply cut_app))))))) ?_
  rintro _ _ ⟨rfl, rfl⟩
  refine ⟨_, rfl, s_asB (s_false rfl (h_drew H fun u H => ?_))⟩
  obtain ⟨lk, hlk⟩ := keyOfI ht
  refine h_ldM H (by repeat (first | exact pick_head | apply pick_tail | apply pick_app)) rfl (h_ldI H (by repeat (first | exact pick_head | apply pick_tail | apply pick_app)) rfl (h_ldI H (by repeat (first | exact pick_head | apply pick_tail | apply pick_app)) rfl ?_))
  cases hwt : wantOf A t with
  | none =>
    have hx := hw.openN hwt
    refine f_look2 H (bk := bw) (o := ow) (a := t) (kf := kfI) (by repeat (first | exact pick_head | apply pick_tail | apply pick_app)) hx keyedI map69 (zero28 u) (fun x => kfI_inj) hlk ?_
    have e1 : relL A t = [] := by unfold relL; rw [hwt]; rfl
    have e2 : relE A t = 4 := by unfold relE; rw [hwt]; rfl
    have e3 : relA A t = A := rel_none (want_none.1 hwt)
    rw [e1, e2, e3]
    refine s_asU (s_req rfl (s_asS (s_asB (s_chk c_nil (s_true rfl (s_ret ⟨none, 0, [], cl p 71 (lkC bq bw so) :: (bq, oq) :: (bw, ow) :: (cq ++ (cw ++ co)), rfl, OwnC.nil, ?_, ?_⟩))))))
    · exact ⟨bq, bw, oq, ow, so, cq, cw, co, rfl, hq, hw, ⟨ho1, ho2⟩, hg, hi⟩
    · simp only [List.nil_append, List.cons_append, List.append_assoc]
      exact H.sub (by repeat (first | exact sb_refl | exact sb_nil | refine sb_cons (by repeat (first | exact pick_head | apply pick_tail | apply pick_app)) ?_ | refine sb_app (by repeat (first | exact cut_head | exact cut_all | apply cut_tail | apply cut_app)) ?_ | exact sb_one (by repeat (first | exact cut_head | exact cut_all | apply cut_tail | apply cut_app))))
  | some l =>
    have e1 : relL A t = relOut A t := by unfold relL; rw [hwt]; rfl
    have e2 : relE A t = 0 := by unfold relE; rw [hwt]; rfl
    rw [e1, e2]
    have hS : Srt l := hg.srt _ (mem_ids hwt)
    have hll : l.length ≤ 5864062014805 := hz.2 _ (mem_ids hwt)
    have hin : ∀ y ∈ l, InK y.k := (hi _ (mem_ids hwt)).2
    obtain ⟨s, c1w, c2w, hcw, ⟨hsn, hso⟩, hx⟩ := hw.openS (a := t) hwt
    have hrw : ∀ u r, Has w0 u (cw ++ r) → RowsAt u s.o 3 (l.map lr) := fun u r H => by
      have H := H.perm (hcw.append_right r)
      rw [List.append_assoc] at H
      exact rowsAt_own (lr3 l) (by decide) (n := s.n) (cap := s.c) (by rw [← hsn] at hso; exact hso) H cut_head
    refine f_look2 H (bk := bw) (o := ow) (a := t) (kf := kfI) (by repeat (first | exact pick_head | apply pick_tail | apply pick_app)) hx keyedI map69 (zero28 u) (fun x => kfI_inj) hlk ?_
    refine s_asU (s_req rfl (s_asS (s_asB (s_chk c_nil (s_false rfl (s_call (readyL_c (mk (H.sub (m2 := cl p 71 (lkC bq bw so) :: (bq, oq) :: (bw, ow) :: (cq ++ (cw ++ (co ++ m')))) (by repeat (first | exact sb_refl | exact sb_nil | refine sb_cons (by repeat (first | exact pick_head | apply pick_tail | apply pick_app)) ?_ | refine sb_app (by repeat (first | exact cut_head | exact cut_all | apply cut_tail | apply cut_app)) ?_ | exact sb_one (by repeat (first | exact cut_head | exact cut_all | apply cut_tail | apply cut_app)))))) hz) ?_))))))
    rintro _ u ⟨v, cz, rfl, hoz, H2⟩
    obtain ⟨oz, capz, rfl⟩ := hoz.slice
    have H := H.join H2
    refine ⟨_, rfl, s_asS ?_⟩
    (refine h_new H fun n20 u H => ?_)
    refine h_st H (by repeat (first | exact pick_head | apply pick_tail | apply pick_app)) (by simp) rfl fun u H => ?_
    have H : Has w0 u (cl n20 33 [.slice oz (allA A).length capz] :: cl n4 27 (ir t) :: cl p 71 (lkC bq bw so) :: (bq, oq) :: (bw, ow) :: (cq ++ (cw ++ (co ++ (cz ++ (m' ++ [])))))) := H.sub (by repeat (first | exact sb_refl | exact sb_nil | refine sb_cons (by repeat (first | exact pick_head | apply pick_tail | apply pick_app)) ?_ | refine sb_app (by repeat (first | exact cut_head | exact cut_all | apply cut_tail | apply cut_app)) ?_ | exact sb_one (by repeat (first | exact cut_head | exact cut_all | apply cut_tail | apply cut_app))))
    unfold Sz at hz
    refine s_loop (fun vs W => ∃ (i : Nat) (oq' : Obj) (cq' mm : Hp), vs = [.int .i64 i] ∧ i ≤ l.length ∧ MQ oq' cq' (relF A t l i) ∧
        Has w0 W (cl n20 33 [.slice oz (allA A).length capz] :: cl n4 27 (ir t) :: cl p 71 (lkC bq bw so) :: (bq, oq') :: (bw, ow) :: (cq' ++ (cw ++ (co ++ (cz ++ (m' ++ mm))))))) (fun vs _ => l.length - (intOf (vs.getD 0 undef)).toNat)
      ⟨0, oq, cq, [], rfl, by omega, hq.congr relF_zero, H⟩ ?_
    clear H H2
    rintro _ j W ⟨i, oq', cq', mm, rfl, hil, hq', H⟩
    refine s_asI (s_ite (fun g1 => ?_) (fun g1 => ?_))
    · simp only [decide_eq_true_eq, hsn] at g1
      have hlt : i < l.length := by omega
      obtain ⟨y, hy⟩ : ∃ y, l[i]? = some y := ⟨_, List.getElem?_eq_getElem hlt⟩
      obtain ⟨lk2, hlk2⟩ := keyOfK (hin y (List.mem_of_getElem? hy))
      obtain ⟨g, off, he, _, hc⟩ := (hrw W _ (H.sub (m2 := cw ++ []) (by repeat (first | exact sb_refl | exact sb_nil | refine sb_cons (by repeat (first | exact pick_head | apply pick_tail | apply pick_app)) ?_ | refine sb_app (by repeat (first | exact cut_head | exact cut_all | apply cut_tail | apply cut_app)) ?_ | exact sb_one (by repeat (first | exact cut_head | exact cut_all | apply cut_tail | apply cut_app)))))).at (j := i) (r := lr y) (by rw [List.getElem?_map, hy]; rfl)
      refine s_req ⟨by omega, by rw [hsn]; omega⟩ ⟨g, off, he, s_loadI (hc 0 _ rfl) (s_loadI (hc 1 _ rfl) (s_loadB (hc 2 _ rfl) ?_))⟩
      (refine h_new H fun n29 u H => ?_)
      iterate 3 refine h_st H (by repeat (first | exact pick_head | apply pick_tail | apply pick_app)) (by first | (simp; done) | exact Nat.le_of_ble_eq_true rfl) rfl fun u H => ?_
      refine h_drew H fun u H => h_ldM H (by repeat (first | exact pick_head | apply pick_tail | apply pick_app)) rfl (h_ldI H (by repeat (first | exact pick_head | apply pick_tail | apply pick_app)) rfl (h_ldI H (by repeat (first | exact pick_head | apply pick_tail | apply pick_app)) rfl ?_))
      have hlen := len_queue (A := A) (k := y.k)
      obtain ⟨s2, c1, c2, hcut, hoq, hsn2, hx2⟩ := open_qo (q := queueOf A y.k) (k := y.k) hq' (relF_at hS hy)
      have H : Has w0 u (cl n29 63 (lr y) :: cl n20 33 [.slice oz (allA A).length capz] :: cl n4 27 (ir t) :: cl p 71 (lkC bq bw so) :: (bq, oq') :: (bw, ow) :: (c1 ++ (c2 ++ (cw ++ (co ++ (cz ++ (m' ++ mm))))))) := by
        have H : Has w0 u (cl n29 63 (lr y) :: cl n20 33 [.slice oz (allA A).length capz] :: cl n4 27 (ir t) :: cl p 71 (lkC bq bw so) :: (bq, oq') :: (bw, ow) :: (cq' ++ (cw ++ (co ++ (cz ++ (m' ++ mm)))))) := H
        have H : Has w0 u (cq' ++ (cl n29 63 (lr y) :: cl n20 33 [.slice oz (allA A).length capz] :: cl n4 27 (ir t) :: cl p 71 (lkC bq bw so) :: (bq, oq') :: (bw, ow) :: (cw ++ (co ++ (cz ++ (m' ++ mm)))))) := H.sub (by repeat (first | exact sb_refl | exact sb_nil | refine sb_cons (by repeat (first | exact pick_head | apply pick_tail | apply pick_app)) ?_ | refine sb_app (by repeat (first | exact cut_head | exact cut_all | apply cut_tail | apply cut_app)) ?_ | exact sb_one (by repeat (first | exact cut_head | exact cut_all | apply cut_tail | apply cut_app))))
        have H := H.perm (hcut.append_right _)
        rw [List.append_assoc] at H
        exact H.sub (by repeat (first | exact sb_refl | exact sb_nil | refine sb_cons (by repeat (first | exact pick_head | apply pick_tail | apply pick_app)) ?_ | refine sb_app (by repeat (first | exact cut_head | exact cut_all | apply cut_tail | apply cut_app)) ?_ | exact sb_one (by repeat (first | exact cut_head | exact cut_all | apply cut_tail | apply cut_app))))
      refine f_look1 H (bk := bq) (o := oq') (a := y.k) (kf := kfK) (by repeat (first | exact pick_head | apply pick_tail | apply pick_app)) hx2 keyedK map68 (zero40 u) (fun x => kfK_inj) hlk2 ?_
      have ev : ((s2.map vS).getD (vS ⟨none, 0, 0⟩)) = vS (s2.getD ⟨none, 0, 0⟩) := by cases s2 <;> rfl
      rw [ev]
      unfold vS
      have hrq : RowsAt u (s2.getD ⟨none, 0, 0⟩).o 4 ((queueOf A y.k).map wr) := rowsAt_own (wr4 _) (by decide) (n := (s2.getD ⟨none, 0, 0⟩).n) (cap := (s2.getD ⟨none, 0, 0⟩).c) (by rw [← hsn2] at hoq; exact hoq) H (by repeat (first | exact cut_head | exact cut_all | apply cut_tail | apply cut_app))
      refine s_asS (s_chk c_nil (s_call (cloneW_c (l := queueOf A y.k) hrq hsn2 (by omega)) ?_))
      rintro _ u ⟨o3, cap3, c3, rfl, ho3, H3⟩
      have H := H.join H3
      refine ⟨_, rfl, s_asS (s_chk c_nil (s_call (dfW_c (t := t) (r := n4) (tr := 27) H cut_head ho3 rfl (by omega) (fun u H => H.cells (by repeat (first | exact pick_head | apply pick_tail | apply pick_app)))) ?_))⟩
      rintro _ u ⟨o4, c4, rfl, ho4, H⟩
      have hrs := fun k => relF_step (A := A) (t := t) hy k
      generalize (queueOf A y.k).filter (fun x => !decide (x.1 = t)) = fq at ho4 hrs ⊢
      refine ⟨_, rfl, s_asS (s_chk c_nil (s_ite (fun g2 => h_drew H fun u H => h_ldM H (by repeat (first | exact pick_head | apply pick_tail | apply pick_app)) rfl (h_ldI H (by repeat (first | exact pick_head | apply pick_tail | apply pick_app)) rfl (h_ldI H (by repeat (first | exact pick_head | apply pick_tail | apply pick_app)) rfl ?_))) (fun g2 => h_drew H fun u H => h_ldM H (by repeat (first | exact pick_head | apply pick_tail | apply pick_app)) rfl (h_ldI H (by repeat (first | exact pick_head | apply pick_tail | apply pick_app)) rfl (h_ldI H (by repeat (first | exact pick_head | apply pick_tail | apply pick_app)) rfl ?_)))))⟩
      · have g2 : fq = [] := List.eq_nil_of_length_eq_zero (by simpa using g2)
        refine f_delete H (bk := bq) (o := oq') (a := y.k) (kf := kfK) (by repeat (first | exact pick_head | apply pick_tail | apply pick_app)) hx2 keyedK map68 (fun x => kfK_inj) hlk2 ?_
        intro oq2 u hx3 H
        have hq3 := hx3.closeN
        refine s_chk c_nil (s_next (by first | exact ⟨rfl, rfl⟩ | trivial) ?_)
        simp (config := { decide := true }) only [if_true, if_false]
        refine ⟨⟨i + 1, oq2, c2, mm, by rw [w_succ (by omega)], by omega, hq3.congr (fun k => ?_), H.sub (by repeat (first | exact sb_refl | exact sb_nil | refine sb_cons (by repeat (first | exact pick_head | apply pick_tail | apply pick_app)) ?_ | refine sb_app (by repeat (first | exact cut_head | exact cut_all | apply cut_tail | apply cut_app)) ?_ | exact sb_one (by repeat (first | exact cut_head | exact cut_all | apply cut_tail | apply cut_app))))⟩, by rw [w_succ (by omega)]; simp [intOf] <;> omega⟩
        rw [← hrs k, g2]
        rfl
      · have g2 : ¬ fq = [] := fun e => by rw [e] at g2; simp at g2
        refine f_put (s := ⟨o4, fq.length, cap3⟩) (vf := vS) H (bk := bq) (o := oq') (a := y.k) (kf := kfK) (by repeat (first | exact pick_head | apply pick_tail | apply pick_app)) hx2 keyedK map68 (fun x => kfK_inj) hlk2 ?_
        intro oq2 u hx3 H
        obtain ⟨cq3, hpm3, hq3⟩ := hx3.close (b := fq) (c1 := c4) ⟨rfl, ho4⟩
        have H : Has w0 u (c4 ++ (c2 ++ (cl n20 33 [.slice oz (allA A).length capz] :: cl n4 27 (ir t) :: cl p 71 (lkC bq bw so) :: (bq, oq2) :: (bw, ow) :: (cw ++ (co ++ (cz ++ (m' ++ mm))))))) := H.sub (by repeat (first | exact sb_refl | exact sb_nil | refine sb_cons (by repeat (first | exact pick_head | apply pick_tail | apply pick_app)) ?_ | refine sb_app (by repeat (first | exact cut_head | exact cut_all | apply cut_tail | apply cut_app)) ?_ | exact sb_one (by repeat (first | exact cut_head | exact cut_all | apply cut_tail | apply cut_app))))
        have H := H.swapc hpm3
        refine s_chk c_nil (s_next (by first | exact ⟨rfl, rfl⟩ | trivial) ?_)
        simp (config := { decide := true }) only [if_true, if_false]
        refine ⟨⟨i + 1, oq2, cq3, mm, by rw [w_succ (by omega)], by omega, hq3.congr (fun k => ?_), H.sub (by repeat (first | exact sb_refl | exact sb_nil | refine sb_cons (by repeat (first | exact pick_head | apply pick_tail | apply pick_app)) ?_ | refine sb_app (by repeat (first | exact cut_head | exact cut_all | apply cut_tail | apply cut_app)) ?_ | exact sb_one (by repeat (first | exact cut_head | exact cut_all | apply cut_tail | apply cut_app))))⟩, by rw [w_succ (by omega)]; simp [intOf] <;> omega⟩
        rw [← hrs k]
        unfold optQ
        rw [if_neg g2]
    · simp only [decide_eq_false_iff_not, hsn] at g1
      obtain rfl : i = l.length := by omega
      have hq2 := hq'.congr (relF_end hg hwt)
      refine h_drew H fun u H => h_ldM H (by repeat (first | exact pick_head | apply pick_tail | apply pick_app)) rfl (h_ldI H (by repeat (first | exact pick_head | apply pick_tail | apply pick_app)) rfl (h_ldI H (by repeat (first | exact pick_head | apply pick_tail | apply pick_app)) rfl ?_))
      refine f_delete H (bk := bw) (o := ow) (a := t) (kf := kfI) (by repeat (first | exact pick_head | apply pick_tail | apply pick_app)) hx keyedI map69 (fun x => kfI_inj) hlk ?_
      intro ow2 u hx3 H
      have hw2 := hx3.closeN.congr want_rel
      have H : Has w0 u (c2w ++ (cl n20 33 [.slice oz (allA A).length capz] :: cl n4 27 (ir t) :: cl p 71 (lkC bq bw so) :: (bq, oq') :: (bw, ow2) :: (cq' ++ (co ++ (cz ++ (m' ++ mm)))))) := by
        have H : Has w0 u (cw ++ (cl n20 33 [.slice oz (allA A).length capz] :: cl n4 27 (ir t) :: cl p 71 (lkC bq bw so) :: (bq, oq') :: (bw, ow2) :: (cq' ++ (co ++ (cz ++ (m' ++ mm)))))) := H.sub (by repeat (first | exact sb_refl | exact sb_nil | refine sb_cons (by repeat (first | exact pick_head | apply pick_tail | apply pick_app)) ?_ | refine sb_app (by repeat (first | exact cut_head | exact cut_all | apply cut_tail | apply cut_app)) ?_ | exact sb_one (by repeat (first | exact cut_head | exact cut_all | apply cut_tail | apply cut_app))))
        have H := H.perm (hcw.append_right _)
        rw [List.append_assoc] at H
        exact H.right
      have hidl : (ids A).length = A.length := by simp [ids]
      have ho2' : OwnC 27 2 (.slice so.o so.n so.c) (ids A).length ((ids A).map ir).flatten co := ho2
      refine s_chk c_nil (h_ldS H (by repeat (first | exact pick_head | apply pick_tail | apply pick_app)) rfl (s_call (cloneI_c (l := ids A) (rowsAt_own (ir2 _) (by decide) (n := so.n) (cap := so.c) (by rw [← ho1] at ho2'; exact ho2') H (by repeat (first | exact cut_head | exact cut_all | apply cut_tail | apply cut_app))) ho1 (by omega)) ?_))
      rintro _ u ⟨o5, cap5, c5, rfl, ho5, H5⟩
      have H := H.join H5
      refine ⟨_, rfl, s_asS (s_call (dfR_c (t := t) (r := n4) (tr := 27) H cut_head ho5 rfl (by omega) (fun u H => H.cells (by repeat (first | exact pick_head | apply pick_tail | apply pick_app)))) ?_)⟩
      rintro _ u ⟨o6, c6, rfl, ho6, H⟩
      rw [← ids_rel] at ho6 ⊢
      refine ⟨_, rfl, s_asS (h_st H (by repeat (first | exact pick_head | apply pick_tail | apply pick_app)) (by simp) rfl fun u H => ?_)⟩
      have hL2 : LkAt p (relA A t) (cl p 71 (lkC bq bw ⟨o6, (ids (relA A t)).length, cap5⟩) :: (bq, oq') :: (bw, ow2) :: (cq' ++ (c2w ++ c6))) :=
        ⟨bq, bw, oq', ow2, ⟨o6, (ids (relA A t)).length, cap5⟩, cq', c2w, c6, rfl, hq2, hw2, ⟨rfl, ho6⟩, hg.rel, rel_in hi⟩
      have H : Has w0 u ((cl p 71 (lkC bq bw ⟨o6, (ids (relA A t)).length, cap5⟩) :: (bq, oq') :: (bw, ow2) :: (cq' ++ (c2w ++ c6))) ++ (cl n20 33 [.slice oz (allA A).length capz] :: (cz ++ m'))) := by
        simp only [List.cons_append, List.append_assoc]
        exact H.sub (by repeat (first | exact sb_refl | exact sb_nil | refine sb_cons (by repeat (first | exact pick_head | apply pick_tail | apply pick_app)) ?_ | refine sb_app (by repeat (first | exact cut_head | exact cut_all | apply cut_tail | apply cut_app)) ?_ | exact sb_one (by repeat (first | exact cut_head | exact cut_all | apply cut_tail | apply cut_app))))
      generalize hcc : (cl p 71 (lkC bq bw ⟨o6, (ids (relA A t)).length, cap5⟩) :: (bq, oq') :: (bw, ow2) :: (cq' ++ (c2w ++ c6))) = cc at hL2 H
      (refine h_new H fun n68 u H => ?_)
      have hrz := rel_sz (t := t) (A := A) (by unfold Sz; omega)
      have hal : (allA (relA A t)).length ≤ A.length := by
        have h1 : (allA (relA A t)).length ≤ (ids (relA A t)).length := List.length_filter_le ..
        have h2 := rel_len (A := A) (t := t)
        have h3 : (ids (relA A t)).length = (relA A t).length := by simp [ids]
        omega
      have hal2 : (allA A).length ≤ A.length := by
        have h1 : (allA A).length ≤ (ids A).length := List.length_filter_le ..
        omega
      refine s_call (all_c (LkW.of H (c := cc) (by repeat (first | exact cut_head | exact cut_all | apply cut_tail | apply cut_app)) hL2) hrz) ?_
      rintro _ u ⟨r7, o7, cap7, c7, rfl, ho7, H7⟩
      have H := H.join H7
      refine ⟨_, rfl, s_asC (s_req rfl (s_asP ?_))⟩
      have hdef : relOut A t = (allA (relA A t)).filter (fun u => !decide (u ∈ allA A)) := rfl
      rw [hdef]
      generalize hL : allA (relA A t) = L at *
      generalize hZ : allA A = Z at *
      have H : Has w0 u (cl n68 33 [.slice none 0 0] :: (cl n20 33 [.slice oz Z.length capz] :: cl r7 33 [.slice o7 L.length cap7] :: (cz ++ (c7 ++ (cc ++ m'))))) := H.sub (by repeat (first | exact sb_refl | exact sb_nil | refine sb_cons (by repeat (first | exact pick_head | apply pick_tail | apply pick_app)) ?_ | refine sb_app (by repeat (first | exact cut_head | exact cut_all | apply cut_tail | apply cut_app)) ?_ | exact sb_one (by repeat (first | exact cut_head | exact cut_all | apply cut_tail | apply cut_app))))
      have Hb := H.drop
      refine h_rf (ids_seq (p := r7) (ty := 33) (o := o7) (cap := cap7) (l := L) (by omega)) H (fun i mi => i ≤ L.length ∧ ∃ v c, OwnC 27 2 v ((L.take i).filter (fun u => !decide (u ∈ Z))).length (((L.take i).filter (fun u => !decide (u ∈ Z))).map ir).flatten c ∧
          mi = cl n68 33 [v] :: (c ++ (cl n20 33 [.slice oz Z.length capz] :: cl r7 33 [.slice o7 L.length cap7] :: (cz ++ (c7 ++ (cc ++ m'))))))
        (fun _ => False) ⟨by omega, _, [], OwnC.nil, rfl⟩ ?_ (fun _ h => h.elim) ?_ ?_ ?_ (fun _ _ _ h => h.elim)
      · rintro i mi ⟨_, v, c, ho, rfl⟩
        exact fit_cl (fit_app ho.fit (Hb.fit (Nat.le_refl _)))
      · rintro i mi W ⟨_, v, c, ho, rfl⟩ H
        exact ⟨H.cells (by repeat (first | exact pick_head | apply pick_tail | apply pick_app)), rowsAt_own (ir2 _) (by decide) ho7 H (by repeat (first | exact cut_head | exact cut_all | apply cut_tail | apply cut_app))⟩
      · rintro f rec d i W av mi hrs hrp hi ⟨hi1, v, c, ho, rfl⟩ H
        obtain ⟨t2, ht2, rfl⟩ := toldI_get hi
        have hlt := (List.getElem?_eq_some_iff.1 ht2).1
        obtain ⟨ov, capv, rfl⟩ := ho.slice
        have hst := all_step (f := fun u => !decide (u ∈ Z)) ht2
        have hfl := List.length_filter_le (fun u => !decide (u ∈ Z)) (L.take i)
        rw [List.length_take] at hfl
        refine s_req rfl (s_asA (s_req rfl (s_asI (s_asI ?_))))
        (refine h_new H fun n77 u H => ?_)
        iterate 2 refine h_st H (by repeat (first | exact pick_head | apply pick_tail | apply pick_app)) (by first | (simp; done) | exact Nat.le_of_ble_eq_true rfl) rfl fun u H => ?_
        refine h_beg H (by repeat (first | exact pick_head | apply pick_tail | apply pick_app)) hrs fun w H => h_ldS H (by repeat (first | exact pick_head | apply pick_tail | apply pick_app)) rfl (h_ldI H (by repeat (first | exact pick_head | apply pick_tail | apply pick_app)) rfl (h_ldI H (by repeat (first | exact pick_head | apply pick_tail | apply pick_app)) rfl ?_))
        refine s_call (cont_c (l := Z) (t := t2) (rowsAt_own (ir2 _) (by decide) hoz H (by repeat (first | exact cut_head | exact cut_all | apply cut_tail | apply cut_app))) rfl (by omega)) ?_
        rintro _ u ⟨rfl, f2⟩
        have H := H.fr0 f2
        refine ⟨_, rfl, s_asB (s_ite (fun g2 => h_ldS H (by repeat (first | exact pick_head | apply pick_tail | apply pick_app)) rfl (h_ldI H (by repeat (first | exact pick_head | apply pick_tail | apply pick_app)) rfl (h_ldI H (by repeat (first | exact pick_head | apply pick_tail | apply pick_app)) rfl ?_))) (fun g2 => h_cont H (by repeat (first | exact pick_head | apply pick_tail | apply pick_app)) hrs hrp fun w H => s_next trivial ?_))⟩
        · rw [if_pos g2] at hst
          (refine h_new H fun n90 u H => ?_)
          refine h_app1 elemI H (by repeat (first | exact cut_head | exact cut_all | apply cut_tail | apply cut_app)) ho (r := n90) (l := ir t2) (by repeat (first | exact pick_head | apply pick_tail | apply pick_app)) rfl (by intro u hu; simp [ir] at hu; rcases hu with rfl | rfl <;> rfl) (by omega) (by omega) ?_
          intro v' c' w ho' H
          obtain ⟨o', cap', rfl⟩ := ho'.slice
          refine s_asS (h_st H (by repeat (first | exact pick_head | apply pick_tail | apply pick_app)) (by simp) rfl fun u H => h_cont H (by repeat (first | exact pick_head | apply pick_tail | apply pick_app)) hrs hrp fun w H => s_next trivial ?_)
          simp only [if_true]
          refine .inl ⟨rfl, _, ⟨by omega, _, c', ?_, rfl⟩, H.sub (by repeat (first | exact sb_refl | exact sb_nil | refine sb_cons (by repeat (first | exact pick_head | apply pick_tail | apply pick_app)) ?_ | refine sb_app (by repeat (first | exact cut_head | exact cut_all | apply cut_tail | apply cut_app)) ?_ | exact sb_one (by repeat (first | exact cut_head | exact cut_all | apply cut_tail | apply cut_app))))⟩
          rw [hst, List.map_append, List.flatten_append]
          simpa using ho'
        · rw [if_neg (by simpa using g2), List.append_nil] at hst
          simp only [if_true]
          exact .inl ⟨rfl, _, ⟨by omega, _, c, by rw [hst]; exact ho, rfl⟩, H.sub (by repeat (first | exact sb_refl | exact sb_nil | refine sb_cons (by repeat (first | exact pick_head | apply pick_tail | apply pick_app)) ?_ | refine sb_app (by repeat (first | exact cut_head | exact cut_all | apply cut_tail | apply cut_app)) ?_ | exact sb_one (by repeat (first | exact cut_head | exact cut_all | apply cut_tail | apply cut_app))))⟩
      · rintro D W mi ⟨_, v, c, ho, rfl⟩ H
        obtain ⟨ov, capv, rfl⟩ := ho.slice
        have hxl : (toldI L).length = L.length := by simp [toldI]
        rw [hxl] at ho H
        rw [List.take_length] at ho H
        refine h_ldS H (by repeat (first | exact pick_head | apply pick_tail | apply pick_app)) rfl (h_col H (by repeat (first | exact pick_head | apply pick_tail | apply pick_app)) fun w H => s_ret ⟨_, _, c, cc, rfl, ho, hL2, H.sub (by repeat (first | exact sb_refl | exact sb_nil | refine sb_cons (by repeat (first | exact pick_head | apply pick_tail | apply pick_app)) ?_ | refine sb_app (by repeat (first | exact cut_head | exact cut_all | apply cut_tail | apply cut_app)) ?_ | exact sb_one (by repeat (first | exact cut_head | exact cut_all | apply cut_tail | apply cut_app))))⟩)
end
end Go.Proofs.Ytdepohepogocgaa
