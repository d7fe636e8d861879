/- New, Request: what they make of the queues in memory. -/
import Derived.Test.YtdepohepogocgaaLkD
set_option linter.unusedVariables false
set_option linter.unusedSimpArgs false
set_option maxRecDepth 100000
set_option maxHeartbeats 2000000
namespace Go.Proofs.Ytdepohepogocgaa
open Go hiding Expr
open Go.RowKit Tr

def reqE (A : St) (t : Ix) (l : List Lk) : Int := if srtB l = false then 1 else if (wantOf A t).isSome then 5 else 0
def reqS (A : St) (t : Ix) (l : List Lk) : St := if srtB l = true ∧ wantOf A t = none then A ++ [(t, l)] else A

section
variable {w : World} {p : Nat} {A : St}
theorem new_c : Calls Try.prog 8 #[] w fun e w' => ∃ r c, e = .returned (.pointer (some ⟨r, 0, none⟩)) ∧ LkAt r [] c ∧ Has w w' c := by
  apply c8
  refine h_newMap (Has.init w) fun n0 u H => h_newMap H fun n1 u H => ?_
  (refine h_new H fun n2 u H => ?_)
  refine s_ret ⟨n2, _, rfl, ⟨n0, n1, .map #[] 0, .map #[] 0, ⟨none, 0, 0⟩, [], [], [], rfl, ?_, ?_, ⟨rfl, OwnC.nil⟩, Good.nil, by intro r hr; cases hr⟩, ?_⟩
  · exact MF.new.congr (fun k => rfl)
  · exact MF.new.congr (fun k => rfl)
  · exact H.perm (List.Perm.cons _ (List.Perm.swap _ _ _))

theorem index16_c {o : Option Addr} {l : List Ix} {n cap : Nat} {t : Ix} (h : RowsAt w o 2 (l.map ir)) (hn : n = l.length) (hmax : l.length ≤ 5864062014805) : Calls Try.prog 50 #[.slice o n cap, .agg ⟨ir t⟩] w fun e w' =>
    ∃ z : Int, e = .returned (.int .i64 z) ∧ decide (z ≥ 0) = decide (t ∈ l) ∧ Fr [] w w' := by
  subst hn
  apply c50
  refine h_new (Has.init w) fun n5 u H => ?_
  refine s_loop (fun vs W => ∃ i : Nat, vs = [.int .i64 i] ∧ i ≤ l.length ∧ (∀ x ∈ l.take i, x ≠ t) ∧ Has w W [cl n5 27 (ir t)]) (fun vs _ => l.length - (intOf (vs.getD 0 undef)).toNat)
    ⟨0, rfl, by omega, by simp, H⟩ ?_
  clear H
  rintro _ j W ⟨i, rfl, hil, hno, H⟩
  refine s_asI (s_ite (fun g1 => ?_) (fun g1 => ?_))
  · simp only [decide_eq_true_eq] at g1
    obtain ⟨x, hx⟩ : ∃ x, l[i]? = some x := ⟨_, List.getElem?_eq_getElem (by omega)⟩
    refine h_drew H fun u H => h_ldI H (by repeat (first | exact pick_head | apply pick_tail | apply pick_app)) rfl (h_ldI H (by repeat (first | exact pick_head | apply pick_tail | apply pick_app)) rfl ?_)
    obtain ⟨g, off, he, _, hc⟩ := (RowsAt.fr h H.base).at (j := i) (r := ir x) (by rw [List.getElem?_map, hx]; rfl)
    refine s_req ⟨by omega, g1⟩ ⟨g, off, he, s_loadI (hc 0 _ rfl) (s_loadI (hc 1 _ rfl) (s_ite (fun g2 => s_ret ⟨i, rfl, ?_, H.base⟩) (fun g2 => s_next (by first | exact ⟨rfl, rfl⟩ | trivial) ?_)))⟩
    · have g2 : t = x := Ix.ext' (by simp at g2; exact g2.1) (by simp at g2; exact g2.2)
      rw [g2]
      simp [List.mem_of_getElem? hx]
    · have g2 : ¬ x = t := fun h => by subst h; simp at g2
      simp (config := { decide := true }) only [if_true, if_false]
      refine ⟨⟨i + 1, by rw [w_succ (by omega)], by omega, fun y hy => ?_, H⟩, by rw [w_succ (by omega)]; simp [intOf] <;> omega⟩
      rw [List.take_add_one, hx, Option.toList_some] at hy
      rcases List.mem_append.1 hy with hy | hy
      · exact hno y hy
      · simp only [List.mem_singleton] at hy
        subst hy
        exact g2
  · simp only [decide_eq_false_iff_not] at g1
    rw [List.take_of_length_le (by omega)] at hno
    refine s_ret ⟨-1, rfl, ?_, H.base⟩
    have : t ∉ l := fun h => hno t h rfl
    simp [this]
theorem cont_c {o : Option Addr} {l : List Ix} {n cap : Nat} {t : Ix} (h : RowsAt w o 2 (l.map ir)) (hn : n = l.length) (hmax : l.length ≤ 5864062014805) : Calls Try.prog 19 #[.slice o n cap, .agg ⟨ir t⟩] w fun e w' => e = .returned (.bool (decide (t ∈ l))) ∧ Fr [] w w' := by
  apply c19
  refine h_new (Has.init w) fun n5 u H => h_ldI H (by repeat (first | exact pick_head | apply pick_tail | apply pick_app)) rfl (h_ldI H (by repeat (first | exact pick_head | apply pick_tail | apply pick_app)) rfl (s_call (index16_c (t := t) (RowsAt.fr h H.base) hn hmax) ?_))
  rintro _ u ⟨z, rfl, hz, f⟩
  exact ⟨_, rfl, s_asI (s_ret ⟨by rw [hz], (H.fr0 f).base⟩)⟩
end

theorem Tr.Has.swapc {w0 w : World} {a b c r : Hp} (H : Has w0 w (a ++ (b ++ r))) (h : (a ++ b).Perm c) : Has w0 w (c ++ r) := by
  rw [← List.append_assoc] at H
  exact H.perm (h.append_right r)
/-- A key's queue laid open with what it owns. -/
theorem open_qo {F : K → Option Qu} {q : Qu} {k : K} {oq : Obj} {cq : Hp} (h : MQ oq cq F) (hF : F k = optQ q) :
    ∃ (s : Option SP) (c1 c2 : Hp), Cut c1 cq c2 ∧ OwnC 43 4 (vS (s.getD ⟨none, 0, 0⟩)) q.length (q.map wr).flatten c1 ∧ (s.getD ⟨none, 0, 0⟩).n = q.length ∧ MX Try.prog 39 kfK vS OwnQ oq c2 F k s := by
  cases hq : optQ q with
  | none =>
    obtain rfl := optQ_none.1 hq
    exact ⟨none, [], cq, cut_nil, OwnC.nil, rfl, h.openN (by rw [hF, hq])⟩
  | some q' =>
    obtain ⟨rfl, hne⟩ := optQ_some hq
    obtain ⟨s, c1, c2, h1, ⟨h2, h3⟩, h4⟩ := h.openS (a := k) (b := q') (by rw [hF, hq])
    exact ⟨some s, c1, c2, h1, h3, h2, h4⟩
theorem total_append {A B : St} : total (A ++ B) = total A + total B := by unfold total; rw [List.map_append, List.sum_append]
theorem upd_want {A : St} {t : Ix} {l : List Lk} (h : wantOf A t = none) (x : Ix) : upd (wantOf A) t (some l) x = wantOf (A ++ [(t, l)]) x := by
  unfold upd wantOf
  rw [List.find?_append]
  split
  · rename_i he
    subst he
    unfold wantOf at h
    rw [Option.map_eq_none_iff] at h
    rw [h]
    simp
  · rename_i he
    cases hf : A.find? (fun r => decide (r.1 = x)) with
    | some r => rfl
    | none => simp [he]
theorem upd_queue {A : St} {t : Ix} {l : List Lk} {i : Nat} {y : Lk} (hy : l[i]? = some y) (hs : Srt l) (k : K) :
    upd (fun k => optQ (queueOf (A ++ [(t, l.take i)]) k)) y.k (some (queueOf A y.k ++ [(t, y.x)])) k = optQ (queueOf (A ++ [(t, l.take (i + 1))]) k) := by
  have e : l.take (i + 1) = l.take i ++ [y] := by rw [List.take_add_one, hy]; rfl
  have hs2 : Srt (l.take i ++ [y]) := by rw [← e]; exact hs.sublist (List.take_sublist ..)
  rw [e, queue_snoc hs2]
  unfold upd
  split
  · rename_i hk
    subst hk
    unfold optQ
    rw [if_neg (by simp)]
  · rfl
theorem queue_at' {A : St} {t : Ix} {l : List Lk} {i : Nat} {y : Lk} (hy : l[i]? = some y) (hs : Srt l) : queueOf (A ++ [(t, l.take i)]) y.k = queueOf A y.k := by
  have e : l.take (i + 1) = l.take i ++ [y] := by rw [List.take_add_one, hy]; rfl
  have hs2 : Srt (l.take i ++ [y]) := by rw [← e]; exact hs.sublist (List.take_sublist ..)
  exact queue_at hs2

section
variable {w0 w : World} {m m' c : Hp} {p : Nat} {A : St} {o : Option Addr} {n cap : Nat}
theorem req_c {t : Ix} {l : List Lk} (H : Has w0 w m) (hp : Cut c m m') (hL : LkAt p A c) (hz : A.length < 1099511627776 ∧ l.length ≤ 5864062014805) (ht : InI t) (hn : n = l.length) (hin : ∀ y ∈ l, InK y.k)
    (hW : ∀ u, Has w0 u m' → RowsAt u o 3 (l.map lr)) :
    Calls Try.prog 10 #[.pointer (some ⟨p, 0, none⟩), .agg ⟨ir t⟩, .slice o n cap] w fun e w' => e = .returned (.int .i64 (reqE A t l)) ∧ ∃ c', LkAt p (reqS A t l) c' ∧ Has w0 w' (c' ++ m') := by
  subst hn
  have hLw : LkW w p A := LkW.of H hp hL
  obtain ⟨bq, bw, oq, ow, so, cq, cw, co, rfl, hq, hw, ⟨ho1, ho2⟩, hg, hi⟩ := hL
  have H := H.pullc hp
  simp only [List.cons_append, List.append_assoc] at H
  apply c10
  refine h_new H fun n7 u H => ?_
  have hLw := LkW.of (w0 := w0) (w := u) (m := (cl p 71 (lkC bq bw so) :: (bq, oq) :: (bw, ow) :: (cq ++ (cw ++ co))) ++ m') (c := cl p 71 (lkC bq bw so) :: (bq, oq) :: (bw, ow) :: (cq ++ (cw ++ co))) (A := A) (p := p)
    (by simp only [List.cons_append, List.append_assoc]; exact H.sub (by repeat (first | exact sb_refl | exact sb_nil | refine sb_cons (by repeat (first | exact pick_head | apply pick_tail | apply pick_app)) ?_ | refine sb_app (by repeat (first | exact cut_head | exact cut_all | apply cut_tail | apply cut_app)) ?_ | exact sb_one (by repeat (first | exact cut_head | exact cut_all | apply cut_tail | apply cut_app))))) cut_head ⟨bq, bw, oq, ow, so, cq, cw, co, rfl, hq, hw, ⟨ho1, ho2⟩, hg, hi⟩
  refine s_call (none_c hLw) ?_
  rintro _ _ ⟨rfl, rfl⟩
  refine ⟨_, rfl, s_asB (s_false rfl ?_)⟩
  refine s_loop (fun vs W => ∃ i : Nat, vs = [.int .i64 i] ∧ 1 ≤ i ∧ (i ≤ l.length ∨ i = 1) ∧ srtB (l.take i) = true ∧ Has w0 W (cl n7 27 (ir t) :: cl p 71 (lkC bq bw so) :: (bq, oq) :: (bw, ow) :: (cq ++ (cw ++ (co ++ m'))))) (fun vs _ => l.length - (intOf (vs.getD 0 undef)).toNat)
    ⟨1, rfl, by omega, by omega, ?_, H⟩ ?_
  · cases l with
    | nil => rfl
    | cons a r => simp [srtB]
  clear H
  rintro _ j W ⟨i, rfl, hi1, hil, hsr, H⟩
  refine s_asI (s_ite (fun g1 => ?_) (fun g1 => ?_))
  · simp only [decide_eq_true_eq] at g1
    have hlt : i < l.length := by omega
    have hw1 : IntKind.wrap .i64 ((i : Int) - 1) = ((i - 1 : Nat) : Int) := by rw [wrap64 (by omega) (by omega)]; omega
    obtain ⟨x, hx⟩ : ∃ x, l[i - 1]? = some x := ⟨_, List.getElem?_eq_getElem (by omega)⟩
    obtain ⟨y, hy⟩ : ∃ y, l[i]? = some y := ⟨_, List.getElem?_eq_getElem hlt⟩
    have hy' : l[i - 1 + 1]? = some y := by rw [show i - 1 + 1 = i by omega]; exact hy
    have hst := srtB_step hx hy'
    rw [show i - 1 + 2 = i + 1 by omega, show i - 1 + 1 = i by omega, hsr, Bool.true_and] at hst
    refine h_drew H fun u H => ?_
    rw [hw1]
    have hWu := hW u (H.sub (by repeat (first | exact sb_refl | exact sb_nil | refine sb_cons (by repeat (first | exact pick_head | apply pick_tail | apply pick_app)) ?_ | refine sb_app (by repeat (first | exact cut_head | exact cut_all | apply cut_tail | apply cut_app)) ?_ | exact sb_one (by repeat (first | exact cut_head | exact cut_all | apply cut_tail | apply cut_app)))))
    obtain ⟨g, off, he, _, hc⟩ := hWu.at (j := i - 1) (r := lr x) (by rw [List.getElem?_map, hx]; rfl)
    obtain ⟨g', off', he', _, hc'⟩ := hWu.at (j := i) (r := lr y) (by rw [List.getElem?_map, hy]; rfl)
    refine s_req ⟨by omega, by omega⟩ ⟨g, off, he, s_loadI (hc 0 _ rfl) (s_loadI (hc 1 _ rfl) (s_req ⟨by omega, by omega⟩ ⟨g', off', he', s_loadI (hc' 0 _ rfl) (s_loadI (hc' 1 _ rfl) (s_call (cmpK_c x.k y.k) ?_))⟩))⟩
    rintro _ u ⟨rfl, f⟩
    have H := H.fr0 f
    refine ⟨_, rfl, s_asI (s_chk c_nil (s_ite (fun g2 => ?_) (fun g2 => s_next (by first | exact ⟨rfl, rfl⟩ | trivial) ?_)))⟩
    · have hlk : ltK x.k y.k = false := by
        unfold ltK
        simp only [decide_eq_true_eq] at g2
        simp
        omega
      have hbad : srtB l = false := by
        cases hh : srtB l with
        | false => rfl
        | true => have := srtB_at hh hx hy'; rw [hlk] at this; cases this
      refine s_ret ⟨by unfold reqE; rw [if_pos hbad], cl p 71 (lkC bq bw so) :: (bq, oq) :: (bw, ow) :: (cq ++ (cw ++ co)), ?_, by simp only [List.cons_append, List.append_assoc]; exact H.sub (by repeat (first | exact sb_refl | exact sb_nil | refine sb_cons (by repeat (first | exact pick_head | apply pick_tail | apply pick_app)) ?_ | refine sb_app (by repeat (first | exact cut_head | exact cut_all | apply cut_tail | apply cut_app)) ?_ | exact sb_one (by repeat (first | exact cut_head | exact cut_all | apply cut_tail | apply cut_app))))⟩
      unfold reqS
      rw [if_neg (by rw [hbad]; simp)]
      exact ⟨bq, bw, oq, ow, so, cq, cw, co, rfl, hq, hw, ⟨ho1, ho2⟩, hg, hi⟩
    · have hlk : ltK x.k y.k = true := by
        unfold ltK
        simp only [decide_eq_false_iff_not] at g2
        simp
        omega
      simp (config := { decide := true }) only [if_true, if_false]
      exact ⟨⟨i + 1, by rw [w_succ (by omega)], by omega, by omega, by rw [hst, hlk], H⟩, by rw [w_succ (by omega)]; simp [intOf] <;> omega⟩
  · simp only [decide_eq_false_iff_not] at g1
    rw [List.take_of_length_le (by omega)] at hsr
    have hS : Srt l := srtB_iff.1 hsr
    refine h_drew H fun u H => ?_
    obtain ⟨lk, hlk⟩ := keyOfI ht
    refine h_ldM H (by repeat (first | exact pick_head | apply pick_tail | apply pick_app)) rfl (h_ldI H (by repeat (first | exact pick_head | apply pick_tail | apply pick_app)) rfl (h_ldI H (by repeat (first | exact pick_head | apply pick_tail | apply pick_app)) rfl ?_))
    cases hwt : wantOf A t with
    | some l0 =>
      obtain ⟨s, c1, c2, _, _, hx⟩ := hw.openS (a := t) hwt
      refine f_look2 H (bk := bw) (o := ow) (a := t) (kf := kfI) (by repeat (first | exact pick_head | apply pick_tail | apply pick_app)) hx keyedI map69 (zero28 u) (fun x => kfI_inj) hlk ?_
      refine s_asU (s_req rfl (s_asS (s_asB (s_chk c_nil (s_true rfl (s_ret ⟨?_, cl p 71 (lkC bq bw so) :: (bq, oq) :: (bw, ow) :: (cq ++ (cw ++ co)), ?_, by simp only [List.cons_append, List.append_assoc]; exact H.sub (by repeat (first | exact sb_refl | exact sb_nil | refine sb_cons (by repeat (first | exact pick_head | apply pick_tail | apply pick_app)) ?_ | refine sb_app (by repeat (first | exact cut_head | exact cut_all | apply cut_tail | apply cut_app)) ?_ | exact sb_one (by repeat (first | exact cut_head | exact cut_all | apply cut_tail | apply cut_app))))⟩))))))
      · unfold reqE
        rw [if_neg (by rw [hsr]; simp), hwt]
        rfl
      · unfold reqS
        rw [if_neg (by rw [hwt]; simp)]
        exact ⟨bq, bw, oq, ow, so, cq, cw, co, rfl, hq, hw, ⟨ho1, ho2⟩, hg, hi⟩
    | none =>
      have hx := hw.openN hwt
      refine f_look2 H (bk := bw) (o := ow) (a := t) (kf := kfI) (by repeat (first | exact pick_head | apply pick_tail | apply pick_app)) hx keyedI map69 (zero28 u) (fun x => kfI_inj) hlk ?_
      refine s_asU (s_req rfl (s_asS (s_asB (s_chk c_nil (s_false rfl (h_drew H fun u H => h_ldM H (by repeat (first | exact pick_head | apply pick_tail | apply pick_app)) rfl (h_ldI H (by repeat (first | exact pick_head | apply pick_tail | apply pick_app)) rfl (h_ldI H (by repeat (first | exact pick_head | apply pick_tail | apply pick_app)) rfl ?_))))))))
      refine s_call (cloneL_c (l := l) (hW u (H.sub (by repeat (first | exact sb_refl | exact sb_nil | refine sb_cons (by repeat (first | exact pick_head | apply pick_tail | apply pick_app)) ?_ | refine sb_app (by repeat (first | exact cut_head | exact cut_all | apply cut_tail | apply cut_app)) ?_ | exact sb_one (by repeat (first | exact cut_head | exact cut_all | apply cut_tail | apply cut_app)))))) rfl (by omega)) ?_
      rintro _ u ⟨o', cap', cl1, rfl, ho', H2⟩
      have H := H.join H2
      refine ⟨_, rfl, s_asS (s_chk (hc_cons H (by repeat (first | exact pick_head | apply pick_tail | apply pick_app)) rfl (hc_cons H (by repeat (first | exact pick_head | apply pick_tail | apply pick_app)) rfl (hc_cons H (by repeat (first | exact pick_head | apply pick_tail | apply pick_app)) rfl c_nil))) ?_)⟩
      refine f_put (s := ⟨o', l.length, cap'⟩) (vf := vS) H (bk := bw) (o := ow) (a := t) (kf := kfI) (by repeat (first | exact pick_head | apply pick_tail | apply pick_app)) hx keyedI map69 (fun x => kfI_inj) hlk ?_
      intro ow' u hx' H
      obtain ⟨cw', hpm, hw'⟩ := hx'.close (b := l) ⟨rfl, ho'⟩
      have hw' := hw'.congr (upd_want hwt)
      have H : Has w0 u (cl1 ++ (cw ++ (cl n7 27 (ir t) :: cl p 71 (lkC bq bw so) :: (bq, oq) :: (bw, ow') :: (cq ++ (co ++ m'))))) := H.sub (by repeat (first | exact sb_refl | exact sb_nil | refine sb_cons (by repeat (first | exact pick_head | apply pick_tail | apply pick_app)) ?_ | refine sb_app (by repeat (first | exact cut_head | exact cut_all | apply cut_tail | apply cut_app)) ?_ | exact sb_one (by repeat (first | exact cut_head | exact cut_all | apply cut_tail | apply cut_app))))
      have H := H.swapc hpm
      refine s_chk c_nil (h_drew H fun u H => h_ldS H (by repeat (first | exact pick_head | apply pick_tail | apply pick_app)) rfl (h_ldI H (by repeat (first | exact pick_head | apply pick_tail | apply pick_app)) rfl (h_ldI H (by repeat (first | exact pick_head | apply pick_tail | apply pick_app)) rfl ?_)))
      (refine h_new H fun n45 u H => ?_)
      have hidl : (ids A).length = A.length := by simp [ids]
      refine s_chk (hc_cons H (by repeat (first | exact pick_head | apply pick_tail | apply pick_app)) rfl c_nil) ?_
      have ho2' : OwnC 27 2 (.slice so.o so.n so.c) (ids A).length ((ids A).map ir).flatten co := ho2
      refine h_app1 elemI H (by repeat (first | exact cut_head | exact cut_all | apply cut_tail | apply cut_app)) ho2' (r := n45) (l := ir t) (by repeat (first | exact pick_head | apply pick_tail | apply pick_app)) rfl (by intro u hu; simp [ir] at hu; rcases hu with rfl | rfl <;> rfl) (by omega) (by omega) ?_
      intro v2 co' u ho3 H
      obtain ⟨oo, cc, rfl⟩ := ho3.slice
      refine s_asS (s_chk c_nil (h_st H (by repeat (first | exact pick_head | apply pick_tail | apply pick_app)) (by simp) rfl fun u H => s_chk c_nil ?_))
      have H : Has w0 u (cl n7 27 (ir t) :: cl p 71 (lkC bq bw ⟨oo, (ids A).length + 1, cc⟩) :: (bq, oq) :: (bw, ow') :: (cq ++ (cw' ++ (co' ++ (m' ++ []))))) := H.sub (by repeat (first | exact sb_refl | exact sb_nil | refine sb_cons (by repeat (first | exact pick_head | apply pick_tail | apply pick_app)) ?_ | refine sb_app (by repeat (first | exact cut_head | exact cut_all | apply cut_tail | apply cut_app)) ?_ | exact sb_one (by repeat (first | exact cut_head | exact cut_all | apply cut_tail | apply cut_app))))
      refine s_loop (fun vs W => ∃ (i : Nat) (oq' : Obj) (cq' mm : Hp), vs = [.int .i64 i] ∧ i ≤ l.length ∧ MQ oq' cq' (fun k => optQ (queueOf (A ++ [(t, l.take i)]) k)) ∧
          Has w0 W (cl n7 27 (ir t) :: cl p 71 (lkC bq bw ⟨oo, (ids A).length + 1, cc⟩) :: (bq, oq') :: (bw, ow') :: (cq' ++ (cw' ++ (co' ++ (m' ++ mm)))))) (fun vs _ => l.length - (intOf (vs.getD 0 undef)).toNat)
        ⟨0, oq, cq, [], rfl, by omega, hq.congr (fun k => by rw [List.take_zero, queue_nil]), H⟩ ?_
      clear H H2
      rintro _ j W ⟨i, oq', cq', mm, rfl, hil, hq', H⟩
      refine s_asI (s_ite (fun g1 => ?_) (fun g1 => ?_))
      · simp only [decide_eq_true_eq] at g1
        have hlt : i < l.length := by omega
        obtain ⟨y, hy⟩ : ∃ y, l[i]? = some y := ⟨_, List.getElem?_eq_getElem hlt⟩
        obtain ⟨lk2, hlk2⟩ := keyOfK (hin y (List.mem_of_getElem? hy))
        obtain ⟨g, off, he, _, hc⟩ := (hW W (H.sub (by repeat (first | exact sb_refl | exact sb_nil | refine sb_cons (by repeat (first | exact pick_head | apply pick_tail | apply pick_app)) ?_ | refine sb_app (by repeat (first | exact cut_head | exact cut_all | apply cut_tail | apply cut_app)) ?_ | exact sb_one (by repeat (first | exact cut_head | exact cut_all | apply cut_tail | apply cut_app)))))).at (j := i) (r := lr y) (by rw [List.getElem?_map, hy]; rfl)
        refine s_req ⟨by omega, g1⟩ ⟨g, off, he, s_loadI (hc 0 _ rfl) (s_loadI (hc 1 _ rfl) (s_loadB (hc 2 _ rfl) ?_))⟩
        (refine h_new H fun n58 u H => ?_)
        iterate 3 refine h_st H (by repeat (first | exact pick_head | apply pick_tail | apply pick_app)) (by first | (simp; done) | exact Nat.le_of_ble_eq_true rfl) rfl fun u H => ?_
        refine h_drew H fun u H => h_ldM H (by repeat (first | exact pick_head | apply pick_tail | apply pick_app)) rfl (h_ldI H (by repeat (first | exact pick_head | apply pick_tail | apply pick_app)) rfl (h_ldI H (by repeat (first | exact pick_head | apply pick_tail | apply pick_app)) rfl (h_ldI H (by repeat (first | exact pick_head | apply pick_tail | apply pick_app)) rfl (h_ldI H (by repeat (first | exact pick_head | apply pick_tail | apply pick_app)) rfl (h_ldB H (by repeat (first | exact pick_head | apply pick_tail | apply pick_app)) rfl ?_)))))
        (refine h_new H fun n65 u H => ?_)
        refine s_chk (hc_cons H (by repeat (first | exact pick_head | apply pick_tail | apply pick_app)) rfl (hc_cons H (by repeat (first | exact pick_head | apply pick_tail | apply pick_app)) rfl (hc_cons H (by repeat (first | exact pick_head | apply pick_tail | apply pick_app)) rfl (hc_cons H (by repeat (first | exact pick_head | apply pick_tail | apply pick_app)) rfl (hc_cons H (by repeat (first | exact pick_head | apply pick_tail | apply pick_app)) rfl (hc_cons H (by repeat (first | exact pick_head | apply pick_tail | apply pick_app)) rfl c_nil)))))) ?_
        have hlen := len_queue (A := A) (k := y.k)
        obtain ⟨s, c1, c2, hcut, hoq, hsn, hx2⟩ := open_qo (q := queueOf A y.k) (k := y.k) hq' (by show optQ (queueOf (A ++ [(t, l.take i)]) y.k) = _; rw [queue_at' hy hS])
        have H : Has w0 u (cl n65 43 (wr (t, y.x)) :: cl n58 63 (lr y) :: cl n7 27 (ir t) :: cl p 71 (lkC bq bw ⟨oo, (ids A).length + 1, cc⟩) :: (bq, oq') :: (bw, ow') :: (c1 ++ (c2 ++ (cw' ++ (co' ++ (m' ++ mm)))))) := by
          have H : Has w0 u (cl n65 43 (wr (t, y.x)) :: cl n58 63 (lr y) :: cl n7 27 (ir t) :: cl p 71 (lkC bq bw ⟨oo, (ids A).length + 1, cc⟩) :: (bq, oq') :: (bw, ow') :: (cq' ++ (cw' ++ (co' ++ (m' ++ mm))))) := H
          have H : Has w0 u (cq' ++ (cl n65 43 (wr (t, y.x)) :: cl n58 63 (lr y) :: cl n7 27 (ir t) :: cl p 71 (lkC bq bw ⟨oo, (ids A).length + 1, cc⟩) :: (bq, oq') :: (bw, ow') :: (cw' ++ (co' ++ (m' ++ mm))))) := H.sub (by repeat (first | exact sb_refl | exact sb_nil | refine sb_cons (by repeat (first | exact pick_head | apply pick_tail | apply pick_app)) ?_ | refine sb_app (by repeat (first | exact cut_head | exact cut_all | apply cut_tail | apply cut_app)) ?_ | exact sb_one (by repeat (first | exact cut_head | exact cut_all | apply cut_tail | apply cut_app))))
          have H := H.perm (hcut.append_right _)
          rw [List.append_assoc] at H
          exact H.sub (by repeat (first | exact sb_refl | exact sb_nil | refine sb_cons (by repeat (first | exact pick_head | apply pick_tail | apply pick_app)) ?_ | refine sb_app (by repeat (first | exact cut_head | exact cut_all | apply cut_tail | apply cut_app)) ?_ | exact sb_one (by repeat (first | exact cut_head | exact cut_all | apply cut_tail | apply cut_app))))
        refine f_entry (z := ⟨none, 0, 0⟩) (vf := vS) H (bk := bq) (o := oq') (a := y.k) (kf := kfK) (by repeat (first | exact pick_head | apply pick_tail | apply pick_app)) hx2 keyedK map68 (zero40 u) (fun x => kfK_inj) hlk2 ?_
        intro ne oq2 u hx3 hE H
        refine s_asU (s_req rfl (s_asS (s_asI (s_chk c_nil ?_))))
        refine h_app1 elemW H (by repeat (first | exact cut_head | exact cut_all | apply cut_tail | apply cut_app)) hoq (r := n65) (l := wr (t, y.x)) (by repeat (first | exact pick_head | apply pick_tail | apply pick_app)) rfl (by intro u hu; simp [wr, wtr] at hu; rcases hu with rfl | rfl | rfl | rfl <;> rfl) (by omega) (by omega) ?_
        intro v3 c1' u ho4 H
        obtain ⟨o3, cap3, rfl⟩ := ho4.slice
        refine s_asS (s_chk c_nil ?_)
        refine f_estore (s := ⟨o3, (queueOf A y.k).length + 1, cap3⟩) (vf := vS) H (bk := bq) (o := oq2) (a := y.k) (kf := kfK) (by repeat (first | exact pick_head | apply pick_tail | apply pick_app)) hx3 hE (fun x => kfK_inj) ?_
        intro oq3 u hx4 H
        obtain ⟨cq3, hpm3, hq3⟩ := hx4.close (b := queueOf A y.k ++ [(t, y.x)]) (c1 := c1') ⟨by simp, by
          rw [List.length_append, List.map_append, List.flatten_append]
          simpa [vS] using ho4⟩
        have H : Has w0 u (c1' ++ (c2 ++ (cl n7 27 (ir t) :: cl p 71 (lkC bq bw ⟨oo, (ids A).length + 1, cc⟩) :: (bq, oq3) :: (bw, ow') :: (cw' ++ (co' ++ (m' ++ mm)))))) := H.sub (by repeat (first | exact sb_refl | exact sb_nil | refine sb_cons (by repeat (first | exact pick_head | apply pick_tail | apply pick_app)) ?_ | refine sb_app (by repeat (first | exact cut_head | exact cut_all | apply cut_tail | apply cut_app)) ?_ | exact sb_one (by repeat (first | exact cut_head | exact cut_all | apply cut_tail | apply cut_app))))
        have H := H.swapc hpm3
        refine s_chk c_nil (s_next (by first | exact ⟨rfl, rfl⟩ | trivial) ?_)
        simp (config := { decide := true }) only [if_true, if_false]
        exact ⟨⟨i + 1, oq3, cq3, mm, by rw [w_succ (by omega)], by omega, hq3.congr (upd_queue hy hS), H.sub (by repeat (first | exact sb_refl | exact sb_nil | refine sb_cons (by repeat (first | exact pick_head | apply pick_tail | apply pick_app)) ?_ | refine sb_app (by repeat (first | exact cut_head | exact cut_all | apply cut_tail | apply cut_app)) ?_ | exact sb_one (by repeat (first | exact cut_head | exact cut_all | apply cut_tail | apply cut_app))))⟩, by rw [w_succ (by omega)]; simp [intOf] <;> omega⟩
      · simp only [decide_eq_false_iff_not] at g1
        rw [List.take_of_length_le (by omega)] at hq'
        refine s_ret ⟨?_, cl p 71 (lkC bq bw ⟨oo, (ids A).length + 1, cc⟩) :: (bq, oq') :: (bw, ow') :: (cq' ++ (cw' ++ co')), ?_, by simp only [List.cons_append, List.append_assoc]; exact H.sub (by repeat (first | exact sb_refl | exact sb_nil | refine sb_cons (by repeat (first | exact pick_head | apply pick_tail | apply pick_app)) ?_ | refine sb_app (by repeat (first | exact cut_head | exact cut_all | apply cut_tail | apply cut_app)) ?_ | exact sb_one (by repeat (first | exact cut_head | exact cut_all | apply cut_tail | apply cut_app))))⟩
        · unfold reqE
          rw [if_neg (by rw [hsr]; simp), hwt]
          rfl
        · unfold reqS
          rw [if_pos ⟨hsr, hwt⟩]
          refine ⟨bq, bw, oq', ow', ⟨oo, (ids A).length + 1, cc⟩, cq', cw', co', rfl, hq', hw', ⟨by simp [ids], ?_⟩, hg.snoc (want_none.1 hwt) hS, fun r hr => ?_⟩
          · have e : ids (A ++ [(t, l)]) = ids A ++ [t] := by simp [ids]
            rw [e, List.length_append, List.map_append, List.flatten_append]
            simpa [vS] using ho3
          · rcases List.mem_append.1 hr with hr | hr
            · exact hi r hr
            · simp only [List.mem_singleton] at hr
              subst hr
              exact ⟨ht, hin⟩
end
end Go.Proofs.Ytdepohepogocgaa
