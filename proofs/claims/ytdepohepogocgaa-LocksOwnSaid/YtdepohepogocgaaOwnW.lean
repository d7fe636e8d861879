/- LocksOwn, walked. -/
import Derived.Test.YtdepohepogocgaaEqW
import Derived.Test.YtdepohepogocgaaArgs16
set_option linter.unusedVariables false
set_option linter.unusedSimpArgs false
set_option maxRecDepth 100000
set_option maxHeartbeats 4000000
namespace Go.Proofs.Ytdepohepogocgaa
open Go hiding Expr
open Go.RowKit Tr

/-- A list of one's own of which each row's cell f is a truth. -/
def BoolsAt (sz f n : Nat) (xs : List Value) : Prop := ∀ i, i < n → ∃ b, xs[i * sz + f]? = some (.bool b)
theorem BoolsAt.set {sz f n : Nat} {xs : List Value} (h : BoolsAt sz f n xs) (i : Nat) (b : Bool) : BoolsAt sz f n (xs.set (i * sz + f) (.bool b)) := by
  intro j hj
  obtain ⟨b', hb⟩ := h j hj
  rw [List.getElem?_set]
  split
  · rename_i he
    have := (List.getElem?_eq_some_iff.1 hb).1
    rw [← he] at this
    exact ⟨b, by rw [if_pos this]⟩
  · exact ⟨b', hb⟩
theorem bools_of {rows : List (List Value)} {sz f : Nat} (hr : ∀ r ∈ rows, r.length = sz) (h : ∀ r ∈ rows, ∃ b, r[f]? = some (.bool b)) : BoolsAt sz f rows.length rows.flatten := by
  intro i hi
  obtain ⟨b, hb⟩ := h _ (List.getElem_mem hi)
  exact ⟨b, flat_get hr (List.getElem?_eq_getElem hi) hb⟩
section
variable {P : Program} {Q : Ending → World → Prop} {ρ : Lv} {w0 w : World} {m m' c : Hp} {e : TypeId} {sz f n cap : Nat} {o : Option Addr} {xs : List Value}
/-- One truth turned. -/
theorem h_flip {i : Nat} {x : T} (H : Has w0 w (c ++ m)) (ho : OwnC e sz (.slice o n cap) n xs c) (hb : BoolsAt sz f n xs) (hi : i < n) (hin : (i : Int) < n)
    (hk : ∀ xs' c' w', OwnC e sz (.slice o n cap) n xs' c' → BoolsAt sz f n xs' → Has w0 w' (c' ++ m) → x.sem P Q ρ w') :
    (T.req (0 ≤ (i : Int) ∧ (i : Int) < n) (T.sm o fun g off => T.ldB g (off + (i : Int).toNat * sz + f) fun b => T.req (0 ≤ (i : Int) ∧ (i : Int) < n) (T.sm o fun g2 off2 => T.st g2 (off2 + (i : Int).toNat * sz + f) (.bool (!b)) x))).sem P Q ρ w := by
  obtain ⟨b, hxb⟩ := hb i hi
  have hlt := (List.getElem?_eq_some_iff.1 hxb).1
  obtain ⟨g, cap', sp, hv, rfl, h1, h2, h3⟩ := ho.pos (by omega)
  cases hv
  refine s_req ⟨by omega, hin⟩ ⟨g, 0, rfl, ?_⟩
  rw [Int.toNat_natCast]
  refine h_ldB H cut_head (by rw [show 0 + i * sz + f = i * sz + f by omega, List.getElem?_append_left hlt]; exact hxb) (s_req ⟨by omega, hin⟩ ⟨g, 0, rfl, ?_⟩)
  show (T.st g (0 + i * sz + f) (.bool (!b)) x).sem P Q ρ w
  refine h_stC H cut_head ho hlt rfl fun c' w' ho' H' => hk _ c' w' ho' (hb.set i (!b)) H'
end
section
variable {w : World} {o : Option Addr} {l : List Lk} {cap : Nat}
theorem own_c (hW : RowsAt w o 3 (l.map lr)) (hin : ∀ y ∈ l, InK y.k) (hmax : l.length ≤ 5864062014805) : Calls Try.prog 5 #[.slice o l.length cap] w fun e w' => e = .returned (.bool true) ∧ Fr [] w w' := by
  apply c5
  refine s_call new_c ?_
  rintro _ u ⟨r, c, rfl, hL, H⟩
  refine ⟨_, rfl, s_asP ?_⟩
  have H : Has w u (c ++ []) := by rw [List.append_nil]; exact H
  refine s_blk (fun x W => Has w W (c ++ [])) ?_ ?_
  · clear H
    rintro vs j W H
    refine s_call rnew_c ?_
    rintro _ u ⟨r2, cr, rfl, hR, H2⟩
    have H := H.join H2
    refine ⟨_, rfl, s_asP (s_call (cloneL_c (H.rows hW) rfl hmax) ?_)⟩
    rintro _ u ⟨o3, cap3, cm, rfl, ho3, H3⟩
    have H := H.join H3
    refine ⟨_, rfl, s_asS (s_call (id_c (n := 1)) ?_)⟩
    rintro _ u ⟨rfl, f⟩
    have H := H.fr0 f
    have hA := reqE [] (bi 1) l
    refine ⟨_, rfl, s_asA (s_req rfl (s_asI (s_asI ?_)))⟩
    have H : Has w u (c ++ (cm ++ cr)) := H.sub (by repeat (first | exact sb_refl | exact sb_nil | refine sb_cons (by repeat (first | exact pick_head | apply pick_tail | apply pick_app)) ?_ | refine sb_app (by repeat (first | exact cut_head | exact cut_all | apply cut_tail | apply cut_app)) ?_ | exact sb_one (by repeat (first | exact cut_head | exact cut_all | apply cut_tail | apply cut_app))))
    refine s_call (req_c (t := bi 1) (l := l) H cut_head hL ⟨by decide, hmax⟩ (b_in (by omega)) rfl hin (fun u2 H2 => rowsAt_own (lr3 l) (by decide) ho3 H2 (by repeat (first | exact cut_head | exact cut_all | apply cut_tail | apply cut_app)))) ?_
    rintro _ u ⟨rfl, c', hL', H⟩
    refine ⟨_, rfl, s_asI (s_call (id_c (n := 1)) ?_)⟩
    rintro _ u ⟨rfl, f⟩
    have H := H.fr0 f
    refine ⟨_, rfl, s_asA (s_req rfl (s_asI (s_asI ?_)))⟩
    refine s_call (rreq_c (t := bi 1) (l := l) H (c := cr) (by repeat (first | exact cut_head | exact cut_all | apply cut_tail | apply cut_app)) hR ⟨by decide, by omega⟩ rfl (fun u2 H2 => H2.rows hW)) ?_
    rintro _ u ⟨rfl, X', cr', hX', hR', H⟩
    have hS : Sz (reqS [] (bi 1) l) ∧ total (reqS [] (bi 1) l) ≤ 5864062014805 := by
      unfold reqS
      split
      · refine ⟨⟨by simp, fun r hr => ?_⟩, by simp [total]; exact hmax⟩
        simp at hr; subst hr; exact hmax
      · exact ⟨⟨by simp, by simp⟩, by simp [total]⟩
    change X'.map AW.row = reqS [] (bi 1) l at hX'
    refine ⟨_, rfl, s_asI (s_false (by simp) ?_)⟩
    generalize reqS [] (bi 1) l = A at *
    have hb : BoolsAt 3 2 l.length (l.map lr).flatten := by
      have := bools_of (f := 2) (lr3 l) (fun r hr => by obtain ⟨x, _, rfl⟩ := List.mem_map.1 hr; exact ⟨_, rfl⟩)
      rw [List.length_map] at this
      exact this
    have H : Has w u (cm ++ (c' ++ cr')) := H.sub (by repeat (first | exact sb_refl | exact sb_nil | refine sb_cons (by repeat (first | exact pick_head | apply pick_tail | apply pick_app)) ?_ | refine sb_app (by repeat (first | exact cut_head | exact cut_all | apply cut_tail | apply cut_app)) ?_ | exact sb_one (by repeat (first | exact cut_head | exact cut_all | apply cut_tail | apply cut_app))))
    refine s_loop (fun vs W => ∃ (i : Nat) (xs : List Value) (cm : Hp), vs = [.int .i64 i] ∧ i ≤ l.length ∧ OwnC 63 3 (.slice o3 l.length cap3) l.length xs cm ∧ BoolsAt 3 2 l.length xs ∧ Has w W (cm ++ (c' ++ cr'))) (fun vs _ => l.length - (intOf (vs.getD 0 undef)).toNat)
      ⟨0, _, cm, rfl, by omega, ho3, hb, H⟩ ?_
    clear H ho3 hb H2 H3
    rintro _ j W ⟨i, xs, cm, rfl, hi, ho3, hb, H⟩
    refine s_asI (s_ite (fun g1 => ?_) (fun g1 => ?_))
    · simp only [decide_eq_true_eq] at g1
      refine h_flip H ho3 hb (by omega) g1 fun xs' cm' W' ho' hb' H' => s_next (by first | exact ⟨rfl, rfl⟩ | trivial) ?_
      simp (config := { decide := true }) only [if_true, if_false]
      exact ⟨⟨i + 1, xs', cm', by rw [w_succ (by omega)], by omega, ho', hb', H'⟩, by rw [w_succ (by omega)]; simp [intOf] <;> omega⟩
    · have hin' : InA A := by obtain ⟨_, _, _, _, _, _, _, _, _, _, _, _, _, hi⟩ := hL'; exact hi
      refine s_call (keys16_c (LkW.of H (c := c') (by repeat (first | exact cut_head | exact cut_all | apply cut_tail | apply cut_app)) hL') (by omega)) ?_
      rintro _ u ⟨v4, c4, rfl, ho4, H4⟩
      have H := H.join H4
      obtain ⟨o4, cap4, rfl⟩ := ho4.slice
      have hkl := keysA_len A
      have hk2 := keysA_in hin'
      generalize keysA A = ks at *
      have H : Has w u (c4 ++ (c' ++ (cr' ++ []))) := H.sub (by repeat (first | exact sb_refl | exact sb_nil | refine sb_cons (by repeat (first | exact pick_head | apply pick_tail | apply pick_app)) ?_ | refine sb_app (by repeat (first | exact cut_head | exact cut_all | apply cut_tail | apply cut_app)) ?_ | exact sb_one (by repeat (first | exact cut_head | exact cut_all | apply cut_tail | apply cut_app))))
      refine ⟨_, rfl, s_asS (s_loop (fun vs W => ∃ (i : Nat) (mm : Hp), vs = [.int .i64 i] ∧ i ≤ ks.length ∧ Has w W (c4 ++ (c' ++ (cr' ++ mm)))) (fun vs _ => ks.length - (intOf (vs.getD 0 undef)).toNat)
        ⟨0, [], rfl, by omega, H⟩ ?_)⟩
      clear H H4
      rintro _ j W ⟨i2, mm, rfl, hi2, H⟩
      refine s_asI (s_ite (fun g2 => ?_) (fun g2 => ?_))
      · simp only [decide_eq_true_eq] at g2
        obtain ⟨k, hk⟩ : ∃ k, ks[i2]? = some k := ⟨_, List.getElem?_eq_getElem (by omega)⟩
        obtain ⟨g, off, he, q1, q2⟩ := (keysAt_own ho4 H (by repeat (first | exact cut_head | exact cut_all | apply cut_tail | apply cut_app))).get hk
        refine s_req ⟨by omega, by omega⟩ ⟨g, off, he, s_loadI q1 (s_loadI q2 ?_)⟩
        (refine h_new H fun n44 u H => ?_)
        iterate 2 refine h_st H (by repeat (first | exact pick_head | apply pick_tail | apply pick_app)) (by first | (simp; done) | exact Nat.le_of_ble_eq_true rfl) rfl fun u H => ?_
        refine h_ldI H (by repeat (first | exact pick_head | apply pick_tail | apply pick_app)) rfl (h_ldI H (by repeat (first | exact pick_head | apply pick_tail | apply pick_app)) rfl ?_)
        refine s_call (queue_c (LkW.of H (c := c') (by repeat (first | exact cut_head | exact cut_all | apply cut_tail | apply cut_app)) hL') hS.1 (hk2 k (List.mem_of_getElem? hk))) ?_
        rintro _ u ⟨v5, c5, rfl, ho5, H5⟩
        have H := H.join H5
        obtain ⟨o5, cap5, rfl⟩ := ho5.slice
        have hb5 : BoolsAt 4 3 (queueA A k).length ((queueA A k).map wtr).flatten := by
          have := bools_of (f := 3) (wtr4 (queueA A k)) (fun r hr => by obtain ⟨x, _, rfl⟩ := List.mem_map.1 hr; exact ⟨_, rfl⟩)
          rw [List.length_map] at this
          exact this
        have hql := queueA_len A k
        have hA1 := hS.1.1
        generalize queueA A k = qu at *
        have H : Has w u (c5 ++ (c4 ++ (c' ++ (cr' ++ (cl n44 39 (kr k) :: mm))))) := H.sub (by repeat (first | exact sb_refl | exact sb_nil | refine sb_cons (by repeat (first | exact pick_head | apply pick_tail | apply pick_app)) ?_ | refine sb_app (by repeat (first | exact cut_head | exact cut_all | apply cut_tail | apply cut_app)) ?_ | exact sb_one (by repeat (first | exact cut_head | exact cut_all | apply cut_tail | apply cut_app))))
        refine ⟨_, rfl, s_asS (s_loop (fun vs W => ∃ (i : Nat) (xs : List Value) (c5 : Hp), vs = [.int .i64 i] ∧ i ≤ qu.length ∧ OwnC 43 4 (.slice o5 qu.length cap5) qu.length xs c5 ∧ BoolsAt 4 3 qu.length xs ∧ Has w W (c5 ++ (c4 ++ (c' ++ (cr' ++ (cl n44 39 (kr k) :: mm)))))) (fun vs _ => qu.length - (intOf (vs.getD 0 undef)).toNat)
          ⟨0, _, c5, rfl, by omega, ho5, hb5, H⟩ ?_)⟩
        clear H H5 ho5 hb5
        rintro _ j W ⟨i3, xs5, c5, rfl, hi3, ho5, hb5, H⟩
        refine s_asI (s_ite (fun g3 => ?_) (fun g3 => ?_))
        · simp only [decide_eq_true_eq] at g3
          refine h_flip H ho5 hb5 (by omega) g3 fun xs' cm' W' ho' hb' H' => s_next (by first | exact ⟨rfl, rfl⟩ | trivial) ?_
          simp (config := { decide := true }) only [if_true, if_false]
          exact ⟨⟨i3 + 1, xs', cm', by rw [w_succ (by omega)], by omega, ho', hb', H'⟩, by rw [w_succ (by omega)]; simp [intOf] <;> omega⟩
        · refine s_next (by first | exact ⟨rfl, rfl⟩ | trivial) ?_
          simp (config := { decide := true }) only [if_true, if_false]
          exact ⟨⟨i2 + 1, _, by rw [w_succ (by omega)], by omega, H.sub (by repeat (first | exact sb_refl | exact sb_nil | refine sb_cons (by repeat (first | exact pick_head | apply pick_tail | apply pick_app)) ?_ | refine sb_app (by repeat (first | exact cut_head | exact cut_all | apply cut_tail | apply cut_app)) ?_ | exact sb_one (by repeat (first | exact cut_head | exact cut_all | apply cut_tail | apply cut_app))))⟩, by rw [w_succ (by omega)]; simp [intOf] <;> omega⟩
      · refine s_call (id_c (n := 1)) ?_
        rintro _ u ⟨rfl, f⟩
        have H := H.fr0 f
        refine ⟨_, rfl, s_asA (s_req rfl (s_asI (s_asI ?_)))⟩
        refine s_call (equal_c (t := bi 1) (LkW.of H (c := c') (by repeat (first | exact cut_head | exact cut_all | apply cut_tail | apply cut_app)) hL') (RefAt.rv H (c := cr') (by repeat (first | exact cut_head | exact cut_all | apply cut_tail | apply cut_app)) hR') hX' hS.1 hS.2 (b_in (by omega))) ?_
        rintro _ u ⟨rfl, f⟩
        have H := H.fr0 f
        exact ⟨_, rfl, s_asB (s_ret ⟨rfl, H.base⟩)⟩
  · refine s_call begun_c ?_
    rintro _ u ⟨rfl, f⟩
    have H := H.fr0 f
    refine ⟨_, rfl, s_asB (s_false rfl (s_false rfl (s_next (by first | exact ⟨rfl, rfl⟩ | trivial) ?_)))⟩
    simp (config := { decide := true }) only [if_true, if_false]
    exact H
end
end Go.Proofs.Ytdepohepogocgaa
