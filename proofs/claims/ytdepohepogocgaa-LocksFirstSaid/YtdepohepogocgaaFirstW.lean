/- LocksFirst, walked. -/
import Derived.Test.YtdepohepogocgaaDelI
import Derived.Test.YtdepohepogocgaaLimU
import Derived.Test.YtdepohepogocgaaLkC
import Derived.Test.YtdepohepogocgaaArgs16
set_option linter.unusedVariables false
set_option linter.unusedSimpArgs false
set_option maxRecDepth 100000
set_option maxHeartbeats 4000000
namespace Go.Proofs.Ytdepohepogocgaa
open Go hiding Expr
open Go.RowKit Tr

structure WW where
  o : Option Addr
  cap : Nat
  l : List Lk
def wwr (x : WW) : List Value := [.slice x.o x.l.length x.cap]
def u8r (x : Int) : List Value := [.int .u8 x]
def Fresh (i : Nat) (A : St) : Prop := ∀ t ∈ ids A, t.p = 0 ∧ t.s < i
theorem Fresh.none {i : Nat} {A : St} (h : Fresh i A) : wantOf A (bi i) = none := want_none.2 fun hm => by have := (h _ hm).2; simp [bi] at this
theorem ids_append {A B : St} : ids (A ++ B) = ids A ++ ids B := by simp [ids]
section
variable {w : World} {o o3 : Option Addr} {S : List WW} {U : List Int} {cap cap3 : Nat}
theorem first_c (hS : RowsAt w o 1 (S.map wwr)) (hin : ∀ x ∈ S, RowsAt w x.o 3 (x.l.map lr)) (hok : ∀ x ∈ S, (∀ y ∈ x.l, InK y.k) ∧ x.l.length ≤ 5864062014805) (hcap : S.length ≤ cap)
    (hU : RowsAt w o3 1 (U.map u8r)) (hUi : ∀ x ∈ U, 0 ≤ x ∧ x ≤ 255) :
    Calls Try.prog 4 #[.slice o S.length cap, .slice o3 U.length cap3] w fun e w' => e = .returned (.bool true) ∧ Fr [] w w' := by
  apply c4
  refine s_call new_c ?_
  rintro _ u ⟨r, c, rfl, hL, H⟩
  refine ⟨_, rfl, s_asP ?_⟩
  have H : Has w u (c ++ []) := by rw [List.append_nil]; exact H
  refine s_blk (fun x W => Has w W (c ++ [])) ?_ ?_
  · clear H
    rintro vs j W H
    refine s_min (s_asI (s_req ⟨by omega, by omega⟩ ?_))
    obtain ⟨n, hn1, hn2, hn3⟩ : ∃ n : Nat, (min (S.length : Int) 40).toNat = n ∧ n ≤ S.length ∧ n ≤ 40 := ⟨_, rfl, by omega, by omega⟩
    rw [hn1, sb_zero]
    have H : Has w W ([] ++ (c ++ [])) := H
    refine s_loop (fun vs W => ∃ (i : Nat) (A : St) (v : Value) (c1 c mm : Hp), vs = [v, .int .i64 i] ∧ i ≤ n ∧ OwnC 27 2 v (ids A).length ((ids A).map ir).flatten c1 ∧ LkAt r A c ∧ Fresh i A ∧ A.length ≤ i ∧ Sz A ∧ Has w W (c1 ++ (c ++ mm))) (fun vs _ => n - (intOf (vs.getD 1 undef)).toNat)
      ⟨0, [], _, [], c, [], rfl, by omega, OwnC.nil, hL, by intro t ht; simp [ids] at ht, by simp, ⟨by simp, by simp⟩, H⟩ ?_
    clear H hL
    rintro _ j W ⟨i, A, v, c1, c, mm, rfl, hi, hov, hL, hfr, hAi, hz, H⟩
    have hg : Good A := by obtain ⟨_, _, _, _, _, _, _, _, _, _, _, _, hg, hi⟩ := hL; exact hg
    have hin' : InA A := by obtain ⟨_, _, _, _, _, _, _, _, _, _, _, _, _, hi⟩ := hL; exact hi
    have hidl : (ids A).length = A.length := by simp [ids]
    obtain ⟨ov, cv, rfl⟩ := hov.slice
    refine s_asS (s_asI (s_ite (fun g1 => ?_) (fun g1 => ?_)))
    · simp only [decide_eq_true_eq] at g1
      have hlt : i < S.length := by omega
      obtain ⟨x, hx⟩ : ∃ x, S[i]? = some x := ⟨_, List.getElem?_eq_getElem hlt⟩
      have hxm := List.mem_of_getElem? hx
      obtain ⟨hk, hxl⟩ := hok x hxm
      obtain ⟨g, off, he, _, hc⟩ := (H.rows hS).at (j := i) (r := wwr x) (by rw [List.getElem?_map, hx]; rfl)
      refine s_req ⟨by omega, by omega⟩ ⟨g, off, he, s_loadS (hc 0 _ rfl) (s_call (id_c (n := i)) ?_)⟩
      rintro _ u ⟨rfl, f⟩
      have H := H.fr0 f
      have hbi : InI (bi i) := by unfold InI bi; simp only; omega
      refine ⟨_, rfl, s_asA (s_req rfl (s_asI (s_asI ?_)))⟩
      refine s_call (req_c (t := bi i) (l := x.l) H (c := c) (by repeat (first | exact cut_head | exact cut_all | apply cut_tail | apply cut_app)) hL ⟨by omega, hxl⟩ hbi rfl hk (fun u2 H2 => H2.rows (hin x hxm))) ?_
      rintro _ u ⟨rfl, c', hL', H⟩
      refine ⟨_, rfl, s_asI (s_call (may_c (H.rows (hin x hxm)) hxl) ?_)⟩
      rintro _ u ⟨rfl, f⟩
      have H := H.fr0 f
      have hno := hfr.none
      cases hsb : srtB x.l with
      | false =>
        have e1 : reqE A (bi i) x.l = 1 := by unfold reqE; rw [if_pos hsb]
        have e2 : reqS A (bi i) x.l = A := by unfold reqS; rw [if_neg (by rw [hsb]; simp)]
        rw [e2] at hL'
        rw [e1]
        refine ⟨_, rfl, s_asB (s_false (by decide) (s_false (by decide) (s_next (by first | exact ⟨rfl, rfl⟩ | trivial) ?_)))⟩
        simp (config := { decide := true }) only [if_true, if_false]
        exact ⟨⟨i + 1, A, _, c1, c', mm, by rw [w_succ (by omega)], by omega, hov, hL', fun t ht => by have := hfr t ht; omega, by omega, hz, H.sub (by repeat (first | exact sb_refl | exact sb_nil | refine sb_cons (by repeat (first | exact pick_head | apply pick_tail | apply pick_app)) ?_ | refine sb_app (by repeat (first | exact cut_head | exact cut_all | apply cut_tail | apply cut_app)) ?_ | exact sb_one (by repeat (first | exact cut_head | exact cut_all | apply cut_tail | apply cut_app))))⟩, by rw [w_succ (by omega)]; simp [intOf] <;> omega⟩
      | true =>
        have e1 : reqE A (bi i) x.l = 0 := by unfold reqE; rw [if_neg (by rw [hsb]; simp), hno]; rfl
        have e2 : reqS A (bi i) x.l = A ++ [(bi i, x.l)] := by unfold reqS; rw [if_pos ⟨hsb, hno⟩]
        rw [e2] at hL'
        rw [e1]
        refine ⟨_, rfl, s_asB (s_false (by decide) (s_true (by decide) (s_call (id_c (n := i)) ?_)))⟩
        rintro _ u ⟨rfl, f⟩
        have H := H.fr0 f
        refine ⟨_, rfl, s_asA (s_req rfl (s_asI (s_asI ?_)))⟩
        (refine h_new H fun n35 u H => ?_)
        refine h_app1 elemI H (c := c1) (by repeat (first | exact cut_head | exact cut_all | apply cut_tail | apply cut_app)) hov (r := n35) (l := ir (bi i)) (by repeat (first | exact pick_head | apply pick_tail | apply pick_app)) rfl (by intro u hu; simp [ir] at hu; rcases hu with rfl | rfl <;> rfl) (by omega) (by omega) ?_
        intro v' c1' u ho' H
        obtain ⟨o', cap', rfl⟩ := ho'.slice
        refine s_asS (s_next (by first | exact ⟨rfl, rfl⟩ | trivial) ?_)
        simp (config := { decide := true }) only [if_true, if_false]
        refine ⟨⟨i + 1, A ++ [(bi i, x.l)], _, c1', c', _, by rw [w_succ (by omega)], by omega, ?_, hL', fun t ht => ?_, by simp; omega, ⟨by simp; omega, fun r hr => ?_⟩, H.sub (by repeat (first | exact sb_refl | exact sb_nil | refine sb_cons (by repeat (first | exact pick_head | apply pick_tail | apply pick_app)) ?_ | refine sb_app (by repeat (first | exact cut_head | exact cut_all | apply cut_tail | apply cut_app)) ?_ | exact sb_one (by repeat (first | exact cut_head | exact cut_all | apply cut_tail | apply cut_app))))⟩, by rw [w_succ (by omega)]; simp [intOf] <;> omega⟩
        · rw [ids_append]
          rw [List.length_append, List.map_append, List.flatten_append]
          simpa [ids] using ho'
        · rw [ids_append] at ht
          rcases List.mem_append.1 ht with ht | ht
          · have := hfr t ht; omega
          · simp [ids] at ht; subst ht; simp [bi]; omega
        · rcases List.mem_append.1 hr with hr | hr
          · exact hz.2 r hr
          · rw [List.mem_singleton] at hr; subst hr; exact hxl
    · refine s_call (all_c (LkW.of H (c := c) (by repeat (first | exact cut_head | exact cut_all | apply cut_tail | apply cut_app)) hL) hz) ?_
      rintro _ u ⟨ra, oa, capa, ca, rfl, hoa, H3⟩
      have H := H.join H3
      have hal := allA_len A
      refine ⟨_, rfl, s_asC (s_req rfl (s_asP (s_call (collI_c (l := allA A) (H.cells (by repeat (first | exact pick_head | apply pick_tail | apply pick_app))) (rowsAt_own (ir2 _) (by decide) hoa H (by repeat (first | exact cut_head | exact cut_all | apply cut_tail | apply cut_app))) (by omega)) ?_)))⟩
      rintro _ u ⟨v2, c2, rfl, ho2, H4⟩
      have H := H.join H4
      obtain ⟨o2, cap2, rfl⟩ := ho2.slice
      have H : Has w u (c1 ++ (c2 ++ (c ++ mm))) := H.sub (by repeat (first | exact sb_refl | exact sb_nil | refine sb_cons (by repeat (first | exact pick_head | apply pick_tail | apply pick_app)) ?_ | refine sb_app (by repeat (first | exact cut_head | exact cut_all | apply cut_tail | apply cut_app)) ?_ | exact sb_one (by repeat (first | exact cut_head | exact cut_all | apply cut_tail | apply cut_app))))
      refine ⟨_, rfl, s_asS (s_loop (fun vs W => ∃ (i : Nat) (A : St) (R : List Ix) (v1 v2 : Value) (c1 c2 c mm : Hp), vs = [v1, v2, .int .i64 i] ∧ i + A.length ≤ 40 ∧ OwnC 27 2 v1 (ids A).length ((ids A).map ir).flatten c1 ∧ OwnC 27 2 v2 R.length (R.map ir).flatten c2 ∧ IsReady A R ∧ LkAt r A c ∧ Sz A ∧
          Has w W (c1 ++ (c2 ++ (c ++ mm)))) (fun vs _ => 40 - (intOf (vs.getD 2 undef)).toNat)
        ⟨0, A, allA A, _, _, c1, c2, c, mm, rfl, by omega, hov, ho2, IsReady.init hg, hL, hz, H⟩ ?_)⟩
      clear H H3 H4 hL hov ho2 hoa hz hal hidl hin' hg hfr hAi
      rintro _ j W ⟨i, A, R, v1, v2, c1, c2, c, mm, rfl, hiA, ho1, ho2, hR, hL, hz, H⟩
      have hg : Good A := by obtain ⟨_, _, _, _, _, _, _, _, _, _, _, _, hg, hi⟩ := hL; exact hg
      have hin' : InA A := by obtain ⟨_, _, _, _, _, _, _, _, _, _, _, _, _, hi⟩ := hL; exact hi
      have hidl : (ids A).length = A.length := by simp [ids]
      have hal := allA_len A
      have hRl : R.length ≤ (allA A).length := hR.1.length_le_of_subset (fun t ht => (hR.2 t).1 ht)
      obtain ⟨o1, cap1, rfl⟩ := ho1.slice
      obtain ⟨o2, cap2, rfl⟩ := ho2.slice
      refine s_asS (s_asS (s_asI (s_ite (fun g2 => ?_) (fun g2 => ?_))))
      · simp only [gt_iff_lt, decide_eq_true_eq] at g2
        obtain ⟨⟨t0, w0'⟩, B, hA⟩ : ∃ a B, A = a :: B := by
          cases A with
          | nil => simp [ids] at g2
          | cons a B => exact ⟨a, B, rfl⟩
        have hr0 : readyA A t0 = true := by rw [hA] at hg ⊢; exact ready_first hg
        have hid0 : (ids A)[0]? = some t0 := by rw [hA]; rfl
        have ht0 : t0 ∈ R := (hR.2 t0).2 (allA_mem.2 ⟨List.mem_of_getElem? hid0, hr0⟩)
        have hit0 : InI t0 := (hin' (t0, w0') (by rw [hA]; simp)).1
        have hRpos : 0 < R.length := List.length_pos_of_mem ht0
        have hRb : ((R.length : Int) == 0) = false := by
          have : (R.length : Int) ≠ 0 := by omega
          simpa using this
        refine s_blk (fun x W => x = [] ∧ Has w W (c1 ++ (c2 ++ (c ++ mm)))) ?_ ?_
        · clear H
          rintro vs j W ⟨rfl, H⟩
          refine s_blk (fun x W => (∃ k : Nat, x = [.int .i64 k] ∧ k < R.length) ∧ Has w W (c1 ++ (c2 ++ (c ++ mm)))) ?_ ?_
          · clear H
            rintro vs j W ⟨⟨k, rfl, hk⟩, H⟩
            obtain ⟨x, hx⟩ : ∃ x, R[k]? = some x := ⟨_, List.getElem?_eq_getElem hk⟩
            have hxa : x ∈ allA A := (hR.2 x).1 (List.mem_of_getElem? hx)
            have hxi : x ∈ ids A := (allA_mem.1 hxa).1
            have hixx : InI x := by
              obtain ⟨rr, hrr, rfl⟩ := List.mem_map.1 hxi
              exact (hin' rr hrr).1
            obtain ⟨g, off, he, _, hc⟩ := (rowsAt_own (ir2 _) (by decide) ho2 H (by repeat (first | exact cut_head | exact cut_all | apply cut_tail | apply cut_app))).at (j := k) (r := ir x) (by rw [List.getElem?_map, hx]; rfl)
            refine s_asI (s_req ⟨by omega, by omega⟩ ⟨g, off, he, s_loadI (hc 0 _ rfl) (s_loadI (hc 1 _ rfl) ?_)⟩)
            (refine h_new H fun n65 u H => ?_)
            iterate 2 refine h_st H (by repeat (first | exact pick_head | apply pick_tail | apply pick_app)) (by first | (simp; done) | exact Nat.le_of_ble_eq_true rfl) rfl fun u H => ?_
            refine h_ldI H (by repeat (first | exact pick_head | apply pick_tail | apply pick_app)) rfl (h_ldI H (by repeat (first | exact pick_head | apply pick_tail | apply pick_app)) rfl ?_)
            refine s_call (rel_c (t := x) H (c := c) (by repeat (first | exact cut_head | exact cut_all | apply cut_tail | apply cut_app)) hL hz hixx) ?_
            rintro _ u ⟨o3', cap3', c3, c', rfl, ho3, hL', H⟩
            have hws : (wantOf A x).isSome = true := by
              cases hh : wantOf A x with
              | some _ => rfl
              | none => exact absurd hxi (want_none.1 hh)
            have e1 : relL A x = relOut A x := by unfold relL; rw [if_pos hws]
            have e2 : relE A x = 0 := by unfold relE; rw [if_pos hws]
            rw [e1] at ho3 ⊢
            rw [e2]
            have hR' := hR.step hg hx
            have hlen' : (relA A x).length < A.length := by
              have h1 := ids_rel (A := A) (t := x)
              have h2 : (ids (relA A x)).length = (relA A x).length := by simp [ids]
              rw [← h2, ← hidl, h1]
              exact List.length_filter_lt_length_iff_exists.2 ⟨x, hxi, by simp⟩
            refine ⟨_, rfl, s_asU (s_req rfl (s_asS (s_asI (s_blk (fun y W => y = [] ∧ Has w W (c3 ++ (c' ++ (cl n65 27 (ir x) :: (c1 ++ (c2 ++ mm)))))) ?_ ?_))))⟩
            · clear H
              rintro vs j W ⟨rfl, H⟩
              refine s_call (dfF_c (t := x) (r := n65) (tr := 27) H (c := c1) (by repeat (first | exact cut_head | exact cut_all | apply cut_tail | apply cut_app)) ho1 rfl (by omega) (fun u H => H.cells (by repeat (first | exact pick_head | apply pick_tail | apply pick_app)))) ?_
              rintro _ u ⟨o4, c4, rfl, ho4, H⟩
              rw [← ids_rel] at ho4 ⊢
              refine ⟨_, rfl, s_asS ?_⟩
              rw [show IntKind.wrap .i64 ((k : Int) + 1) = ((k + 1 : Nat) : Int) from w_succ (by omega)]
              refine s_call (delete_c (k := k) H (c := c2) (by repeat (first | exact cut_head | exact cut_all | apply cut_tail | apply cut_app)) ho2 rfl hk (by omega)) ?_
              rintro _ u ⟨o5, c5, rfl, ho5, H⟩
              have hcl : (cutI R k).length ≤ R.length := by unfold cutI; rw [List.length_append, List.length_take, List.length_drop]; omega
              have hrl : (relOut A x).length ≤ A.length := by rw [← e1]; exact relL_len A x
              refine ⟨_, rfl, s_asS ?_⟩
              refine h_appAll elemI (by decide) H (c := c5) (by repeat (first | exact cut_head | exact cut_all | apply cut_tail | apply cut_app)) ho5 (ir2 (relOut A x)) (ir_one _) (rowsAt_own (ir2 _) (by decide) ho3 H (by repeat (first | exact cut_head | exact cut_all | apply cut_tail | apply cut_app))) (by rw [List.length_map]) (by omega) (by omega) ?_
              intro v6 c6 u ho6 H
              obtain ⟨o6, cap6, rfl⟩ := ho6.slice
              refine s_asS (s_next (by first | exact ⟨rfl, rfl⟩ | trivial) ?_)
              simp (config := { decide := true }) only [if_true, if_false]
              refine ⟨⟨i + 1, relA A x, cutI R k ++ relOut A x, _, _, c4, c6, c', _, by rw [w_succ (by omega)], by omega, ho4, ?_, hR', hL', rel_sz hz, H.sub (by repeat (first | exact sb_refl | exact sb_nil | refine sb_cons (by repeat (first | exact pick_head | apply pick_tail | apply pick_app)) ?_ | refine sb_app (by repeat (first | exact cut_head | exact cut_all | apply cut_tail | apply cut_app)) ?_ | exact sb_one (by repeat (first | exact cut_head | exact cut_all | apply cut_tail | apply cut_app))))⟩, by rw [w_succ (by omega)]; simp [intOf] <;> omega⟩
              rw [List.length_append, List.map_append, List.flatten_append]
              exact ho6
            · refine s_false (by decide) (h_ldI H (by repeat (first | exact pick_head | apply pick_tail | apply pick_app)) rfl (h_ldI H (by repeat (first | exact pick_head | apply pick_tail | apply pick_app)) rfl ?_))
              refine s_call (cont_c (l := ids A) (t := x) (rowsAt_own (ir2 _) (by decide) ho1 H (by repeat (first | exact cut_head | exact cut_all | apply cut_tail | apply cut_app))) rfl (by omega)) ?_
              rintro _ u ⟨rfl, f⟩
              have H := H.fr0 f
              refine ⟨_, rfl, s_asB (s_false (by simp [hxi]) (s_next (by first | exact ⟨rfl, rfl⟩ | trivial) ?_))⟩
              simp (config := { decide := true }) only [if_true, if_false]
              exact ⟨trivial, H.sub (by repeat (first | exact sb_refl | exact sb_nil | refine sb_cons (by repeat (first | exact pick_head | apply pick_tail | apply pick_app)) ?_ | refine sb_app (by repeat (first | exact cut_head | exact cut_all | apply cut_tail | apply cut_app)) ?_ | exact sb_one (by repeat (first | exact cut_head | exact cut_all | apply cut_tail | apply cut_app))))⟩
          · refine s_ite (fun g3 => ?_) (fun g3 => s_next (by first | exact ⟨rfl, rfl⟩ | trivial) ?_)
            · simp only [decide_eq_true_eq] at g3
              obtain ⟨y, hy⟩ : ∃ y, U[i]? = some y := ⟨_, List.getElem?_eq_getElem (by omega)⟩
              obtain ⟨g, off, he, _, hc⟩ := (H.rows hU).at (j := i) (r := u8r y) (by rw [List.getElem?_map, hy]; rfl)
              have hyb := hUi y (List.mem_of_getElem? hy)
              refine s_req ⟨by omega, by omega⟩ ⟨g, off, he, s_loadI (hc 0 _ rfl) (s_req (by omega) (s_next (by first | exact ⟨rfl, rfl⟩ | trivial) ?_))⟩
              simp (config := { decide := true }) only [if_true, if_false]
              rw [wrap64 (by omega) (by omega)]
              refine ⟨⟨y.toNat % R.length, ?_, Nat.mod_lt _ hRpos⟩, H⟩
              rw [Int.natCast_emod, Int.toNat_of_nonneg hyb.1, Int.tmod_eq_emod_of_nonneg hyb.1]
            · simp (config := { decide := true }) only [if_true, if_false]
              exact ⟨⟨0, rfl, hRpos⟩, H⟩
        · obtain ⟨g, off, he, _, hc⟩ := (rowsAt_own (ir2 _) (by decide) ho1 H (by repeat (first | exact cut_head | exact cut_all | apply cut_tail | apply cut_app))).at (j := 0) (r := ir t0) (by rw [List.getElem?_map, hid0]; rfl)
          refine s_req ⟨by omega, by omega⟩ ⟨g, off, he, s_loadI (by simpa using hc 0 _ rfl) (s_loadI (by simpa using hc 1 _ rfl) ?_)⟩
          refine s_call (ready_c (LkW.of H (c := c) (by repeat (first | exact cut_head | exact cut_all | apply cut_tail | apply cut_app)) hL) hz hit0) ?_
          rintro _ u ⟨rfl, f⟩
          have H := H.fr0 f
          refine ⟨_, rfl, s_asB (s_false (by rw [hr0]; rfl) (s_false hRb (s_next (by first | exact ⟨rfl, rfl⟩ | trivial) ?_)))⟩
          simp (config := { decide := true }) only [if_true, if_false]
          exact ⟨trivial, H⟩
      · simp only [gt_iff_lt, decide_eq_false_iff_not] at g2
        obtain rfl : A = [] := List.eq_nil_of_length_eq_zero (by omega)
        have hR0 : R.length = 0 := by have : (allA ([] : St)).length = 0 := rfl
                                      omega
        refine s_true (by simp [hR0]) (s_call (len16_c (LkW.of H (c := c) (by repeat (first | exact cut_head | exact cut_all | apply cut_tail | apply cut_app)) hL)) ?_)
        rintro _ u ⟨rfl, f⟩
        have H := H.fr0 f
        refine ⟨_, rfl, s_asI (s_true (by decide) (s_call (keys16_c (LkW.of H (c := c) (by repeat (first | exact cut_head | exact cut_all | apply cut_tail | apply cut_app)) hL) (by simp [total])) ?_))⟩
        rintro _ u ⟨v7, c7, rfl, ho7, H7⟩
        have H := H.join H7
        obtain ⟨o7, cap7, rfl⟩ := ho7.slice
        have hk0 : (keysA []).length = 0 := by have := keysA_len []; simp [total] at this; simp [this]
        exact ⟨_, rfl, s_asS (s_ret ⟨by rw [hk0]; rfl, H.base⟩)⟩
  · refine s_call begun_c ?_
    rintro _ u ⟨rfl, f⟩
    have H := H.fr0 f
    refine ⟨_, rfl, s_asB (s_false rfl (s_false rfl (s_next (by first | exact ⟨rfl, rfl⟩ | trivial) ?_)))⟩
    simp (config := { decide := true }) only [if_true, if_false]
    exact H
end
theorem wws_of {w : World} (rows : List (List Value)) (h : ∀ r ∈ rows, FitsD w [.lst lfLk 24] r) : ∃ X : List WW, rows = X.map wwr ∧ (∀ x ∈ X, RowsAt w x.o 3 (x.l.map lr)) ∧ ∀ x ∈ X, (∀ y ∈ x.l, InK y.k) ∧ x.l.length ≤ 5864062014805 := by
  induction rows with
  | nil => exact ⟨[], rfl, by simp, by simp⟩
  | cons r rows ih =>
    obtain ⟨X, rfl, h1, h2⟩ := ih (fun r hr => h r (by simp [hr]))
    obtain ⟨o, len, cap, rows', _, rfl, hl, hc, hb, ha, hr, h4⟩ := (h r (by simp)).lst
    obtain rfl := h4.nil
    obtain ⟨l, rfl, hk⟩ := locks_of rows' hr
    rw [List.length_map] at hl
    subst hl
    simp only [reachBytes] at hb
    refine ⟨⟨o, cap, l⟩ :: X, rfl, fun y hy => ?_, fun y hy => ?_⟩
    · rcases List.mem_cons.1 hy with rfl | hy
      · exact ha
      · exact h1 y hy
    · rcases List.mem_cons.1 hy with rfl | hy
      · exact ⟨hk, by simp only; omega⟩
      · exact h2 y hy
theorem u8s_of {w : World} (rows : List (List Value)) (h : ∀ r ∈ rows, FitsD w [.flat (.int .u8)] r) : ∃ X : List Int, rows = X.map u8r ∧ ∀ x ∈ X, 0 ≤ x ∧ x ≤ 255 := by
  induction rows with
  | nil => exact ⟨[], rfl, by simp⟩
  | cons r rows ih =>
    obtain ⟨X, rfl, h1⟩ := ih (fun r hr => h r (by simp [hr]))
    obtain ⟨a, _, rfl, w1, h2⟩ := (h r (by simp)).int
    obtain rfl := h2.nil
    refine ⟨a :: X, rfl, fun y hy => ?_⟩
    rcases List.mem_cons.1 hy with rfl | hy
    · simp [Lit.wf, IntKind.min, IntKind.max, IntKind.signed, IntKind.bits] at w1
      omega
    · exact h1 y hy
end Go.Proofs.Ytdepohepogocgaa
