/- Clone, walked. -/
import Derived.Test.YtdepohepogocgaaLkC
set_option linter.unusedVariables false
set_option linter.unusedSimpArgs false
set_option maxRecDepth 100000
set_option maxHeartbeats 4000000
namespace Go.Proofs.Ytdepohepogocgaa
open Go hiding Expr
open Go.RowKit Tr

theorem Good.take {A : St} {i : Nat} (h : Good A) : Good (A.take i) := by
  rw [← List.take_append_drop i A] at h
  exact h.pre
theorem take_total {A : St} {i : Nat} : total (A.take i) ≤ total A := by
  have : total A = total (A.take i) + total (A.drop i) := by rw [← total_append, List.take_append_drop]
  omega
section
variable {w : World} {p : Nat} {A : St}
theorem clone16_c (h : LkW w p A) (hz : Sz A) : Calls Try.prog 31 #[.pointer (some ⟨p, 0, none⟩)] w fun e w' => ∃ r c, e = .returned (.pointer (some ⟨r, 0, none⟩)) ∧ LkAt r A c ∧ Has w w' c := by
  have hh := h
  obtain ⟨c, ⟨bq, bw, oq, ow, so, cq, cw, co, rfl, hq, hw, ⟨ho1, ho2⟩, hg, hi⟩, HL⟩ := h
  have hrows : RowsAt w so.o 2 ((ids A).map ir) := rowsAt_own (ir2 _) (by decide) (n := so.n) (cap := so.c) (by rw [← ho1] at ho2; exact ho2) HL (by repeat (first | exact cut_head | exact cut_all | apply cut_tail | apply cut_app))
  have hlen : (ids A).length = A.length := by simp [ids]
  apply c31
  refine s_call (none_c hh) ?_
  rintro _ _ ⟨rfl, rfl⟩
  refine ⟨_, rfl, s_asB (s_false rfl (s_call new_c ?_))⟩
  rintro _ u ⟨r, c2, rfl, hL2, H⟩
  refine ⟨_, rfl, s_asP (h_ldS (HL.fr0 H.base) (by repeat (first | exact pick_head | apply pick_tail | apply pick_app)) rfl ?_)⟩
  refine s_loop (fun vs W => ∃ (i : Nat) (c mm : Hp), vs = [.int .i64 i] ∧ i ≤ A.length ∧ LkAt r (A.take i) c ∧ Has w W (c ++ mm)) (fun vs _ => A.length - (intOf (vs.getD 0 undef)).toNat)
    ⟨0, c2, [], rfl, by omega, hL2, by rw [List.append_nil]; exact H⟩ ?_
  clear H hL2
  rintro _ j W ⟨i, c, mm, rfl, hil, hL, H⟩
  refine s_asI (s_ite (fun g1 => ?_) (fun g1 => ?_))
  · simp only [decide_eq_true_eq] at g1
    have hlt : i < A.length := by omega
    obtain ⟨⟨t, l⟩, hr⟩ : ∃ r, A[i]? = some r := ⟨_, List.getElem?_eq_getElem hlt⟩
    have hm := List.mem_of_getElem? hr
    have hwt := want_of hg hm
    have hit := hi _ hm
    obtain ⟨g, off, he, _, hc⟩ := (RowsAt.fr hrows H.base).at (j := i) (r := ir t) (by rw [List.getElem?_map]; unfold ids; rw [List.getElem?_map, hr]; rfl)
    refine s_req ⟨by omega, g1⟩ ⟨g, off, he, s_loadI (hc 0 _ rfl) (s_loadI (hc 1 _ rfl) ?_)⟩
    (refine h_new H fun n16 u H => ?_)
    iterate 2 refine h_st H (by repeat (first | exact pick_head | apply pick_tail | apply pick_app)) (by first | (simp; done) | exact Nat.le_of_ble_eq_true rfl) rfl fun u H => ?_
    refine h_drew H fun u H => h_ldI H (by repeat (first | exact pick_head | apply pick_tail | apply pick_app)) rfl (h_ldI H (by repeat (first | exact pick_head | apply pick_tail | apply pick_app)) rfl ?_)
    obtain ⟨s, cx, hx, e1, es, e2, e3⟩ := open_w (t := t) hw HL (by repeat (first | exact cut_head | exact cut_all | apply cut_tail | apply cut_app))
    have HL := HL.fr0 H.base
    rw [hwt, Option.getD_some] at e2 e3
    obtain ⟨lk, hlk⟩ := keyOfI hit.1
    refine h_ldM HL (by repeat (first | exact pick_head | apply pick_tail | apply pick_app)) rfl (h_ldI H (by repeat (first | exact pick_head | apply pick_tail | apply pick_app)) rfl (h_ldI H (by repeat (first | exact pick_head | apply pick_tail | apply pick_app)) rfl ?_))
    refine f_look1 HL (bk := bw) (o := ow) (a := t) (kf := kfI) (by repeat (first | exact pick_head | apply pick_tail | apply pick_app)) hx keyedI map69 (zero28 u) (fun x => kfI_inj) hlk ?_
    rw [e1]
    unfold vS
    have hll : l.length ≤ 5864062014805 := hz.2 _ hm
    have hz1 := hz.1
    have htt := take_total (A := A) (i := i)
    have htl : (A.take i).length = i := by rw [List.length_take]; omega
    refine s_asS (s_chk (hc_cons H (by repeat (first | exact pick_head | apply pick_tail | apply pick_app)) rfl (hc_cons H (by repeat (first | exact pick_head | apply pick_tail | apply pick_app)) rfl c_nil)) ?_)
    have hb := H.base
    refine s_call (req_c (t := t) (l := l) (p := r) (A := A.take i) (m' := cl n16 27 (ir t) :: mm) (c := c) H (by exact (cut_tail cut_head)) hL ⟨by have := hz.1; omega, hll⟩ hit.1 e2 hit.2 (fun u2 H2 => ?_)) ?_
    · exact RowsAt.fr e3 H2.base
    · rintro _ u2 ⟨rfl, c3, hL3, H3⟩
      refine ⟨_, rfl, s_asI (s_chk c_nil (s_next (by first | exact ⟨rfl, rfl⟩ | trivial) ?_))⟩
      simp (config := { decide := true }) only [if_true, if_false]
      refine ⟨⟨i + 1, c3, _, by rw [w_succ (by omega)], by omega, ?_, H3⟩, by rw [w_succ (by omega)]; simp [intOf] <;> omega⟩
      have hno : t ∉ ids (A.take i) := by
        intro hm2
        have h1 := (hg.take (i := i + 1)).nd
        have e : A.take (i + 1) = A.take i ++ [(t, l)] := by rw [List.take_add_one, hr]; rfl
        rw [e] at h1
        unfold ids at h1 hm2
        rw [List.map_append, List.nodup_append] at h1
        exact h1.2.2 t hm2 t (by simp) rfl
      have e : reqS (A.take i) t l = A.take (i + 1) := by
        unfold reqS
        rw [if_pos ⟨srtB_iff.2 (hg.srt _ hm), want_none.2 hno⟩, List.take_add_one, hr]
        rfl
      rw [← e]
      exact hL3
  · simp only [decide_eq_false_iff_not] at g1
    rw [List.take_of_length_le (by omega)] at hL
    exact s_ret ⟨r, c, rfl, hL, H.left⟩
end
end Go.Proofs.Ytdepohepogocgaa
