/- equal, walked: the queues are the document's. -/
import Derived.Test.YtdepohepogocgaaRefD
import Derived.Test.YtdepohepogocgaaRefQ
import Derived.Test.YtdepohepogocgaaLkQ
import Derived.Test.YtdepohepogocgaaLkB
set_option linter.unusedVariables false
set_option linter.unusedSimpArgs false
set_option maxRecDepth 100000
set_option maxHeartbeats 4000000
namespace Go.Proofs.Ytdepohepogocgaa
open Go hiding Expr
open Go.RowKit Tr

theorem keysA_len (A : St) : (keysA A).length ≤ total A := by
  have := KS_len (flatK A)
  rw [flat_total] at this
  exact this
theorem keysA_in {A : St} (hi : InA A) : ∀ k ∈ keysA A, InK k := by
  intro k hk
  have hk : k ∈ flatK A := (KS_mem _ k).1 hk
  unfold flatK at hk
  obtain ⟨r, hr, hk⟩ := List.mem_flatMap.1 hk
  obtain ⟨y, hy, rfl⟩ := List.mem_map.1 hk
  exact (hi r hr).2 y hy
theorem allA_len (A : St) : (allA A).length ≤ A.length := by
  have h1 : (allA A).length ≤ (ids A).length := List.length_filter_le ..
  simpa [ids] using h1
theorem queueA_len (A : St) (k : K) : (queueA A k).length ≤ A.length := by
  unfold queueA
  rw [heldGo_len]
  exact len_queue
theorem waitsA_le {A : St} {t : Ix} (hz : Sz A) : (waitsA A t).length ≤ 5864062014805 := by
  have h1 := want_le (t := t) hz
  unfold waitsA waitsL
  rw [List.length_map]
  exact Nat.le_trans (List.length_filter_le ..) h1
section
variable {w : World} {p p2 : Nat} {A : St} {X : List AW}
theorem equal_c {t : Ix} (hL : LkW w p A) (hR : RV w p2 X) (hAX : X.map AW.row = A) (hz : Sz A) (hz2 : total A ≤ 5864062014805) (ht : InI t) :
    Calls Try.prog 27 #[.pointer (some ⟨p, 0, none⟩), .pointer (some ⟨p2, 0, none⟩), .agg ⟨ir t⟩] w fun e w' => e = .returned (.bool true) ∧ Fr [] w w' := by
  have hin : InA A := by obtain ⟨c, ⟨_, _, _, _, _, _, _, _, _, _, _, _, _, hi⟩, _⟩ := hL; exact hi
  have hg : Good A := by obtain ⟨c, ⟨_, _, _, _, _, _, _, _, _, _, _, _, hg, _⟩, _⟩ := hL; exact hg
  have hXA : X.length = A.length := by rw [← hAX, List.length_map]
  have hX : X.length ≤ 1099511627776 := by have := hz.1; omega
  have hmw : ∀ x ∈ X, x.w.length ≤ 5864062014805 := fun x hx => hz.2 x.row (by rw [← hAX]; exact List.mem_map.2 ⟨x, hx, rfl⟩)
  have hgX : Good (X.map AW.row) := by rw [hAX]; exact hg
  have htX : (flatK (X.map AW.row)).length ≤ 5864062014805 := by rw [flat_total, hAX]; exact hz2
  have hkl := keysA_len A
  have hal := allA_len A
  have hwl := waitsA_le (t := t) hz
  have hz1 := hz.1
  obtain ⟨o1, cap1, h1, _⟩ := id hR
  apply c27
  refine h_new (Has.init w) fun n6 u H => ?_
  refine s_call (rKeys_c (hR.fr0 H.base) hX hmw htX) ?_
  rintro _ u ⟨v, c, rfl, ho, H2⟩
  rw [hAX] at ho
  have H := H.join H2
  obtain ⟨o', c', rfl⟩ := ho.slice
  refine ⟨_, rfl, s_asS ?_⟩
  (refine h_new H fun n11 u H => ?_)
  refine h_app1 elemK H (by repeat (first | exact cut_head | exact cut_all | apply cut_tail | apply cut_app)) ho (r := n11) (l := kr ⟨5, 0⟩) (by repeat (first | exact pick_head | apply pick_tail | apply pick_app)) rfl (by intro u hu; simp [kr] at hu; rcases hu with rfl | rfl <;> rfl) (by omega) (by omega) ?_
  intro v3 c3 u ho3 H
  obtain ⟨o3, cap3, rfl⟩ := ho3.slice
  rw [show enc (keysA A) ++ kr ⟨5, 0⟩ = enc (keysA A ++ [⟨5, 0⟩]) by rw [enc_append]; simp [enc]] at ho3
  have hks : (keysA A).length + 1 = (keysA A ++ [(⟨5, 0⟩ : K)]).length := by simp
  have hkin : ∀ k ∈ keysA A ++ [(⟨5, 0⟩ : K)], InK k := by
    intro k hk
    rcases List.mem_append.1 hk with hk | hk
    · exact keysA_in hin k hk
    · simp only [List.mem_singleton] at hk
      subst hk
      unfold InK
      simp only
      omega
  rw [hks] at ho3 ⊢
  have hkl2 : (keysA A ++ [(⟨5, 0⟩ : K)]).length ≤ 5864062014806 := by rw [← hks]; omega
  generalize keysA A ++ [(⟨5, 0⟩ : K)] = ks at *
  have H : Has w u (cl n6 27 (ir t) :: (c3 ++ ([]))) := H.sub (by repeat (first | exact sb_refl | exact sb_nil | refine sb_cons (by repeat (first | exact pick_head | apply pick_tail | apply pick_app)) ?_ | refine sb_app (by repeat (first | exact cut_head | exact cut_all | apply cut_tail | apply cut_app)) ?_ | exact sb_one (by repeat (first | exact cut_head | exact cut_all | apply cut_tail | apply cut_app))))
  refine s_asS (s_loop (fun vs W => ∃ (i : Nat) (mm : Hp), vs = [.int .i64 i] ∧ i ≤ ks.length ∧ Has w W (cl n6 27 (ir t) :: (c3 ++ mm))) (fun vs _ => ks.length - (intOf (vs.getD 0 undef)).toNat)
    ⟨0, [], rfl, by omega, H⟩ ?_)
  clear H H2
  rintro _ j W ⟨i, mm, rfl, hi, H⟩
  refine s_asI (s_ite (fun g1 => ?_) (fun g1 => ?_))
  · simp only [decide_eq_true_eq] at g1
    have hlt : i < ks.length := by omega
    obtain ⟨k, hk⟩ : ∃ k, ks[i]? = some k := ⟨_, List.getElem?_eq_getElem hlt⟩
    obtain ⟨g, off, he, q1, q2⟩ := (keysAt_own ho3 H (by repeat (first | exact cut_head | exact cut_all | apply cut_tail | apply cut_app))).get hk
    have hql := queueA_len A k
    refine s_req ⟨by omega, by omega⟩ ⟨g, off, he, s_loadI q1 (s_loadI q2 ?_)⟩
    (refine h_new H fun n23 u H => ?_)
    iterate 2 refine h_st H (by repeat (first | exact pick_head | apply pick_tail | apply pick_app)) (by first | (simp; done) | exact Nat.le_of_ble_eq_true rfl) rfl fun u H => ?_
    refine h_drew H fun u H => h_ldI H (by repeat (first | exact pick_head | apply pick_tail | apply pick_app)) rfl (h_ldI H (by repeat (first | exact pick_head | apply pick_tail | apply pick_app)) rfl (h_ldI H (by repeat (first | exact pick_head | apply pick_tail | apply pick_app)) rfl (h_ldI H (by repeat (first | exact pick_head | apply pick_tail | apply pick_app)) rfl ?_)))
    refine s_call (queue_c (hL.fr0 H.base) hz (hkin k (List.mem_of_getElem? hk))) ?_
    rintro _ u ⟨v4, c4, rfl, ho4, H4⟩
    have H := H.join H4
    obtain ⟨o4, cap4, rfl⟩ := ho4.slice
    refine ⟨_, rfl, s_asS (s_chk (by repeat (first | exact c_nil | refine hc_cons H (by repeat (first | exact pick_head | apply pick_tail | apply pick_app)) rfl ?_)) ?_)⟩
    refine s_call (rQueue_c (hR.fr0 H.base) hX hmw k) ?_
    rintro _ u ⟨v5, c5, rfl, ho5, H5⟩
    rw [hAX] at ho5
    have H := H.join H5
    obtain ⟨o5, cap5, rfl⟩ := ho5.slice
    refine ⟨_, rfl, s_asS (s_chk c_nil ?_)⟩
    refine s_call (eqW_c (rowsAt_own (wtr4 _) (by decide) ho4 H (by repeat (first | exact cut_head | exact cut_all | apply cut_tail | apply cut_app))) (rowsAt_own (wtr4 _) (by decide) ho5 H (by repeat (first | exact cut_head | exact cut_all | apply cut_tail | apply cut_app))) rfl rfl (by omega)) ?_
    rintro _ u ⟨rfl, f⟩
    have H := H.fr0 f
    refine ⟨_, rfl, s_asB (s_chk c_nil (s_false (by simp) (s_next (by first | exact ⟨rfl, rfl⟩ | trivial) ?_)))⟩
    simp (config := { decide := true }) only [if_true, if_false]
    exact ⟨⟨i + 1, _, by rw [w_succ (by omega)], by omega, H.sub (by repeat (first | exact sb_refl | exact sb_nil | refine sb_cons (by repeat (first | exact pick_head | apply pick_tail | apply pick_app)) ?_ | refine sb_app (by repeat (first | exact cut_head | exact cut_all | apply cut_tail | apply cut_app)) ?_ | exact sb_one (by repeat (first | exact cut_head | exact cut_all | apply cut_tail | apply cut_app))))⟩, by rw [w_succ (by omega)]; simp [intOf] <;> omega⟩
  · refine s_call (all_c (hL.fr0 H.base) hz) ?_
    rintro _ u ⟨ra, oa, capa, ca, rfl, hoa, H3⟩
    have H := H.join H3
    refine ⟨_, rfl, s_asC (s_req rfl (s_asP (h_drew H fun u H => ?_)))⟩
    refine s_call (rAll_c (hR.fr0 H.base) hgX hX hmw) ?_
    rintro _ u ⟨v4, c4, rfl, ho4, H4⟩
    rw [hAX] at ho4
    have H := H.join H4
    obtain ⟨o4, cap4, rfl⟩ := ho4.slice
    refine ⟨_, rfl, s_asS (s_chk c_nil ?_)⟩
    refine s_call (told_c (l := allA A) (l2 := allA A) (H.cells (by repeat (first | exact pick_head | apply pick_tail | apply pick_app))) (rowsAt_own (ir2 _) (by decide) hoa H (by repeat (first | exact cut_head | exact cut_all | apply cut_tail | apply cut_app))) (rowsAt_own (ir2 _) (by decide) ho4 H (by repeat (first | exact cut_head | exact cut_all | apply cut_tail | apply cut_app))) rfl (by omega) (by omega)) ?_
    rintro _ u ⟨rfl, f⟩
    have H := H.fr0 f
    refine ⟨_, rfl, s_asB (s_chk c_nil (s_true (by simp) ?_))⟩
    refine s_call (rAll_c (hR.fr0 H.base) hgX hX hmw) ?_
    rintro _ u ⟨v5, c5, rfl, ho5, H5⟩
    rw [hAX] at ho5
    have H := H.join H5
    obtain ⟨o5, cap5, rfl⟩ := ho5.slice
    refine ⟨_, rfl, s_asS (s_chk c_nil ?_)⟩
    refine s_call (told_c (l := allA A) (l2 := allA A) (H.cells (by repeat (first | exact pick_head | apply pick_tail | apply pick_app))) (rowsAt_own (ir2 _) (by decide) hoa H (by repeat (first | exact cut_head | exact cut_all | apply cut_tail | apply cut_app))) (rowsAt_own (ir2 _) (by decide) ho5 H (by repeat (first | exact cut_head | exact cut_all | apply cut_tail | apply cut_app))) rfl (by omega) (by omega)) ?_
    rintro _ u ⟨rfl, f⟩
    have H := H.fr0 f
    refine ⟨_, rfl, s_asB (s_chk c_nil (s_true (by simp) ?_))⟩
    refine s_ldS (H.base.cells h1 (by simp)) rfl ?_
    refine s_call (len16_c (hL.fr0 H.base)) ?_
    rintro _ u ⟨rfl, f⟩
    have H := H.fr0 f
    refine ⟨_, rfl, s_asI (s_chk (by repeat (first | exact c_nil | refine hc_cons H (by repeat (first | exact pick_head | apply pick_tail | apply pick_app)) rfl ?_ | refine ⟨(H.base.cells h1 (by simp)).cell rfl, ?_⟩)) (s_true (by simp [hXA]) ?_))⟩
    refine s_call (keys16_c (hL.fr0 H.base) (by omega)) ?_
    rintro _ u ⟨v6, c6, rfl, ho6, H6⟩
    have H := H.join H6
    obtain ⟨o6, cap6, rfl⟩ := ho6.slice
    refine ⟨_, rfl, s_asS (s_chk (by repeat (first | exact c_nil | refine hc_cons H (by repeat (first | exact pick_head | apply pick_tail | apply pick_app)) rfl ?_ | refine ⟨(H.base.cells h1 (by simp)).cell rfl, ?_⟩)) ?_)⟩
    refine s_call (rKeys_c (hR.fr0 H.base) hX hmw htX) ?_
    rintro _ u ⟨v7, c7, rfl, ho7, H7⟩
    rw [hAX] at ho7
    have H := H.join H7
    obtain ⟨o7, cap7, rfl⟩ := ho7.slice
    refine ⟨_, rfl, s_asS (s_chk (by repeat (first | exact c_nil | refine hc_cons H (by repeat (first | exact pick_head | apply pick_tail | apply pick_app)) rfl ?_ | refine ⟨(H.base.cells h1 (by simp)).cell rfl, ?_⟩)) ?_)⟩
    refine s_call (eqKs_c (keysAt_own ho6 H (by repeat (first | exact cut_head | exact cut_all | apply cut_tail | apply cut_app))) (keysAt_own ho7 H (by repeat (first | exact cut_head | exact cut_all | apply cut_tail | apply cut_app))) rfl rfl (by omega)) ?_
    rintro _ u ⟨rfl, f⟩
    have H := H.fr0 f
    refine ⟨_, rfl, s_asB (s_chk (by repeat (first | exact c_nil | refine hc_cons H (by repeat (first | exact pick_head | apply pick_tail | apply pick_app)) rfl ?_ | refine ⟨(H.base.cells h1 (by simp)).cell rfl, ?_⟩)) (s_true (by simp) ?_))⟩
    refine h_ldI H (by repeat (first | exact pick_head | apply pick_tail | apply pick_app)) rfl (h_ldI H (by repeat (first | exact pick_head | apply pick_tail | apply pick_app)) rfl (h_ldI H (by repeat (first | exact pick_head | apply pick_tail | apply pick_app)) rfl (h_ldI H (by repeat (first | exact pick_head | apply pick_tail | apply pick_app)) rfl ?_)))
    refine s_call (ready_c (hL.fr0 H.base) hz ht) ?_
    rintro _ u ⟨rfl, f⟩
    have H := H.fr0 f
    refine ⟨_, rfl, s_asB (s_chk (by repeat (first | exact c_nil | refine hc_cons H (by repeat (first | exact pick_head | apply pick_tail | apply pick_app)) rfl ?_ | refine ⟨(H.base.cells h1 (by simp)).cell rfl, ?_⟩)) ?_)⟩
    refine s_call (rReady_c (hR.fr0 H.base) hgX hX hmw t) ?_
    rintro _ u ⟨rfl, f⟩
    have H := H.fr0 f
    refine ⟨_, rfl, s_asB (s_chk (by repeat (first | exact c_nil | refine hc_cons H (by repeat (first | exact pick_head | apply pick_tail | apply pick_app)) rfl ?_ | refine ⟨(H.base.cells h1 (by simp)).cell rfl, ?_⟩)) (s_true (by rw [hAX]; simp) ?_))⟩
    refine h_ldI H (by repeat (first | exact pick_head | apply pick_tail | apply pick_app)) rfl (h_ldI H (by repeat (first | exact pick_head | apply pick_tail | apply pick_app)) rfl (h_ldI H (by repeat (first | exact pick_head | apply pick_tail | apply pick_app)) rfl (h_ldI H (by repeat (first | exact pick_head | apply pick_tail | apply pick_app)) rfl ?_)))
    refine s_call (waits_c (hL.fr0 H.base) hz ht) ?_
    rintro _ u ⟨v8, c8, rfl, ho8, H8⟩
    have H := H.join H8
    obtain ⟨o8, cap8, rfl⟩ := ho8.slice
    refine ⟨_, rfl, s_asS (s_chk (by repeat (first | exact c_nil | refine hc_cons H (by repeat (first | exact pick_head | apply pick_tail | apply pick_app)) rfl ?_ | refine ⟨(H.base.cells h1 (by simp)).cell rfl, ?_⟩)) ?_)⟩
    refine s_call (rWaits_c (hR.fr0 H.base) hgX hX hmw t) ?_
    rintro _ u ⟨v9, c9, rfl, ho9, H9⟩
    rw [hAX] at ho9
    have H := H.join H9
    obtain ⟨o9, cap9, rfl⟩ := ho9.slice
    refine ⟨_, rfl, s_asS (s_chk (by repeat (first | exact c_nil | refine hc_cons H (by repeat (first | exact pick_head | apply pick_tail | apply pick_app)) rfl ?_ | refine ⟨(H.base.cells h1 (by simp)).cell rfl, ?_⟩)) ?_)⟩
    refine s_call (eqKs_c (keysAt_own ho8 H (by repeat (first | exact cut_head | exact cut_all | apply cut_tail | apply cut_app))) (keysAt_own ho9 H (by repeat (first | exact cut_head | exact cut_all | apply cut_tail | apply cut_app))) rfl rfl (by omega)) ?_
    rintro _ u ⟨rfl, f⟩
    have H := H.fr0 f
    exact ⟨_, rfl, s_asB (s_chk (by repeat (first | exact c_nil | refine hc_cons H (by repeat (first | exact pick_head | apply pick_tail | apply pick_app)) rfl ?_ | refine ⟨(H.base.cells h1 (by simp)).cell rfl, ?_⟩)) (s_ret ⟨by simp, H.base⟩))⟩
end
end Go.Proofs.Ytdepohepogocgaa
