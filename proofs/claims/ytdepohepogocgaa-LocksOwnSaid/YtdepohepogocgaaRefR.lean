/- The document's Request, walked. -/
import Derived.Test.YtdepohepogocgaaRefM
set_option linter.unusedVariables false
set_option linter.unusedSimpArgs false
set_option maxRecDepth 100000
set_option maxHeartbeats 4000000
namespace Go.Proofs.Ytdepohepogocgaa
open Go hiding Expr
open Go.RowKit Tr
section
variable {w0 w : World} {m m' c : Hp} {p : Nat} {X : List AW} {o : Option Addr} {n cap : Nat}
theorem rreq_c {t : Ix} {l : List Lk} (H : Has w0 w m) (hp : Cut c m m') (hR : RefAt p X c) (hz : X.length < 1099511627776 ∧ l.length ≤ 5864062014805) (hn : n = l.length)
    (hW : ∀ u, Has w0 u m' → RowsAt u o 3 (l.map lr)) :
    Calls Try.prog 26 #[.pointer (some ⟨p, 0, none⟩), .agg ⟨ir t⟩, .slice o n cap] w fun e w' => e = .returned (.int .i64 (reqE (X.map AW.row) t l)) ∧ ∃ X' c', X'.map AW.row = reqS (X.map AW.row) t l ∧ RefAt p X' c' ∧ Has w0 w' (c' ++ m') := by
  subst hn
  have H := H.pullc hp
  apply c26
  refine h_new H fun n7 u H => ?_
  refine s_loop (fun vs W => ∃ i : Nat, vs = [.int .i64 i] ∧ 1 ≤ i ∧ (i ≤ l.length ∨ i = 1) ∧ srtB (l.take i) = true ∧ Has w0 W (cl n7 27 (ir t) :: (c ++ m'))) (fun vs _ => l.length - (intOf (vs.getD 0 undef)).toNat)
    ⟨1, rfl, by omega, by omega, ?_, H⟩ ?_
  · cases l with
    | nil => rfl
    | cons a r => simp [srtB]
  clear H
  rintro _ j W ⟨i, rfl, hi1, hil, hsr, H⟩
  refine s_asI (s_ite (fun g1 => ?_) (fun g1 => ?_))
  · simp only [decide_eq_true_eq] at g1
    have hlt : i < l.length := by omega
    have hw1 : IntKind.wrap .i64 ((i : Int) - 1) = ((i - 1 : Nat) : Int) := by rw [wrap64 (by omega) (by omega)]; omega
    obtain ⟨x, hx⟩ : ∃ x, l[i - 1]? = some x := ⟨_, List.getElem?_eq_getElem (by omega)⟩
    obtain ⟨y, hy⟩ : ∃ y, l[i]? = some y := ⟨_, List.getElem?_eq_getElem hlt⟩
    have hy' : l[i - 1 + 1]? = some y := by rw [show i - 1 + 1 = i by omega]; exact hy
    have hst := srtB_step hx hy'
    rw [show i - 1 + 2 = i + 1 by omega, show i - 1 + 1 = i by omega, hsr, Bool.true_and] at hst
    refine h_drew H fun u H => ?_
    rw [hw1]
    have hWu := hW u (H.sub (by repeat (first | exact sb_refl | exact sb_nil | refine sb_cons (by repeat (first | exact pick_head | apply pick_tail | apply pick_app)) ?_ | refine sb_app (by repeat (first | exact cut_head | exact cut_all | apply cut_tail | apply cut_app)) ?_ | exact sb_one (by repeat (first | exact cut_head | exact cut_all | apply cut_tail | apply cut_app)))))
    obtain ⟨g, off, he, _, hc⟩ := hWu.at (j := i - 1) (r := lr x) (by rw [List.getElem?_map, hx]; rfl)
    obtain ⟨g', off', he', _, hc'⟩ := hWu.at (j := i) (r := lr y) (by rw [List.getElem?_map, hy]; rfl)
    refine s_req ⟨by omega, by omega⟩ ⟨g, off, he, s_loadI (hc 0 _ rfl) (s_loadI (hc 1 _ rfl) (s_req ⟨by omega, by omega⟩ ⟨g', off', he', s_loadI (hc' 0 _ rfl) (s_loadI (hc' 1 _ rfl) (s_call (less_c x.k y.k) ?_))⟩))⟩
    rintro _ u ⟨rfl, f⟩
    have H := H.fr0 f
    refine ⟨_, rfl, s_asB (s_chk c_nil (s_ite (fun g2 => ?_) (fun g2 => s_next (by first | exact ⟨rfl, rfl⟩ | trivial) ?_)))⟩
    · have hlk : ltK x.k y.k = false := by simpa using g2
      have hbad : srtB l = false := by
        cases hh : srtB l with
        | false => rfl
        | true => have := srtB_at hh hx hy'; rw [hlk] at this; cases this
      refine s_ret ⟨by unfold reqE; rw [if_pos hbad], X, c, ?_, hR, H.sub (by repeat (first | exact sb_refl | exact sb_nil | refine sb_cons (by repeat (first | exact pick_head | apply pick_tail | apply pick_app)) ?_ | refine sb_app (by repeat (first | exact cut_head | exact cut_all | apply cut_tail | apply cut_app)) ?_ | exact sb_one (by repeat (first | exact cut_head | exact cut_all | apply cut_tail | apply cut_app))))⟩
      unfold reqS
      rw [if_neg (by rw [hbad]; simp)]
    · have hlk : ltK x.k y.k = true := by simpa using g2
      simp (config := { decide := true }) only [if_true, if_false]
      exact ⟨⟨i + 1, by rw [w_succ (by omega)], by omega, by omega, by rw [hst, hlk], H⟩, by rw [w_succ (by omega)]; simp [intOf] <;> omega⟩
  · simp only [decide_eq_false_iff_not] at g1
    rw [List.take_of_length_le (by omega)] at hsr
    refine h_ldI H (by repeat (first | exact pick_head | apply pick_tail | apply pick_app)) rfl (h_ldI H (by repeat (first | exact pick_head | apply pick_tail | apply pick_app)) rfl (s_call (find_c (RefAt.rv H (by repeat (first | exact cut_head | exact cut_all | apply cut_tail | apply cut_app)) hR) (by omega) t) ?_))
    rintro _ u ⟨z, rfl, f, hz2⟩
    have H := H.fr0 f
    refine ⟨_, rfl, s_asI ?_⟩
    rcases hz2 with ⟨rfl, hno⟩ | ⟨i2, hi2, rfl, _, hat⟩
    · have hwt := find_none hno
      obtain ⟨o1, cap1, cr, cs, rfl, ho, hv⟩ := hR
      simp only [List.cons_append, List.append_assoc] at H
      refine s_false (by decide) (h_drew H fun u H => h_ldS H (by repeat (first | exact pick_head | apply pick_tail | apply pick_app)) rfl (h_ldI H (by repeat (first | exact pick_head | apply pick_tail | apply pick_app)) rfl (h_ldI H (by repeat (first | exact pick_head | apply pick_tail | apply pick_app)) rfl ?_)))
      refine h_appAll elemL (by decide) H (c := []) cut_nil OwnC.nil (lr3 l) (lr_one l) (hW u (H.sub (by repeat (first | exact sb_refl | exact sb_nil | refine sb_cons (by repeat (first | exact pick_head | apply pick_tail | apply pick_app)) ?_ | refine sb_app (by repeat (first | exact cut_head | exact cut_all | apply cut_tail | apply cut_app)) ?_ | exact sb_one (by repeat (first | exact cut_head | exact cut_all | apply cut_tail | apply cut_app)))))) (by rw [List.length_map]) (by omega) (by omega) ?_
      intro v2 c2 u ho2 H
      rw [Nat.zero_add, List.nil_append] at ho2
      obtain ⟨o2, cap2, rfl⟩ := ho2.slice
      refine s_asS (s_chk (hc_cons H (by repeat (first | exact pick_head | apply pick_tail | apply pick_app)) rfl (hc_cons H (by repeat (first | exact pick_head | apply pick_tail | apply pick_app)) rfl (hc_cons H (by repeat (first | exact pick_head | apply pick_tail | apply pick_app)) rfl c_nil))) ?_)
      (refine h_new H fun n34 u H => ?_)
      refine s_chk (hc_cons H (by repeat (first | exact pick_head | apply pick_tail | apply pick_app)) rfl (hc_cons H (by repeat (first | exact pick_head | apply pick_tail | apply pick_app)) rfl (hc_cons H (by repeat (first | exact pick_head | apply pick_tail | apply pick_app)) rfl c_nil))) ?_
      refine h_app1 elemA H (by repeat (first | exact cut_head | exact cut_all | apply cut_tail | apply cut_app)) ho (r := n34) (l := ar ⟨t, o2, cap2, l⟩) (by repeat (first | exact pick_head | apply pick_tail | apply pick_app)) rfl (by intro u hu; simp [ar] at hu; rcases hu with rfl | rfl | rfl <;> rfl) (by omega) (by omega) ?_
      intro v3 c3 u ho3 H
      obtain ⟨o3, cap3, rfl⟩ := ho3.slice
      refine s_asS (s_chk (hc_cons H (by repeat (first | exact pick_head | apply pick_tail | apply pick_app)) rfl (hc_cons H (by repeat (first | exact pick_head | apply pick_tail | apply pick_app)) rfl c_nil)) (h_st H (by repeat (first | exact pick_head | apply pick_tail | apply pick_app)) (by simp) rfl fun u H => s_chk c_nil ?_))
      refine s_ret ⟨?_, X ++ [(⟨t, o2, cap2, l⟩ : AW)], cl p 98 [.slice o3 (X ++ [(⟨t, o2, cap2, l⟩ : AW)]).length cap3] :: (c3 ++ (cs ++ [c2]).flatten), ?_, ?_, ?_⟩
      · unfold reqE
        rw [if_neg (by rw [hsr]; simp), hwt]
        rfl
      · unfold reqS
        rw [if_pos ⟨hsr, hwt⟩, List.map_append]
        rfl
      · refine ⟨o3, cap3, c3, cs ++ [c2], rfl, ?_, hv.snoc ho2⟩
        rw [List.length_append, List.map_append, List.flatten_append]
        simpa using ho3
      · rw [List.length_append, List.flatten_append, List.flatten_singleton]
        simp only [List.cons_append, List.append_assoc]
        exact H.sub (by repeat (first | exact sb_refl | exact sb_nil | refine sb_cons (by repeat (first | exact pick_head | apply pick_tail | apply pick_app)) ?_ | refine sb_app (by repeat (first | exact cut_head | exact cut_all | apply cut_tail | apply cut_app)) ?_ | exact sb_one (by repeat (first | exact cut_head | exact cut_all | apply cut_tail | apply cut_app))))
    · obtain ⟨x, hx⟩ : ∃ x, X[i2]? = some x := ⟨_, List.getElem?_eq_getElem hi2⟩
      have hxt := hat x hx
      have hwt : (wantOf (X.map AW.row) t).isSome = true := by
        cases hh : wantOf (X.map AW.row) t with
        | some _ => rfl
        | none =>
          have := want_none.1 hh
          exact absurd (by unfold ids; rw [List.map_map]; exact List.mem_map.2 ⟨x, List.mem_of_getElem? hx, hxt⟩) this
      refine s_true (by simp) (s_ret ⟨?_, X, c, ?_, hR, H.sub (by repeat (first | exact sb_refl | exact sb_nil | refine sb_cons (by repeat (first | exact pick_head | apply pick_tail | apply pick_app)) ?_ | refine sb_app (by repeat (first | exact cut_head | exact cut_all | apply cut_tail | apply cut_app)) ?_ | exact sb_one (by repeat (first | exact cut_head | exact cut_all | apply cut_tail | apply cut_app))))⟩)
      · unfold reqE
        rw [if_neg (by rw [hsr]; simp), if_pos hwt]
      · unfold reqS
        rw [if_neg]
        rintro ⟨_, h⟩
        rw [h] at hwt
        cases hwt
end
end Go.Proofs.Ytdepohepogocgaa
