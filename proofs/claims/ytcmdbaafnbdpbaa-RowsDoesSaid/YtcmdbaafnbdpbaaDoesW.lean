/- The walk of RowsDoes. -/
import Derived.Test.YtcmdbaafnbdpbaaFromW
import Derived.Test.YtcmdbaafnbdpbaaOnce
import Derived.Test.YtcmdbaafnbdpbaaTreesM
set_option linter.unusedVariables false
set_option linter.unusedSimpArgs false
set_option maxRecDepth 100000
set_option maxHeartbeats 4000000
namespace Go.Proofs.Ytcmdbaafnbdpbaa
open Go hiding Expr
open Go.RowKit Tr

section
variable {w : World} {o : Option Addr} {X : List OpA} {n cap : Nat}
theorem does_c (h : OpsAt w o X) (hn : n = X.length) (hmax : X.length < 9223372036854775807) : Calls Try.prog 8 #[.slice o n cap] w fun e w' => e = .returned (.bool true) ∧ Fr [] w w' := by
  subst hn
  apply c8
  refine s_call (new_c (Has.init w)) ?_
  rintro _ u ⟨p, c, rfl, hT, H⟩
  refine ⟨_, rfl, s_asP ?_⟩
  (refine h_new H fun n5 u H => ?_)
  have hT2 : RTab n5 [] [cl n5 50 [.slice none 0 0]] := ⟨.slice none 0 0, [], [], [], rfl, rfl, OwnC.nil, Vals.nil⟩
  refine h_blk (fun _ => True) H (s_false rfl (s_call live_c ?_)) ?_
  · rintro _ u ⟨rfl, f⟩
    have H := H.fr0 f
    refine ⟨_, rfl, s_asB (s_false rfl (s_next (by simp) ?_))⟩
    simp only [if_true]
    exact ⟨H, trivial⟩
  rintro _ _ W H _
  refine s_loop (fun vs W => ∃ (k : Nat) (p : Nat) (R : List Rw) (c c2 : Hp), vs = [.pointer (some ⟨p, 0, none⟩), .int .i64 k] ∧ k ≤ X.length ∧ InvR R ∧ Tab p R c ∧ RTab n5 R c2 ∧ Has w W (c ++ c2)) (fun vs _ => X.length - (intOf (vs.getD 1 undef)).toNat)
    ⟨0, p, [], c, [cl n5 50 [.slice none 0 0]], rfl, by omega, InvR.nil, hT, hT2, H.sub (by repeat (first | exact sb_refl | exact sb_nil | refine sb_cons (by repeat (first | exact pick_head | apply pick_tail | apply pick_app)) ?_ | refine sb_app (by repeat (first | exact cut_head | exact cut_all | apply cut_tail | apply cut_app)) ?_ | exact sb_one (by repeat (first | exact cut_head | exact cut_all | apply cut_tail | apply cut_app))))⟩ ?_
  clear H hT hT2
  rintro _ j W ⟨k, p, R, c, c2, rfl, hk, hI, hT, hT2, H⟩
  refine s_asP (s_asI (s_ite (fun g1 => ?_) (fun g1 => s_ret ⟨rfl, H.base⟩)))
  simp only [decide_eq_true_eq] at g1
  have hlt : k < X.length := by omega
  obtain ⟨x, hx⟩ : ∃ x, X[k]? = some x := ⟨_, List.getElem?_eq_getElem hlt⟩
  obtain ⟨g, off, rfl, ⟨p0, p1, p2, p3, p4, p5, p6, p7, p8⟩, hok⟩ := (h.fr0 H.base).get hx
  have hxv : ValsAt w x.o x.vals := (h.2 x (List.mem_of_getElem? hx)).2.2.2.1
  refine s_req ⟨by omega, g1⟩ (s_sm (s_loadI p0 (s_loadI p1 (s_loadB p2 (s_loadB p3 (s_loadI p4 (s_loadS p5 (s_loadI p6 (s_loadI p7 (s_loadI p8 ?_))))))))))
  (refine h_new H fun n25 u H => ?_)
  iterate 9 refine h_st H (by repeat (first | exact pick_head | apply pick_tail | apply pick_app)) (by first | (simp; done) | exact Nat.le_of_ble_eq_true rfl) rfl fun u H => ?_
  have H : Has w u (c ++ (cl n25 32 (opr x) :: c2)) := H.sub (by repeat (first | exact sb_refl | exact sb_nil | refine sb_cons (by repeat (first | exact pick_head | apply pick_tail | apply pick_app)) ?_ | refine sb_app (by repeat (first | exact cut_head | exact cut_all | apply cut_tail | apply cut_app)) ?_ | exact sb_one (by repeat (first | exact cut_head | exact cut_all | apply cut_tail | apply cut_app))))
  refine s_blk (fun vs W => ∃ (p : Nat) (c : Hp), vs = [.pointer (some ⟨p, 0, none⟩)] ∧ Tab p R c ∧ Has w W (c ++ (cl n25 32 (opr x) :: c2))) ?_ ?_
  · clear H hT
    rintro _ _ W ⟨p, c, rfl, hT, H⟩
    refine s_asP (h_ldI H (by repeat (first | exact pick_head | apply pick_tail | apply pick_app)) rfl (h_ldI H (by repeat (first | exact pick_head | apply pick_tail | apply pick_app)) rfl ?_))
    refine s_call (ask_c H hT hI hok.1 hok.2.1) ?_
    rintro _ u ⟨oa, capa, ca, rfl, hoa, H⟩
    refine ⟨_, rfl, s_asU (s_req rfl (s_asA (s_req rfl (s_asI (s_asS (s_asI (s_asI (s_asI ?_))))))))⟩
    (refine h_new H fun n41 u H => ?_)
    iterate 4 refine h_st H (by repeat (first | exact pick_head | apply pick_tail | apply pick_app)) (by first | (simp; done) | exact Nat.le_of_ble_eq_true rfl) rfl fun u H => ?_
    refine h_ldI H (by repeat (first | exact pick_head | apply pick_tail | apply pick_app)) rfl (h_ldI H (by repeat (first | exact pick_head | apply pick_tail | apply pick_app)) rfl ?_)
    refine s_call (rask_c (s := x.s) (q := x.q) (c := c2) (m := cl n41 30 (resL (ansR R x.s x.q).e oa (ansR R x.s x.q).vals.length capa (ansR R x.s x.q).slot (ansR R x.s x.q).place) :: (ca ++ (c ++ [cl n25 32 (opr x)]))) (H.sub (by repeat (first | exact sb_refl | exact sb_nil | refine sb_cons (by repeat (first | exact pick_head | apply pick_tail | apply pick_app)) ?_ | refine sb_app (by repeat (first | exact cut_head | exact cut_all | apply cut_tail | apply cut_app)) ?_ | exact sb_one (by repeat (first | exact cut_head | exact cut_all | apply cut_tail | apply cut_app))))) hT2 hI) ?_
    rintro _ u ⟨ob, capb, rfl, hvb, H⟩
    refine ⟨_, rfl, s_asU (s_req rfl (s_asA (s_req rfl (s_asI (s_asS (s_asI (s_asI (s_asI ?_))))))))⟩
    (refine h_new H fun n54 u H => ?_)
    iterate 4 refine h_st H (by repeat (first | exact pick_head | apply pick_tail | apply pick_app)) (by first | (simp; done) | exact Nat.le_of_ble_eq_true rfl) rfl fun u H => ?_
    have hal : (ansR R x.s x.q).vals.length * 8 ≤ 140737488355328 := by
      unfold ansR
      split
      · cases hl : lookR R x.s with
        | none => simp [zeroR]
        | some r => exact (hI.ok r ((lookR_mem hI.up).1 hl).1).2.2.2.2
      · simp [zeroR]
    refine s_blk (fun _ W => Has w W (c ++ (cl n25 32 (opr x) :: c2))) ?_ ?_
    · clear H
      rintro _ _ W H
      refine s_blk (fun _ W => ∃ (R : List Rw) (c c2 : Hp), InvR R ∧ Tab p R c ∧ RTab n5 R c2 ∧ Has w W (c ++ (cl n25 32 (opr x) :: c2))) ?_ ?_
      · clear H hT hT2 hI hal hvb hoa
        rintro _ _ W ⟨R, c, c2, hI, hT, hT2, H⟩
        have hRl := hI.len
        refine h_drew H fun u H => h_ldI H (by repeat (first | exact pick_head | apply pick_tail | apply pick_app)) rfl (h_ldI H (by repeat (first | exact pick_head | apply pick_tail | apply pick_app)) rfl ?_)
        refine s_call (last_c H hT hI hok.1) ?_
        rintro _ _ ⟨rfl, rfl⟩
        refine ⟨_, rfl, s_asI (s_chk (hc_cons H (by repeat (first | exact pick_head | apply pick_tail | apply pick_app)) rfl c_nil) ?_)⟩
        refine s_call (rlast_c (s := x.s) (c := c2) (m := c ++ [cl n25 32 (opr x)]) (H.sub (by repeat (first | exact sb_refl | exact sb_nil | refine sb_cons (by repeat (first | exact pick_head | apply pick_tail | apply pick_app)) ?_ | refine sb_app (by repeat (first | exact cut_head | exact cut_all | apply cut_tail | apply cut_app)) ?_ | exact sb_one (by repeat (first | exact cut_head | exact cut_all | apply cut_tail | apply cut_app))))) hT2 (by omega)) ?_
        rintro _ u ⟨rfl, H⟩
        have H : Has w u (c ++ (cl n25 32 (opr x) :: c2)) := H.sub (by repeat (first | exact sb_refl | exact sb_nil | refine sb_cons (by repeat (first | exact pick_head | apply pick_tail | apply pick_app)) ?_ | refine sb_app (by repeat (first | exact cut_head | exact cut_all | apply cut_tail | apply cut_app)) ?_ | exact sb_one (by repeat (first | exact cut_head | exact cut_all | apply cut_tail | apply cut_app))))
        refine ⟨_, rfl, s_asI (s_chk c_nil (s_false (by simp) ?_))⟩
        obtain ⟨o1, cap1, X1, c1, hX1, hX1l, hce, hat⟩ := rtab_at hT2
        have Hc : Has w u (c ++ (cl n25 32 (opr x) :: cl n5 50 [.slice o1 R.length cap1] :: c1)) := by rw [hce] at H; exact H
        refine h_ldS Hc (by repeat (first | exact pick_head | apply pick_tail | apply pick_app)) rfl (h_ldI Hc (by repeat (first | exact pick_head | apply pick_tail | apply pick_app)) rfl ?_)
        refine s_call (told_c (m := cl n25 32 (opr x) :: c2) H hT hI (fun u H => hat w u [] (by rw [List.append_nil]; exact H.drop)) hX1l hX1) ?_
        rintro _ u ⟨rfl, H⟩
        refine ⟨_, rfl, s_asB (s_chk c_nil (s_false rfl (s_next (by first | exact ⟨rfl, rfl⟩ | trivial) ?_)))⟩
        simp (config := { decide := true }) only [if_true, if_false]
        exact ⟨⟨k + 1, p, R, c, c2, by rw [w_succ (by omega)], by omega, hI, hT, hT2, H.sub (by repeat (first | exact sb_refl | exact sb_nil | refine sb_cons (by repeat (first | exact pick_head | apply pick_tail | apply pick_app)) ?_ | refine sb_app (by repeat (first | exact cut_head | exact cut_all | apply cut_tail | apply cut_app)) ?_ | exact sb_one (by repeat (first | exact cut_head | exact cut_all | apply cut_tail | apply cut_app))))⟩, by rw [w_succ (by omega)]; simp [intOf] <;> omega⟩
      · refine h_drew H fun u H => h_ldB H (by repeat (first | exact pick_head | apply pick_tail | apply pick_app)) rfl (s_ite (fun g => ?_) (fun g => ?_))
        · refine h_ldI H (by repeat (first | exact pick_head | apply pick_tail | apply pick_app)) rfl (h_ldI H (by repeat (first | exact pick_head | apply pick_tail | apply pick_app)) rfl (h_ldI H (by repeat (first | exact pick_head | apply pick_tail | apply pick_app)) rfl (h_ldS H (by repeat (first | exact pick_head | apply pick_tail | apply pick_app)) rfl (h_ldI H (by repeat (first | exact pick_head | apply pick_tail | apply pick_app)) rfl (h_ldI H (by repeat (first | exact pick_head | apply pick_tail | apply pick_app)) rfl ?_)))))
          refine h_ldI H (by repeat (first | exact pick_head | apply pick_tail | apply pick_app)) rfl (h_ldI H (by repeat (first | exact pick_head | apply pick_tail | apply pick_app)) rfl (h_ldI H (by repeat (first | exact pick_head | apply pick_tail | apply pick_app)) rfl (h_ldS H (by repeat (first | exact pick_head | apply pick_tail | apply pick_app)) rfl (h_ldI H (by repeat (first | exact pick_head | apply pick_tail | apply pick_app)) rfl (h_ldI H (by repeat (first | exact pick_head | apply pick_tail | apply pick_app)) rfl ?_)))))
          refine s_call (put_c (e := x.e) (slot := x.slot) (place := x.place) H hT hI hok.1 hok.2.1 (fun u H => hxv.fr0 H.base) rfl hok.2.2.1) ?_
          rintro _ u ⟨c3, rfl, hT3, H⟩
          refine ⟨_, rfl, s_asI (s_chk (hc_cons H (by repeat (first | exact pick_head | apply pick_tail | apply pick_app)) rfl (hc_cons H (by repeat (first | exact pick_head | apply pick_tail | apply pick_app)) rfl (hc_cons H (by repeat (first | exact pick_head | apply pick_tail | apply pick_app)) rfl (hc_cons H (by repeat (first | exact pick_head | apply pick_tail | apply pick_app)) rfl (hc_cons H (by repeat (first | exact pick_head | apply pick_tail | apply pick_app)) rfl (hc_cons H (by repeat (first | exact pick_head | apply pick_tail | apply pick_app)) rfl (hc_cons H (by repeat (first | exact pick_head | apply pick_tail | apply pick_app)) rfl c_nil))))))) ?_)⟩
          refine s_call (rput_c (c := c2) (s := x.s) (q := x.q) (e := x.e) (slot := x.slot) (place := x.place) (m := c3 ++ [cl n25 32 (opr x)]) (H.sub (by repeat (first | exact sb_refl | exact sb_nil | refine sb_cons (by repeat (first | exact pick_head | apply pick_tail | apply pick_app)) ?_ | refine sb_app (by repeat (first | exact cut_head | exact cut_all | apply cut_tail | apply cut_app)) ?_ | exact sb_one (by repeat (first | exact cut_head | exact cut_all | apply cut_tail | apply cut_app))))) hT2 hI (fun u H => hxv.fr0 H.base) rfl hok.2.2.1) ?_
          rintro _ u ⟨c4, rfl, hT4, H⟩
          refine ⟨_, rfl, s_asI (s_chk (hc_cons H (by repeat (first | exact pick_head | apply pick_tail | apply pick_app)) rfl c_nil) (s_false (by simp) (s_next (by simp) ?_)))⟩
          simp (config := { decide := true }) only [if_true, if_false]
          exact ⟨_, c3, c4, hI.put x.s x.q hok.2.2.1, hT3, hT4, H.sub (by repeat (first | exact sb_refl | exact sb_nil | refine sb_cons (by repeat (first | exact pick_head | apply pick_tail | apply pick_app)) ?_ | refine sb_app (by repeat (first | exact cut_head | exact cut_all | apply cut_tail | apply cut_app)) ?_ | exact sb_one (by repeat (first | exact cut_head | exact cut_all | apply cut_tail | apply cut_app))))⟩
        · refine s_chk (hc_cons H (by repeat (first | exact pick_head | apply pick_tail | apply pick_app)) rfl c_nil) (s_chk (hc_cons H (by repeat (first | exact pick_head | apply pick_tail | apply pick_app)) rfl c_nil) (s_next (by simp) ?_))
          simp (config := { decide := true }) only [if_true, if_false]
          exact ⟨R, c, c2, hI, hT, hT2, H⟩
    · refine h_ldI H (by repeat (first | exact pick_head | apply pick_tail | apply pick_app)) rfl (h_ldS H (by repeat (first | exact pick_head | apply pick_tail | apply pick_app)) rfl (h_ldI H (by repeat (first | exact pick_head | apply pick_tail | apply pick_app)) rfl (h_ldI H (by repeat (first | exact pick_head | apply pick_tail | apply pick_app)) rfl (h_ldI H (by repeat (first | exact pick_head | apply pick_tail | apply pick_app)) rfl (h_ldS H (by repeat (first | exact pick_head | apply pick_tail | apply pick_app)) rfl (h_ldI H (by repeat (first | exact pick_head | apply pick_tail | apply pick_app)) rfl (h_ldI H (by repeat (first | exact pick_head | apply pick_tail | apply pick_app)) rfl ?_)))))))
      refine s_call (samer_c (valsAt_own hoa H (by repeat (first | exact cut_head | exact cut_all | apply cut_tail | apply cut_app))) (hvb u (H.sub (by repeat (first | exact sb_refl | exact sb_nil | refine sb_cons (by repeat (first | exact pick_head | apply pick_tail | apply pick_app)) ?_ | refine sb_app (by repeat (first | exact cut_head | exact cut_all | apply cut_tail | apply cut_app)) ?_ | exact sb_one (by repeat (first | exact cut_head | exact cut_all | apply cut_tail | apply cut_app)))))) rfl rfl (by omega)) ?_
      rintro _ u ⟨rfl, f⟩
      have H := H.fr0 f
      refine ⟨_, rfl, s_asB (s_false (by simp) (s_false (by simp) (s_next (by simp) ?_)))⟩
      simp (config := { decide := true }) only [if_true, if_false]
      exact H.sub (by repeat (first | exact sb_refl | exact sb_nil | refine sb_cons (by repeat (first | exact pick_head | apply pick_tail | apply pick_app)) ?_ | refine sb_app (by repeat (first | exact cut_head | exact cut_all | apply cut_tail | apply cut_app)) ?_ | exact sb_one (by repeat (first | exact cut_head | exact cut_all | apply cut_tail | apply cut_app))))
  · refine h_ldB H (by repeat (first | exact pick_head | apply pick_tail | apply pick_app)) rfl (s_ite (fun g => ?_) (fun g => s_next (by simp) ?_))
    · refine s_call (tclone_c H hT hI) ?_
      rintro _ u ⟨p', c', rfl, hT', H⟩
      refine ⟨_, rfl, s_asP (s_false rfl ?_)⟩
      have H : Has w u (c ++ (c' ++ (cl n25 32 (opr x) :: c2))) := H.sub (by repeat (first | exact sb_refl | exact sb_nil | refine sb_cons (by repeat (first | exact pick_head | apply pick_tail | apply pick_app)) ?_ | refine sb_app (by repeat (first | exact cut_head | exact cut_all | apply cut_tail | apply cut_app)) ?_ | exact sb_one (by repeat (first | exact cut_head | exact cut_all | apply cut_tail | apply cut_app))))
      refine h_ldI H (by repeat (first | exact pick_head | apply pick_tail | apply pick_app)) rfl (h_ldI H (by repeat (first | exact pick_head | apply pick_tail | apply pick_app)) rfl (h_ldI H (by repeat (first | exact pick_head | apply pick_tail | apply pick_app)) rfl (h_ldS H (by repeat (first | exact pick_head | apply pick_tail | apply pick_app)) rfl (h_ldI H (by repeat (first | exact pick_head | apply pick_tail | apply pick_app)) rfl (h_ldI H (by repeat (first | exact pick_head | apply pick_tail | apply pick_app)) rfl ?_)))))
      refine s_call (put_c (e := x.e) (slot := x.slot) (place := x.place) H hT hI hok.1 hok.2.1 (fun u H => hxv.fr0 H.base) rfl hok.2.2.1) ?_
      rintro _ u ⟨c3, rfl, hT3, H⟩
      refine ⟨_, rfl, s_asI (s_next (by simp) ?_)⟩
      simp (config := { decide := true }) only [if_true, if_false]
      exact ⟨p', c', rfl, hT', H.sub (by repeat (first | exact sb_refl | exact sb_nil | refine sb_cons (by repeat (first | exact pick_head | apply pick_tail | apply pick_app)) ?_ | refine sb_app (by repeat (first | exact cut_head | exact cut_all | apply cut_tail | apply cut_app)) ?_ | exact sb_one (by repeat (first | exact cut_head | exact cut_all | apply cut_tail | apply cut_app))))⟩
    · simp (config := { decide := true }) only [if_true, if_false]
      exact ⟨p, c, rfl, hT, H⟩
end
end Go.Proofs.Ytcmdbaafnbdpbaa
