/- The walk of RowsNone: a table that no call made. -/
import Derived.Test.YtcmdbaafnbdpbaaTold
import Derived.Test.YtcmdbaafnbdpbaaOnce
import Derived.Test.YtcmdbaafnbdpbaaTreesN
set_option linter.unusedVariables false
set_option linter.unusedSimpArgs false
set_option maxRecDepth 100000
set_option maxHeartbeats 4000000
namespace Go.Proofs.Ytcmdbaafnbdpbaa
open Go hiding Expr
open Go.RowKit Tr

/-- A table that no call made: nil, or one of zeros. -/
def NoTab (w : World) (o : Option Addr) : Prop := o = none ∨ ∃ r, o = some ⟨r, 0, none⟩ ∧ Cells w r 61 [.map none, .slice none 0 0]

section
variable {w w' w0 : World} {m : Hp} {o : Option Addr} {s q : Int}
theorem noneO_c (hN : NoTab w o) : Calls Try.prog 25 #[.pointer o] w fun e w' => e = .returned (.bool true) ∧ w = w' := by
  apply c25o
  rcases hN with rfl | ⟨r, rfl, hc⟩
  · exact s_true rfl (s_ret ⟨rfl, rfl⟩)
  · exact s_false rfl (s_sm (s_ldM hc rfl (s_ret ⟨rfl, rfl⟩)))
theorem askO_c (H : Has w0 w m) (hN : ∀ u, Has w0 u m → NoTab u o) : Calls Try.prog 13 #[.pointer o, .int .i64 s, .int .i64 q] w fun en w' => en = .returned (.tuple #[.agg ⟨resL 0 none 0 0 0 0⟩, .int .i64 0]) ∧ Has w0 w' m := by
  apply c13o
  refine h_new H fun n3 u H => ?_
  refine s_call (noneO_c (hN u H.drop)) ?_
  rintro _ _ ⟨rfl, rfl⟩
  refine ⟨_, rfl, s_asB (s_true rfl ?_)⟩
  (repeat (first | refine s_asI ?_ | refine s_asS ?_ | refine s_asP ?_ | refine s_asB ?_ | refine s_asA ?_ | refine s_asT ?_ | refine s_asM ?_ | refine s_asU ?_ | refine s_asC ?_ | refine s_sm ?_ | refine s_req (by first | rfl | exact ⟨rfl, rfl⟩) ?_ | refine h_ldI H (by repeat (first | exact pick_head | apply pick_tail | apply pick_app)) (by first | rfl | (simp; done)) ?_ | refine h_ldB H (by repeat (first | exact pick_head | apply pick_tail | apply pick_app)) (by first | rfl | (simp; done)) ?_ | refine h_ldP H (by repeat (first | exact pick_head | apply pick_tail | apply pick_app)) (by first | rfl | (simp; done)) ?_ | refine h_ldS H (by repeat (first | exact pick_head | apply pick_tail | apply pick_app)) (by first | rfl | (simp; done)) ?_ | refine h_ldM H (by repeat (first | exact pick_head | apply pick_tail | apply pick_app)) (by first | rfl | (simp; done)) ?_ | refine h_ldT H (by repeat (first | exact pick_head | apply pick_tail | apply pick_app)) (by first | rfl | (simp; done)) ?_ | refine h_ldV H (by repeat (first | exact pick_head | apply pick_tail | apply pick_app)) (by first | rfl | (simp; done)) ?_ | (refine h_new H fun _ u H => ?_) | (refine h_st H (by repeat (first | exact pick_head | apply pick_tail | apply pick_app)) (by first | (simp; done) | exact Nat.le_of_ble_eq_true rfl) rfl fun u H => ?_) | (refine h_drew H fun u H => ?_) | refine s_chk c_nil ?_))
  exact s_ret ⟨rfl, H.sub (by repeat (first | exact sb_refl | exact sb_nil | refine sb_cons (by repeat (first | exact pick_head | apply pick_tail | apply pick_app)) ?_ | refine sb_app (by repeat (first | exact cut_head | exact cut_all | apply cut_tail | apply cut_app)) ?_ | exact sb_one (by repeat (first | exact cut_head | exact cut_all | apply cut_tail | apply cut_app))))⟩
theorem putO_c {e slot place : Int} {o2 : Option Addr} {n cap : Nat} (H : Has w0 w m) (hN : ∀ u, Has w0 u m → NoTab u o) : Calls Try.prog 12 #[.pointer o, .int .i64 s, .int .i64 q, .agg ⟨resL e o2 n cap slot place⟩] w fun en w' => en = .returned (.int .i64 2) ∧ Has w0 w' m := by
  apply c12o
  refine h_new H fun n3 u H => ?_
  refine s_call (noneO_c (hN u H.drop)) ?_
  rintro _ _ ⟨rfl, rfl⟩
  exact ⟨_, rfl, s_asB (s_true rfl (s_ret ⟨rfl, H.drop⟩))⟩
theorem lastO_c (hN : NoTab w o) : Calls Try.prog 23 #[.pointer o, .int .i64 s] w fun e w' => e = .returned (.int .i64 0) ∧ w = w' := by
  apply c23o
  refine s_call (noneO_c hN) ?_
  rintro _ _ ⟨rfl, rfl⟩
  exact ⟨_, rfl, s_asB (s_true rfl (s_ret ⟨rfl, rfl⟩))⟩
theorem allO_c (hN : NoTab w o) : Calls Try.prog 30 #[.pointer o] w fun e w' => e = .returned (.slice none 0 0) ∧ w = w' := by
  apply c30o
  refine s_call (noneO_c hN) ?_
  rintro _ _ ⟨rfl, rfl⟩
  exact ⟨_, rfl, s_asB (s_true rfl (s_ret ⟨rfl, rfl⟩))⟩
theorem lenO_c (hN : NoTab w o) : Calls Try.prog 15 #[.pointer o] w fun e w' => e = .returned (.int .i64 0) ∧ w = w' := by
  apply c15o
  refine s_call (allO_c hN) ?_
  rintro _ _ ⟨rfl, rfl⟩
  exact ⟨_, rfl, s_asS (s_ret ⟨rfl, rfl⟩)⟩
theorem tcloneO_c (hN : NoTab w o) : Calls Try.prog 20 #[.pointer o] w fun e w' => e = .returned (.pointer none) ∧ w = w' := by
  apply c20o
  refine s_call (noneO_c hN) ?_
  rintro _ _ ⟨rfl, rfl⟩
  exact ⟨_, rfl, s_asB (s_true rfl (s_ret ⟨rfl, rfl⟩))⟩
theorem toldO_c (H : Has w0 w m) (hN : ∀ u, Has w0 u m → NoTab u o) : Calls Try.prog 18 #[.pointer o, .slice none 0 0, .int .i64 0] w fun e w' => e = .returned (.bool true) ∧ Has w0 w' m := by
  apply c18o
  have hr : Calls Try.prog 19 #[.pointer o] w fun e w' => ∃ p', e = .returned (.func (.func 36) #[] #[.pointer (some ⟨p', 0, none⟩)]) ∧ Has w0 w' (cl p' 42 [.slice none 0 0] :: m) := by
    apply c19o
    refine s_call (allO_c (hN w H)) ?_
    rintro _ _ ⟨rfl, rfl⟩
    refine ⟨_, rfl, s_asS (h_new H fun n5 u H => h_st H (by repeat (first | exact pick_head | apply pick_tail | apply pick_app)) (by simp) rfl fun u H => s_ret ⟨n5, rfl, H⟩)⟩
  have hall : ∀ u, AllAt u none [] := fun u => ⟨.inl rfl, by simp⟩
  refine s_call hr ?_
  rintro _ u ⟨p', rfl, H⟩
  have hj := fun (w : World) (H : Has w0 w (cl p' 42 [.slice none 0 0] :: m)) => just_c (p := p') (o := none) (X := []) (Y := []) (cap := 0) (ty := 42) (stop := 0) (o2 := none) (n2 := 0) (cap2 := 0) H (fun u H => ⟨H.cells pick_head, hall u⟩) (fun u H => hall u) rfl rfl (by simp) (by simp)
  refine ⟨_, rfl, s_asC (s_req rfl (s_asP (s_call (hj _ H) ?_)))⟩
  rintro _ u ⟨rfl, H⟩
  refine ⟨_, rfl, s_asB (s_true rfl (s_call (hj _ H) ?_))⟩
  rintro _ u ⟨rfl, H⟩
  refine ⟨_, rfl, s_asB (s_true rfl (s_call (lenO_c (hN u H.drop)) ?_))⟩
  rintro _ _ ⟨rfl, rfl⟩
  exact ⟨_, rfl, s_asI (s_ret ⟨rfl, H.drop⟩)⟩

theorem none_law_c {pt clo : Bool} {e slot place stop : Int} {o2 : Option Addr} {n cap : Nat} : Calls Try.prog 9 #[.agg ⟨[.int .i64 s, .int .i64 q, .bool pt, .bool clo, .int .i64 e, .slice o2 n cap, .int .i64 slot, .int .i64 place, .int .i64 stop]⟩] w fun en w' =>
    en = .returned (.bool true) ∧ Fr [] w w' := by
  apply c9
  refine h_new (Has.init w) fun n11 u H => ?_
  refine s_call live_c ?_
  rintro _ u ⟨rfl, f⟩
  have H := H.fr0 f
  refine ⟨_, rfl, s_asB (s_false rfl ?_)⟩
  (refine h_new H fun n14 u H => ?_)
  (refine h_new H fun n15 u H => ?_)
  have hNo : ∀ (i : Nat) (oo : Option Addr) (u : World), [Value.pointer none, .pointer (some ⟨n14, 0, none⟩)][i]? = some (.pointer oo) → Cells u n14 61 [.map none, .slice none 0 0] → NoTab u oo := by
    intro i oo u h hc
    rcases i with _ | _ | i
    · simp at h; exact .inl h.symm
    · simp at h; exact .inr ⟨n14, h.symm, hc⟩
    · simp at h
  refine s_loop (fun vs W => ∃ k : Nat, vs = [.int .i64 k] ∧ k ≤ 2 ∧ Has w W _) (fun vs _ => 2 - (intOf (vs.getD 0 undef)).toNat) ⟨0, rfl, by omega, H⟩ ?_
  clear H
  rintro _ j W ⟨k, rfl, hk, H⟩
  refine s_asI (s_ite (fun g1 => ?_) (fun g1 => s_ret ⟨rfl, H.base⟩))
  have g1 : (k : Int) < 2 := by simpa using g1
  obtain ⟨oo, hoo⟩ : ∃ oo, [Value.pointer none, .pointer (some ⟨n14, 0, none⟩)][k]? = some (.pointer oo) := by
    rcases k with _ | _ | k
    · exact ⟨_, rfl⟩
    · exact ⟨_, rfl⟩
    · omega
  refine s_req ⟨by omega, g1⟩ (s_sm (h_ldP H (by repeat (first | exact pick_head | apply pick_tail | apply pick_app)) (by simpa using hoo) ?_))
  have hN : ∀ u, Has w u _ → NoTab u oo := fun u (Hu : Has w u (cl n15 23 [.pointer none, .pointer (some ⟨n14, 0, none⟩)] :: cl n14 61 [.map none, .slice none 0 0] :: [cl n11 32 [.int .i64 s, .int .i64 q, .bool pt, .bool clo, .int .i64 e, .slice o2 n cap, .int .i64 slot, .int .i64 place, .int .i64 stop]])) => hNo k oo u hoo (Hu.cells (by repeat (first | exact pick_head | apply pick_tail | apply pick_app)))
  refine h_ldI H (by repeat (first | exact pick_head | apply pick_tail | apply pick_app)) rfl (h_ldI H (by repeat (first | exact pick_head | apply pick_tail | apply pick_app)) rfl ?_)
  refine s_call (askO_c H hN) ?_
  rintro _ u ⟨rfl, H⟩
  refine ⟨_, rfl, s_asU (s_req rfl (s_asA (s_req rfl (s_asI (s_asS (s_asI (s_asI (s_asI ?_))))))))⟩
  have HH := H
  (refine h_new H fun n34 u H => ?_)
  iterate 4 refine h_st H (by repeat (first | exact pick_head | apply pick_tail | apply pick_app)) (by first | (simp; done) | exact Nat.le_of_ble_eq_true rfl) rfl fun u H => ?_
  refine s_blk (fun _ W => Has w W (cl n15 23 [.pointer none, .pointer (some ⟨n14, 0, none⟩)] :: cl n14 61 [.map none, .slice none 0 0] :: [cl n11 32 [.int .i64 s, .int .i64 q, .bool pt, .bool clo, .int .i64 e, .slice o2 n cap, .int .i64 slot, .int .i64 place, .int .i64 stop]])) ?_ ?_
  · clear H HH
    rintro _ _ W H
    refine s_call (toldO_c H hN) ?_
    rintro _ u ⟨rfl, H⟩
    refine ⟨_, rfl, s_asB (s_false rfl (s_next (by first | exact ⟨rfl, rfl⟩ | trivial) ?_))⟩
    simp (config := { decide := true }) only [if_true, if_false]
    exact ⟨⟨k + 1, by rw [w_succ (by omega)], by omega, H⟩, by rw [w_succ (by omega)]; simp [intOf] <;> omega⟩
  refine h_ldI H (by repeat (first | exact pick_head | apply pick_tail | apply pick_app)) rfl (h_ldS H (by repeat (first | exact pick_head | apply pick_tail | apply pick_app)) rfl (h_ldI H (by repeat (first | exact pick_head | apply pick_tail | apply pick_app)) rfl (h_ldI H (by repeat (first | exact pick_head | apply pick_tail | apply pick_app)) rfl ?_)))
  refine s_call (samer_c (v1 := []) (v2 := []) valsAt_nil valsAt_nil rfl rfl (by simp)) ?_
  rintro _ u ⟨rfl, f⟩
  have H := (H.fr0 f).drop
  refine ⟨_, rfl, s_asB (s_false (by decide) (s_false (by decide) ?_))⟩
  refine h_ldI H (by repeat (first | exact pick_head | apply pick_tail | apply pick_app)) rfl (h_ldI H (by repeat (first | exact pick_head | apply pick_tail | apply pick_app)) rfl (h_ldI H (by repeat (first | exact pick_head | apply pick_tail | apply pick_app)) rfl (h_ldS H (by repeat (first | exact pick_head | apply pick_tail | apply pick_app)) rfl (h_ldI H (by repeat (first | exact pick_head | apply pick_tail | apply pick_app)) rfl (h_ldI H (by repeat (first | exact pick_head | apply pick_tail | apply pick_app)) rfl ?_)))))
  refine s_call (putO_c H hN) ?_
  rintro _ u ⟨rfl, H⟩
  refine ⟨_, rfl, s_asI (s_false rfl (h_ldI H (by repeat (first | exact pick_head | apply pick_tail | apply pick_app)) rfl ?_))⟩
  refine s_call (lastO_c (hN u H)) ?_
  rintro _ _ ⟨rfl, rfl⟩
  refine ⟨_, rfl, s_asI (s_false rfl ?_)⟩
  refine s_call (lenO_c (hN u H)) ?_
  rintro _ _ ⟨rfl, rfl⟩
  refine ⟨_, rfl, s_asI (s_false rfl ?_)⟩
  refine s_call (tcloneO_c (hN u H)) ?_
  rintro _ _ ⟨rfl, rfl⟩
  refine ⟨_, rfl, s_asP (s_false rfl (s_next (by simp) ?_))⟩
  simp (config := { decide := true }) only [if_true, if_false]
  exact H
end
end Go.Proofs.Ytcmdbaafnbdpbaa
