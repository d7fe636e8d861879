/- The walk of RemoteNone: boxes that no call made. -/
import Derived.Test.YtpjcfnnnciknmaaTold
set_option linter.unusedVariables false
set_option linter.unusedSimpArgs false
set_option maxRecDepth 100000
set_option maxHeartbeats 4000000
namespace Go.Proofs.Ytpjcfnnnciknmaa
open Go hiding Expr
open Go.RowKit Tr

/-- Boxes that no call made: nil, or of zeros. -/
def NoBx (w : World) (o : Option Addr) : Prop := o = none ∨ ∃ r, o = some ⟨r, 0, none⟩ ∧ Cells w r 57 [.int .i64 0, .map none, .map none]
section
variable {w : World} {o o2 : Option Addr} {t : Ix} {x : Int} {n cap : Nat}
theorem NoBx.fr0 {w' : World} (h : NoBx w o) (f : Fr [] w w') : NoBx w' o := by
  rcases h with h | ⟨r, h, hc⟩
  · exact .inl h
  · exact .inr ⟨r, h, f.cells hc (by simp)⟩
theorem noneO_c (hN : NoBx w o) : Calls Try.prog 23 #[.pointer o] w fun e w' => e = .returned (.bool true) ∧ w = w' := by
  apply c23o
  rcases hN with rfl | ⟨r, rfl, hc⟩
  · exact s_true rfl (s_ret ⟨rfl, rfl⟩)
  · exact s_false rfl (s_sm (s_ldM hc rfl (s_ret ⟨rfl, rfl⟩)))
theorem putO_c (hN : NoBx w o) : Calls Try.prog 8 #[.pointer o, .agg ⟨ixr t⟩, .int .i64 x, .slice o2 n cap] w fun e w' => e = .returned (.tuple #[.bool false, .int .i64 2]) ∧ Fr [] w w' := by
  apply c8o
  refine h_new (Has.init w) fun n3 u H => ?_
  refine s_call (noneO_c (hN.fr0 H.base)) ?_
  rintro _ _ ⟨rfl, rfl⟩
  exact ⟨_, rfl, s_asB (s_true rfl (s_ret ⟨rfl, H.base⟩))⟩
theorem valuesO_c (hN : NoBx w o) : Calls Try.prog 12 #[.pointer o, .agg ⟨ixr t⟩] w fun e w' => e = .returned (.tuple #[.slice none 0 0, .int .i64 2]) ∧ Fr [] w w' := by
  apply c12o
  refine h_new (Has.init w) fun n3 u H => ?_
  refine s_call (noneO_c (hN.fr0 H.base)) ?_
  rintro _ _ ⟨rfl, rfl⟩
  exact ⟨_, rfl, s_asB (s_true rfl (s_ret ⟨rfl, H.base⟩))⟩
theorem needO_c (hN : NoBx w o) : Calls Try.prog 11 #[.pointer o, .agg ⟨ixr t⟩, .slice o2 n cap] w fun e w' => e = .returned (.int .i64 2) ∧ Fr [] w w' := by
  apply c11o
  refine h_new (Has.init w) fun n3 u H => ?_
  refine s_call (noneO_c (hN.fr0 H.base)) ?_
  rintro _ _ ⟨rfl, rfl⟩
  exact ⟨_, rfl, s_asB (s_true rfl (s_ret ⟨rfl, H.base⟩))⟩
theorem readyO_c (hN : NoBx w o) : Calls Try.prog 15 #[.pointer o, .agg ⟨ixr t⟩] w fun e w' => e = .returned (.bool false) ∧ Fr [] w w' := by
  apply c15o
  refine h_new (Has.init w) fun n3 u H => ?_
  refine s_call (noneO_c (hN.fr0 H.base)) ?_
  rintro _ _ ⟨rfl, rfl⟩
  exact ⟨_, rfl, s_asB (s_true rfl (s_ret ⟨rfl, H.base⟩))⟩
theorem missO_c (hN : NoBx w o) : Calls Try.prog 19 #[.pointer o, .agg ⟨ixr t⟩] w fun e w' => e = .returned (.slice none 0 0) ∧ Fr [] w w' := by
  apply c19o
  refine h_new (Has.init w) fun n3 u H => ?_
  refine s_call (noneO_c (hN.fr0 H.base)) ?_
  rintro _ _ ⟨rfl, rfl⟩
  exact ⟨_, rfl, s_asB (s_true rfl (s_ret ⟨rfl, H.base⟩))⟩
theorem dropO_c (hN : NoBx w o) : Calls Try.prog 17 #[.pointer o, .agg ⟨ixr t⟩] w fun e w' => e = .returned (.int .i64 2) ∧ Fr [] w w' := by
  apply c17o
  refine h_new (Has.init w) fun n3 u H => ?_
  refine s_call (noneO_c (hN.fr0 H.base)) ?_
  rintro _ _ ⟨rfl, rfl⟩
  exact ⟨_, rfl, s_asB (s_true rfl (s_ret ⟨rfl, H.base⟩))⟩
theorem lenO_c (hN : NoBx w o) : Calls Try.prog 18 #[.pointer o] w fun e w' => e = .returned (.int .i64 0) ∧ Fr [] w w' := by
  apply c18o
  refine s_call (noneO_c hN) ?_
  rintro _ _ ⟨rfl, rfl⟩
  exact ⟨_, rfl, s_asB (s_true rfl (s_ret ⟨rfl, Fr.refl _ _⟩))⟩
theorem cloneO_c (hN : NoBx w o) : Calls Try.prog 22 #[.pointer o] w fun e w' => e = .returned (.pointer none) ∧ Fr [] w w' := by
  apply c22o
  refine s_call (noneO_c hN) ?_
  rintro _ _ ⟨rfl, rfl⟩
  exact ⟨_, rfl, s_asB (s_true rfl (s_ret ⟨rfl, Fr.refl _ _⟩))⟩
theorem allO_c (hN : NoBx w o) : Calls Try.prog 21 #[.pointer o] w fun e w' => ∃ r, e = .returned (.func (.func 51) #[] #[.pointer (some ⟨r, 0, none⟩)]) ∧ Has w w' [cl r 78 [.slice none 0 0]] := by
  apply c21o
  refine s_call (noneO_c hN) ?_
  rintro _ _ ⟨rfl, rfl⟩
  refine ⟨_, rfl, s_asB (s_false rfl (s_call values36_c ?_))⟩
  rintro _ u ⟨r, rfl, H⟩
  exact ⟨_, rfl, s_asC (s_req rfl (s_asP (s_ret ⟨r, rfl, H⟩)))⟩

theorem none_law_c {d a b z : Int} {o3 : Option Addr} {n3 cap3 : Nat} : Calls Try.prog 5 #[.agg ⟨[.int .i64 d, .int .i64 a, .int .i64 b, .int .i64 z, .slice o2 n cap, .slice o3 n3 cap3]⟩] w fun en w' => en = .returned (.bool true) ∧ Fr [] w w' := by
  apply c5
  refine h_new (Has.init w) fun n6 u H => s_call begun_c ?_
  rintro _ u ⟨rfl, f⟩
  have H := H.fr0 f
  refine ⟨_, rfl, s_asB (s_false rfl ?_)⟩
  (refine h_new H fun n9 u H => ?_)
  (refine h_new H fun n10 u H => ?_)
  have hNo : ∀ (i : Nat) (oo : Option Addr) (u : World), [Value.pointer none, .pointer (some ⟨n9, 0, none⟩)][i]? = some (.pointer oo) → Cells u n9 57 [.int .i64 0, .map none, .map none] → NoBx u oo := by
    intro i oo u h hc
    rcases i with _ | _ | i
    · simp at h; exact .inl h.symm
    · simp at h; exact .inr ⟨n9, h.symm, hc⟩
    · simp at h
  refine s_loop (fun vs W => ∃ k : Nat, vs = [.int .i64 k] ∧ k ≤ 2 ∧ ∃ m, Has w W (cl n10 23 [.pointer none, .pointer (some ⟨n9, 0, none⟩)] :: cl n9 57 [.int .i64 0, .map none, .map none] :: cl n6 53 [.int .i64 d, .int .i64 a, .int .i64 b, .int .i64 z, .slice o2 n cap, .slice o3 n3 cap3] :: m)) (fun vs _ => 2 - (intOf (vs.getD 0 undef)).toNat) ⟨0, rfl, by omega, [], H⟩ ?_
  clear H
  rintro _ j W ⟨k, rfl, hk, mm, H⟩
  refine s_asI (s_ite (fun g1 => ?_) (fun g1 => s_ret ⟨rfl, H.base⟩))
  have g1 : (k : Int) < 2 := by simpa using g1
  obtain ⟨oo, hoo⟩ : ∃ oo, [Value.pointer none, .pointer (some ⟨n9, 0, none⟩)][k]? = some (.pointer oo) := by
    rcases k with _ | _ | k
    · exact ⟨_, rfl⟩
    · exact ⟨_, rfl⟩
    · omega
  refine s_req ⟨by omega, g1⟩ (s_sm (h_ldP H (by repeat (first | exact pick_head | apply pick_tail | apply pick_app)) (n := oo) (by simpa using hoo) ?_))
  refine h_ldI H (by repeat (first | exact pick_head | apply pick_tail | apply pick_app)) rfl (h_ldI H (by repeat (first | exact pick_head | apply pick_tail | apply pick_app)) rfl (h_ldI H (by repeat (first | exact pick_head | apply pick_tail | apply pick_app)) rfl (h_ldS H (by repeat (first | exact pick_head | apply pick_tail | apply pick_app)) rfl ?_)))
  refine s_call (putO_c (t := ⟨a, b⟩) (hNo k oo _ hoo (H.cells (by repeat (first | exact pick_head | apply pick_tail | apply pick_app))))) ?_
  rintro _ u ⟨rfl, f⟩
  have H := H.fr0 f
  refine ⟨_, rfl, s_asU (s_req rfl (s_asB (s_asI (h_ldI H (by repeat (first | exact pick_head | apply pick_tail | apply pick_app)) rfl (h_ldI H (by repeat (first | exact pick_head | apply pick_tail | apply pick_app)) rfl ?_)))))⟩
  refine s_call (valuesO_c (t := ⟨a, b⟩) (hNo k oo _ hoo (H.cells (by repeat (first | exact pick_head | apply pick_tail | apply pick_app))))) ?_
  rintro _ u ⟨rfl, f⟩
  have H := H.fr0 f
  refine ⟨_, rfl, s_asU (s_req rfl (s_asS (s_asI (s_false rfl (s_false rfl (s_false rfl (s_false rfl (h_ldI H (by repeat (first | exact pick_head | apply pick_tail | apply pick_app)) rfl (h_ldI H (by repeat (first | exact pick_head | apply pick_tail | apply pick_app)) rfl (h_ldS H (by repeat (first | exact pick_head | apply pick_tail | apply pick_app)) rfl ?_))))))))))⟩
  refine s_call (needO_c (t := ⟨a, b⟩) (hNo k oo _ hoo (H.cells (by repeat (first | exact pick_head | apply pick_tail | apply pick_app))))) ?_
  rintro _ u ⟨rfl, f⟩
  have H := H.fr0 f
  refine ⟨_, rfl, s_asI (s_false rfl (h_ldI H (by repeat (first | exact pick_head | apply pick_tail | apply pick_app)) rfl (h_ldI H (by repeat (first | exact pick_head | apply pick_tail | apply pick_app)) rfl ?_)))⟩
  refine s_call (readyO_c (t := ⟨a, b⟩) (hNo k oo _ hoo (H.cells (by repeat (first | exact pick_head | apply pick_tail | apply pick_app))))) ?_
  rintro _ u ⟨rfl, f⟩
  have H := H.fr0 f
  refine ⟨_, rfl, s_asB (s_false rfl (h_ldI H (by repeat (first | exact pick_head | apply pick_tail | apply pick_app)) rfl (h_ldI H (by repeat (first | exact pick_head | apply pick_tail | apply pick_app)) rfl ?_)))⟩
  refine s_call (missO_c (t := ⟨a, b⟩) (hNo k oo _ hoo (H.cells (by repeat (first | exact pick_head | apply pick_tail | apply pick_app))))) ?_
  rintro _ u ⟨rfl, f⟩
  have H := H.fr0 f
  refine ⟨_, rfl, s_asS (s_false rfl (h_ldI H (by repeat (first | exact pick_head | apply pick_tail | apply pick_app)) rfl (h_ldI H (by repeat (first | exact pick_head | apply pick_tail | apply pick_app)) rfl ?_)))⟩
  refine s_call (dropO_c (t := ⟨a, b⟩) (hNo k oo _ hoo (H.cells (by repeat (first | exact pick_head | apply pick_tail | apply pick_app))))) ?_
  rintro _ u ⟨rfl, f⟩
  have H := H.fr0 f
  refine ⟨_, rfl, s_asI (s_false rfl (s_call (allO_c (hNo k oo _ hoo (H.cells (by repeat (first | exact pick_head | apply pick_tail | apply pick_app))))) ?_))⟩
  rintro _ u ⟨r, rfl, H2⟩
  have H := H.join H2
  refine ⟨_, rfl, s_call (told_c (r := r) (ty := 78) (o := none) (cap := 0) (l := []) (l2 := []) (rows := []) (H.cells (by repeat (first | exact pick_head | apply pick_tail | apply pick_app))) (.inl rfl) (.inl rfl) rfl rfl (by decide) (by decide)) ?_⟩
  rintro _ u ⟨rfl, f⟩
  have H := H.fr0 f
  refine ⟨_, rfl, s_asB (s_false (by decide) ?_)⟩
  refine s_call (lenO_c (hNo k oo _ hoo (H.cells (by repeat (first | exact pick_head | apply pick_tail | apply pick_app))))) ?_
  rintro _ u ⟨rfl, f⟩
  have H := H.fr0 f
  refine ⟨_, rfl, s_asI (s_false rfl ?_)⟩
  refine s_call (cloneO_c (hNo k oo _ hoo (H.cells (by repeat (first | exact pick_head | apply pick_tail | apply pick_app))))) ?_
  rintro _ u ⟨rfl, f⟩
  have H := H.fr0 f
  refine ⟨_, rfl, s_asP (s_false rfl (s_next (by first | exact ⟨rfl, rfl⟩ | trivial) ?_))⟩
  simp (config := { decide := true }) only [if_true, if_false]
  exact ⟨⟨k + 1, by rw [w_succ (by omega)], by omega, _, H.sub (by repeat (first | exact sb_refl | exact sb_nil | refine sb_cons (by repeat (first | exact pick_head | apply pick_tail | apply pick_app)) ?_ | refine sb_app (by repeat (first | exact cut_head | exact cut_all | apply cut_tail | apply cut_app)) ?_ | exact sb_one (by repeat (first | exact cut_head | exact cut_all | apply cut_tail | apply cut_app))))⟩, by rw [w_succ (by omega)]; simp [intOf] <;> omega⟩
end
end Go.Proofs.Ytpjcfnnnciknmaa
