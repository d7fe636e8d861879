/- The walk of LocksNone: queues that no call made. -/
import Derived.Test.YtdepohepogocgaaLkB
import Derived.Test.YtdepohepogocgaaTreesN
set_option linter.unusedVariables false
set_option linter.unusedSimpArgs false
set_option maxRecDepth 100000
set_option maxHeartbeats 4000000
namespace Go.Proofs.Ytdepohepogocgaa
open Go hiding Expr
open Go.RowKit Tr

/-- Queues that no call made: nil, or of zeros. -/
def NoLk (w : World) (o : Option Addr) : Prop := o = none ∨ ∃ r, o = some ⟨r, 0, none⟩ ∧ Cells w r 71 [.map none, .map none, .slice none 0 0]
section
variable {w : World} {o : Option Addr} {t : Ix} {k : K}
theorem NoLk.fr0 {w' : World} (h : NoLk w o) (f : Fr [] w w') : NoLk w' o := by
  rcases h with h | ⟨r, h, hc⟩
  · exact .inl h
  · exact .inr ⟨r, h, f.cells hc (by simp)⟩
theorem noneO_c (hN : NoLk w o) : Calls Try.prog 33 #[.pointer o] w fun e w' => e = .returned (.bool true) ∧ w = w' := by
  apply c33o
  rcases hN with rfl | ⟨r, rfl, hc⟩
  · exact s_true rfl (s_ret ⟨rfl, rfl⟩)
  · exact s_false rfl (s_sm (s_ldM hc rfl (s_ret ⟨rfl, rfl⟩)))
theorem relO_c (hN : NoLk w o) : Calls Try.prog 11 #[.pointer o, .agg ⟨ir t⟩] w fun e w' => e = .returned (.tuple #[.slice none 0 0, .int .i64 2]) ∧ Fr [] w w' := by
  apply c11o
  refine h_new (Has.init w) fun n3 u H => ?_
  refine s_call (noneO_c (hN.fr0 H.base)) ?_
  rintro _ _ ⟨rfl, rfl⟩
  exact ⟨_, rfl, s_asB (s_true rfl (s_ret ⟨rfl, H.base⟩))⟩
theorem reqO_c {o2 : Option Addr} {n cap : Nat} (hN : NoLk w o) : Calls Try.prog 10 #[.pointer o, .agg ⟨ir t⟩, .slice o2 n cap] w fun e w' => e = .returned (.int .i64 2) ∧ Fr [] w w' := by
  apply c10o
  refine h_new (Has.init w) fun n3 u H => ?_
  refine s_call (noneO_c (hN.fr0 H.base)) ?_
  rintro _ _ ⟨rfl, rfl⟩
  exact ⟨_, rfl, s_asB (s_true rfl (s_ret ⟨rfl, H.base⟩))⟩
theorem readyO_c (hN : NoLk w o) : Calls Try.prog 18 #[.pointer o, .agg ⟨ir t⟩] w fun e w' => e = .returned (.bool false) ∧ Fr [] w w' := by
  apply c18o
  refine h_new (Has.init w) fun n4 u H => ?_
  (refine h_new H fun n5 u H => ?_)
  refine h_ldP H (by repeat (first | exact pick_head | apply pick_tail | apply pick_app)) rfl (s_call (noneO_c (hN.fr0 H.base)) ?_)
  rintro _ _ ⟨rfl, rfl⟩
  exact ⟨_, rfl, s_asB (s_true rfl (s_ret ⟨rfl, H.base⟩))⟩
theorem waitsO_c (hN : NoLk w o) : Calls Try.prog 30 #[.pointer o, .agg ⟨ir t⟩] w fun e w' => e = .returned (.slice none 0 0) ∧ Fr [] w w' := by
  apply c30o
  refine h_new (Has.init w) fun n3 u H => ?_
  refine s_call (noneO_c (hN.fr0 H.base)) ?_
  rintro _ _ ⟨rfl, rfl⟩
  exact ⟨_, rfl, s_asB (s_true rfl (s_ret ⟨rfl, H.base⟩))⟩
theorem queueO_c (hN : NoLk w o) : Calls Try.prog 13 #[.pointer o, .agg ⟨kr k⟩] w fun e w' => e = .returned (.slice none 0 0) ∧ Fr [] w w' := by
  apply c13o
  refine h_new (Has.init w) fun n3 u H => ?_
  refine s_call (noneO_c (hN.fr0 H.base)) ?_
  rintro _ _ ⟨rfl, rfl⟩
  exact ⟨_, rfl, s_asB (s_true rfl (s_ret ⟨rfl, H.base⟩))⟩
theorem keysO_c (hN : NoLk w o) : Calls Try.prog 12 #[.pointer o] w fun e w' => e = .returned (.slice none 0 0) ∧ Fr [] w w' := by
  apply c12o
  refine s_call (noneO_c hN) ?_
  rintro _ _ ⟨rfl, rfl⟩
  exact ⟨_, rfl, s_asB (s_true rfl (s_ret ⟨rfl, Fr.refl _ _⟩))⟩
theorem lenO_c (hN : NoLk w o) : Calls Try.prog 23 #[.pointer o] w fun e w' => e = .returned (.int .i64 0) ∧ Fr [] w w' := by
  apply c23o
  refine s_call (noneO_c hN) ?_
  rintro _ _ ⟨rfl, rfl⟩
  exact ⟨_, rfl, s_asB (s_true rfl (s_ret ⟨rfl, Fr.refl _ _⟩))⟩
theorem cloneO_c (hN : NoLk w o) : Calls Try.prog 31 #[.pointer o] w fun e w' => e = .returned (.pointer none) ∧ Fr [] w w' := by
  apply c31o
  refine s_call (noneO_c hN) ?_
  rintro _ _ ⟨rfl, rfl⟩
  exact ⟨_, rfl, s_asB (s_true rfl (s_ret ⟨rfl, Fr.refl _ _⟩))⟩
theorem allO_c (hN : NoLk w o) : Calls Try.prog 17 #[.pointer o] w fun e w' => ∃ r, e = .returned (.func (.func 46) #[] #[.pointer (some ⟨r, 0, none⟩)]) ∧ Has w w' [cl r 33 [.slice none 0 0]] := by
  apply c17o
  refine h_new (Has.init w) fun n2 u H => ?_
  refine s_call (noneO_c (hN.fr0 H.base)) ?_
  rintro _ _ ⟨rfl, rfl⟩
  exact ⟨_, rfl, s_asB (s_false rfl (s_ret ⟨n2, rfl, H⟩))⟩

theorem none_law_c {d a b : Int} {o2 : Option Addr} {n cap : Nat} : Calls Try.prog 7 #[.agg ⟨[.int .i64 d, .int .i64 a, .int .i64 b, .slice o2 n cap]⟩] w fun en w' => en = .returned (.bool true) ∧ Fr [] w w' := by
  apply c7
  refine h_new (Has.init w) fun n6 u H => s_call begun_c ?_
  rintro _ u ⟨rfl, f⟩
  have H := H.fr0 f
  refine ⟨_, rfl, s_asB (s_false rfl ?_)⟩
  (refine h_new H fun n9 u H => ?_)
  (refine h_new H fun n10 u H => ?_)
  have hNo : ∀ (i : Nat) (oo : Option Addr) (u : World), [Value.pointer none, .pointer (some ⟨n9, 0, none⟩)][i]? = some (.pointer oo) → Cells u n9 71 [.map none, .map none, .slice none 0 0] → NoLk u oo := by
    intro i oo u h hc
    rcases i with _ | _ | i
    · simp at h; exact .inl h.symm
    · simp at h; exact .inr ⟨n9, h.symm, hc⟩
    · simp at h
  refine s_loop (fun vs W => ∃ k : Nat, vs = [.int .i64 k] ∧ k ≤ 2 ∧ ∃ m, Has w W (cl n10 23 [.pointer none, .pointer (some ⟨n9, 0, none⟩)] :: cl n9 71 [.map none, .map none, .slice none 0 0] :: cl n6 30 [.int .i64 d, .int .i64 a, .int .i64 b, .slice o2 n cap] :: m)) (fun vs _ => 2 - (intOf (vs.getD 0 undef)).toNat) ⟨0, rfl, by omega, [], H⟩ ?_
  clear H
  rintro _ j W ⟨k, rfl, hk, mm, H⟩
  refine s_asI (s_ite (fun g1 => ?_) (fun g1 => s_ret ⟨rfl, H.base⟩))
  have g1 : (k : Int) < 2 := by simpa using g1
  obtain ⟨oo, hoo⟩ : ∃ oo, [Value.pointer none, .pointer (some ⟨n9, 0, none⟩)][k]? = some (.pointer oo) := by
    rcases k with _ | _ | k
    · exact ⟨_, rfl⟩
    · exact ⟨_, rfl⟩
    · omega
  refine s_req ⟨by omega, g1⟩ (s_sm (h_ldP H (by repeat (first | exact pick_head | apply pick_tail | apply pick_app)) (n := oo) (by simpa using hoo) ?_))
  refine h_ldI H (by repeat (first | exact pick_head | apply pick_tail | apply pick_app)) rfl (h_ldI H (by repeat (first | exact pick_head | apply pick_tail | apply pick_app)) rfl ?_)
  refine s_call (relO_c (t := ⟨a, b⟩) (hNo k oo _ hoo (H.cells (by repeat (first | exact pick_head | apply pick_tail | apply pick_app))))) ?_
  rintro _ u ⟨rfl, f⟩
  have H := H.fr0 f
  refine ⟨_, rfl, s_asU (s_req rfl (s_asS (s_asI (h_ldI H (by repeat (first | exact pick_head | apply pick_tail | apply pick_app)) rfl (h_ldI H (by repeat (first | exact pick_head | apply pick_tail | apply pick_app)) rfl (h_ldS H (by repeat (first | exact pick_head | apply pick_tail | apply pick_app)) rfl ?_))))))⟩
  refine s_call (reqO_c (t := ⟨a, b⟩) (hNo k oo _ hoo (H.cells (by repeat (first | exact pick_head | apply pick_tail | apply pick_app))))) ?_
  rintro _ u ⟨rfl, f⟩
  have H := H.fr0 f
  refine ⟨_, rfl, s_asI (s_false rfl (s_false rfl (s_false rfl (h_ldI H (by repeat (first | exact pick_head | apply pick_tail | apply pick_app)) rfl (h_ldI H (by repeat (first | exact pick_head | apply pick_tail | apply pick_app)) rfl ?_)))))⟩
  refine s_call (readyO_c (t := ⟨a, b⟩) (hNo k oo _ hoo (H.cells (by repeat (first | exact pick_head | apply pick_tail | apply pick_app))))) ?_
  rintro _ u ⟨rfl, f⟩
  have H := H.fr0 f
  refine ⟨_, rfl, s_asB (s_false rfl (s_call (allO_c (hNo k oo _ hoo (H.cells (by repeat (first | exact pick_head | apply pick_tail | apply pick_app))))) ?_))⟩
  rintro _ u ⟨r, rfl, H2⟩
  have H := H.join H2
  refine ⟨_, rfl, s_asC (s_req rfl (s_asP (s_call (told_c (r := r) (ty := 33) (o := none) (cap := 0) (l := []) (l2 := []) (H.cells (by repeat (first | exact pick_head | apply pick_tail | apply pick_app))) (.inl rfl) (.inl rfl) rfl (by decide) (by decide)) ?_)))⟩
  rintro _ u ⟨rfl, f⟩
  have H := H.fr0 f
  refine ⟨_, rfl, s_asB (s_false (by decide) (h_ldI H (by repeat (first | exact pick_head | apply pick_tail | apply pick_app)) rfl (h_ldI H (by repeat (first | exact pick_head | apply pick_tail | apply pick_app)) rfl ?_)))⟩
  refine s_call (waitsO_c (t := ⟨a, b⟩) (hNo k oo _ hoo (H.cells (by repeat (first | exact pick_head | apply pick_tail | apply pick_app))))) ?_
  rintro _ u ⟨rfl, f⟩
  have H := H.fr0 f
  refine ⟨_, rfl, s_asS (s_false rfl ?_)⟩
  refine s_call (queueO_c (k := ⟨0, 0⟩) (hNo k oo _ hoo (H.cells (by repeat (first | exact pick_head | apply pick_tail | apply pick_app))))) ?_
  rintro _ u ⟨rfl, f⟩
  have H := H.fr0 f
  refine ⟨_, rfl, s_asS (s_false rfl ?_)⟩
  refine s_call (keysO_c (hNo k oo _ hoo (H.cells (by repeat (first | exact pick_head | apply pick_tail | apply pick_app))))) ?_
  rintro _ u ⟨rfl, f⟩
  have H := H.fr0 f
  refine ⟨_, rfl, s_asS (s_false rfl ?_)⟩
  refine s_call (lenO_c (hNo k oo _ hoo (H.cells (by repeat (first | exact pick_head | apply pick_tail | apply pick_app))))) ?_
  rintro _ u ⟨rfl, f⟩
  have H := H.fr0 f
  refine ⟨_, rfl, s_asI (s_false rfl ?_)⟩
  refine s_call (cloneO_c (hNo k oo _ hoo (H.cells (by repeat (first | exact pick_head | apply pick_tail | apply pick_app))))) ?_
  rintro _ u ⟨rfl, f⟩
  have H := H.fr0 f
  refine ⟨_, rfl, s_asP (s_false rfl (s_next (by first | exact ⟨rfl, rfl⟩ | trivial) ?_))⟩
  simp (config := { decide := true }) only [if_true, if_false]
  exact ⟨⟨k + 1, by rw [w_succ (by omega)], by omega, _, H.sub (by repeat (first | exact sb_refl | exact sb_nil | refine sb_cons (by repeat (first | exact pick_head | apply pick_tail | apply pick_app)) ?_ | refine sb_app (by repeat (first | exact cut_head | exact cut_all | apply cut_tail | apply cut_app)) ?_ | exact sb_one (by repeat (first | exact cut_head | exact cut_all | apply cut_tail | apply cut_app))))⟩, by rw [w_succ (by omega)]; simp [intOf] <;> omega⟩
end
end Go.Proofs.Ytdepohepogocgaa
