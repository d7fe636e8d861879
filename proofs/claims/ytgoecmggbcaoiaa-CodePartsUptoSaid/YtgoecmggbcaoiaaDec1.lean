/- The deferred call that catches what a reading gave up with. -/
import Derived.Test.YtgoecmggbcaoiaaROneM
import Derived.RecoverIn
import Derived.Tactics
import Derived.Tactics2
import Derived.TacticsInMore
set_option linter.unusedVariables false
set_option linter.unusedSimpArgs false
set_option maxRecDepth 100000
set_option maxHeartbeats 4000000
namespace Go.Proofs.Ytgoecmggbcaoiaa
open Go hiding Expr
open Go.RowKit Tr

def sndC : Code → Code
  | .seq _ (.seq _ (.cond _ r _)) => r
  | _ => .skip
noncomputable def rest1 : Code := sndC (codeOf Try.f41)
def K1 : Exit → Env → T := fun ex e => match ex, e.ds with
  | .normal, [] => .ret (.tuple #[])
  | _, _ => .bad
def env1 (n3 n4 : Nat) (x : Value) (d : Nat → Value) : Env := ⟨[(2, .v x), (0, .p n3 0), (1, .p n4 0)], d, []⟩
theorem tree1 (n3 n4 : Nat) (i : Int) (d : Nat → Value) : comp Try.prog 8 rest1 none none .n 0 K1 (env1 n3 n4 (.iface 85 (.agg #[.int .i64 i])) d) =
    T.call2 42 [.iface 85 (.agg #[.int .i64 i])] (fun v => T.asI .i64 v fun k => T.st n3 0 (.slice none 0 0) (T.st n4 0 (.int .i64 k) (.ret (.tuple #[])))) (fun v => T.bad) := by kernel_rfl

section
variable {w w' w0 : World} {m m' c : Hp} {n3 n4 : Nat} {lv ev : Value} {i : Int}

theorem rel1 (n3 n4 : Nat) (x : Value) (a : Act) (ha : a.tmps.size = 8) (hd : a.defers = []) (h0 : a.tmps.getD 0 undef = .pointer (some ⟨n3, 0, none⟩)) (h1 : a.tmps.getD 1 undef = .pointer (some ⟨n4, 0, none⟩))
    (h2 : a.tmps.getD 2 undef = x) : Rel 8 (env1 n3 n4 x fun t => a.tmps.getD t undef) a := by
  refine rel_of ha ?_ hd
  intro y hy
  simp only [List.mem_cons, List.not_mem_nil, or_false] at hy
  rcases hy with rfl | rfl | rfl
  · exact h2.symm
  · exact h0.symm
  · exact h1.symm

theorem dec1_pan (H : Has w0 w (cl n3 22 [lv] :: cl n4 24 [ev] :: m)) : CallsDIn (FF none) 0 Try.prog 41 ⟨[.pointer (some ⟨n3, 0, none⟩), .pointer (some ⟨n4, 0, none⟩)]⟩ (modeOf (some (.iface 85 (.agg #[.int .i64 i])))) w fun e u w' =>
    e = .returned (.tuple #[]) ∧ settle u = .returning ∧ Has w0 w' (cl n3 22 [.slice none 0 0] :: cl n4 24 [.int .i64 i] :: m) := by
  refine callsDIn_of_wpSIn Try.func41 rfl trivial fun c₀ cs hu => ?_
  apply wpSIn_seq
  apply wpSIn_region
  simp [wpOpsSIn, go_sem, recoverD, hu, Try.ntmps41, Exit.thenS, modeOf]
  apply wpSIn_seq
  apply wpSIn_region
  simp [wpOpsSIn, go_sem, Exit.thenS]
  refine wpSIn_cond (t := true) (by simp [Act.eval, Array.replicate]) ?_
  simp only [if_true]
  refine wpSIn_of_wpIn rfl ?_
  refine wpIn_mono (comp_sound (P := Try.prog) (n := 8) (Q := fun e W => e = .returned (.tuple #[]) ∧ Has w0 W (cl n3 22 [.slice none 0 0] :: cl n4 24 [.int .i64 i] :: m)) mixed rest1 none none .n 0 K1 _ ρ0 _ w (rel1 n3 n4 (.iface 85 (.agg #[.int .i64 i])) _ rfl rfl rfl rfl rfl) ?_) ?_
  · rw [tree1]
    have hc : Calls Try.prog 42 #[.iface 85 (.agg #[.int .i64 i])] w fun e w' => e = .returned (.int .i64 i) ∧ Has w0 w' (cl n3 22 [lv] :: cl n4 24 [ev] :: m) := by
      apply c42
      (refine h_new H fun n1 u H => ?_)
      exact h_st H (by repeat (first | exact pick_head | apply pick_tail | apply pick_app)) (by simp) rfl fun u H => s_false rfl (h_ldI H (by repeat (first | exact pick_head | apply pick_tail | apply pick_app)) rfl (s_ret ⟨rfl, H.drop⟩))
    refine s_call2 hc ?_
    rintro _ u ⟨rfl, H⟩
    refine ⟨_, rfl, s_asI (h_st H (by repeat (first | exact pick_head | apply pick_tail | apply pick_app)) (by simp) rfl fun u H => h_st H (by repeat (first | exact pick_head | apply pick_tail | apply pick_app)) (by simp) rfl fun u H => s_ret ⟨rfl, H.sub (by repeat (first | exact sb_refl | exact sb_nil | refine sb_cons (by repeat (first | exact pick_head | apply pick_tail | apply pick_app)) ?_ | refine sb_app (by repeat (first | exact cut_head | exact cut_all | apply cut_tail | apply cut_app)) ?_ | exact sb_one (by repeat (first | exact cut_head | exact cut_all | apply cut_tail | apply cut_app))))⟩)⟩
  · intro ex a W hq
    cases ex
    case normal =>
      obtain ⟨e, ρ', hr, _, h⟩ := hq
      cases hd : e.ds with
      | nil =>
        have h : Ending.returned (Value.tuple #[]) = .returned (.tuple #[]) ∧ Has w0 W (cl n3 22 [.slice none 0 0] :: cl n4 24 [.int .i64 i] :: m) := by
          simp only [K1, hd, T.sem] at h
          exact ⟨rfl, h.2⟩
        exact ⟨hr.ds.trans hd, _, rfl, .tuple #[], by simp [results, Try.results41], rfl, rfl, h.2⟩
      | cons d ds =>
        exfalso
        simp only [K1, hd, T.sem] at h
    case panic c =>
      obtain ⟨v, e, ρ', _, _, _, h⟩ := hq
      exact h.elim
    case outgrown => exact hq.elim
    all_goals
      obtain ⟨e, ρ', hr, _, h⟩ := hq
      exfalso
      simp only [K1, T.sem] at h

theorem dec1_ret : CallsDIn (FF none) 0 Try.prog 41 ⟨[.pointer (some ⟨n3, 0, none⟩), .pointer (some ⟨n4, 0, none⟩)]⟩ (modeOf none) w fun e u w' => e = .returned (.tuple #[]) ∧ settle u = .returning ∧ w' = w := by
  refine callsDIn_of_wpSIn Try.func41 rfl trivial fun c₀ cs hu => ?_
  apply wpSIn_seq
  apply wpSIn_region
  simp [wpOpsSIn, go_sem, recoverD, hu, Try.ntmps41, Exit.thenS, modeOf]
  apply wpSIn_seq
  apply wpSIn_region
  simp [wpOpsSIn, go_sem, Exit.thenS]
  refine wpSIn_cond (t := false) (by simp [Act.eval, Array.replicate]) ?_
  simp only [Bool.false_eq_true, if_false]
  refine wpSIn_of_wpIn rfl (wpIn_skip ?_)
  refine ⟨rfl, .returning, ?_, .tuple #[], by simp [results, Try.results41], rfl, rfl, rfl⟩
  have : ({ c₀ with mode := .returning } : Frame) = c₀ := by cases c₀; simp_all [modeOf]
  rw [this]
end
end Go.Proofs.Ytgoecmggbcaoiaa
