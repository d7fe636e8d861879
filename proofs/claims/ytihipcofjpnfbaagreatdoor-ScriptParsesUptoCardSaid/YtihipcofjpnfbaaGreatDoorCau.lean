/- What is caught. -/
import Derived.Test.YtihipcofjpnfbaaGreatDoorCutP
import Derived.RecoverIn
import Derived.Tactics
import Derived.Tactics2
import Derived.TacticsInMore
set_option linter.unusedVariables false
set_option linter.unusedSimpArgs false
set_option maxRecDepth 100000
set_option maxHeartbeats 4000000
namespace Go.Proofs.YtihipcofjpnfbaaGreatDoor
open Go hiding Expr
open Go.RowKit Tr
theorem caught_nil {w : World} : Calls Tryz.prog 14 #[.nilIface] w fun e w' => e = .returned (.bool false) ∧ w' = w := by
  go_enter Tryz.func14, Tryz.ntmps14
  go_wp2
  go_ret
  exact ⟨rfl, rfl⟩
theorem assert_wrong {w : World} : (Instr.typeAssert (.iface 44 (.agg #[])) 20 44 true).run Tryz.prog w = .ok (.tuple #[.agg #[], .bool true]) w := by
  simp [Instr.typeAssert, run_underlying Tryz.underlying44, go_sem, Result.andThen]
theorem caught_wrong {w : World} : Calls Tryz.prog 14 #[.iface 44 (.agg #[])] w fun e w' => e = .returned (.bool true) ∧ Fr [] w w' := by
  go_enter Tryz.func14, Tryz.ntmps14
  go_wp2
  rw [assert_wrong]
  simp only [Result.andThen]
  rw [Oper.upon_value]
  go_wp2
  go_ret
  exact ⟨rfl, Fr.push _⟩

/-! ### A region that begins with recover, in a deferred call -/
section
variable {F : Fence} {n : Nat} {P : Program} {Q : Exit → Act → List Frame → World → Prop} {a : Act} {cs cs' : List Frame} {w : World} {v : Value}
theorem wpSIn_region_rec {id : Nat} {ops : Array Oper} {rest : List Nat} {o : Oper} (hro0 : F.round = none) (hr : List.range ops.size = 0 :: rest) (ho : ops[0]? = some o) (habout : ∀ f, o.about P w a.eval = some f → F.fn f)
    (hw : Region.wanted o (yielded ops a.tmps) = true) (hrun : (execOp a.eval o).run P w = .ok .recover w) (hrec : (match recoverD cs with | some q => q | none => (.nilIface, cs)) = (v, cs'))
    (h : wpOpsIn F n P ops (fun e a' w' => Q e a' cs' w') rest (a.put o.dst v) w) : (Code.region id ops false).wpSIn F n P Q a cs w := by
  intro b k hb hro hF hroom
  have hlen : cs'.length = cs.length := by
    cases hc : recoverD cs with
    | none => rw [hc] at hrec; cases hrec; rfl
    | some q =>
      rw [hc] at hrec
      simp only at hrec
      subst hrec
      exact recoverD_length hc
  obtain ⟨e, a', w', hq, harr⟩ := wp_opsIn rest (a.put o.dst v) w h b k cs' (hro.trans hro0.symm) hF (hlen ▸ hroom)
  refine ⟨e, a', cs', w', hlen, hq, .of_steps (.one (fenced_calm hF hroom rfl) stepR_region) ?_⟩
  rw [hr]
  have h0 : (lone (b.atR a (.inRegion ops (0 :: rest) :: k)) cs w).fenced P F := fenced_oper hF hroom ho habout
  have hg := stepGR_op (P := P) (b := b) (k := k) (cs := cs) (w := w) (rest := rest) ho hw
  rw [hro, Oper.semAt_none] at hg
  have hfin : ∀ v, (b.atR a (.inRegion ops (0 :: rest) :: k)).finish v = b.atR (a.put o.dst v) (.inRegion ops rest :: k) := by
    intro v; rw [Frame.finish_atR, ho]; rfl
  have hk : (b.atR a (.inRegion ops (0 :: rest) :: k)).kind = .deferred := hb
  have htr := tryRecover_deferred hk cs
  refine .of_steps (.one h0 (step_lone_go ?_)) harr
  rw [hg, ← hfin]
  simp only [Frame.atR, hro] at htr ⊢
  cases hc : recoverD cs with
  | none =>
    rw [hc] at hrec
    cases hrec
    simp [stepG.apply, hrun, htr, hc]
  | some q =>
    rw [hc] at hrec
    simp only at hrec
    subst hrec
    simp [stepG.apply, hrun, htr, hc]
end
theorem calls_at {P : Program} {f : FuncId} {x y : Array Value} {w : World} {R : Ending → World → Prop} (h : Calls P f x w R) (e : y = x) : Calls P f y w R := e ▸ h
def thenC : Code → Code
  | .seq _ (.cond _ r _) => r
  | _ => .skip
noncomputable def restP : Code := thenC (codeOf Tryz.f13)
def KP : Exit → Env → T := fun ex e => match ex, e.ds with
  | .normal, [] => .ret (.tuple #[])
  | _, _ => .bad
def envP (n1 n2 n3 : Nat) (d : Nat → Value) : Env := ⟨[(0, .p n1 0), (1, .p n2 0), (2, .p n3 0)], d, []⟩
theorem treeP (n1 n2 n3 : Nat) (d : Nat → Value) : comp Tryz.prog 6 restP none none .n 0 KP (envP n1 n2 n3 d) =
    T.st n1 0 (.int .i64 0) (T.st n1 1 (.int .i64 0) (T.st n1 2 (.int .i64 0) (T.st n1 3 (.int .i64 0) (T.st n1 4 (.int .u64 0) (T.st n2 0 (.slice none 0 0) (T.st n3 0 (.int .i64 270) (T.ret (.tuple #[])))))))) := by kernel_rfl
theorem relP (n1 n2 n3 : Nat) (a : Act) (ha : a.tmps.size = 6) (hd : a.defers = []) (h0 : a.tmps.getD 0 undef = .pointer (some ⟨n1, 0, none⟩)) (h1 : a.tmps.getD 1 undef = .pointer (some ⟨n2, 0, none⟩))
    (h2 : a.tmps.getD 2 undef = .pointer (some ⟨n3, 0, none⟩)) : Rel 6 (envP n1 n2 n3 fun t => a.tmps.getD t undef) a := by
  refine rel_of ha ?_ hd
  intro y hy
  simp only [List.mem_cons, List.not_mem_nil, or_false] at hy
  rcases hy with rfl | rfl | rfl
  · exact h0.symm
  · exact h1.symm
  · exact h2.symm
def cfZ : List Value := [.int .i64 0, .int .i64 0, .int .i64 0, .int .i64 0, .int .u64 0]
section
variable {w w' w0 : World} {m m' c : Hp} {n1 n2 n3 : Nat} {v1 v2 v3 v4 v5 lv ev : Value}
theorem stP (H : Has w0 w (cl n1 24 [v1, v2, v3, v4, v5] :: cl n2 25 [lv] :: cl n3 26 [ev] :: m)) : T.sem Tryz.prog
    (fun e W => e = .returned (.tuple #[]) ∧ Has w0 W (cl n1 24 cfZ :: cl n2 25 [.slice none 0 0] :: cl n3 26 [.int .i64 270] :: m))
    (T.st n1 0 (.int .i64 0) (T.st n1 1 (.int .i64 0) (T.st n1 2 (.int .i64 0) (T.st n1 3 (.int .i64 0) (T.st n1 4 (.int .u64 0) (T.st n2 0 (.slice none 0 0) (T.st n3 0 (.int .i64 270) (T.ret (.tuple #[])))))))))
    ρ0 w := by
  refine h_st H (by repeat (first | exact pick_head | apply pick_tail | apply pick_app)) (by simp) rfl fun u H1 => ?_
  simp only [List.set] at H1
  refine h_st H1 (by repeat (first | exact pick_head | apply pick_tail | apply pick_app)) (by simp) rfl fun u H2 => ?_
  simp only [List.set] at H2
  refine h_st H2 (by repeat (first | exact pick_head | apply pick_tail | apply pick_app)) (by simp) rfl fun u H3 => ?_
  simp only [List.set] at H3
  refine h_st H3 (by repeat (first | exact pick_head | apply pick_tail | apply pick_app)) (by simp) rfl fun u H4 => ?_
  simp only [List.set] at H4
  refine h_st H4 (by repeat (first | exact pick_head | apply pick_tail | apply pick_app)) (by simp) rfl fun u H5 => ?_
  simp only [List.set] at H5
  refine h_st H5 (by repeat (first | exact pick_head | apply pick_tail | apply pick_app)) (by simp) rfl fun u H6 => ?_
  simp only [List.set] at H6
  refine h_st H6 (by repeat (first | exact pick_head | apply pick_tail | apply pick_app)) (by simp) rfl fun u H7 => ?_
  simp only [List.set] at H7
  refine s_ret ⟨rfl, ?_⟩
  unfold cfZ
  exact H7.sub (by repeat (first | exact sb_refl | exact sb_nil | refine sb_cons (by repeat (first | exact pick_head | apply pick_tail | apply pick_app)) ?_ | refine sb_app (by repeat (first | exact cut_head | exact cut_all | apply cut_tail | apply cut_app)) ?_ | exact sb_one (by repeat (first | exact cut_head | exact cut_all | apply cut_tail | apply cut_app))))
theorem p1_pan (H : Has w0 w (cl n1 24 [v1, v2, v3, v4, v5] :: cl n2 25 [lv] :: cl n3 26 [ev] :: m)) :
    CallsDIn (FF none) 0 Tryz.prog 13 ⟨[.pointer (some ⟨n1, 0, none⟩), .pointer (some ⟨n2, 0, none⟩), .pointer (some ⟨n3, 0, none⟩)]⟩ (modeOf (some (.iface 44 (.agg #[])))) w fun e u w' =>
    e = .returned (.tuple #[]) ∧ settle u = .returning ∧ Has w0 w' (cl n1 24 cfZ :: cl n2 25 [.slice none 0 0] :: cl n3 26 [.int .i64 270] :: m) := by
  refine callsDIn_of_wpSIn Tryz.func13 rfl trivial fun c₀ cs hu => ?_
  apply wpSIn_seq
  refine wpSIn_region_rec (v := .iface 44 (.agg #[])) (cs' := { c₀ with mode := .panicking [{ v := .iface 44 (.agg #[]), recovered := true }] } :: cs) rfl rfl rfl ?_ ?_ ?_ ?_ ?_
  · intro f hf; trivial
  · rfl
  · simp [go_sem]
  · simp [recoverD, hu, modeOf]
  · rw [wpOpsIn_cons]
    simp only [wpOpIn]
    simp [go_sem, Region.wanted, Oper.wpIn, Oper.about, Act.put, Act.eval, Array.replicate, Tryz.ntmps13, wpOpsIn]
    refine ⟨?_, fun h => by simp [FF, Fence.wide] at h, calls_ff.2 (Calls.mono (calls_at caught_wrong (by simp [Act.eval])) ?_)⟩
    · trivial
    rintro _ u ⟨rfl, hF⟩
    have H1 := H.fr hF (by intro x h; cases h) (by intro x h; cases h)
    show Exit.thenS _ _ _ _ _ _
    simp only [Exit.thenS]
    refine wpSIn_cond (t := true) rfl ?_
    simp only [if_true]
    refine wpSIn_of_wpIn rfl ?_
    refine wpIn_mono (comp_sound (P := Tryz.prog) (n := 6) (Q := fun e W => e = .returned (.tuple #[]) ∧ Has w0 W (cl n1 24 cfZ :: cl n2 25 [.slice none 0 0] :: cl n3 26 [.int .i64 270] :: m)) mixed restP none none .n 0 KP _ ρ0 _ _ (relP n1 n2 n3 _ rfl rfl rfl rfl rfl) ?_) ?_
    · rw [treeP]
      exact stP H1
    · intro ex a W hq
      cases ex
      case normal =>
        obtain ⟨e, ρ', hr, _, h⟩ := hq
        cases hd : e.ds with
        | nil =>
          have h : Ending.returned (Value.tuple #[]) = .returned (.tuple #[]) ∧ Has w0 W (cl n1 24 cfZ :: cl n2 25 [.slice none 0 0] :: cl n3 26 [.int .i64 270] :: m) := by
            simp only [KP, hd, T.sem] at h
            exact ⟨rfl, h.2⟩
          exact ⟨hr.ds.trans hd, _, rfl, .tuple #[], by simp [results, Tryz.results13], rfl, rfl, h.2⟩
        | cons d ds =>
          exfalso
          simp only [KP, hd, T.sem] at h
      case panic c =>
        obtain ⟨v, e, ρ', _, _, _, h⟩ := hq
        exact h.elim
      case outgrown => exact hq.elim
      all_goals
        obtain ⟨e, ρ', hr, _, h⟩ := hq
        exfalso
        simp only [KP, T.sem] at h
theorem p1_ret : CallsDIn (FF none) 0 Tryz.prog 13 ⟨[.pointer (some ⟨n1, 0, none⟩), .pointer (some ⟨n2, 0, none⟩), .pointer (some ⟨n3, 0, none⟩)]⟩ (modeOf none) w fun e u w' =>
    e = .returned (.tuple #[]) ∧ settle u = .returning ∧ w' = w := by
  refine callsDIn_of_wpSIn Tryz.func13 rfl trivial fun c₀ cs hu => ?_
  apply wpSIn_seq
  refine wpSIn_region_rec (v := .nilIface) (cs' := c₀ :: cs) rfl rfl rfl ?_ ?_ ?_ ?_ ?_
  · intro f hf; trivial
  · rfl
  · simp [go_sem]
  · simp [recoverD, hu, modeOf]
  · rw [wpOpsIn_cons]
    simp only [wpOpIn]
    simp [go_sem, Region.wanted, Oper.wpIn, Oper.about, Act.put, Act.eval, Array.replicate, Tryz.ntmps13, wpOpsIn]
    refine ⟨?_, fun h => by simp [FF, Fence.wide] at h, calls_ff.2 (Calls.mono (calls_at caught_nil (by simp [Act.eval])) ?_)⟩
    · trivial
    rintro _ u ⟨rfl, rfl⟩
    show Exit.thenS _ _ _ _ _ _
    simp only [Exit.thenS]
    refine wpSIn_cond (t := false) rfl ?_
    simp only [Bool.false_eq_true, if_false]
    refine wpSIn_of_wpIn rfl (wpIn_skip ?_)
    refine ⟨rfl, .returning, ?_, .tuple #[], by simp [results, Tryz.results13], rfl, rfl, rfl⟩
    have : ({ c₀ with mode := .returning } : Frame) = c₀ := by cases c₀; simp_all [modeOf]
    rw [this]
end
end Go.Proofs.YtihipcofjpnfbaaGreatDoor
