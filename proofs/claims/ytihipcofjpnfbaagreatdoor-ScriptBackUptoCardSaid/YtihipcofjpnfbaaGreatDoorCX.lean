/- Lines cut off, a line's words: strings.Cut and strings.Split. -/
import Derived.Test.YtihipcofjpnfbaaGreatDoorWrdB
import Derived.Lib.CountLaws
import Derived.RecoverIn
import Derived.Tactics
import Derived.Tactics2
import Derived.TacticsInMore
set_option linter.unusedVariables false
set_option linter.unusedSimpArgs false
set_option maxRecDepth 100000
set_option maxHeartbeats 4000000
namespace Go.Proofs.YtihipcofjpnfbaaGreatDoor
open Go hiding Expr
open Go.RowKit Tr

/-- Up to a byte, and behind it. -/
def cutC (c : UInt8) : List UInt8 → Option (List UInt8 × List UInt8)
  | [] => none
  | x :: r => if x = c then some ([], r) else (cutC c r).map fun q => (x :: q.1, q.2)
theorem cutC_some {c : UInt8} : ∀ {s a r : List UInt8}, cutC c s = some (a, r) → s = a ++ c :: r ∧ c ∉ a
  | [], a, r, h => by cases h
  | x :: t, a, r, h => by
    rw [cutC] at h
    split at h
    · rename_i hx
      cases h
      subst hx
      exact ⟨rfl, by simp⟩
    · rename_i hx
      obtain ⟨⟨a', r'⟩, h1, h2⟩ := Option.map_eq_some_iff.1 h
      cases h2
      obtain ⟨h3, h4⟩ := cutC_some h1
      refine ⟨by rw [h3]; rfl, ?_⟩
      simp only [List.mem_cons, not_or]
      exact ⟨fun e => hx e.symm, h4⟩
theorem cutC_none {c : UInt8} : ∀ {s : List UInt8}, cutC c s = none → c ∉ s
  | [], _ => by simp
  | x :: t, h => by
    rw [cutC] at h
    split at h
    · cases h
    · rename_i hx
      simp only [List.mem_cons, not_or]
      exact ⟨fun e => hx e.symm, cutC_none (Option.map_eq_none_iff.1 h)⟩
theorem cutC_app {c : UInt8} {a r : List UInt8} (h : c ∉ a) : cutC c (a ++ c :: r) = some (a, r) := by
  induction a with
  | nil => simp [cutC]
  | cons x a ih =>
    simp only [List.mem_cons, not_or] at h
    rw [List.cons_append, cutC, if_neg (fun e => h.1 e.symm), ih h.2]
    rfl
theorem index_cut (c : UInt8) : ∀ s : List UInt8, Lib.indexByte s c = match cutC c s with | some q => (q.1.length : Int) | none => -1
  | [] => rfl
  | x :: t => by
    rw [Lib.indexByte, cutC]
    by_cases hx : x = c
    · subst hx
      simp
    · have hb : (x == c) = false := by simpa using hx
      rw [hb, if_neg hx, index_cut c t]
      cases cutC c t with
      | none => simp
      | some q =>
        simp only [Option.map_some, Bool.false_eq_true, if_false, List.length_cons]
        have : ¬ ((q.1.length : Int) == -1) = true := by simp
        rw [if_neg this]
        simp
theorem spl_cut (s : List UInt8) : spl s = match cutC 32 s with | some q => q.1 :: spl q.2 | none => [s] := by
  cases h : cutC 32 s with
  | none => exact spl_word (cutC_none h)
  | some q =>
    obtain ⟨a, r⟩ := q
    obtain ⟨h1, h2⟩ := cutC_some h
    simp only
    conv => lhs; rw [h1]
    exact spl_app h2 r
theorem indexB_S (s : List UInt8) (c : UInt8) : Lib.indexB (S s) (S [c]) = match cutC c s with | some q => (q.1.length : Int) | none => -1 := by
  show Lib.index (S s).data.toList (S [c]).data.toList = _
  rw [S_list, S_list, Lib.index_one, index_cut]
theorem split_S (n : Nat) : ∀ s : List UInt8, s.length ≤ n → Lib.splitB (S [32]) 0 (Lib.countB (S s) (S [32])) (S s) = (spl s).map S := by
  induction n with
  | zero =>
    intro s hs
    have : s = [] := List.eq_nil_of_length_eq_zero (by omega)
    subst this
    rw [Lib.countB_miss _ _ (by rw [indexB_S]; rfl), Lib.splitB_zero]
    rfl
  | succ n ih =>
    intro s hs
    rw [spl_cut]
    cases h : cutC 32 s with
    | none =>
      rw [Lib.countB_miss _ _ (by rw [indexB_S, h]), Lib.splitB_zero]
      rfl
    | some q =>
      obtain ⟨a, r⟩ := q
      obtain ⟨h1, h2⟩ := cutC_some h
      have hi : Lib.indexB (S s) (S [32]) = (a.length : Int) := by rw [indexB_S, h]
      have hsz : (S [32]).size = 1 := S_size [32]
      have e1 : (S s).extract (a.length + (S [32]).size) (S s).size = S r := by
        rw [S_ext, hsz, S_size, List.take_of_length_le (Nat.le_refl _), h1]
        simp
      have e2 : (S s).extract 0 (a.length + 0) = S a := by
        rw [S_ext, h1]
        simp
      rw [Lib.countB_hit _ _ a.length (by rw [hsz]; omega) hi, Nat.add_comm, Lib.splitB_hit _ _ _ _ _ hi, e1, e2, ih r (by rw [h1] at hs; simp at hs; omega)]
      rfl
theorem count_S (s : List UInt8) : Lib.countB (S s) (S [32]) + 1 = (spl s).length := by
  have h := Lib.splitB_all (S [32]) (by rw [S_size]; decide) 0 _ (S s) rfl
  rw [split_S s.length s (Nat.le_refl _), List.length_map] at h
  exact h.symm
section
variable {w : World}
theorem Tr.Fr.drewN {w w' : World} (h : ∃ n, w' = w.drewN n) : Fr [] w w' := by
  obtain ⟨n, rfl⟩ := h
  exact ⟨rfl, rfl, rfl, Nat.le_refl _, fun k _ _ => rfl⟩
theorem cut_c (hE : ErrAt w) {s : List UInt8} (hsz : s.length ≤ 67108864) : Calls Tryz.prog 15 #[.string (S s), .string (S [10])] w fun e w' => Fr [] w w' ∧
    ((∃ a r, cutC 10 s = some (a, r) ∧ e = .returned (.tuple #[.string (S a), .string (S r), .bool true])) ∨ (cutC 10 s = none ∧ e = .returned (.tuple #[.string (S s), .string (S []), .bool false]))) := by
  obtain ⟨m, hm⟩ := hE.maxLen
  refine (Tryz.strings_Cut (S s) (S [10]) m w (by rw [S_size]; omega) hm).mono ?_
  rintro e u ⟨rfl, hu⟩
  refine ⟨Tr.Fr.drewN hu, ?_⟩
  have hi : Lib.index (S s).data.toList (S [10]).data.toList = match cutC 10 s with | some q => (q.1.length : Int) | none => -1 := indexB_S s 10
  rw [S_list, S_list] at hi
  rw [S_list, S_list]
  unfold Lib.cut
  cases h : cutC 10 s with
  | none =>
    rw [h] at hi
    simp only at hi
    rw [hi]
    exact .inr ⟨rfl, rfl⟩
  | some q =>
    obtain ⟨a, r⟩ := q
    obtain ⟨h1, h2⟩ := cutC_some h
    rw [h] at hi
    simp only at hi
    rw [hi, if_pos (by omega)]
    refine .inl ⟨a, r, rfl, ?_⟩
    have e1 : s.take (a.length : Int).toNat = a := by rw [h1]; simp
    have e2 : s.drop ((a.length : Int).toNat + [(10 : UInt8)].length) = r := by rw [h1]; simp
    rw [e1, e2]
theorem split_c (hE : ErrAt w) {s : List UInt8} (hsz : s.length ≤ 67108864) : Calls Tryz.prog 16 #[.string (S s), .string (S [32])] w fun e w' => ∃ g, e = .returned (.slice (some ⟨g, 0, none⟩) (spl s).length (spl s).length) ∧ Has w w' [cl g 9 (strs (spl s))] := by
  obtain ⟨m, hm⟩ := hE.maxLen
  refine (Tryz.strings_Split (S s) (S [32]) m w (by rw [S_size]; omega) hm (by rw [S_size]; decide)).mono ?_
  rintro e u ⟨rfl, rfl⟩
  refine ⟨w.heap.size, by rw [count_S], ?_⟩
  rw [split_S s.length s (Nat.le_refl _)]
  have f1 : Fr [] w (w.alloc (.cells ((spl s).map S |>.map Value.string).toArray 9)) := Fr.push _
  have e : strs (spl s) = ((spl s).map S).map Value.string := by
    unfold strs
    induction spl s with
    | nil => rfl
    | cons a r ih => simp only [List.map_cons, List.flatten_cons, ih]; rfl
  have H := (Has.init w).add f1 (Nat.le_refl _) (o := .cells ((spl s).map S |>.map Value.string).toArray 9) (by exact Array.getElem?_push_size)
  rw [e]
  exact H
end
end Go.Proofs.YtihipcofjpnfbaaGreatDoor

/- What is caught. -/
set_option linter.unusedVariables false
set_option linter.unusedSimpArgs false
set_option maxRecDepth 100000
set_option maxHeartbeats 4000000
namespace Go.Proofs.YtihipcofjpnfbaaGreatDoor
open Go hiding Expr
open Go.RowKit Tr
theorem caught_nil {w : World} : Calls Tryz.prog 14 #[.nilIface] w fun e w' => e = .returned (.bool false) ∧ w' = w := by
  go_enter Tryz.func14, Tryz.ntmps14
  go_wp2
  go_ret
  exact ⟨rfl, rfl⟩
theorem assert_wrong {w : World} : (Instr.typeAssert (.iface 44 (.agg #[])) 20 44 true).run Tryz.prog w = .ok (.tuple #[.agg #[], .bool true]) w := by
  simp [Instr.typeAssert, run_underlying Tryz.underlying44, go_sem, Result.andThen]
theorem caught_wrong {w : World} : Calls Tryz.prog 14 #[.iface 44 (.agg #[])] w fun e w' => e = .returned (.bool true) ∧ Fr [] w w' := by
  go_enter Tryz.func14, Tryz.ntmps14
  go_wp2
  rw [assert_wrong]
  simp only [Result.andThen]
  rw [Oper.upon_value]
  go_wp2
  go_ret
  exact ⟨rfl, Fr.push _⟩

/-! ### A region that begins with recover, in a deferred call -/
section
variable {F : Fence} {n : Nat} {P : Program} {Q : Exit → Act → List Frame → World → Prop} {a : Act} {cs cs' : List Frame} {w : World} {v : Value}
theorem wpSIn_region_rec {id : Nat} {ops : Array Oper} {rest : List Nat} {o : Oper} (hro0 : F.round = none) (hr : List.range ops.size = 0 :: rest) (ho : ops[0]? = some o) (habout : ∀ f, o.about P w a.eval = some f → F.fn f)
    (hw : Region.wanted o (yielded ops a.tmps) = true) (hrun : (execOp a.eval o).run P w = .ok .recover w) (hrec : (match recoverD cs with | some q => q | none => (.nilIface, cs)) = (v, cs'))
    (h : wpOpsIn F n P ops (fun e a' w' => Q e a' cs' w') rest (a.put o.dst v) w) : (Code.region id ops false).wpSIn F n P Q a cs w := by
  intro b k hb hro hF hroom
  have hlen : cs'.length = cs.length := by
    cases hc : recoverD cs with
    | none => rw [hc] at hrec; cases hrec; rfl
    | some q =>
      rw [hc] at hrec
      simp only at hrec
      subst hrec
      exact recoverD_length hc
  obtain ⟨e, a', w', hq, harr⟩ := wp_opsIn rest (a.put o.dst v) w h b k cs' (hro.trans hro0.symm) hF (hlen ▸ hroom)
  refine ⟨e, a', cs', w', hlen, hq, .of_steps (.one (fenced_calm hF hroom rfl) stepR_region) ?_⟩
  rw [hr]
  have h0 : (lone (b.atR a (.inRegion ops (0 :: rest) :: k)) cs w).fenced P F := fenced_oper hF hroom ho habout
  have hg := stepGR_op (P := P) (b := b) (k := k) (cs := cs) (w := w) (rest := rest) ho hw
  rw [hro, Oper.semAt_none] at hg
  have hfin : ∀ v, (b.atR a (.inRegion ops (0 :: rest) :: k)).finish v = b.atR (a.put o.dst v) (.inRegion ops rest :: k) := by
    intro v; rw [Frame.finish_atR, ho]; rfl
  have hk : (b.atR a (.inRegion ops (0 :: rest) :: k)).kind = .deferred := hb
  have htr := tryRecover_deferred hk cs
  refine .of_steps (.one h0 (step_lone_go ?_)) harr
  rw [hg, ← hfin]
  simp only [Frame.atR, hro] at htr ⊢
  cases hc : recoverD cs with
  | none =>
    rw [hc] at hrec
    cases hrec
    simp [stepG.apply, hrun, htr, hc]
  | some q =>
    rw [hc] at hrec
    simp only at hrec
    subst hrec
    simp [stepG.apply, hrun, htr, hc]
end
theorem calls_at {P : Program} {f : FuncId} {x y : Array Value} {w : World} {R : Ending → World → Prop} (h : Calls P f x w R) (e : y = x) : Calls P f y w R := e ▸ h
def thenC : Code → Code
  | .seq _ (.cond _ r _) => r
  | _ => .skip
noncomputable def restP : Code := thenC (codeOf Tryz.f13)
def KP : Exit → Env → T := fun ex e => match ex, e.ds with
  | .normal, [] => .ret (.tuple #[])
  | _, _ => .bad
def envP (n1 n2 n3 : Nat) (d : Nat → Value) : Env := ⟨[(0, .p n1 0), (1, .p n2 0), (2, .p n3 0)], d, []⟩
theorem treeP (n1 n2 n3 : Nat) (d : Nat → Value) : comp Tryz.prog 6 restP none none .n 0 KP (envP n1 n2 n3 d) =
    T.st n1 0 (.int .i64 0) (T.st n1 1 (.int .i64 0) (T.st n1 2 (.int .i64 0) (T.st n1 3 (.int .i64 0) (T.st n1 4 (.int .u64 0) (T.st n2 0 (.slice none 0 0) (T.st n3 0 (.int .i64 270) (T.ret (.tuple #[])))))))) := by kernel_rfl
theorem relP (n1 n2 n3 : Nat) (a : Act) (ha : a.tmps.size = 6) (hd : a.defers = []) (h0 : a.tmps.getD 0 undef = .pointer (some ⟨n1, 0, none⟩)) (h1 : a.tmps.getD 1 undef = .pointer (some ⟨n2, 0, none⟩))
    (h2 : a.tmps.getD 2 undef = .pointer (some ⟨n3, 0, none⟩)) : Rel 6 (envP n1 n2 n3 fun t => a.tmps.getD t undef) a := by
  refine rel_of ha ?_ hd
  intro y hy
  simp only [List.mem_cons, List.not_mem_nil, or_false] at hy
  rcases hy with rfl | rfl | rfl
  · exact h0.symm
  · exact h1.symm
  · exact h2.symm
def cfZ : List Value := [.int .i64 0, .int .i64 0, .int .i64 0, .int .i64 0, .int .u64 0]
section
variable {w w' w0 : World} {m m' c : Hp} {n1 n2 n3 : Nat} {v1 v2 v3 v4 v5 lv ev : Value}
theorem stP (H : Has w0 w (cl n1 24 [v1, v2, v3, v4, v5] :: cl n2 25 [lv] :: cl n3 26 [ev] :: m)) : T.sem Tryz.prog
    (fun e W => e = .returned (.tuple #[]) ∧ Has w0 W (cl n1 24 cfZ :: cl n2 25 [.slice none 0 0] :: cl n3 26 [.int .i64 270] :: m))
    (T.st n1 0 (.int .i64 0) (T.st n1 1 (.int .i64 0) (T.st n1 2 (.int .i64 0) (T.st n1 3 (.int .i64 0) (T.st n1 4 (.int .u64 0) (T.st n2 0 (.slice none 0 0) (T.st n3 0 (.int .i64 270) (T.ret (.tuple #[])))))))))
    ρ0 w := by
  refine h_st H (by repeat (first | exact pick_head | apply pick_tail | apply pick_app)) (by simp) rfl fun u H1 => ?_
  simp only [List.set] at H1
  refine h_st H1 (by repeat (first | exact pick_head | apply pick_tail | apply pick_app)) (by simp) rfl fun u H2 => ?_
  simp only [List.set] at H2
  refine h_st H2 (by repeat (first | exact pick_head | apply pick_tail | apply pick_app)) (by simp) rfl fun u H3 => ?_
  simp only [List.set] at H3
  refine h_st H3 (by repeat (first | exact pick_head | apply pick_tail | apply pick_app)) (by simp) rfl fun u H4 => ?_
  simp only [List.set] at H4
  refine h_st H4 (by repeat (first | exact pick_head | apply pick_tail | apply pick_app)) (by simp) rfl fun u H5 => ?_
  simp only [List.set] at H5
  refine h_st H5 (by repeat (first | exact pick_head | apply pick_tail | apply pick_app)) (by simp) rfl fun u H6 => ?_
  simp only [List.set] at H6
  refine h_st H6 (by repeat (first | exact pick_head | apply pick_tail | apply pick_app)) (by simp) rfl fun u H7 => ?_
  simp only [List.set] at H7
  refine s_ret ⟨rfl, ?_⟩
  unfold cfZ
  exact H7.sub (by repeat (first | exact sb_refl | exact sb_nil | refine sb_cons (by repeat (first | exact pick_head | apply pick_tail | apply pick_app)) ?_ | refine sb_app (by repeat (first | exact cut_head | exact cut_all | apply cut_tail | apply cut_app)) ?_ | exact sb_one (by repeat (first | exact cut_head | exact cut_all | apply cut_tail | apply cut_app))))
theorem p1_pan (H : Has w0 w (cl n1 24 [v1, v2, v3, v4, v5] :: cl n2 25 [lv] :: cl n3 26 [ev] :: m)) :
    CallsDIn (FF none) 0 Tryz.prog 13 ⟨[.pointer (some ⟨n1, 0, none⟩), .pointer (some ⟨n2, 0, none⟩), .pointer (some ⟨n3, 0, none⟩)]⟩ (modeOf (some (.iface 44 (.agg #[])))) w fun e u w' =>
    e = .returned (.tuple #[]) ∧ settle u = .returning ∧ Has w0 w' (cl n1 24 cfZ :: cl n2 25 [.slice none 0 0] :: cl n3 26 [.int .i64 270] :: m) := by
  refine callsDIn_of_wpSIn Tryz.func13 rfl trivial fun c₀ cs hu => ?_
  apply wpSIn_seq
  refine wpSIn_region_rec (v := .iface 44 (.agg #[])) (cs' := { c₀ with mode := .panicking [{ v := .iface 44 (.agg #[]), recovered := true }] } :: cs) rfl rfl rfl ?_ ?_ ?_ ?_ ?_
  · intro f hf; trivial
  · rfl
  · simp [go_sem]
  · simp [recoverD, hu, modeOf]
  · rw [wpOpsIn_cons]
    simp only [wpOpIn]
    simp [go_sem, Region.wanted, Oper.wpIn, Oper.about, Act.put, Act.eval, Array.replicate, Tryz.ntmps13, wpOpsIn]
    refine ⟨?_, fun h => by simp [FF, Fence.wide] at h, calls_ff.2 (Calls.mono (calls_at caught_wrong (by simp [Act.eval])) ?_)⟩
    · trivial
    rintro _ u ⟨rfl, hF⟩
    have H1 := H.fr hF (by intro x h; cases h) (by intro x h; cases h)
    show Exit.thenS _ _ _ _ _ _
    simp only [Exit.thenS]
    refine wpSIn_cond (t := true) rfl ?_
    simp only [if_true]
    refine wpSIn_of_wpIn rfl ?_
    refine wpIn_mono (comp_sound (P := Tryz.prog) (n := 6) (Q := fun e W => e = .returned (.tuple #[]) ∧ Has w0 W (cl n1 24 cfZ :: cl n2 25 [.slice none 0 0] :: cl n3 26 [.int .i64 270] :: m)) mixed restP none none .n 0 KP _ ρ0 _ _ (relP n1 n2 n3 _ rfl rfl rfl rfl rfl) ?_) ?_
    · rw [treeP]
      exact stP H1
    · intro ex a W hq
      cases ex
      case normal =>
        obtain ⟨e, ρ', hr, _, h⟩ := hq
        cases hd : e.ds with
        | nil =>
          have h : Ending.returned (Value.tuple #[]) = .returned (.tuple #[]) ∧ Has w0 W (cl n1 24 cfZ :: cl n2 25 [.slice none 0 0] :: cl n3 26 [.int .i64 270] :: m) := by
            simp only [KP, hd, T.sem] at h
            exact ⟨rfl, h.2⟩
          exact ⟨hr.ds.trans hd, _, rfl, .tuple #[], by simp [results, Tryz.results13], rfl, rfl, h.2⟩
        | cons d ds =>
          exfalso
          simp only [KP, hd, T.sem] at h
      case panic c =>
        obtain ⟨v, e, ρ', _, _, _, h⟩ := hq
        exact h.elim
      case outgrown => exact hq.elim
      all_goals
        obtain ⟨e, ρ', hr, _, h⟩ := hq
        exfalso
        simp only [KP, T.sem] at h
theorem p1_ret : CallsDIn (FF none) 0 Tryz.prog 13 ⟨[.pointer (some ⟨n1, 0, none⟩), .pointer (some ⟨n2, 0, none⟩), .pointer (some ⟨n3, 0, none⟩)]⟩ (modeOf none) w fun e u w' =>
    e = .returned (.tuple #[]) ∧ settle u = .returning ∧ w' = w := by
  refine callsDIn_of_wpSIn Tryz.func13 rfl trivial fun c₀ cs hu => ?_
  apply wpSIn_seq
  refine wpSIn_region_rec (v := .nilIface) (cs' := c₀ :: cs) rfl rfl rfl ?_ ?_ ?_ ?_ ?_
  · intro f hf; trivial
  · rfl
  · simp [go_sem]
  · simp [recoverD, hu, modeOf]
  · rw [wpOpsIn_cons]
    simp only [wpOpIn]
    simp [go_sem, Region.wanted, Oper.wpIn, Oper.about, Act.put, Act.eval, Array.replicate, Tryz.ntmps13, wpOpsIn]
    refine ⟨?_, fun h => by simp [FF, Fence.wide] at h, calls_ff.2 (Calls.mono (calls_at caught_nil (by simp [Act.eval])) ?_)⟩
    · trivial
    rintro _ u ⟨rfl, rfl⟩
    show Exit.thenS _ _ _ _ _ _
    simp only [Exit.thenS]
    refine wpSIn_cond (t := false) rfl ?_
    simp only [Bool.false_eq_true, if_false]
    refine wpSIn_of_wpIn rfl (wpIn_skip ?_)
    refine ⟨rfl, .returning, ?_, .tuple #[], by simp [results, Tryz.results13], rfl, rfl, rfl⟩
    have : ({ c₀ with mode := .returning } : Frame) = c₀ := by cases c₀; simp_all [modeOf]
    rw [this]
end
end Go.Proofs.YtihipcofjpnfbaaGreatDoor
