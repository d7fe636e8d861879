/- The program's queues in memory. -/
import Derived.Test.YtdepohepogocgaaLockP
import Derived.Test.YtdepohepogocgaaTreesA
import Derived.Test.YtdepohepogocgaaKeyMap
import Derived.Test.YtdepohepogocgaaMapF
import Derived.Test.YtdepohepogocgaaParts
import Derived.Test.YtdepohepogocgaaWrite
set_option linter.unusedVariables false
set_option linter.unusedSimpArgs false
set_option maxRecDepth 100000
set_option maxHeartbeats 1000000
namespace Go.Proofs.Ytdepohepogocgaa
open Go hiding Expr
open Go.RowKit Tr

theorem h_blk {P : Program} {Q : Ending → World → Prop} {ρ : Lv} {w0 w : World} {m : Hp} {lv : Nat} {after : List Value → (Nat → Value) → T} {body : T} (A : List Value → Prop) (H : Has w0 w m)
    (h : body.sem P Q (fun l' x w'' => if l' = lv then Has w0 w'' m ∧ A x else ρ l' x w'') w) (h0 : ∀ vs j w', Has w0 w' m → A vs → (after vs j).sem P Q ρ w') : (T.blk lv after body).sem P Q ρ w :=
  s_blk (fun x W => Has w0 W m ∧ A x) (fun vs j w' h => h0 vs j w' h.1 h.2) h

/-! ### Rows -/
def ir (t : Ix) : List Value := [.int .i64 t.s, .int .i64 t.p]
def lr (y : Lk) : List Value := [.int .i32 y.k.t, .int .i64 y.k.r, .bool y.x]
def wtr (x : Wt) : List Value := [.int .i64 x.t.s, .int .i64 x.t.p, .bool x.x, .bool x.h]
abbrev wr (p : Ix × Bool) : List Value := wtr ⟨p.1, p.2, false⟩
theorem ir2 (l : List Ix) : ∀ r ∈ l.map ir, r.length = 2 := by
  intro r hr; obtain ⟨x, _, rfl⟩ := List.mem_map.1 hr; rfl
theorem lr3 (l : List Lk) : ∀ r ∈ l.map lr, r.length = 3 := by
  intro r hr; obtain ⟨x, _, rfl⟩ := List.mem_map.1 hr; rfl
theorem wtr4 (l : List Wt) : ∀ r ∈ l.map wtr, r.length = 4 := by
  intro r hr; obtain ⟨x, _, rfl⟩ := List.mem_map.1 hr; rfl
theorem wr4 (l : Qu) : ∀ r ∈ l.map wr, r.length = 4 := by
  intro r hr; obtain ⟨x, _, rfl⟩ := List.mem_map.1 hr; rfl
theorem ir_one (l : List Ix) : ∀ r ∈ l.map ir, ∀ u ∈ r, u.oneCell' = true := by
  intro r hr u hu; obtain ⟨x, _, rfl⟩ := List.mem_map.1 hr; simp [ir] at hu; rcases hu with rfl | rfl <;> rfl
theorem lr_one (l : List Lk) : ∀ r ∈ l.map lr, ∀ u ∈ r, u.oneCell' = true := by
  intro r hr u hu; obtain ⟨x, _, rfl⟩ := List.mem_map.1 hr; simp [lr] at hu; rcases hu with rfl | rfl | rfl <;> rfl
theorem wr_one (l : Qu) : ∀ r ∈ l.map wr, ∀ u ∈ r, u.oneCell' = true := by
  intro r hr u hu; obtain ⟨x, _, rfl⟩ := List.mem_map.1 hr; simp [wr, wtr] at hu; rcases hu with rfl | rfl | rfl | rfl <;> rfl
theorem one_flat {l : List (List Value)} (h : ∀ r ∈ l, ∀ u ∈ r, u.oneCell' = true) : ∀ u ∈ l.flatten, u.oneCell' = true := by
  intro u hu; obtain ⟨r, hr, hu⟩ := List.mem_flatten.1 hu; exact h r hr u hu
theorem Ix.ext' {a b : Ix} (h1 : a.s = b.s) (h2 : a.p = b.p) : a = b := by cases a; cases b; simp_all
theorem eqI (a b : Ix) : (a.s == b.s && (a.p == b.p && true)) = decide (a = b) := by
  rw [Bool.eq_iff_iff]
  simp
  exact ⟨fun h => Ix.ext' h.1 h.2, fun h => by subst h; exact ⟨rfl, rfl⟩⟩
theorem elemI : Elem Try.prog 33 27 (.agg ⟨[.int .i64 0, .int .i64 0]⟩) 2 16 := ⟨by kernel_rfl, by kernel_rfl, rfl, by decide⟩
theorem elemL : Elem Try.prog 28 63 (.agg ⟨[.int .i32 0, .int .i64 0, .bool false]⟩) 3 24 := ⟨by kernel_rfl, by kernel_rfl, rfl, by decide⟩
theorem elemW : Elem Try.prog 40 43 (.agg ⟨[.int .i64 0, .int .i64 0, .bool false, .bool false]⟩) 4 24 := ⟨by kernel_rfl, by kernel_rfl, rfl, by decide⟩

/-! ### Ids as keys of a map -/
theorem keyedI : Maps.Keyed Try.prog 27 := Maps.Keyed.of_law (deep_law (m := 2) (by omega) (by kernel_rfl) (by kernel_rfl) (by kernel_rfl))
abbrev kfI (t : Ix) : Value := .agg ⟨ir t⟩
theorem kfI_inj {a b : Ix} (h : kfI a = kfI b) : a = b := by
  simp [kfI, ir] at h
  exact Ix.ext' h.1 h.2
def InI (t : Ix) : Prop := -9223372036854775808 ≤ t.s ∧ t.s ≤ 9223372036854775807 ∧ -9223372036854775808 ≤ t.p ∧ t.p ≤ 9223372036854775807
theorem keyOfI {t : Ix} (h : InI t) : ∃ l, keyOf Try.prog 27 (kfI t) = some l := by
  obtain ⟨h1, h2, h3, h4⟩ := h
  have wa : (Lit.int .i64 t.s).wf = true := by simp [Lit.wf, IntKind.min, IntKind.max, IntKind.signed, IntKind.bits]; omega
  have wb : (Lit.int .i64 t.p).wf = true := by simp [Lit.wf, IntKind.min, IntKind.max, IntKind.signed, IntKind.bits]; omega
  have hkt : Try.prog.keyType 27 = true := by kernel_rfl
  have hsz : Try.prog.cellsOf 27 = 2 := by kernel_rfl
  obtain ⟨m, hm⟩ := types_pos
  unfold keyOf
  simp only [Try.underlying27]
  rw [if_pos (by simp [hkt, Value.formed, Try.underlying27, hsz, ir]), hm]
  unfold Program.keyLits
  simp only [Try.underlying27, Value.cells]
  have e1 : Try.prog.cellsOf 3 = 1 := by kernel_rfl
  have e2 : Try.prog.cellsOf 2 = 1 := by kernel_rfl
  have c2 : (⟨ir t⟩ : Array Value).toList.length = 2 := rfl
  simp [hsz, c2, ir, Program.keyLits, Try.underlying3, Try.underlying2, wa, wb, e1, e2, List.mapM_cons]

/-! ### The queues -/
def optQ (q : Qu) : Option Qu := if q = [] then none else some q
def OwnQ (q : Qu) (s : SP) (c : Hp) : Prop := s.n = q.length ∧ OwnC 43 4 (vS s) q.length (q.map wr).flatten c
def OwnW (w : List Lk) (s : SP) (c : Hp) : Prop := s.n = w.length ∧ OwnC 63 3 (vS s) w.length (w.map lr).flatten c
def OwnI (l : List Ix) (s : SP) (c : Hp) : Prop := s.n = l.length ∧ OwnC 27 2 (vS s) l.length (l.map ir).flatten c
abbrev MQ (o : Obj) (c : Hp) (F : K → Option Qu) : Prop := MF Try.prog 39 kfK vS OwnQ o c F
abbrev MW (o : Obj) (c : Hp) (F : Ix → Option (List Lk)) : Prop := MF Try.prog 27 kfI vS OwnW o c F
theorem map68 : Try.prog.underlying 68 = some (.map 39 40) := by kernel_rfl
theorem map69 : Try.prog.underlying 69 = some (.map 27 28) := by kernel_rfl
theorem zero40 (w : World) : (zeroValue 40).run Try.prog w = .ok (vS ⟨none, 0, 0⟩) w := by rfl
theorem zero28 (w : World) : (zeroValue 28).run Try.prog w = .ok (vS ⟨none, 0, 0⟩) w := by rfl

def total (A : St) : Nat := (A.map (fun r => r.2.length)).sum
def InA (A : St) : Prop := ∀ r ∈ A, InI r.1 ∧ ∀ y ∈ r.2, InK y.k
def Sz (A : St) : Prop := A.length ≤ 1099511627776 ∧ ∀ r ∈ A, r.2.length ≤ 5864062014805
abbrev lkC (bq bw : Nat) (so : SP) : List Value := [.map (some bq), .map (some bw), vS so]
def LkAt (p : Nat) (A : St) (c : Hp) : Prop := ∃ (bq bw : Nat) (oq ow : Obj) (so : SP) (cq cw co : Hp),
  c = cl p 71 (lkC bq bw so) :: (bq, oq) :: (bw, ow) :: (cq ++ (cw ++ co)) ∧ MQ oq cq (fun k => optQ (queueOf A k)) ∧ MW ow cw (wantOf A) ∧ OwnI (ids A) so co ∧ Good A ∧ InA A

/-- A world of which nothing is told: so all that stands in w is 'since'. -/
abbrev Em (w : World) : World := { w with heap := #[] }
theorem Tr.Has.em {w0 w : World} {m : Hp} (H : Has w0 w m) : Has (Em w) w m :=
  ⟨⟨rfl, rfl, rfl, by simp, fun k hk => by simp at hk⟩, H.at_, fun p _ => by simp, H.nodup⟩
def LkW (w : World) (p : Nat) (A : St) : Prop := ∃ c, LkAt p A c ∧ Has (Em w) w c
theorem LkW.fr0 {w w' : World} {p : Nat} {A : St} (h : LkW w p A) (hf : Fr [] w w') : LkW w' p A := by
  obtain ⟨c, h1, h2⟩ := h
  exact ⟨c, h1, (h2.fr0 hf).em⟩
theorem LkW.of {w0 w : World} {m m' c : Hp} {p : Nat} {A : St} (H : Has w0 w m) (hp : Cut c m m') (h : LkAt p A c) : LkW w p A :=
  ⟨c, h, (H.pullc hp).left.em⟩

theorem len_queue {A : St} {k : K} : (queueOf A k).length ≤ A.length := List.length_filterMap_le ..
theorem len_want {A : St} {t : Ix} {w : List Lk} (h : (t, w) ∈ A) : w.length ≤ total A := by
  unfold total
  induction A with
  | nil => cases h
  | cons r A ih =>
    rw [List.map_cons, List.sum_cons]
    rcases List.mem_cons.1 h with rfl | h
    · simp
    · have := ih h
      omega
theorem optQ_none {q : Qu} : optQ q = none ↔ q = [] := by unfold optQ; split <;> simp [*]
theorem optQ_some {q q' : Qu} (h : optQ q = some q') : q' = q ∧ q ≠ [] := by unfold optQ at h; split at h <;> simp_all

/-- What is laid open of a key's queue: the place told by the map, and its rows in memory. -/
theorem open_q {A : St} {k : K} {oq : Obj} {cq m m' : Hp} {w0 w : World} (h : MQ oq cq (fun k => optQ (queueOf A k))) (H : Has w0 w m) (hp : Cut cq m m') :
    ∃ (s : Option SP) (c2 : Hp), MX Try.prog 39 kfK vS OwnQ oq c2 (fun k => optQ (queueOf A k)) k s ∧ ((s.map vS).getD (vS ⟨none, 0, 0⟩)) = vS (s.getD ⟨none, 0, 0⟩) ∧ (s.getD ⟨none, 0, 0⟩).n = (queueOf A k).length ∧
      RowsAt w (s.getD ⟨none, 0, 0⟩).o 4 ((queueOf A k).map wr) := by
  cases hq : optQ (queueOf A k) with
  | none =>
    have := optQ_none.1 hq
    exact ⟨none, cq, h.openN hq, rfl, by rw [this]; rfl, by rw [this]; exact .inl rfl⟩
  | some q =>
    obtain ⟨rfl, hne⟩ := optQ_some hq
    obtain ⟨s, c1, c2, h1, ⟨h2, h3⟩, h4⟩ := h.openS (a := k) hq
    refine ⟨some s, c2, h4, rfl, h2, ?_⟩
    have H2 := (H.pullc hp).left
    refine rowsAt_own (wr4 _) (by decide) (e := 43) (n := s.n) (cap := s.c) (c := c1) ?_ H2 h1
    rw [h2]
    rw [← h2] at h3 ⊢
    exact h3
theorem open_w {A : St} {t : Ix} {ow : Obj} {cw m m' : Hp} {w0 w : World} (h : MW ow cw (wantOf A)) (H : Has w0 w m) (hp : Cut cw m m') :
    ∃ (s : Option SP) (c2 : Hp), MX Try.prog 27 kfI vS OwnW ow c2 (wantOf A) t s ∧ ((s.map vS).getD (vS ⟨none, 0, 0⟩)) = vS (s.getD ⟨none, 0, 0⟩) ∧ s.isSome = (wantOf A t).isSome ∧ (s.getD ⟨none, 0, 0⟩).n = ((wantOf A t).getD []).length ∧
      RowsAt w (s.getD ⟨none, 0, 0⟩).o 3 (((wantOf A t).getD []).map lr) := by
  cases hq : wantOf A t with
  | none => exact ⟨none, cw, h.openN hq, rfl, rfl, rfl, .inl rfl⟩
  | some q =>
    obtain ⟨s, c1, c2, h1, ⟨h2, h3⟩, h4⟩ := h.openS (a := t) hq
    refine ⟨some s, c2, h4, rfl, rfl, h2, ?_⟩
    have H2 := (H.pullc hp).left
    refine rowsAt_own (lr3 _) (by decide) (e := 63) (n := s.n) (cap := s.c) (c := c1) ?_ H2 h1
    rw [← h2] at h3
    exact h3

section
variable {w : World} {p : Nat} {A : St}
theorem none_c (h : LkW w p A) : Calls Try.prog 33 #[.pointer (some ⟨p, 0, none⟩)] w fun e w' => e = .returned (.bool false) ∧ w = w' := by
  obtain ⟨c, ⟨bq, bw, oq, ow, so, cq, cw, co, rfl, hq, hw, ho, hg, hi⟩, H⟩ := h
  apply c33
  exact h_ldM H (by repeat (first | exact pick_head | apply pick_tail | apply pick_app)) rfl (s_ret ⟨rfl, rfl⟩)

theorem holdsGo_at {q : Qu} {t : Ix} {i : Nat} {x : Ix × Bool} {f : Bool} (hx : q[i]? = some x) : holdsGo t f (q.drop i) = if x.1 = t then f || !x.2 else if x.2 then false else holdsGo t false (q.drop (i + 1)) := by
  obtain ⟨h1, rfl⟩ := List.getElem?_eq_some_iff.1 hx
  rw [List.drop_eq_getElem_cons h1]
  rfl
theorem holds_c (h : LkW w p A) (hz : Sz A) {t : Ix} {k : K} (hk : InK k) : Calls Try.prog 49 #[.pointer (some ⟨p, 0, none⟩), .agg ⟨ir t⟩, .agg ⟨kr k⟩] w fun e w' => e = .returned (.bool (holdsQ (queueOf A k) t)) ∧ Fr [] w w' := by
  obtain ⟨c, ⟨bq, bw, oq, ow, so, cq, cw, co, rfl, hq, hw, ho, hg, hi⟩, HL⟩ := h
  obtain ⟨s, c2, hx, e1, e2, e3⟩ := open_q (k := k) hq HL (by repeat (first | exact cut_head | exact cut_all | apply cut_tail | apply cut_app))
  apply c49
  refine h_new (Has.init w) fun n6 u H => ?_
  (refine h_new H fun n7 u H => ?_)
  refine h_drew H fun u H => ?_
  have HL := HL.fr0 H.base
  obtain ⟨lk, hlk⟩ := keyOfK hk
  refine h_ldM HL (by repeat (first | exact pick_head | apply pick_tail | apply pick_app)) rfl (h_ldI H (by repeat (first | exact pick_head | apply pick_tail | apply pick_app)) rfl (h_ldI H (by repeat (first | exact pick_head | apply pick_tail | apply pick_app)) rfl ?_))
  refine f_look1 HL (bk := bq) (o := oq) (a := k) (kf := kfK) (by repeat (first | exact pick_head | apply pick_tail | apply pick_app)) hx keyedK map68 (zero40 u) (fun x => kfK_inj) hlk ?_
  rw [e1]
  have hlen := len_queue (A := A) (k := k)
  unfold Sz at hz
  unfold vS
  refine s_asS (s_chk c_nil ?_)
  refine s_loop (fun vs W => ∃ i : Nat, vs = [.bool true, .int .i64 i] ∧ i ≤ (queueOf A k).length ∧ holdsQ (queueOf A k) t = holdsGo t (decide (i = 0)) ((queueOf A k).drop i) ∧ ∃ m, Has w W (cl n7 39 (kr k) :: cl n6 27 (ir t) :: m)) (fun vs _ => (queueOf A k).length - (intOf (vs.getD 1 undef)).toNat)
    ⟨0, rfl, by omega, rfl, [], H⟩ ?_
  clear H HL
  rintro _ j W ⟨i, rfl, hil, hgo, mm, H⟩
  refine s_asB (s_asI (s_ite (fun g1 => ?_) (fun g1 => ?_)))
  · simp only [decide_eq_true_eq] at g1
    have hlt : i < (queueOf A k).length := by omega
    obtain ⟨x, hx⟩ : ∃ x, (queueOf A k)[i]? = some x := ⟨_, List.getElem?_eq_getElem hlt⟩
    obtain ⟨g, off, he, _, hc⟩ := (RowsAt.fr e3 H.base).at (j := i) (r := wr x) (by rw [List.getElem?_map, hx]; rfl)
    rw [holdsGo_at hx] at hgo
    refine s_req ⟨by omega, g1⟩ ⟨g, off, he, s_loadI (hc 0 _ rfl) (s_loadI (hc 1 _ rfl) (s_loadB (hc 2 _ rfl) (s_loadB (hc 3 _ rfl) ?_)))⟩
    (refine h_new H fun n25 u H => ?_)
    iterate 4 refine h_st H (by repeat (first | exact pick_head | apply pick_tail | apply pick_app)) (by first | (simp; done) | exact Nat.le_of_ble_eq_true rfl) rfl fun u H => ?_
    refine h_blk (fun vs => vs = [.bool (!x.2)]) H ?_ ?_
    · refine s_true rfl (h_ldB H (by repeat (first | exact pick_head | apply pick_tail | apply pick_app)) rfl (s_next (by first | exact ⟨rfl, rfl⟩ | trivial) ?_))
      simp (config := { decide := true }) only [if_true, if_false]
      exact ⟨H, trivial⟩
    · rintro _ j' W H rfl
      refine s_asB (h_ldI H (by repeat (first | exact pick_head | apply pick_tail | apply pick_app)) rfl (h_ldI H (by repeat (first | exact pick_head | apply pick_tail | apply pick_app)) rfl (h_ldI H (by repeat (first | exact pick_head | apply pick_tail | apply pick_app)) rfl (h_ldI H (by repeat (first | exact pick_head | apply pick_tail | apply pick_app)) rfl (s_ite (fun g2 => ?_) (fun g2 => ?_))))))
      · have g2 : x.1 = t := by rw [eqI] at g2; simpa using g2
        rw [if_pos g2] at hgo
        refine s_ite (fun g3 => s_ret ⟨?_, H.base⟩) (fun g3 => s_ret ⟨?_, H.base⟩)
        · simp at g3
          rw [hgo]; simp [g3]
        · simp at g3
          rw [hgo]; simp [g3]
      · have g2 : ¬ x.1 = t := by rw [eqI] at g2; simpa using g2
        rw [if_neg g2] at hgo
        refine s_ite (fun g3 => s_ret ⟨?_, H.base⟩) (fun g3 => s_next (by first | exact ⟨rfl, rfl⟩ | trivial) ?_)
        · simp at g3
          rw [hgo]; simp [g3]
        · simp at g3
          simp (config := { decide := true }) only [if_true, if_false]
          refine ⟨⟨i + 1, by rw [w_succ (by omega)]; simp [g3], by omega, ?_, _, H.sub (by repeat (first | exact sb_refl | exact sb_nil | refine sb_cons (by repeat (first | exact pick_head | apply pick_tail | apply pick_app)) ?_ | refine sb_app (by repeat (first | exact cut_head | exact cut_all | apply cut_tail | apply cut_app)) ?_ | exact sb_one (by repeat (first | exact cut_head | exact cut_all | apply cut_tail | apply cut_app))))⟩, by rw [w_succ (by omega)]; simp [intOf] <;> omega⟩
          rw [hgo, g3]
          simp
  · simp only [decide_eq_false_iff_not] at g1
    rw [List.drop_of_length_le (by omega)] at hgo
    exact s_ret ⟨by rw [hgo]; rfl, H.base⟩
end
end Go.Proofs.Ytdepohepogocgaa
