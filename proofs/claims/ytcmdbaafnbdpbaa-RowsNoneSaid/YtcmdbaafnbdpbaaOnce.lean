/- The walk of RowsOnce. -/
import Derived.Test.YtcmdbaafnbdpbaaFull
import Derived.Test.YtcmdbaafnbdpbaaArgs20
set_option linter.unusedVariables false
set_option linter.unusedSimpArgs false
set_option maxRecDepth 100000
set_option maxHeartbeats 4000000
namespace Go.Proofs.Ytcmdbaafnbdpbaa
open Go hiding Expr
open Go.RowKit Tr

/-- An operation that is handed in. -/
structure OpA where
  s : Int
  q : Int
  pt : Bool
  cl : Bool
  e : Int
  o : Option Addr
  cap : Nat
  vals : List Int
  slot : Int
  place : Int
  stop : Int
def OpA.r (x : OpA) : Res := ⟨x.e, x.vals, x.slot, x.place⟩
def opr (x : OpA) : List Value := [.int .i64 x.s, .int .i64 x.q, .bool x.pt, .bool x.cl, .int .i64 x.e, .slice x.o x.vals.length x.cap, .int .i64 x.slot, .int .i64 x.place, .int .i64 x.stop]
def OkOp (w : World) (x : OpA) : Prop := inI x.s ∧ inI x.q ∧ x.vals.length * 8 ≤ 140737488355328 ∧ ValsAt w x.o x.vals ∧ inI x.stop
def OpsAt (w : World) (o : Option Addr) (X : List OpA) : Prop := RowsAt w o 9 (X.map opr) ∧ ∀ x ∈ X, OkOp w x
abbrev lfOp : List DLeaf := [lfI, lfI, .flat .bool, .flat .bool, lfI, .lst [lfI] 8, lfI, lfI, lfI]

section
variable {w w' : World} {o : Option Addr} {X : List OpA}
theorem OkOp.fr0 {x : OpA} (h : OkOp w x) (hf : Fr [] w w') : OkOp w' x := ⟨h.1, h.2.1, h.2.2.1, h.2.2.2.1.fr0 hf, h.2.2.2.2⟩
theorem OpsAt.fr0 (h : OpsAt w o X) (hf : Fr [] w w') : OpsAt w' o X := ⟨h.1.fr hf, fun x hx => (h.2 x hx).fr0 hf⟩
theorem OpsAt.get (h : OpsAt w o X) {i : Nat} {x : OpA} (hi : X[i]? = some x) : ∃ g off, o = some ⟨g, off, none⟩ ∧ (w.cell? ⟨g, off + i * 9, none⟩ = some (.int .i64 x.s) ∧ w.cell? ⟨g, off + i * 9 + 1, none⟩ = some (.int .i64 x.q) ∧
    w.cell? ⟨g, off + i * 9 + 2, none⟩ = some (.bool x.pt) ∧ w.cell? ⟨g, off + i * 9 + 3, none⟩ = some (.bool x.cl) ∧ w.cell? ⟨g, off + i * 9 + 4, none⟩ = some (.int .i64 x.e) ∧ w.cell? ⟨g, off + i * 9 + 5, none⟩ = some (.slice x.o x.vals.length x.cap) ∧
    w.cell? ⟨g, off + i * 9 + 6, none⟩ = some (.int .i64 x.slot) ∧ w.cell? ⟨g, off + i * 9 + 7, none⟩ = some (.int .i64 x.place) ∧ w.cell? ⟨g, off + i * 9 + 8, none⟩ = some (.int .i64 x.stop)) ∧ OkOp w x := by
  obtain ⟨g, off, rfl, _, hc⟩ := RowsAt.at h.1 (j := i) (r := opr x) (by simp [hi])
  exact ⟨g, off, rfl, ⟨hc 0 _ rfl, hc 1 _ rfl, hc 2 _ rfl, hc 3 _ rfl, hc 4 _ rfl, hc 5 _ rfl, hc 6 _ rfl, hc 7 _ rfl, hc 8 _ rfl⟩, h.2 x (List.mem_of_getElem? hi)⟩
theorem ops_of (rows : List (List Value)) (h : ∀ r ∈ rows, FitsD w lfOp r) : ∃ X : List OpA, rows = X.map opr ∧ ∀ x ∈ X, OkOp w x := by
  induction rows with
  | nil => exact ⟨[], rfl, by simp⟩
  | cons r rows ih =>
    obtain ⟨X, rfl, hX⟩ := ih (fun r hr => h r (by simp [hr]))
    obtain ⟨s, _, rfl, ws, h1⟩ := (h r (by simp)).int
    obtain ⟨q, _, rfl, wq, h2⟩ := h1.int
    obtain ⟨pt, _, rfl, h3⟩ := h2.bool
    obtain ⟨cl, _, rfl, h4⟩ := h3.bool
    obtain ⟨e, o, vals, cap, slot, place, _, rfl, hv, hs, h5⟩ := res_of h4
    obtain ⟨stop, _, rfl, wst, h6⟩ := h5.int
    obtain rfl := h6.nil
    refine ⟨⟨s, q, pt, cl, e, o, cap, vals, slot, place, stop⟩ :: X, rfl, fun x hx => ?_⟩
    rcases List.mem_cons.1 hx with rfl | hx
    · exact ⟨inI_of ws, inI_of wq, hs, hv, inI_of wst⟩
    · exact hX x hx
end

theorem h_lenM {α β : Type} {P : Program} {Q : Ending → World → Prop} {ρ : Lv} {w0 w : World} {m m' : Hp} {kt e t ty : TypeId} {kf : α → Value} {vf : β → Value} {b : Nat} {o : Obj} {D : List (α × β)} {k : Value → T}
    (H : Has w0 w m) (hp : Pick (b, o) m m') (hM : MapO P kt kf vf o D) (ht : P.underlying t = some (.map kt e)) (hk : (k (.int .i64 (D.length : Int))).sem P Q ρ w) : (T.run (biV .len #[t] ty #[.map (some b)]) k).sem P Q ρ w := by
  obtain ⟨es, clock, rfl, hst, hD⟩ := hM.at_
  have hl : es.size = D.length := by have := congrArg List.length hD; simpa using this
  refine ⟨_, w, ?_, hk⟩
  simp [biV, Builtin.len_, run_underlying ht, MapKept.run_getObj_map (H.get hp), hl, goInt]

def rvV (x : OpA) : Value := .agg ⟨resL x.e x.o x.vals.length x.cap x.slot x.place⟩
theorem zero2 (w : World) : (zeroValue 2).run Try.prog w = .ok (.int .i64 0) w := by rfl
theorem zero30 (w : World) : (zeroValue 30).run Try.prog w = .ok (rvV ⟨0, 0, false, false, 0, none, 0, [], 0, 0, 0⟩) w := by rfl
theorem kI_inj2 {β : Type} (a : Int) (D : List (Int × β)) : ∀ p ∈ D, kI p.1 = kI a → p.1 = a := by
  intro p _ h
  simpa [kI] using h

/-- What is noted of the sessions: the last requests, and what they came to. -/
def LastOk (R : List Rw) (L : List (Int × Int)) : Prop := (∀ s, getAt L s = (lookR R s).map (·.m)) ∧ L.length = R.length
def ResOk (w : World) (R : List Rw) (L : List (Int × OpA)) : Prop := ∀ s r, lookR R s = some r → ∃ x : OpA, getAt L s = some x ∧ x.r = r.r ∧ ValsAt w x.o x.vals
theorem put_len {β : Type} (D : List (Int × β)) (a : Int) (v : β) : (putAt D a v).length = if (getAt D a).isSome then D.length else D.length + 1 := by
  induction D with
  | nil => simp [putAt, getAt]
  | cons p r ih =>
    simp only [putAt, getAt]
    split
    · simp
    · rw [List.length_cons, ih]
      split <;> simp
theorem LastOk.put {R : List Rw} {L : List (Int × Int)} (h : LastOk R L) (hu : Up R) (w : Rw) : LastOk (setR R w) (putAt L w.s w.m) := by
  refine ⟨fun s => ?_, ?_⟩
  · rw [getAt_put, lookR_set hu, h.1 s]
    split <;> rfl
  · rw [put_len, setR_len, h.1 w.s, h.2]
    cases hl : lookR R w.s with
    | none => rw [lookR_none.1 hl]; simp
    | some r => rw [(lookR_some hl).2.2]; simp
theorem ResOk.put {w : World} {R : List Rw} {L : List (Int × OpA)} (h : ResOk w R L) (hu : Up R) {x : OpA} (hx : ValsAt w x.o x.vals) : ResOk w (setR R ⟨x.s, x.q, x.r⟩) (putAt L x.s x) := by
  intro s r hr
  rw [lookR_set hu] at hr
  rw [getAt_put]
  split at hr
  · rename_i he
    cases hr
    have he : x.s = s := he
    rw [if_pos he]
    exact ⟨x, rfl, rfl, hx⟩
  · rename_i he
    have he : ¬ x.s = s := he
    rw [if_neg he]
    exact h s r hr
theorem mem_get {w : World} {b : Nat} {L : List (Int × Int)} {p : Int × Int} {o : Obj} (hb : w.heap[b]? = some o) (hM : MapO Try.prog 2 kI kI o L) (hp : p ∈ L) : getAt L p.1 = some p.2 := by
  have hA := hM.map hb
  obtain ⟨j, hj, he⟩ := List.getElem_of_mem hp
  have hg : L[j]? = some (p.1, p.2) := by rw [List.getElem?_eq_getElem hj, he]
  exact (putAt_some (v := p.2) hg rfl (hA.get_lt hg)).2

theorem kind_last {R : List Rw} {s : Int} {r : Rw} (hr : lookR R s = some r) (hok : OkR r) : kindI R s r.m = 2 := by
  have hs := (lookR_some hr).2.1
  unfold kindI
  rw [outI_ok (n := s) (by have := hok.1; omega) (by have := hok.2.1; omega), outI_ok hok.2.2.1 hok.2.2.2.1, if_neg (by simp), hr]
  simp only
  rw [if_neg (by omega), if_neg (by omega)]
  simp
theorem kind_old {R : List Rw} {s : Int} {r : Rw} (hr : lookR R s = some r) (hok : OkR r) (hm : r.m > 1) : kindI R s (r.m - 1) = 3 := by
  have hs := (lookR_some hr).2.1
  unfold kindI
  rw [outI_ok (n := s) (by have := hok.1; omega) (by have := hok.2.1; omega), outI_ok (n := r.m - 1) (by omega) (by have := hok.2.2.2.1; omega), if_neg (by simp), hr]
  simp only
  rw [if_neg (by omega), if_neg (by omega), if_neg (by omega)]

section
variable {w : World} {o : Option Addr} {X : List OpA} {n cap : Nat}
theorem once_c (h : OpsAt w o X) (hn : n = X.length) (hmax : X.length < 9223372036854775807) : Calls Try.prog 3 #[.slice o n cap] w fun e w' => e = .returned (.bool true) ∧ Fr [] w w' := by
  subst hn
  apply c3
  refine s_call (new_c (Has.init w)) ?_
  rintro _ u ⟨p, c, rfl, hT, H⟩
  refine ⟨_, rfl, s_asP ?_⟩
  refine h_blk (fun _ => True) H (s_false rfl (s_call live_c ?_)) ?_
  · rintro _ u ⟨rfl, f⟩
    have H := H.fr0 f
    refine ⟨_, rfl, s_asB (s_false rfl (s_next (by simp) ?_))⟩
    simp only [if_true]
    exact ⟨H, trivial⟩
  rintro _ _ W H _
  refine h_newMap H fun n7 u H => h_newMap H fun n8 u H => ?_
  have hL0 : LastOk [] [] := ⟨fun s => rfl, rfl⟩
  have hR0 : ResOk w [] [] := by intro s r hr; simp [lookR, hasR] at hr
  refine s_loop (fun vs W => ∃ (k : Nat) (R : List Rw) (c : Hp) (L : List (Int × Int)) (o7 : Obj) (LR : List (Int × OpA)) (o8 : Obj), vs = [.int .i64 k] ∧ k ≤ X.length ∧ InvR R ∧ Tab p R c ∧ MapO Try.prog 2 kI kI o7 L ∧ LastOk R L ∧
      MapO Try.prog 2 kI rvV o8 LR ∧ ResOk w R LR ∧ Has w W ((n7, o7) :: (n8, o8) :: c)) (fun vs _ => X.length - (intOf (vs.getD 0 undef)).toNat)
    ⟨0, [], c, [], .map #[] 0, [], .map #[] 0, rfl, by omega, InvR.nil, hT, MapO.new, hL0, MapO.new, hR0, H.sub (by repeat (first | exact sb_refl | exact sb_nil | refine sb_cons (by repeat (first | exact pick_head | apply pick_tail | apply pick_app)) ?_ | refine sb_app (by repeat (first | exact cut_head | exact cut_all | apply cut_tail | apply cut_app)) ?_ | exact sb_one (by repeat (first | exact cut_head | exact cut_all | apply cut_tail | apply cut_app))))⟩ ?_
  clear H hT
  rintro _ j W ⟨k, R, c, L, o7, LR, o8, rfl, hk, hI, hT, hM7, hL, hM8, hR, H⟩
  refine s_asI (s_ite (fun g1 => ?_) (fun g1 => ?_))
  · simp only [decide_eq_true_eq] at g1
    have hlt : k < X.length := by omega
    obtain ⟨x, hx⟩ : ∃ x, X[k]? = some x := ⟨_, List.getElem?_eq_getElem hlt⟩
    obtain ⟨g, off, rfl, ⟨p0, p1, p2, p3, p4, p5, p6, p7, p8⟩, hok⟩ := (h.fr0 H.base).get hx
    have hxv : ValsAt w x.o x.vals := (h.2 x (List.mem_of_getElem? hx)).2.2.2.1
    refine s_req ⟨by omega, g1⟩ (s_sm (s_loadI p0 (s_loadI p1 (s_loadB p2 (s_loadB p3 (s_loadI p4 (s_loadS p5 (s_loadI p6 (s_loadI p7 (s_loadI p8 ?_))))))))))
    (refine h_new H fun n25 u H => ?_)
    iterate 9 refine h_st H (by repeat (first | exact pick_head | apply pick_tail | apply pick_app)) (by first | (simp; done) | exact Nat.le_of_ble_eq_true rfl) rfl fun u H => ?_
    refine s_blk (fun _ W => ∃ (R : List Rw) (c : Hp) (L : List (Int × Int)) (o7 : Obj) (LR : List (Int × OpA)) (o8 : Obj), InvR R ∧ Tab p R c ∧ MapO Try.prog 2 kI kI o7 L ∧ LastOk R L ∧
      MapO Try.prog 2 kI rvV o8 LR ∧ ResOk w R LR ∧ Has w W ((n7, o7) :: (n8, o8) :: c)) ?_ ?_
    · clear hI hT hM7 hL hM8 hR H
      rintro _ _ W ⟨R, c, L, o7, LR, o8, hI, hT, hM7, hL, hM8, hR, H⟩
      refine h_range H (by repeat (first | exact pick_head | apply pick_tail | apply pick_app)) hM7 Try.underlying26 fun n30 u i0 hi0 H => ?_
      refine s_asP (s_sm (s_req rfl ?_))
      refine s_loop (fun vs W => ∃ (L' : List (Int × Int)) (i' : Obj), LeftO n7 kI kI o7 i' L' ∧ (∀ p ∈ L', p ∈ L) ∧ Has w W ((n30, i') :: (n7, o7) :: (n8, o8) :: c)) (fun _ W => leftN W n7 n30) ⟨L, i0, hi0, fun p hp => hp, H⟩ ?_
      clear H hi0
      rintro _ j2 W ⟨L', i', hLe, hsub, H⟩
      refine h_next H (b := n7) (o := o7) (r := n30) (by repeat (first | exact pick_head | apply pick_tail | apply pick_app)) (by repeat (first | exact pick_head | apply pick_tail | apply pick_app)) hLe (fun hnil => ?_) ?_
      · refine s_asU (s_true rfl (s_req rfl (s_false rfl (s_next (by first | exact ⟨rfl, rfl⟩ | trivial) ?_))))
        simp (config := { decide := true }) only [if_true, if_false]
        exact ⟨⟨k + 1, R, c, L, o7, LR, o8, by rw [w_succ (by omega)], by omega, hI, hT, hM7, hL, hM8, hR, H.sub (by repeat (first | exact sb_refl | exact sb_nil | refine sb_cons (by repeat (first | exact pick_head | apply pick_tail | apply pick_app)) ?_ | refine sb_app (by repeat (first | exact cut_head | exact cut_all | apply cut_tail | apply cut_app)) ?_ | exact sb_one (by repeat (first | exact cut_head | exact cut_all | apply cut_tail | apply cut_app))))⟩, by rw [w_succ (by omega)]; simp [intOf] <;> omega⟩
      · intro q L2 w2 i2 hperm hLe2 hlast H2
        have hnum := hLe.num (H.get (e := (n7, o7)) (by repeat (first | exact pick_head | apply pick_tail | apply pick_app))) (H.get (e := (n30, i')) (by repeat (first | exact pick_head | apply pick_tail | apply pick_app)))
        have hlen : L'.length = L2.length + 1 := by have := hperm.length_eq; simpa using this
        have hq : q ∈ L := hsub q (hperm.mem_iff.2 (by simp))
        have hgq := mem_get (H2.get (e := (n7, o7)) (by repeat (first | exact pick_head | apply pick_tail | apply pick_app))) hM7 hq
        rw [hL.1 q.1] at hgq
        obtain ⟨r, hr, hrm⟩ := Option.map_eq_some_iff.1 hgq
        have hrok := hI.ok r ((lookR_mem hI.up).1 hr).1
        have hrs := ((lookR_mem hI.up).1 hr).2
        have hs := (lookR_some hr).2.1
        have iq : inI q.1 := ⟨by have := hrok.1; omega, by have := hrok.2.1; omega⟩
        have im : inI q.2 := ⟨by have := hrok.2.2.1; omega, by have := hrok.2.2.2.1; omega⟩
        have im1 : inI (q.2 - 1) := ⟨by have := hrok.2.2.1; omega, by have := hrok.2.2.2.1; omega⟩
        have k1 : kindI R q.1 q.2 = 2 := by rw [← hrm]; exact kind_last hr hrok
        have a1 : ansR R q.1 q.2 = r.r := by unfold ansR; rw [if_pos k1, hr]; rfl
        refine s_asU (s_false rfl (s_req ⟨rfl, rfl⟩ (s_asI (s_asI (s_true rfl (h_entry H2 (b := n7) (o := o7) (r := n30) (i := i2) (by repeat (first | exact pick_head | apply pick_tail | apply pick_app)) (by repeat (first | exact pick_head | apply pick_tail | apply pick_app)) hlast ?_))))))
        refine s_asU (s_req rfl (s_asI (s_asI ?_)))
        refine s_call (ask_c (m := (n30, i2) :: (n7, o7) :: [(n8, o8)]) (H2.sub (by repeat (first | exact sb_refl | exact sb_nil | refine sb_cons (by repeat (first | exact pick_head | apply pick_tail | apply pick_app)) ?_ | refine sb_app (by repeat (first | exact cut_head | exact cut_all | apply cut_tail | apply cut_app)) ?_ | exact sb_one (by repeat (first | exact cut_head | exact cut_all | apply cut_tail | apply cut_app))))) hT hI iq im) ?_
        rintro _ u ⟨oa, capa, ca, rfl, hoa, H⟩
        rw [a1] at hoa ⊢
        rw [k1]
        refine ⟨_, rfl, s_asU (s_req rfl (s_asA (s_req rfl (s_asI (s_asS (s_asI (s_asI (s_asI ?_))))))))⟩
        (refine h_new H fun n50 u H => ?_)
        iterate 4 refine h_st H (by repeat (first | exact pick_head | apply pick_tail | apply pick_app)) (by first | (simp; done) | exact Nat.le_of_ble_eq_true rfl) rfl fun u H => ?_
        rw [wrapI (n := q.2 - 1) im1.1 im1.2]
        refine s_call (ask_c (m := cl n50 30 (resL r.r.e oa r.r.vals.length capa r.r.slot r.r.place) :: (ca ++ ((n30, i2) :: (n7, o7) :: [(n8, o8)]))) (H.sub (by repeat (first | exact sb_refl | exact sb_nil | refine sb_cons (by repeat (first | exact pick_head | apply pick_tail | apply pick_app)) ?_ | refine sb_app (by repeat (first | exact cut_head | exact cut_all | apply cut_tail | apply cut_app)) ?_ | exact sb_one (by repeat (first | exact cut_head | exact cut_all | apply cut_tail | apply cut_app))))) hT hI iq im1) ?_
        rintro _ u ⟨ob, capb, cb, rfl, hob, H⟩
        refine ⟨_, rfl, s_asU (s_req rfl (s_asA (s_req rfl (s_asI (s_asS (s_asI (s_asI (s_asI ?_))))))))⟩
        (refine h_new H fun n61 u H => ?_)
        iterate 4 refine h_st H (by repeat (first | exact pick_head | apply pick_tail | apply pick_app)) (by first | (simp; done) | exact Nat.le_of_ble_eq_true rfl) rfl fun u H => ?_
        have H : Has w u (cl n50 30 (resL r.r.e oa r.r.vals.length capa r.r.slot r.r.place) :: (ca ++ ((n30, i2) :: (n7, o7) :: (n8, o8) :: c))) := H.sub (by repeat (first | exact sb_refl | exact sb_nil | refine sb_cons (by repeat (first | exact pick_head | apply pick_tail | apply pick_app)) ?_ | refine sb_app (by repeat (first | exact cut_head | exact cut_all | apply cut_tail | apply cut_app)) ?_ | exact sb_one (by repeat (first | exact cut_head | exact cut_all | apply cut_tail | apply cut_app))))
        obtain ⟨y, hy, hyr, hyv⟩ := hR _ _ hr
        obtain ⟨lk, hkey⟩ := keyI iq
        refine s_false rfl (h_ldI H (by repeat (first | exact pick_head | apply pick_tail | apply pick_app)) rfl (h_ldS H (by repeat (first | exact pick_head | apply pick_tail | apply pick_app)) rfl (h_ldI H (by repeat (first | exact pick_head | apply pick_tail | apply pick_app)) rfl (h_ldI H (by repeat (first | exact pick_head | apply pick_tail | apply pick_app)) rfl ?_))))
        refine h_look1 (a := q.1) (kf := kI) (vf := rvV) H (b := n8) (o := o8) (by repeat (first | exact pick_head | apply pick_tail | apply pick_app)) hM8 keyed2 Try.underlying27 (zero30 _) (kI_inj2 q.1 LR) hkey ?_
        rw [hy]
        refine s_asA (s_req rfl (s_asI (s_asS (s_asI (s_asI ?_)))))
        have hlen2 : r.r.vals.length * 8 ≤ 140737488355328 := hrok.2.2.2.2
        refine s_call (samer_c (valsAt_own hoa H (by repeat (first | exact cut_head | exact cut_all | apply cut_tail | apply cut_app))) (hyv.fr0 H.base) rfl rfl (by omega)) ?_
        rintro _ u ⟨rfl, f⟩
        have H := H.fr0 f
        have heq : decide ((⟨r.r.e, r.r.vals, r.r.slot, r.r.place⟩ : Res) = ⟨y.e, y.vals, y.slot, y.place⟩) = true := by
          rw [decide_eq_true_eq]
          exact hyr.symm
        rw [heq]
        have fin : ∃ (L' : List (Int × Int)) (i' : Obj), LeftO n7 kI kI o7 i' L' ∧ (∀ p ∈ L', p ∈ L) ∧ Has w u ((n30, i') :: (n7, o7) :: (n8, o8) :: c) :=
          ⟨L2, i2, hLe2, fun p hp => hsub p (hperm.mem_iff.2 (by simp [hp])), H.sub (by repeat (first | exact sb_refl | exact sb_nil | refine sb_cons (by repeat (first | exact pick_head | apply pick_tail | apply pick_app)) ?_ | refine sb_app (by repeat (first | exact cut_head | exact cut_all | apply cut_tail | apply cut_app)) ?_ | exact sb_one (by repeat (first | exact cut_head | exact cut_all | apply cut_tail | apply cut_app))))⟩
        have hlt2 : leftN u n7 n30 < leftN W n7 n30 := by
          rw [hnum, hLe2.num (H.get (e := (n7, o7)) (by repeat (first | exact pick_head | apply pick_tail | apply pick_app))) (H.get (e := (n30, i2)) (by repeat (first | exact pick_head | apply pick_tail | apply pick_app))), hlen]
          omega
        refine ⟨_, rfl, s_asB (s_false rfl (s_ite (fun g => ?_) (fun g => s_next (by first | exact ⟨rfl, rfl⟩ | trivial) ?_)))⟩
        · simp only [decide_eq_true_eq] at g
          have k2 : kindI R q.1 (q.2 - 1) = 3 := by rw [← hrm]; exact kind_old hr hrok (by omega)
          rw [k2]
          refine s_false rfl (s_next (by first | exact ⟨rfl, rfl⟩ | trivial) ?_)
          simp (config := { decide := true }) only [if_true, if_false]
          exact ⟨fin, hlt2⟩
        · simp (config := { decide := true }) only [if_true, if_false]
          exact ⟨fin, hlt2⟩
    · refine h_ldI H (by repeat (first | exact pick_head | apply pick_tail | apply pick_app)) rfl (h_ldI H (by repeat (first | exact pick_head | apply pick_tail | apply pick_app)) rfl (h_ldI H (by repeat (first | exact pick_head | apply pick_tail | apply pick_app)) rfl (h_ldS H (by repeat (first | exact pick_head | apply pick_tail | apply pick_app)) rfl (h_ldI H (by repeat (first | exact pick_head | apply pick_tail | apply pick_app)) rfl (h_ldI H (by repeat (first | exact pick_head | apply pick_tail | apply pick_app)) rfl ?_)))))
      have H : Has w u (c ++ (cl n25 32 (opr x) :: (n7, o7) :: [(n8, o8)])) := H.sub (by repeat (first | exact sb_refl | exact sb_nil | refine sb_cons (by repeat (first | exact pick_head | apply pick_tail | apply pick_app)) ?_ | refine sb_app (by repeat (first | exact cut_head | exact cut_all | apply cut_tail | apply cut_app)) ?_ | exact sb_one (by repeat (first | exact cut_head | exact cut_all | apply cut_tail | apply cut_app))))
      refine s_call (put_c (e := x.e) (slot := x.slot) (place := x.place) H hT hI hok.1 hok.2.1 (fun u H => hxv.fr0 H.base) rfl hok.2.2.1) ?_
      rintro _ u ⟨c2, rfl, hT2, H⟩
      refine ⟨_, rfl, s_asI (s_ite (fun g => ?_) (fun g => s_next (by simp) ?_))⟩
      · simp only [beq_iff_eq] at g
        have hk1 := errI_zero.1 g
        have hset : putR R x.s x.q ⟨x.e, x.vals, x.slot, x.place⟩ = setR R ⟨x.s, x.q, x.r⟩ := by unfold putR; rw [if_pos hk1]; rfl
        have hI2 : InvR (setR R ⟨x.s, x.q, x.r⟩) := by rw [← hset]; exact hI.put x.s x.q hok.2.2.1
        rw [hset] at hT2
        obtain ⟨lk, hkey⟩ := keyI hok.1
        refine h_ldI H (by repeat (first | exact pick_head | apply pick_tail | apply pick_app)) rfl (h_ldI H (by repeat (first | exact pick_head | apply pick_tail | apply pick_app)) rfl ?_)
        refine h_look1 (a := x.s) (kf := kI) (vf := kI) H (b := n7) (o := o7) (by repeat (first | exact pick_head | apply pick_tail | apply pick_app)) hM7 keyed2 Try.underlying26 (zero2 _) (kI_inj2 x.s L) hkey ?_
        rw [hL.1 x.s]
        obtain ⟨_, ho2, h3⟩ := kind_new hk1
        have hq := outI_false ho2
        have hm : ∃ m, (((lookR R x.s).map (·.m)).map kI).getD (Value.int .i64 0) = .int .i64 m ∧ m + 1 = x.q := by
          rcases h3 with ⟨r, hr, h⟩ | ⟨hr, h, _⟩
          · rw [hr]; exact ⟨r.m, rfl, by omega⟩
          · rw [hr]; exact ⟨0, rfl, by omega⟩
        obtain ⟨mm, hm1, hm2⟩ := hm
        rw [hm1]
        refine s_asI ?_
        rw [wrapI (n := mm + 1) (by omega) (by omega)]
        refine s_false (by simp [hm2]) (h_ldI H (by repeat (first | exact pick_head | apply pick_tail | apply pick_app)) rfl (h_ldI H (by repeat (first | exact pick_head | apply pick_tail | apply pick_app)) rfl ?_))
        refine h_put (a := x.s) (v := x.q) (kf := kI) (vf := kI) H (b := n7) (o := o7) (by repeat (first | exact pick_head | apply pick_tail | apply pick_app)) hM7 keyed2 Try.underlying26 (kI_inj2 x.s L) hkey fun o7' u hM7' H => ?_
        refine h_ldI H (by repeat (first | exact pick_head | apply pick_tail | apply pick_app)) rfl (h_ldI H (by repeat (first | exact pick_head | apply pick_tail | apply pick_app)) rfl (h_ldS H (by repeat (first | exact pick_head | apply pick_tail | apply pick_app)) rfl (h_ldI H (by repeat (first | exact pick_head | apply pick_tail | apply pick_app)) rfl (h_ldI H (by repeat (first | exact pick_head | apply pick_tail | apply pick_app)) rfl ?_))))
        refine h_put (a := x.s) (v := x) (kf := kI) (vf := rvV) H (b := n8) (o := o8) (by repeat (first | exact pick_head | apply pick_tail | apply pick_app)) hM8 keyed2 Try.underlying27 (kI_inj2 x.s LR) hkey fun o8' u hM8' H => s_next (by simp) ?_
        simp (config := { decide := true }) only [if_true, if_false]
        exact ⟨_, c2, _, o7', _, o8', hI2, hT2, hM7', hL.put hI.up ⟨x.s, x.q, x.r⟩, hM8', hR.put hI.up hxv, H.sub (by repeat (first | exact sb_refl | exact sb_nil | refine sb_cons (by repeat (first | exact pick_head | apply pick_tail | apply pick_app)) ?_ | refine sb_app (by repeat (first | exact cut_head | exact cut_all | apply cut_tail | apply cut_app)) ?_ | exact sb_one (by repeat (first | exact cut_head | exact cut_all | apply cut_tail | apply cut_app))))⟩
      · simp only [beq_eq_false_iff_ne, ne_eq] at g
        have hset : putR R x.s x.q ⟨x.e, x.vals, x.slot, x.place⟩ = R := by unfold putR; rw [if_neg (fun h => g (errI_zero.2 h))]
        rw [hset] at hT2
        simp (config := { decide := true }) only [if_true, if_false]
        exact ⟨R, c2, L, o7, LR, o8, hI, hT2, hM7, hL, hM8, hR, H.sub (by repeat (first | exact sb_refl | exact sb_nil | refine sb_cons (by repeat (first | exact pick_head | apply pick_tail | apply pick_app)) ?_ | refine sb_app (by repeat (first | exact cut_head | exact cut_all | apply cut_tail | apply cut_app)) ?_ | exact sb_one (by repeat (first | exact cut_head | exact cut_all | apply cut_tail | apply cut_app))))⟩
  · have H : Has w W (c ++ ((n7, o7) :: [(n8, o8)])) := H.sub (by repeat (first | exact sb_refl | exact sb_nil | refine sb_cons (by repeat (first | exact pick_head | apply pick_tail | apply pick_app)) ?_ | refine sb_app (by repeat (first | exact cut_head | exact cut_all | apply cut_tail | apply cut_app)) ?_ | exact sb_one (by repeat (first | exact cut_head | exact cut_all | apply cut_tail | apply cut_app))))
    refine s_call (len_c H hT hI) ?_
    rintro _ u ⟨rfl, H⟩
    refine ⟨_, rfl, s_asI ?_⟩
    refine h_lenM H (b := n7) (o := o7) (by repeat (first | exact pick_head | apply pick_tail | apply pick_app)) hM7 Try.underlying26 (s_asI ?_)
    refine s_true (by simp [hL.2]) ?_
    refine h_lenM H (b := n7) (o := o7) (by repeat (first | exact pick_head | apply pick_tail | apply pick_app)) hM7 Try.underlying26 (s_asI (s_ret ⟨?_, H.base⟩))
    have := hI.len
    rw [hL.2]
    congr 2
    rw [decide_eq_true_eq]
    omega
end
end Go.Proofs.Ytcmdbaafnbdpbaa
