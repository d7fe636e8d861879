/- The program's reader: a transaction. -/
import Derived.Test.YtihipcofjpnfbaaGreatDoorWrdA
set_option linter.unusedVariables false
set_option linter.unusedSimpArgs false
set_option maxRecDepth 100000
set_option maxHeartbeats 4000000
namespace Go.Proofs.YtihipcofjpnfbaaGreatDoor
open Go hiding Expr
open Go.RowKit Tr

def ints64 (l : List Int) : List Value := (l.map ir).flatten
theorem ints64_app (a b : List Int) : ints64 (a ++ b) = ints64 a ++ ints64 b := by simp [ints64]
theorem elemI64 : Elem Tryz.prog 49 2 (.int .i64 0) 1 8 := ⟨by kernel_rfl, by kernel_rfl, rfl, by decide⟩
/-- A transaction's lists lie in c. -/
def HeldT (c : Hp) (t : TX) (v : TV) : Prop := ∀ w0 u, Has w0 u c → TxAt u t v
theorem txW_split (t : TX) : txW t = wCode :: hexL t.code :: wArgs :: dI t.args.length :: (t.args.map dI ++ (wReads :: (keysW t.rd ++ (wWrites :: keysW t.wr)))) := by
  unfold txW
  rw [List.append_nil]
theorem map_next {l done : List Int} {r rest : List W} (h : l.map dI ++ r = done.map dI ++ rest) (hi : done.length < l.length) : ∃ n r', n ∈ l ∧ rest = dI n :: r' := by
  have hd : l.drop done.length = l[done.length] :: l.drop (done.length + 1) := List.drop_eq_getElem_cons hi
  have e : l = l.take done.length ++ (l[done.length] :: l.drop (done.length + 1)) := by rw [← hd, List.take_append_drop]
  have e2 : l.map dI = (l.take done.length).map dI ++ (dI l[done.length] :: (l.drop (done.length + 1)).map dI) := by
    rw [← List.map_cons, ← List.map_append, ← e]
  rw [e2, List.append_assoc] at h
  obtain ⟨_, h⟩ := List.append_inj h (by rw [List.length_map, List.length_map, List.length_take]; omega)
  exact ⟨_, _, List.getElem_mem hi, h.symm⟩
section
variable {w0 w w' : World} {p : Nat} {ws : List W} {b x : Hp}
variable (hT : Tab w0) (hE : ErrAt w0)
include hT hE
theorem txnW_c (h : Wd w0 w p ws b x) : Calls Tryz.prog 65 #[.pointer (some ⟨p, 0, none⟩)] w fun e w' =>
    (∃ (t : TX) (v : TV) (r : List W) (c : Hp), ws = txW t ++ r ∧ TxOk t ∧ t.s = 0 ∧ t.q = 0 ∧ e = .returned (.agg ⟨txv t v⟩) ∧ HeldT c t v ∧ Wd w0 w' p r b (c ++ x)) ∨
    ((∀ (t : TX) r, TxOk t → ws ≠ txW t ++ r) ∧ e = panW ∧ ∃ y, Wp w0 w' p b (y ++ x)) := by
  have hwb := h.wb
  apply c65
  obtain ⟨vw, H, hk⟩ := h.turn
  try simp only [List.cons_append, List.append_assoc] at H
  refine h_new H fun n2 u H => h_new H fun n3 u H => ?_
  have h : Wd w0 u p ws b (cl n3 52 [.int .i64 0, .int .i64 0, .slice none 0 0, .slice none 0 0, .slice none 0 0, .slice none 0 0] :: cl n2 52 [.int .i64 0, .int .i64 0, .slice none 0 0, .slice none 0 0, .slice none 0 0, .slice none 0 0] :: x) := hk (H.sub (m2 := cl p 46 [vw] :: (cl n3 52 [.int .i64 0, .int .i64 0, .slice none 0 0, .slice none 0 0, .slice none 0 0, .slice none 0 0] :: cl n2 52 [.int .i64 0, .int .i64 0, .slice none 0 0, .slice none 0 0, .slice none 0 0, .slice none 0 0] :: (x ++ b))) (by repeat (first | exact sb_refl | exact sb_nil | refine sb_cons (by repeat (first | exact pick_head | apply pick_tail | apply pick_app)) ?_ | refine sb_app (by repeat (first | exact cut_head | exact cut_all | apply cut_tail | apply cut_app)) ?_ | exact sb_one (by repeat (first | exact cut_head | exact cut_all | apply cut_tail | apply cut_app)))))
  clear H hk
  have out2 : ∀ {U : World} {y c' : Hp}, Wp w0 U p b (y ++ (c' ++ x)) → ∃ y, Wp w0 U p b (y ++ x) := fun {U y c'} h => ⟨y ++ c', by rw [List.append_assoc]; exact h⟩
  refine s_call2p (is_c h (t := wCode)) ?_
  rintro e u (⟨r1, rfl, rfl, h⟩ | ⟨hno, rfl, h⟩)
  rotate_left
  · exact .inr ⟨_, rfl, s_pan (.inr ⟨fun t r _ hw => hno _ (by rw [hw, txW_split]; rfl), rfl, [_, _], h⟩)⟩
  refine .inl ⟨_, rfl, s_call2p (next_c h) ?_⟩
  rintro e u (⟨rfl, rfl, h⟩ | ⟨s, r2, rfl, rfl, h⟩)
  · exact .inr ⟨_, rfl, s_pan (.inr ⟨fun t r _ hw => (by rw [txW_split] at hw; simp at hw), rfl, [_, _], h⟩)⟩
  have hs1 : s.length ≤ 2097152 := hwb.2 s (by simp)
  refine .inl ⟨_, rfl, s_asT (s_call (unhex_c (errFr hE h.base) hs1) ?_)⟩
  rintro _ u ⟨vc, cc, rfl, hoc, H2⟩
  obtain ⟨oc, capc, rfl⟩ := hoc.slice
  have hJ := h.join H2
  clear h
  have hnext : ∀ (t : TX) r, TxOk t → wCode :: s :: r2 = txW t ++ r → s = hexL t.code ∧ r2 = wArgs :: dI t.args.length :: (t.args.map dI ++ (wReads :: (keysW t.rd ++ (wWrites :: (keysW t.wr ++ r))))) := by
    intro t r ht hw
    rw [txW_split] at hw
    simp only [List.cons_append, List.append_assoc] at hw
    obtain ⟨_, hw⟩ := List.cons.inj hw
    obtain ⟨h1, hw⟩ := List.cons.inj hw
    exact ⟨h1, hw⟩
  refine ⟨_, rfl, s_asU (s_req rfl (s_asS (s_asB ?_)))⟩
  refine s_blk (fun vs U => vs = [] ∧ (unhR s).2 = true ∧ U = u) ?_ ?_
  rotate_left
  · refine s_ite (fun g => s_pan (.inr ⟨fun t r ht hw => ?_, rfl, cc ++ [_, _], by rw [List.append_assoc]; exact hJ.wp⟩)) (fun g => s_next ⟨rfl, rfl⟩ ?_)
    · obtain ⟨h1, _⟩ := hnext t r ht hw
      rw [h1, unh_hexL ht.code] at g
      simp at g
    · simp only [if_true]
      exact ⟨trivial, by simpa using g, trivial⟩
  rintro _ j U ⟨rfl, hok, rfl⟩
  obtain ⟨hs2, hbytes, hlen⟩ := unh_true hok
  generalize (unhR s).1 = code at hoc hs2 hbytes hlen
  subst hs2
  obtain ⟨vw, H, hk⟩ := hJ.turn
  try simp only [List.cons_append, List.append_assoc] at H
  refine h_st H (b := n3) (by repeat (first | exact pick_head | apply pick_tail | apply pick_app)) (by simp) rfl fun u H => ?_
  simp only [List.set_cons_zero, List.set_cons_succ] at H
  have h : Wd w0 u p r2 b (cl n3 52 [.int .i64 0, .int .i64 0, .slice oc code.length capc, .slice none 0 0, .slice none 0 0, .slice none 0 0] :: (cc ++ (cl n2 52 [.int .i64 0, .int .i64 0, .slice none 0 0, .slice none 0 0, .slice none 0 0, .slice none 0 0] :: x))) := hk (by simp only [List.cons_append, List.append_assoc]; exact H.sub (by repeat (first | exact sb_refl | exact sb_nil | refine sb_cons (by repeat (first | exact pick_head | apply pick_tail | apply pick_app)) ?_ | refine sb_app (by repeat (first | exact cut_head | exact cut_all | apply cut_tail | apply cut_app)) ?_ | exact sb_one (by repeat (first | exact cut_head | exact cut_all | apply cut_tail | apply cut_app)))))
  clear H hk
  refine s_call2p (is_c h (t := wArgs)) ?_
  rintro e u (⟨r3, rfl, rfl, h⟩ | ⟨hno, rfl, h⟩)
  rotate_left
  · exact .inr ⟨_, rfl, s_pan (.inr ⟨fun t r ht hw => hno _ (hnext t r ht hw).2, rfl, cl n3 52 [.int .i64 0, .int .i64 0, .slice oc code.length capc, .slice none 0 0, .slice none 0 0, .slice none 0 0] :: (cc ++ [cl n2 52 [.int .i64 0, .int .i64 0, .slice none 0 0, .slice none 0 0, .slice none 0 0, .slice none 0 0]]), by simpa using h⟩)⟩
  refine .inl ⟨_, rfl, s_call2p (many_c hT hE h) ?_⟩
  rintro e u (⟨n, r4, rfl, hn, rfl, h⟩ | ⟨hno, rfl, h⟩)
  rotate_left
  · refine .inr ⟨_, rfl, s_pan (.inr ⟨fun t r ht hw => ?_, rfl, cl n3 52 [.int .i64 0, .int .i64 0, .slice oc code.length capc, .slice none 0 0, .slice none 0 0, .slice none 0 0] :: (cc ++ [cl n2 52 [.int .i64 0, .int .i64 0, .slice none 0 0, .slice none 0 0, .slice none 0 0, .slice none 0 0]]), by simpa using h⟩)⟩
    obtain ⟨_, h2⟩ := hnext t r ht hw
    exact hno t.args.length _ (by simp) (List.cons.inj h2).2
  have hn1 : n ≤ 1048576 := by have := hwb.1; simp at this; omega
  have hnext2 : ∀ (t : TX) r, TxOk t → wCode :: hexL code :: wArgs :: dI n :: r4 = txW t ++ r → n = t.args.length ∧ r4 = t.args.map dI ++ (wReads :: (keysW t.rd ++ (wWrites :: (keysW t.wr ++ r)))) := by
    intro t r ht hw
    obtain ⟨_, h2⟩ := hnext t r ht hw
    obtain ⟨_, h2⟩ := List.cons.inj h2
    obtain ⟨h3, h2⟩ := List.cons.inj h2
    have := dI_inj h3
    exact ⟨by omega, h2⟩
  refine .inl ⟨_, rfl, s_asI ?_⟩
  refine s_loop (fun vs U => ∃ (oa : Option Addr) (ca : Nat) (l : List Int) (rest : List W) (c y : Hp), vs = [.int .i64 l.length] ∧ l.length ≤ n ∧ r4 = l.map dI ++ rest ∧ (∀ k ∈ l, In64 k) ∧ OwnC 2 1 (.slice oa l.length ca) l.length (ints64 l) c ∧
      Wd w0 U p rest b (cl n3 52 [.int .i64 0, .int .i64 0, .slice oc code.length capc, .slice oa l.length ca, .slice none 0 0, .slice none 0 0] :: (c ++ (cc ++ (y ++ (cl n2 52 [.int .i64 0, .int .i64 0, .slice none 0 0, .slice none 0 0, .slice none 0 0, .slice none 0 0] :: x))))))
    (fun vs _ => n - (intOf (vs.getD 0 undef)).toNat) ⟨none, 0, [], r4, [], [], rfl, by simp, rfl, by simp, OwnC.nil, h⟩ ?_
  clear h
  rintro _ j U ⟨oa, ca, l, rest, c, y, rfl, hln, he, hin, ho, h⟩
  have outL : ∀ {U : World} {z : List Value} {y c' c2 : Hp}, Wp w0 U p b (cl n3 52 z :: (c' ++ (c2 ++ (y ++ (cl n2 52 [.int .i64 0, .int .i64 0, .slice none 0 0, .slice none 0 0, .slice none 0 0, .slice none 0 0] :: x))))) → ∃ y, Wp w0 U p b (y ++ x) :=
    fun {U z y c' c2} h => ⟨cl n3 52 z :: (c' ++ (c2 ++ (y ++ [cl n2 52 [.int .i64 0, .int .i64 0, .slice none 0 0, .slice none 0 0, .slice none 0 0, .slice none 0 0]]))), by simpa using h⟩
  refine s_asI (s_ite (fun g1 => ?_) (fun g1 => ?_))
  · simp only [decide_eq_true_eq] at g1
    have hlt : l.length < n := by omega
    obtain ⟨vw, H, hk⟩ := h.turn
    try simp only [List.cons_append, List.append_assoc] at H
    refine h_drew H fun u H => h_ldS H (b := n3) (by repeat (first | exact pick_head | apply pick_tail | apply pick_app)) rfl ?_
    have h : Wd w0 u p rest b (cl n3 52 [.int .i64 0, .int .i64 0, .slice oc code.length capc, .slice oa l.length ca, .slice none 0 0, .slice none 0 0] :: (c ++ (cc ++ (y ++ (cl n2 52 [.int .i64 0, .int .i64 0, .slice none 0 0, .slice none 0 0, .slice none 0 0, .slice none 0 0] :: x))))) := hk (by simp only [List.cons_append, List.append_assoc]; exact H)
    clear H hk
    refine s_call2p (long_c hT hE h) ?_
    rintro e u (⟨n1, r1, rfl, hn1', rfl, h⟩ | ⟨hno, rfl, h⟩)
    · obtain ⟨vw, H, hk⟩ := h.turn
      refine .inl ⟨_, rfl, s_asI (s_chk (hc_cons H (b := n3) (by repeat (first | exact pick_head | apply pick_tail | apply pick_app)) rfl c_nil) (h_new H fun n26 u H => s_chk (hc_cons H (b := n3) (by repeat (first | exact pick_head | apply pick_tail | apply pick_app)) rfl c_nil) ?_))⟩
      have H : Has w0 u (c ++ (cl n26 2 (ir n1) :: cl n3 52 [.int .i64 0, .int .i64 0, .slice oc code.length capc, .slice oa l.length ca, .slice none 0 0, .slice none 0 0] :: cl p 46 [vw] :: (cc ++ (y ++ (cl n2 52 [.int .i64 0, .int .i64 0, .slice none 0 0, .slice none 0 0, .slice none 0 0, .slice none 0 0] :: (x ++ b)))))) := by
        simp only [List.append_assoc, List.cons_append] at H
        exact H.sub (by repeat (first | exact sb_refl | exact sb_nil | refine sb_cons (by repeat (first | exact pick_head | apply pick_tail | apply pick_app)) ?_ | refine sb_app (by repeat (first | exact cut_head | exact cut_all | apply cut_tail | apply cut_app)) ?_ | exact sb_one (by repeat (first | exact cut_head | exact cut_all | apply cut_tail | apply cut_app))))
      refine h_app1 elemI64 H cut_head ho (r := n26) (l := ir n1) (pick_app pick_head) rfl (by intro u hu; simp [ir] at hu; subst hu; rfl) (by omega) (by omega) ?_
      intro v' c' u ho' H
      obtain ⟨o3, cap3, rfl⟩ := ho'.slice
      refine s_asS (s_chk c_nil (h_st H (b := n3) (by repeat (first | exact pick_head | apply pick_tail | apply pick_app)) (by simp) rfl fun u H => s_chk c_nil (s_next ⟨rfl, rfl⟩ ?_)))
      simp (config := { decide := true }) only [if_true, if_false]
      simp only [List.set_cons_zero, List.set_cons_succ] at H
      refine ⟨⟨o3, cap3, l ++ [n1], r1, c', cl n26 2 (ir n1) :: y, ?_, by simp; omega, ?_, ?_, ?_, hk ?_⟩, by rw [w_succ (by omega)]; simp [intOf] <;> omega⟩
      · rw [w_succ (by omega)]
        simp
      · rw [he]
        simp
      · intro k hk'
        rcases List.mem_append.1 hk' with hk' | hk'
        · exact hin k hk'
        · rw [List.mem_singleton] at hk'
          subst hk'
          exact hn1'
      · rw [ints64_app, List.length_append]
        simpa [ints64] using ho'
      · simp only [List.append_assoc, List.cons_append, List.length_append, List.length_singleton]
        exact H.sub (by repeat (first | exact sb_refl | exact sb_nil | refine sb_cons (by repeat (first | exact pick_head | apply pick_tail | apply pick_app)) ?_ | refine sb_app (by repeat (first | exact cut_head | exact cut_all | apply cut_tail | apply cut_app)) ?_ | exact sb_one (by repeat (first | exact cut_head | exact cut_all | apply cut_tail | apply cut_app))))
    · refine .inr ⟨_, rfl, s_pan (.inr ⟨fun t r ht hw => ?_, rfl, outL h⟩)⟩
      obtain ⟨h1, h2⟩ := hnext2 t r ht hw
      rw [he] at h2
      obtain ⟨k, r', hk', h3⟩ := map_next h2.symm (by omega)
      exact hno k r' (ht.args k hk') h3
  · simp only [decide_eq_false_iff_not] at g1
    have hle : l.length = n := by omega
    have hnext3 : ∀ (t : TX) r, TxOk t → wCode :: hexL code :: wArgs :: dI n :: r4 = txW t ++ r → rest = wReads :: (keysW t.rd ++ (wWrites :: (keysW t.wr ++ r))) := by
      intro t r ht hw
      obtain ⟨h1, h2⟩ := hnext2 t r ht hw
      rw [he] at h2
      exact (List.append_inj h2 (by rw [List.length_map, List.length_map]; omega)).2
    refine s_call2p (is_c h (t := wReads)) ?_
    rintro e u (⟨r5, rfl, rfl, h⟩ | ⟨hno, rfl, h⟩)
    rotate_left
    · exact .inr ⟨_, rfl, s_pan (.inr ⟨fun t r ht hw => hno _ (hnext3 t r ht hw), rfl, outL h⟩)⟩
    refine .inl ⟨_, rfl, s_call2p (keysW_c hT hE h) ?_⟩
    rintro e u (⟨rd, r6, vd, cd, yd, rfl, hrd, hrl, rfl, hod, h⟩ | ⟨hno, rfl, yy, h⟩)
    rotate_left
    · exact .inr ⟨_, rfl, s_pan (.inr ⟨fun t r ht hw => hno t.rd _ ht.rd (List.cons.inj (hnext3 t r ht hw)).2, rfl, ⟨yy ++ (cl n3 52 [.int .i64 0, .int .i64 0, .slice oc code.length capc, .slice oa l.length ca, .slice none 0 0, .slice none 0 0] :: (c ++ (cc ++ (y ++ [cl n2 52 [.int .i64 0, .int .i64 0, .slice none 0 0, .slice none 0 0, .slice none 0 0, .slice none 0 0]])))), by simpa using h⟩⟩)⟩
    obtain ⟨od, capd, rfl⟩ := hod.slice
    obtain ⟨vw, H, hk⟩ := h.turn
    try simp only [List.cons_append, List.append_assoc] at H
    refine .inl ⟨_, rfl, s_asS (h_st H (b := n3) (by repeat (first | exact pick_head | apply pick_tail | apply pick_app)) (by simp) rfl fun u H => ?_)⟩
    simp only [List.set_cons_zero, List.set_cons_succ] at H
    have h : Wd w0 u p r6 b (cl n3 52 [.int .i64 0, .int .i64 0, .slice oc code.length capc, .slice oa l.length ca, .slice od rd.length capd, .slice none 0 0] :: (cd ++ (yd ++ (c ++ (cc ++ (y ++ (cl n2 52 [.int .i64 0, .int .i64 0, .slice none 0 0, .slice none 0 0, .slice none 0 0, .slice none 0 0] :: x))))))) := hk (by simp only [List.cons_append, List.append_assoc]; exact H.sub (by repeat (first | exact sb_refl | exact sb_nil | refine sb_cons (by repeat (first | exact pick_head | apply pick_tail | apply pick_app)) ?_ | refine sb_app (by repeat (first | exact cut_head | exact cut_all | apply cut_tail | apply cut_app)) ?_ | exact sb_one (by repeat (first | exact cut_head | exact cut_all | apply cut_tail | apply cut_app)))))
    clear H hk
    have outM : ∀ {U : World} {yy : Hp}, Wp w0 U p b (yy ++ (cl n3 52 [.int .i64 0, .int .i64 0, .slice oc code.length capc, .slice oa l.length ca, .slice od rd.length capd, .slice none 0 0] :: (cd ++ (yd ++ (c ++ (cc ++ (y ++ (cl n2 52 [.int .i64 0, .int .i64 0, .slice none 0 0, .slice none 0 0, .slice none 0 0, .slice none 0 0] :: x)))))))) → ∃ y, Wp w0 U p b (y ++ x) :=
      fun {U yy} h => ⟨yy ++ (cl n3 52 [.int .i64 0, .int .i64 0, .slice oc code.length capc, .slice oa l.length ca, .slice od rd.length capd, .slice none 0 0] :: (cd ++ (yd ++ (c ++ (cc ++ (y ++ [cl n2 52 [.int .i64 0, .int .i64 0, .slice none 0 0, .slice none 0 0, .slice none 0 0, .slice none 0 0]])))))), by simpa using h⟩
    have hnext4 : ∀ (t : TX) r, TxOk t → wCode :: hexL code :: wArgs :: dI n :: r4 = txW t ++ r → r6 = wWrites :: (keysW t.wr ++ r) := by
      intro t r ht hw
      have h1 := (List.cons.inj (hnext3 t r ht hw)).2
      exact (keysW_inj h1).2
    refine s_call2p (is_c h (t := wWrites)) ?_
    rintro e u (⟨r7, rfl, rfl, h⟩ | ⟨hno, rfl, h⟩)
    rotate_left
    · exact .inr ⟨_, rfl, s_pan (.inr ⟨fun t r ht hw => hno _ (hnext4 t r ht hw), rfl, outM (yy := []) h⟩)⟩
    refine .inl ⟨_, rfl, s_call2p (keysW_c hT hE h) ?_⟩
    rintro e u (⟨wr, r8, vr, cr, yr, rfl, hwr, hwl, rfl, how, h⟩ | ⟨hno, rfl, yy, h⟩)
    rotate_left
    · exact .inr ⟨_, rfl, s_pan (.inr ⟨fun t r ht hw => hno t.wr _ ht.wr (List.cons.inj (hnext4 t r ht hw)).2, rfl, outM h⟩)⟩
    obtain ⟨ow, capw, rfl⟩ := how.slice
    obtain ⟨vw, H, hk⟩ := h.turn
    try simp only [List.cons_append, List.append_assoc] at H
    refine .inl ⟨_, rfl, s_asS (h_st H (b := n3) (by repeat (first | exact pick_head | apply pick_tail | apply pick_app)) (by simp) rfl fun u H => ?_)⟩
    simp only [List.set_cons_zero, List.set_cons_succ] at H
    iterate 2 refine h_ldI H (b := n3) (by repeat (first | exact pick_head | apply pick_tail | apply pick_app)) rfl ?_
    iterate 4 refine h_ldS H (b := n3) (by repeat (first | exact pick_head | apply pick_tail | apply pick_app)) rfl ?_
    iterate 6 (refine h_st H (b := n2) (by repeat (first | exact pick_head | apply pick_tail | apply pick_app)) (by first | (simp; done) | exact Nat.le_of_ble_eq_true rfl) rfl fun u H => ?_; simp only [List.set_cons_zero, List.set_cons_succ] at H)
    iterate 2 refine h_ldI H (b := n2) (by repeat (first | exact pick_head | apply pick_tail | apply pick_app)) rfl ?_
    iterate 4 refine h_ldS H (b := n2) (by repeat (first | exact pick_head | apply pick_tail | apply pick_app)) rfl ?_
    refine s_ret (.inl ⟨⟨0, 0, code, l, rd, wr⟩, ⟨oc, capc, oa, ca, od, capd, ow, capw⟩, r8, cr ++ (cd ++ (c ++ cc)), ?_, ⟨zero64, zero64, hbytes, hin, hrd, hwr, by simp only; omega, by simp only; omega, hrl, hwl⟩, rfl, rfl, rfl, ?_, ?_⟩)
    · rw [txW_split]
      simp only [List.cons_append, List.append_assoc]
      rw [he, hle]
    · intro w1 u1 H1
      exact ⟨bytAt_own hoc H1 (by repeat (first | exact cut_head | exact cut_all | apply cut_tail | apply cut_app)), rowsAt_own (ir1 l) (by decide) ho H1 (by repeat (first | exact cut_head | exact cut_all | apply cut_tail | apply cut_app)), rowsAt_own (kr2 rd) (by decide) hod H1 (by repeat (first | exact cut_head | exact cut_all | apply cut_tail | apply cut_app)), rowsAt_own (kr2 wr) (by decide) how H1 (by repeat (first | exact cut_head | exact cut_all | apply cut_tail | apply cut_app))⟩
    · refine hk ?_
      simp only [List.append_assoc, List.cons_append] at H ⊢
      exact H.sub (by repeat (first | exact sb_refl | exact sb_nil | refine sb_cons (by repeat (first | exact pick_head | apply pick_tail | apply pick_app)) ?_ | refine sb_app (by repeat (first | exact cut_head | exact cut_all | apply cut_tail | apply cut_app)) ?_ | exact sb_one (by repeat (first | exact cut_head | exact cut_all | apply cut_tail | apply cut_app))))
end
end Go.Proofs.YtihipcofjpnfbaaGreatDoor

/- The program's reader: a step's field. -/
set_option linter.unusedVariables false
set_option linter.unusedSimpArgs false
set_option maxRecDepth 100000
set_option maxHeartbeats 4000000
namespace Go.Proofs.YtihipcofjpnfbaaGreatDoor
open Go hiding Expr
open Go.RowKit Tr

/-- A step's lists lie in c. -/
def HeldS (c : Hp) (y : ST) (v : SV27) : Prop := ∀ w0 u, Has w0 u c → StAt u y v
section
variable {w0 w w' : World} {p bx : Nat} {ws : List W} {b x cy : Hp} {y : ST} {vy : SV27} {f : Int}
/-- What field comes to. -/
def FieldR (w0 w' : World) (p bx : Nat) (ws : List W) (b x : Hp) (y : ST) (f : Int) (e : Ending) : Prop :=
  (∃ (y' : ST) (v' : SV27) (c' : Hp) (r : List W), zf y' f = zf y f ∧ StOk y' ∧ (TxZ y → TxZ y') ∧ ws = fieldW y' f ++ r ∧ e = .returned (.tuple #[]) ∧ HeldS c' y' v' ∧ Wd w0 w' p r b (cl bx 56 (stv y' v') :: (c' ++ x))) ∨
  ((∀ (z : ST) r, StOk z → ws ≠ fieldW z f ++ r) ∧ e = panW ∧ ∃ q, Wp w0 w' p b (q ++ x))
variable (hT : Tab w0) (hE : ErrAt w0)
include hT hE
theorem one_int {ρ : Lv} {off : Nat} {set : Int → ST} (h : Wd w0 w p ws b (cl bx 56 (stv y vy) :: (cy ++ x))) (hoff : off < 16) (hset : ∀ n, (stv y vy).set off (.int .i64 n) = stv (set n) vy)
    (hw : ∀ n, fieldW (set n) f = [dI n]) (hz : ∀ n, zf (set n) f = zf y f) (hok : ∀ n, In64 n → StOk (set n)) (hH : ∀ n, HeldS cy (set n) vy) (htx : ∀ n, TxZ y → TxZ (set n)) (hall : ∀ z, StOk z → ∃ n, In64 n ∧ fieldW z f = [dI n]) :
    (T.call2 35 [.pointer (some ⟨p, 0, none⟩)] (fun v => T.asI .i64 v fun i => T.st bx (0 + off) (.int .i64 i) (T.ret (.tuple #[]))) fun v => T.pan v).sem Tryz.prog (fun e w' => FieldR w0 w' p bx ws b x y f e) ρ w := by
  refine s_call2p (int_c hT hE h) ?_
  rintro e u (⟨n, r, rfl, hn, rfl, h⟩ | ⟨hno, rfl, h⟩)
  · obtain ⟨vw, H, hk⟩ := h.turn
    refine .inl ⟨_, rfl, s_asI ?_⟩
    rw [Nat.zero_add]
    refine h_st H (b := bx) (pick_tail pick_head) (by simp [stv]; omega) rfl fun u H => s_ret (.inl ⟨set n, vy, cy, r, hz n, hok n hn, htx n, by rw [hw]; rfl, rfl, hH n, hk ?_⟩)
    rw [hset] at H
    exact H.perm (List.Perm.swap ..)
  · refine .inr ⟨_, rfl, s_pan (.inr ⟨fun z r hz' he => ?_, rfl, cl bx 56 (stv y vy) :: cy, by simpa using h⟩)⟩
    obtain ⟨n, hn, e1⟩ := hall z hz'
    rw [e1] at he
    exact hno n r hn he
theorem field_c (h : Wd w0 w p ws b (cl bx 56 (stv y vy) :: (cy ++ x))) (hy : StOk y) (hH : HeldS cy y vy) (hf : IsField f) :
    Calls Tryz.prog 40 #[.pointer (some ⟨p, 0, none⟩), .pointer (some ⟨bx, 0, none⟩), .int .i64 f] w fun e w' => FieldR w0 w' p bx ws b x y f e := by
  apply c40
  have hH' : ∀ {y' : ST}, y'.tx = y.tx → y'.keys = y.keys → HeldS cy y' vy := fun {y'} e1 e2 w1 u1 H1 => by
    obtain ⟨h1, h2⟩ := hH w1 u1 H1
    exact ⟨by rw [e1]; exact h1, by rw [e2]; exact h2⟩
  rcases hf with rfl | rfl | rfl | rfl | rfl | rfl | rfl | rfl | rfl
  · exact s_true rfl (one_int hT hE (off := 1) (set := fun n => { y with at_ := n }) h (by omega) (fun n => rfl) (fun n => rfl) (fun n => rfl) (fun n hn => { hy with at_ := hn }) (fun n => hH' rfl rfl) (fun n h => h) (fun z hz => ⟨z.at_, hz.at_, rfl⟩))
  · exact s_false rfl (s_true rfl (one_int hT hE (off := 2) (set := fun n => { y with client := n }) h (by omega) (fun n => rfl) (fun n => rfl) (fun n => rfl) (fun n hn => { hy with client := hn }) (fun n => hH' rfl rfl) (fun n h => h) (fun z hz => ⟨z.client, hz.client, rfl⟩)))
  · refine s_false rfl (s_false rfl (s_true rfl (s_call2p (txnW_c hT hE h) ?_)))
    rintro e u (⟨t, vt, r, c, rfl, ht, hs, hq, rfl, hHt, h⟩ | ⟨hno, rfl, q, h⟩)
    · obtain ⟨vw, H, hk⟩ := h.turn
      simp only [List.cons_append, List.append_assoc] at H
      have H : Has w0 u (cl bx 56 (stv y vy) :: cl p 46 [vw] :: (c ++ (cy ++ (x ++ b)))) := H.sub (by repeat (first | exact sb_refl | exact sb_nil | refine sb_cons (by repeat (first | exact pick_head | apply pick_tail | apply pick_app)) ?_ | refine sb_app (by repeat (first | exact cut_head | exact cut_all | apply cut_tail | apply cut_app)) ?_ | exact sb_one (by repeat (first | exact cut_head | exact cut_all | apply cut_tail | apply cut_app))))
      simp only [stv] at H
      refine .inl ⟨_, rfl, s_asA (s_req rfl (s_asI (s_asI (s_asS (s_asS (s_asS (s_asS ?_)))))))⟩
      iterate 6 (refine h_st H (b := bx) pick_head (by first | (simp; done) | exact Nat.le_of_ble_eq_true rfl) rfl fun u H => ?_; simp only [Nat.zero_add, List.set_cons_zero, List.set_cons_succ] at H)
      refine s_ret (.inl ⟨{ y with tx := t }, ⟨vt, vy.o, vy.c⟩, c ++ cy, r, rfl, { hy with tx := ht }, fun _ => ⟨hs, hq⟩, rfl, rfl, fun w1 u1 H1 => ⟨hHt w1 u1 H1.left, (hH w1 u1 H1.right).keys⟩, hk ?_⟩)
      simp only [stv, List.cons_append, List.append_assoc]
      exact H.sub (by repeat (first | exact sb_refl | exact sb_nil | refine sb_cons (by repeat (first | exact pick_head | apply pick_tail | apply pick_app)) ?_ | refine sb_app (by repeat (first | exact cut_head | exact cut_all | apply cut_tail | apply cut_app)) ?_ | exact sb_one (by repeat (first | exact cut_head | exact cut_all | apply cut_tail | apply cut_app))))
    · exact .inr ⟨_, rfl, s_pan (.inr ⟨fun z r hz he => hno z.tx r hz.tx he, rfl, q ++ (cl bx 56 (stv y vy) :: cy), by simpa using h⟩)⟩
  · refine s_false rfl (s_false rfl (s_false rfl (s_true rfl (s_call2p (keysW_c hT hE h) ?_))))
    rintro e u (⟨l, r, v, c, yy, rfl, hl, hll, rfl, ho, h⟩ | ⟨hno, rfl, q, h⟩)
    · obtain ⟨o, cap, rfl⟩ := ho.slice
      obtain ⟨vw, H, hk⟩ := h.turn
      simp only [List.cons_append, List.append_assoc] at H
      have H : Has w0 u (cl bx 56 (stv y vy) :: cl p 46 [vw] :: (c ++ (cy ++ (x ++ b)))) := H.sub (by repeat (first | exact sb_refl | exact sb_nil | refine sb_cons (by repeat (first | exact pick_head | apply pick_tail | apply pick_app)) ?_ | refine sb_app (by repeat (first | exact cut_head | exact cut_all | apply cut_tail | apply cut_app)) ?_ | exact sb_one (by repeat (first | exact cut_head | exact cut_all | apply cut_tail | apply cut_app))))
      simp only [stv] at H
      refine .inl ⟨_, rfl, s_asS (h_st H (b := bx) pick_head (by first | (simp; done) | exact Nat.le_of_ble_eq_true rfl) rfl fun u H => ?_)⟩
      simp only [Nat.zero_add, List.set_cons_zero, List.set_cons_succ] at H
      refine s_ret (.inl ⟨{ y with keys := l }, ⟨vy.v, o, cap⟩, c ++ cy, r, rfl, { hy with keys := hl, szk := hll }, fun h => h, rfl, rfl, fun w1 u1 H1 => ⟨(hH w1 u1 H1.right).tx, rowsAt_own (kr2 l) (by decide) ho H1 cut_head⟩, hk ?_⟩)
      simp only [stv, List.cons_append, List.append_assoc]
      exact H.sub (by repeat (first | exact sb_refl | exact sb_nil | refine sb_cons (by repeat (first | exact pick_head | apply pick_tail | apply pick_app)) ?_ | refine sb_app (by repeat (first | exact cut_head | exact cut_all | apply cut_tail | apply cut_app)) ?_ | exact sb_one (by repeat (first | exact cut_head | exact cut_all | apply cut_tail | apply cut_app))))
    · exact .inr ⟨_, rfl, s_pan (.inr ⟨fun z r hz he => hno z.keys r hz.keys he, rfl, q ++ (cl bx 56 (stv y vy) :: cy), by simpa using h⟩)⟩
  · refine s_false rfl (s_false rfl (s_false rfl (s_false rfl (s_true rfl (s_call2p (int_c hT hE h) ?_)))))
    rintro e u (⟨n1, r1, rfl, hn1, rfl, h⟩ | ⟨hno, rfl, h⟩)
    · refine .inl ⟨_, rfl, s_asI (s_call2p (int_c hT hE h) ?_)⟩
      rintro e u (⟨n2, r2, rfl, hn2, rfl, h⟩ | ⟨hno, rfl, h⟩)
      · obtain ⟨vw, H, hk⟩ := h.turn
        refine .inl ⟨_, rfl, s_asI (h_st H (b := bx) (pick_tail pick_head) (by first | (simp [stv]; done) | exact Nat.le_of_ble_eq_true rfl) rfl fun u H => h_st H (b := bx) pick_head (by first | (simp [stv]; done) | exact Nat.le_of_ble_eq_true rfl) rfl fun u H => ?_)⟩
        refine s_ret (.inl ⟨{ y with frm := n1, dst := n2 }, vy, cy, r2, rfl, { hy with frm := hn1, dst := hn2 }, fun h => h, rfl, rfl, hH' rfl rfl, hk ?_⟩)
        exact H.perm (List.Perm.swap ..)
      · exact .inr ⟨_, rfl, s_pan (.inr ⟨fun z r hz he => hno _ _ hz.dst (List.cons.inj he).2, rfl, cl bx 56 (stv y vy) :: cy, by simpa using h⟩)⟩
    · exact .inr ⟨_, rfl, s_pan (.inr ⟨fun z r hz he => hno _ _ hz.frm he, rfl, cl bx 56 (stv y vy) :: cy, by simpa using h⟩)⟩
  · exact s_false rfl (s_false rfl (s_false rfl (s_false rfl (s_false rfl (s_true rfl (one_int hT hE (off := 12) (set := fun n => { y with place := n }) h (by omega) (fun n => rfl) (fun n => rfl) (fun n => rfl) (fun n hn => { hy with place := hn }) (fun n => hH' rfl rfl) (fun n h => h) (fun z hz => ⟨z.place, hz.place, rfl⟩)))))))
  · refine s_false rfl (s_false rfl (s_false rfl (s_false rfl (s_false rfl (s_false rfl (s_true rfl (s_call2p (long_c hT hE h) ?_)))))))
    have hb : ∀ z : ST, StOk z → In64 z.wth := fun z hz => ⟨by have := hz.wth.1; omega, by have := hz.wth.2; omega⟩
    rintro e u (⟨n, r, rfl, hn, rfl, h⟩ | ⟨hno, rfl, h⟩)
    · refine .inl ⟨_, rfl, s_asI (s_blk (fun vs U => vs = [] ∧ IsByte n ∧ Wd w0 U p r b (cl bx 56 (stv y vy) :: (cy ++ x))) ?_ ?_)⟩
      · clear h
        rintro _ j U ⟨rfl, hbn, h⟩
        obtain ⟨vw, H, hk⟩ := h.turn
        rw [wrapU8 hbn]
        refine h_st H (b := bx) (pick_tail pick_head) (by first | (simp [stv]; done) | exact Nat.le_of_ble_eq_true rfl) rfl fun u H => s_ret (.inl ⟨{ y with wth := n }, vy, cy, r, rfl, { hy with wth := hbn }, fun h => h, rfl, rfl, hH' rfl rfl, hk ?_⟩)
        exact H.perm (List.Perm.swap ..)
      · refine s_ite (fun g => s_pan (.inr ⟨fun z r hz he => ?_, rfl, cl bx 56 (stv y vy) :: cy, by simpa using h.wp⟩)) (fun g => s_ite (fun g2 => s_pan (.inr ⟨fun z r hz he => ?_, rfl, cl bx 56 (stv y vy) :: cy, by simpa using h.wp⟩)) (fun g2 => s_next ⟨rfl, rfl⟩ ?_))
        · have g : n < 0 := by simpa using g
          have e1 := dI_inj (List.cons.inj he).1
          have := hz.wth.1
          omega
        · have g2 : 255 < n := by simpa using g2
          have e1 := dI_inj (List.cons.inj he).1
          have := hz.wth.2
          omega
        · have g : 0 ≤ n := by simpa using g
          have g2 : n ≤ 255 := by simpa using g2
          simp only [if_true]
          exact ⟨trivial, ⟨g, by omega⟩, h⟩
    · exact .inr ⟨_, rfl, s_pan (.inr ⟨fun z r hz he => hno _ _ (hb z hz) he, rfl, cl bx 56 (stv y vy) :: cy, by simpa using h⟩)⟩
  · exact s_false rfl (s_false rfl (s_false rfl (s_false rfl (s_false rfl (s_false rfl (s_false rfl (s_true rfl (one_int hT hE (off := 14) (set := fun n => { y with keep := n }) h (by omega) (fun n => rfl) (fun n => rfl) (fun n => rfl) (fun n hn => { hy with keep := hn }) (fun n => hH' rfl rfl) (fun n h => h) (fun z hz => ⟨z.keep, hz.keep, rfl⟩)))))))))
  · exact s_false rfl (s_false rfl (s_false rfl (s_false rfl (s_false rfl (s_false rfl (s_false rfl (s_false rfl (s_true rfl (one_int hT hE (off := 15) (set := fun n => { y with count := n }) h (by omega) (fun n => rfl) (fun n => rfl) (fun n => rfl) (fun n hn => { hy with count := hn }) (fun n => hH' rfl rfl) (fun n h => h) (fun z hz => ⟨z.count, hz.count, rfl⟩))))))))))
end
end Go.Proofs.YtihipcofjpnfbaaGreatDoor

/- A step's words and its fields': plain. -/
set_option linter.unusedVariables false
set_option linter.unusedSimpArgs false
set_option maxRecDepth 100000
set_option maxHeartbeats 4000000
namespace Go.Proofs.YtihipcofjpnfbaaGreatDoor
open Go hiding Expr
open Go.RowKit Tr

def kindOf (s : W) : Int := match forms.findIdx? (fun p => decide (p.1 = s)) with | some i => (i : Int) | none => -1
theorem kindOf_word {s : W} (h : 1 ≤ kindOf s) : kindOf s ≤ 20 ∧ wordK (kindOf s) = s := by
  unfold kindOf at h ⊢
  cases hf : forms.findIdx? (fun p => decide (p.1 = s)) with
  | none => rw [hf] at h; simp at h
  | some i =>
    rw [hf] at h
    simp only at h ⊢
    obtain ⟨hi, hp, _⟩ := List.findIdx?_eq_some_iff_getElem.1 hf
    have hl : forms.length = 21 := rfl
    refine ⟨by omega, ?_⟩
    unfold wordK
    rw [if_pos ⟨by omega, by omega⟩, List.getD_eq_getElem?_getD, show ((i : Int)).toNat = i from rfl, List.getElem?_eq_getElem hi]
    simpa using hp
theorem kindOf_of {k : Int} (h1 : 1 ≤ k) (h2 : k ≤ 20) : kindOf (wordK k) = k := by
  have hl : forms.length = 21 := rfl
  have hk : forms[k.toNat]? = some (forms[k.toNat]'(by omega)) := List.getElem?_eq_getElem _
  have hw : wordK k = (forms[k.toNat]'(by omega)).1 := by
    unfold wordK
    rw [if_pos ⟨h1, h2⟩, List.getD_eq_getElem?_getD, hk]
    rfl
  unfold kindOf
  have hf : forms.findIdx? (fun p => decide (p.1 = wordK k)) = some k.toNat := by
    refine List.findIdx?_eq_some_iff_getElem.2 ⟨by omega, by rw [hw]; simp, fun j hj => ?_⟩
    have hjl : j < forms.length := by omega
    intro he
    have he : forms[j].1 = wordK k := by simpa using he
    rw [hw] at he
    have := (List.getElem?_inj (i := j) (j := k.toNat) (by simp; omega) words_nodup).1 (by rw [List.getElem?_map, List.getElem?_map, hk, List.getElem?_eq_getElem hjl, Option.map_some, Option.map_some, he])
    omega
  rw [hf]
  simp only
  omega

theorem zf_comm {y : ST} {f g : Int} (hf : IsField f) (hg : IsField g) : zf (zf y f) g = zf (zf y g) f := by
  rcases hf with rfl | rfl | rfl | rfl | rfl | rfl | rfl | rfl | rfl <;> rcases hg with rfl | rfl | rfl | rfl | rfl | rfl | rfl | rfl | rfl <;> rfl
theorem field_zf {y : ST} {f g : Int} (hf : IsField f) (hg : IsField g) (hne : g ≠ f) : fieldW (zf y f) g = fieldW y g := by
  rcases hf with rfl | rfl | rfl | rfl | rfl | rfl | rfl | rfl | rfl <;> rcases hg with rfl | rfl | rfl | rfl | rfl | rfl | rfl | rfl | rfl <;> first | rfl | exact absurd rfl hne
def zfs (y : ST) (fs : List Int) : ST := fs.foldl zf y
theorem zfs_zf {f : Int} (hf : IsField f) : ∀ {fs : List Int} {y : ST}, (∀ g ∈ fs, IsField g) → zfs (zf y f) fs = zf (zfs y fs) f
  | [], y, _ => rfl
  | g :: r, y, h => by
    show zfs (zf (zf y f) g) r = zf (zfs (zf y g) r) f
    rw [zf_comm hf (h g (by simp)), zfs_zf hf (fun x hx => h x (by simp [hx]))]
theorem zfs_snoc (y : ST) (fs : List Int) (f : Int) : zfs y (fs ++ [f]) = zf (zfs y fs) f := by simp [zfs]
theorem zf_bare {k f : Int} (hf : IsField f) : zf (bareZ k) f = bareZ k := by
  rcases hf with rfl | rfl | rfl | rfl | rfl | rfl | rfl | rfl | rfl <;> rfl
theorem zf_kind {y : ST} {f : Int} : (zf y f).kind = y.kind := by
  unfold zf
  repeat' split
  all_goals rfl
theorem zfs_kind {fs : List Int} : ∀ {y : ST}, (zfs y fs).kind = y.kind := by
  induction fs with
  | nil => intro y; rfl
  | cons f r ih => intro y; show (zfs (zf y f) r).kind = _; rw [ih, zf_kind]
/-- One field more. -/
theorem zfs_step {y y' : ST} {fs : List Int} {f k : Int} (hf : IsField f) (hfs : ∀ g ∈ fs, IsField g) (hz : zf y' f = zf y f) (hb : zfs y fs = bareZ k) : zfs y' (fs ++ [f]) = bareZ k := by
  rw [zfs_snoc, ← zfs_zf hf hfs, hz, zfs_zf hf hfs, hb, zf_bare hf]
theorem flat_step {y y' : ST} {fs : List Int} {f : Int} (hf : IsField f) (hfs : ∀ g ∈ fs, IsField g) (hne : f ∉ fs) (hz : zf y' f = zf y f) : fs.flatMap (fieldW y') = fs.flatMap (fieldW y) := by
  induction fs with
  | nil => rfl
  | cons g r ih =>
    have hg := hfs g (by simp)
    have hgf : g ≠ f := fun e => hne (by simp [e])
    rw [List.flatMap_cons, List.flatMap_cons, ih (fun x hx => hfs x (by simp [hx])) (fun h => hne (by simp [h])), ← field_zf hf hg hgf, hz, field_zf hf hg hgf]
theorem flat_words {y z : ST} (oy : TxOk y.tx) (oz : TxOk z.tx) : ∀ {fs gs : List Int} {r rest : List W}, (∀ g ∈ fs, IsField g) → (fs ++ gs).flatMap (fieldW z) ++ r = fs.flatMap (fieldW y) ++ rest → rest = gs.flatMap (fieldW z) ++ r
  | [], gs, r, rest, _, h => by simpa using h.symm
  | f :: fs, gs, r, rest, hf, h => by
    rw [List.cons_append, List.flatMap_cons, List.flatMap_cons, List.append_assoc, List.append_assoc] at h
    obtain ⟨_, h⟩ := field_words (hf f (by simp)) oz oy h
    exact flat_words oy oz (fun x hx => hf x (by simp [hx])) h
theorem run_ok : ∀ {fs : List Int} {y : ST} {ws : List W}, (∀ g ∈ fs, IsField g) → TxZ y → isNone (zfs y fs) = true → (runF y fs ws).2 = 0
  | [], y, ws, _, _, h => by
    have h : isNone y = true := h
    rw [runF, if_pos h]
  | f :: r, y, ws, hf, ht, h => by
    have h0 : (fieldR y f).2 = 0 := by
      rcases hf f (by simp) with rfl | rfl | rfl | rfl | rfl | rfl | rfl | rfl | rfl <;> first | rfl | skip
      show (resT y.tx).2 = 0
      unfold resT
      rw [if_neg (by rw [ht.1, ht.2]; simp)]
    rw [runF, if_neg (by simp [h0])]
    refine run_ok (fun x hx => hf x (by simp [hx])) ?_ h
    rcases hf f (by simp) with rfl | rfl | rfl | rfl | rfl | rfl | rfl | rfl | rfl <;> first | exact ht | exact ⟨rfl, rfl⟩
def fieldsK (k : Int) : List Int := (forms.getD k.toNat ([], [])).2
theorem fields_ok {k : Int} (h1 : 1 ≤ k) (h2 : k ≤ 20) : (∀ f ∈ fieldsK k, IsField f) ∧ (fieldsK k).Nodup ∧ (fieldsK k).length ≤ 3 := by
  have hl : forms.length = 21 := rfl
  have hk : forms[k.toNat]? = some (forms[k.toNat]'(by omega)) := List.getElem?_eq_getElem _
  have hm : forms[k.toNat]'(by omega) ∈ forms := List.getElem_mem _
  have e : fieldsK k = (forms[k.toNat]'(by omega)).2 := by
    unfold fieldsK
    rw [List.getD_eq_getElem?_getD, hk]
    rfl
  rw [e]
  have hn : ∀ p ∈ forms, p.2.Nodup := by decide
  exact ⟨(forms_ok _ hm).2.2, hn _ hm, (forms_ok _ hm).2.1⟩
theorem fw_fields {y : ST} (h1 : 1 ≤ y.kind) (h2 : y.kind ≤ 20) : fw y = (fieldsK y.kind).flatMap (fieldW y) := by
  obtain ⟨kind, at_, client, tx, keys, frm, dst, place, wth, keep, count⟩ := y
  simp only at h1 h2
  rcases (by omega : kind = 1 ∨ kind = 2 ∨ kind = 3 ∨ kind = 4 ∨ kind = 5 ∨ kind = 6 ∨ kind = 7 ∨ kind = 8 ∨ kind = 9 ∨ kind = 10 ∨ kind = 11 ∨ kind = 12 ∨ kind = 13 ∨ kind = 14 ∨ kind = 15 ∨ kind = 16 ∨ kind = 17 ∨ kind = 18 ∨ kind = 19 ∨ kind = 20) with rfl | rfl | rfl | rfl | rfl | rfl | rfl | rfl | rfl | rfl | rfl | rfl | rfl | rfl | rfl | rfl | rfl | rfl | rfl | rfl <;> simp [fw, fieldsK, forms, fieldW]
theorem Val.of {y : ST} (h1 : 1 ≤ y.kind) (h2 : y.kind ≤ 20) (ho : StOk y) (ht : TxZ y) (hz : zfs y (fieldsK y.kind) = bareZ y.kind) : Val y := by
  refine ⟨ho, ?_⟩
  unfold stepR
  rw [if_neg (by omega)]
  refine run_ok (fields_ok h1 h2).1 ht ?_
  show isNone (zfs y (fieldsK y.kind)) = true
  rw [hz]
  rfl
theorem Val.kind {y : ST} (h : Val y) : 1 ≤ y.kind ∧ y.kind ≤ 20 := wordK_kind (stepR_ok h.2).1
theorem Val.words {y : ST} (h : Val y) : stW y = wordK y.kind :: (fieldsK y.kind).flatMap (fieldW y) := by
  unfold stW
  rw [fw_fields h.kind.1 h.kind.2]
end Go.Proofs.YtihipcofjpnfbaaGreatDoor

/- The program's reader: a step. -/
set_option linter.unusedVariables false
set_option linter.unusedSimpArgs false
set_option maxRecDepth 100000
set_option maxHeartbeats 8000000
namespace Go.Proofs.YtihipcofjpnfbaaGreatDoor
open Go hiding Expr
open Go.RowKit Tr

def formR (p : List UInt8 × List Int) (o : Option Addr) : List Value := [Value.string (S p.1), .slice o p.2.length p.2.length]
def formRows (fs : List (Option Addr)) : List (List Value) := List.zipWith formR forms fs
theorem formsV_rows (fs : List (Option Addr)) : formsV fs = (formRows fs).flatten := rfl
theorem formRows2 (fs : List (Option Addr)) : ∀ r ∈ formRows fs, r.length = 2 := by
  intro r hr
  obtain ⟨i, hi, rfl⟩ := List.mem_iff_getElem.1 hr
  unfold formRows at hi ⊢
  rw [List.getElem_zipWith]
  rfl
theorem formRows_at {fs : List (Option Addr)} (hl : fs.length = 21) {i : Nat} (hi : i < 21) : ∃ p o, forms[i]? = some p ∧ fs[i]? = some o ∧ (formRows fs)[i]? = some (formR p o) := by
  have h1 : forms.length = 21 := rfl
  refine ⟨forms[i], fs[i], List.getElem?_eq_getElem (by omega), List.getElem?_eq_getElem (by omega), ?_⟩
  unfold formRows
  rw [List.getElem?_eq_getElem (by simp; omega)]
  simp only [List.getElem_zipWith]
  rfl
section
variable {w : World}
theorem idx1_c {t s : W} {o : Option Addr} {n cap g : Nat} {ty : TypeId} (h : Cells w g ty [.string (S s)]) : Calls Tryz.prog 39 #[.agg ⟨[.string (S t), .slice o n cap]⟩, .pointer (some ⟨g, 0, none⟩)] w fun e w' => e = .returned (.bool (decide (t = s))) ∧ Fr [] w w' := by
  apply c39
  refine h_new (Has.init w) fun n6 u H => h_ldT H (by repeat (first | exact pick_head | apply pick_tail | apply pick_app)) rfl (s_ldT (H.base.cells h (by simp)) rfl (s_ret ⟨?_, H.base⟩))
  rw [S_toList, S_toList, beq_list]
theorem idxf_c {o : Option Addr} {fs : List (Option Addr)} {s : W} {g cap : Nat} {ty : TypeId} (h : RowsAt w o 2 (formRows fs)) (hl : fs.length = 21) (hs : Cells w g ty [.string (S s)]) :
    Calls Tryz.prog 38 #[.slice o 21 cap, .func (.func 39) #[] #[.pointer (some ⟨g, 0, none⟩)]] w fun e w' => e = .returned (.int .i64 (kindOf s)) ∧ Fr [] w w' := by
  have hfl : forms.length = 21 := rfl
  apply c38
  refine s_loop (fun vs U => ∃ i : Nat, vs = [.int .i64 i] ∧ i ≤ 21 ∧ (∀ j, j < i → ∀ p, forms[j]? = some p → p.1 ≠ s) ∧ Fr [] w U) (fun vs _ => 21 - (intOf (vs.getD 0 undef)).toNat)
    ⟨0, rfl, by omega, fun j hj => by omega, Fr.refl _ _⟩ ?_
  rintro _ j U ⟨i, rfl, hi, hno, hf⟩
  refine s_asI (s_ite (fun g1 => ?_) (fun g1 => ?_))
  · have hlt : i < 21 := by
      have g1 : (i : Int) < 21 := by simpa using g1
      omega
    obtain ⟨p, op, hp, ho, hr⟩ := formRows_at hl hlt
    obtain ⟨g2, off, rfl, _, hc⟩ := RowsAt.at (RowsAt.fr h hf) hr
    refine s_req ⟨by omega, by simp; omega⟩ (s_sm (s_loadT (hc 0 _ rfl) (s_loadS (hc 1 _ rfl) (s_call (idx1_c (t := p.1) (s := s) (hf.cells hs (by simp))) ?_))))
    rintro _ u ⟨rfl, f⟩
    have hf := hf.trans f
    refine ⟨_, rfl, s_asB (s_ite (fun g3 => s_ret ⟨?_, hf⟩) (fun g3 => s_next ⟨rfl, rfl⟩ ?_))⟩
    · have g3 : p.1 = s := by simpa using g3
      unfold kindOf
      have hf : forms.findIdx? (fun p => decide (p.1 = s)) = some i := by
        refine List.findIdx?_eq_some_iff_getElem.2 ⟨by omega, ?_, fun j hj => ?_⟩
        · have := (List.getElem?_eq_some_iff.1 hp).2
          rw [this]; simpa using g3
        · have := hno j hj _ (List.getElem?_eq_getElem (by omega))
          simpa using this
      rw [hf]
    · have g3 : p.1 ≠ s := by simpa using g3
      simp (config := { decide := true }) only [if_true, if_false]
      refine ⟨⟨i + 1, by rw [w_succ (by omega)], by omega, fun j hj q hq => ?_, hf⟩, by rw [w_succ (by omega)]; simp [intOf] <;> omega⟩
      rcases Nat.lt_or_ge j i with h' | h'
      · exact hno j h' q hq
      · obtain rfl : j = i := by omega
        rw [hp] at hq
        cases hq
        exact g3
  · have hge : ¬ i < 21 := by
      have g1 : ¬ (i : Int) < 21 := by simpa using g1
      omega
    refine s_ret ⟨?_, hf⟩
    unfold kindOf
    have hf : forms.findIdx? (fun p => decide (p.1 = s)) = none := by
      rw [List.findIdx?_eq_none_iff]
      intro p hp
      obtain ⟨j, hj⟩ := List.mem_iff_getElem?.1 hp
      have hlt := (List.getElem?_eq_some_iff.1 hj).1
      simpa using hno j (by omega) p hj
    rw [hf]
end

def zST : List Value := [.int .i64 0, .int .i64 0, .int .i64 0, .int .i64 0, .int .i64 0, .slice none 0 0, .slice none 0 0, .slice none 0 0, .slice none 0 0, .slice none 0 0, .int .i64 0, .int .i64 0, .int .i64 0, .int .u8 0, .int .i64 0, .int .i64 0]
def vNone : SV27 := ⟨TV.none, none, 0⟩
theorem bareOkZ {k : Int} (h : In64 k) : StOk (bareZ k) :=
  ⟨h, zero64, zero64, txNone, by simp [bareZ], by simp [bareZ], zero64, zero64, zero64, (⟨by decide, by decide⟩ : IsByte 0), zero64, zero64⟩
theorem heldNone {k : Int} : HeldS [] (bareZ k) vNone := fun w0 u H => ⟨⟨.inl rfl, .inl rfl, .inl rfl, .inl rfl⟩, .inl rfl⟩
section
variable {w0 w w' : World} {p : Nat} {ws : List W} {b x : Hp}
variable (hT : Tab w0) (hE : ErrAt w0)
include hT hE
theorem stepW_c (h : Wd w0 w p ws b x) : Calls Tryz.prog 18 #[.pointer (some ⟨p, 0, none⟩)] w fun e w' =>
    (∃ (y : ST) (v : SV27) (r : List W) (c : Hp), ws = stW y ++ r ∧ Val y ∧ e = .returned (.agg ⟨stv y v⟩) ∧ HeldS c y v ∧ Wd w0 w' p r b (c ++ x)) ∨
    ((∀ (y : ST) r, Val y → ws ≠ stW y ++ r) ∧ e = panW ∧ ∃ q, Wp w0 w' p b (q ++ x)) := by
  apply c18
  obtain ⟨vw, H, hk⟩ := h.turn
  refine h_new H fun n2 u H => ?_
  have h : Wd w0 u p ws b (cl n2 56 zST :: x) := hk (H.perm (List.Perm.swap ..))
  clear H hk
  refine s_call2p (next_c h) ?_
  rintro e u (⟨rfl, rfl, h⟩ | ⟨s, r1, rfl, rfl, h⟩)
  · exact .inr ⟨_, rfl, s_pan (.inr ⟨fun y r hy hw => (by rw [hy.words] at hw; cases hw), rfl, [_], h⟩)⟩
  refine .inl ⟨_, rfl, s_asT ?_⟩
  obtain ⟨vw, H, hk⟩ := h.turn
  refine h_new H fun n5 u H => h_st H pick_head (by simp) rfl fun u H => ?_
  simp only [List.set_cons_zero] at H
  refine s_call forms_c ?_
  rintro _ u ⟨fs, cf, hfl, rfl, Hf, hfs, hargs⟩
  have H := H.join Hf
  obtain ⟨o1, o2, o3, o4, o5, o6, o7, o8, o9, o10, o11, o12, o13, o16, o17, o18, o19, o20, hfse⟩ := hfs
  obtain ⟨V, hVd⟩ : ∃ V, V = formsV fs := ⟨_, rfl⟩
  rw [← hVd]
  have hV2 := hVd
  rw [hfse] at hV2
  simp only [formsV, forms, List.zipWith_cons_cons, List.zipWith_nil_left, List.flatten_cons, List.flatten_nil, List.cons_append, List.nil_append, List.append_nil] at hV2
  subst hV2
  refine ⟨_, rfl, s_asA (s_req rfl ?_)⟩
  iterate 21 refine s_asT (s_asS ?_)
  (refine h_new H fun n92 u H => ?_)
  iterate 42 (refine h_st H (b := n92) pick_head (by first | (simp; done) | exact Nat.le_of_ble_eq_true rfl) rfl fun u H => ?_; simp only [List.set_cons_zero, List.set_cons_succ] at H)
  have H : Has w0 u (cl n92 90 (formsV fs) :: (cf ++ (cl n5 9 [.string (S s)] :: cl p 46 [vw] :: cl n2 56 zST :: (x ++ b)))) := by
    rw [← hVd]
    exact H
  clear hVd hfse
  have hrows : ∀ {U : World} {m : Hp}, Has w0 U (cl n92 90 (formsV fs) :: m) → RowsAt U (some ⟨n92, 0, none⟩) 2 (formRows fs) := fun {U m} Hu => rowsAt_cells (sp := []) (formRows2 fs) (by rw [List.append_nil]; exact Hu.cells pick_head)
  have hnext : ∀ (y : ST) r, Val y → s :: r1 = stW y ++ r → kindOf s = y.kind ∧ r1 = (fieldsK y.kind).flatMap (fieldW y) ++ r := by
    intro y r hy hw
    rw [hy.words, List.cons_append] at hw
    obtain ⟨h1, h2⟩ := List.cons.inj hw
    exact ⟨by rw [h1]; exact kindOf_of hy.kind.1 hy.kind.2, h2⟩
  refine s_call (idxf_c (s := s) (hrows H) hfl (H.cells (b := n5) (pick_tail (pick_app pick_head)))) ?_
  rintro _ u ⟨rfl, f⟩
  have H := H.fr0 f
  have hJ : Wd w0 u p r1 b (cl n92 90 (formsV fs) :: (cf ++ (cl n5 9 [.string (S s)] :: cl n2 56 zST :: x))) := hk (by simp only [List.cons_append, List.append_assoc]; exact H.sub (by repeat (first | exact sb_refl | exact sb_nil | refine sb_cons (by repeat (first | exact pick_head | apply pick_tail | apply pick_app)) ?_ | refine sb_app (by repeat (first | exact cut_head | exact cut_all | apply cut_tail | apply cut_app)) ?_ | exact sb_one (by repeat (first | exact cut_head | exact cut_all | apply cut_tail | apply cut_app)))))
  clear h
  refine ⟨_, rfl, s_asI (s_blk (fun vs U => vs = [] ∧ 1 ≤ kindOf s ∧ U = u) ?_ ?_)⟩
  rotate_left
  · refine s_ite (fun g => s_pan (.inr ⟨fun y r hy hw => ?_, rfl, cl n92 90 (formsV fs) :: (cf ++ [cl n5 9 [.string (S s)], cl n2 56 zST]), by simpa using hJ.wp⟩)) (fun g => s_next ⟨rfl, rfl⟩ ?_)
    · have g : kindOf s < 1 := by simpa using g
      have := (hnext y r hy hw).1
      have := hy.kind.1
      omega
    · have g : 1 ≤ kindOf s := by simpa using g
      simp only [if_true]
      exact ⟨trivial, g, trivial⟩
  rintro _ j U ⟨rfl, hk1, rfl⟩
  obtain ⟨hk2, hws⟩ := kindOf_word hk1
  obtain ⟨hfok, hnd, hf3⟩ := fields_ok hk1 hk2
  obtain ⟨q, op, hp, hop, hr⟩ := formRows_at (fs := fs) hfl (i := (kindOf s).toNat) (by omega)
  have hq2 : q.2 = fieldsK (kindOf s) := by
    unfold fieldsK
    rw [List.getD_eq_getElem?_getD, hp]
    rfl
  generalize hkd : kindOf s = k at *
  refine h_new H fun n97 u H => ?_
  have hset : (zST.set 0 (.int .i64 k)) = stv (bareZ k) vNone := rfl
  iterate 16 (refine h_st H (b := n97) pick_head (by first | (simp; done) | exact Nat.le_of_ble_eq_true rfl) rfl fun u H => ?_; simp only [List.set_cons_zero, List.set_cons_succ] at H)
  have H : Has w0 u (cl n97 56 (stv (bareZ k) vNone) :: cl n92 90 (formsV fs) :: (cf ++ (cl n5 9 [.string (S s)] :: cl p 46 [vw] :: cl n2 56 zST :: (x ++ b)))) := H
  obtain ⟨g2, off, hge, _, hc⟩ := RowsAt.at (hrows H.drop) hr
  cases hge
  refine s_req ⟨by omega, by omega⟩ (s_loadS (hc 1 _ rfl) ?_)
  rw [hq2]
  have hJ : Wd w0 u p r1 b (cl n97 56 (stv (bareZ k) vNone) :: ([] ++ (cl n92 90 (formsV fs) :: (cf ++ (cl n5 9 [.string (S s)] :: cl n2 56 zST :: x))))) := hk (by simp only [List.cons_append, List.append_assoc, List.nil_append]; exact H.sub (by repeat (first | exact sb_refl | exact sb_nil | refine sb_cons (by repeat (first | exact pick_head | apply pick_tail | apply pick_app)) ?_ | refine sb_app (by repeat (first | exact cut_head | exact cut_all | apply cut_tail | apply cut_app)) ?_ | exact sb_one (by repeat (first | exact cut_head | exact cut_all | apply cut_tail | apply cut_app)))))
  clear H
  refine s_loop (fun vs U => ∃ (i : Nat) (y : ST) (v : SV27) (rest : List W) (cy : Hp), vs = [.int .i64 i] ∧ i ≤ (fieldsK k).length ∧ StOk y ∧ TxZ y ∧ y.kind = k ∧ zfs y ((fieldsK k).take i) = bareZ k ∧ r1 = ((fieldsK k).take i).flatMap (fieldW y) ++ rest ∧ HeldS cy y v ∧
      Wd w0 U p rest b (cl n97 56 (stv y v) :: (cy ++ (cl n92 90 (formsV fs) :: (cf ++ (cl n5 9 [.string (S s)] :: cl n2 56 zST :: x))))))
    (fun vs _ => (fieldsK k).length - (intOf (vs.getD 0 undef)).toNat) ⟨0, bareZ k, vNone, r1, [], rfl, by omega, bareOkZ ⟨by omega, by omega⟩, ⟨rfl, rfl⟩, rfl, rfl, rfl, heldNone, hJ⟩ ?_
  clear hJ hc
  rintro _ j U ⟨i, y, v, rest, cy, rfl, hi, hyo, hyt, hyk, hyz, hye, hyh, h⟩
  refine s_asI (s_ite (fun g1 => ?_) (fun g1 => ?_))
  · simp only [decide_eq_true_eq] at g1
    have hlt : i < (fieldsK k).length := by omega
    obtain ⟨f, hf⟩ : ∃ f, (fieldsK k)[i]? = some f := ⟨_, List.getElem?_eq_getElem hlt⟩
    have hff := hfok f (List.mem_of_getElem? hf)
    have htk : (fieldsK k).take (i + 1) = (fieldsK k).take i ++ [f] := by rw [List.take_add_one, hf]; rfl
    have hdr : (fieldsK k).drop i = f :: (fieldsK k).drop (i + 1) := by
      obtain ⟨ha, hb⟩ := List.getElem?_eq_some_iff.1 hf
      rw [List.drop_eq_getElem_cons ha, hb]
    have hnf : f ∉ (fieldsK k).take i := by
      intro hm
      have hnd2 := hnd
      rw [← List.take_append_drop i (fieldsK k), hdr] at hnd2
      exact (List.nodup_append.1 hnd2).2.2 f hm f (by simp) rfl
    have hftk : ∀ g ∈ (fieldsK k).take i, IsField g := fun g hg => hfok g (List.mem_of_mem_take hg)
    obtain ⟨vw2, H, hk2'⟩ := h.turn
    simp only [List.cons_append, List.append_assoc] at H
    have hA : ArgsAt U op (fieldsK k) := by
      have := hargs w0 U (cl p 46 [vw2] :: cl n97 56 (stv y v) :: (cy ++ (cl n92 90 (formsV fs) :: (cl n5 9 [.string (S s)] :: cl n2 56 zST :: (x ++ b))))) (H.sub (by repeat (first | exact sb_refl | exact sb_nil | refine sb_cons (by repeat (first | exact pick_head | apply pick_tail | apply pick_app)) ?_ | refine sb_app (by repeat (first | exact cut_head | exact cut_all | apply cut_tail | apply cut_app)) ?_ | exact sb_one (by repeat (first | exact cut_head | exact cut_all | apply cut_tail | apply cut_app))))) _ _ _ hp hop
      rwa [hq2] at this
    obtain ⟨g4, off4, rfl, q1⟩ := argsGet hA hf
    refine s_req ⟨by omega, by omega⟩ (s_sm (s_loadI q1 (s_call2p (field_c hT hE h hyo hyh hff) ?_)))
    rintro e u (⟨y', v', c', r', hz', ho', ht', rfl, rfl, hh', h⟩ | ⟨hno, rfl, qq, h⟩)
    · refine .inl ⟨_, rfl, s_next ⟨rfl, rfl⟩ ?_⟩
      simp (config := { decide := true }) only [if_true, if_false]
      refine ⟨⟨i + 1, y', v', r', c', by rw [w_succ (by omega)], by omega, ho', ht' hyt, ?_, ?_, ?_, hh', h⟩, by rw [w_succ (by omega)]; simp [intOf] <;> omega⟩
      · rw [← zf_kind (f := f), hz', zf_kind, hyk]
      · rw [htk]
        exact zfs_step hff hftk hz' hyz
      · rw [htk, List.flatMap_append, flat_step hff hftk hnf hz', hye]
        simp
    · refine .inr ⟨_, rfl, s_pan (.inr ⟨fun z r hz hw => ?_, rfl, qq ++ (cl n92 90 (formsV fs) :: (cf ++ [cl n5 9 [.string (S s)], cl n2 56 zST])), by simpa using h⟩)⟩
      obtain ⟨h1, h2⟩ := hnext z r hz hw
      rw [← h1] at h2
      have h3 : ((fieldsK k).take i ++ (fieldsK k).drop i).flatMap (fieldW z) ++ r = ((fieldsK k).take i).flatMap (fieldW y) ++ rest := by
        rw [List.take_append_drop, ← h2, hye]
      have h4 := flat_words hyo.tx hz.1.tx hftk h3
      rw [hdr, List.flatMap_cons, List.append_assoc] at h4
      exact hno z _ hz.1 h4
  · simp only [decide_eq_false_iff_not] at g1
    have hil : i = (fieldsK k).length := by omega
    rw [hil, List.take_length] at hyz hye
    obtain ⟨vw2, H, hk2'⟩ := h.turn
    simp only [List.cons_append, List.append_assoc, stv] at H
    iterate 5 refine h_ldI H (b := n97) (by repeat (first | exact pick_head | apply pick_tail | apply pick_app)) rfl ?_
    iterate 5 refine h_ldS H (b := n97) (by repeat (first | exact pick_head | apply pick_tail | apply pick_app)) rfl ?_
    iterate 6 refine h_ldI H (b := n97) (by repeat (first | exact pick_head | apply pick_tail | apply pick_app)) rfl ?_
    simp only [zST] at H
    iterate 16 (refine h_st H (b := n2) (by repeat (first | exact pick_head | apply pick_tail | apply pick_app)) (by first | (simp; done) | exact Nat.le_of_ble_eq_true rfl) rfl fun u H => ?_; simp only [List.set_cons_zero, List.set_cons_succ] at H)
    iterate 5 refine h_ldI H (b := n2) (by repeat (first | exact pick_head | apply pick_tail | apply pick_app)) rfl ?_
    iterate 5 refine h_ldS H (b := n2) (by repeat (first | exact pick_head | apply pick_tail | apply pick_app)) rfl ?_
    iterate 6 refine h_ldI H (b := n2) (by repeat (first | exact pick_head | apply pick_tail | apply pick_app)) rfl ?_
    have hval : Val y := Val.of (by rw [hyk]; exact hk1) (by rw [hyk]; exact hk2) hyo hyt (by rw [hyk]; exact hyz)
    refine s_ret (.inl ⟨y, v, rest, cy, ?_, hval, rfl, hyh, hk2' ?_⟩)
    · rw [hval.words, hyk, hws, hye]
      rfl
    · simp only [List.append_assoc]
      exact H.sub (by repeat (first | exact sb_refl | exact sb_nil | refine sb_cons (by repeat (first | exact pick_head | apply pick_tail | apply pick_app)) ?_ | refine sb_app (by repeat (first | exact cut_head | exact cut_all | apply cut_tail | apply cut_app)) ?_ | exact sb_one (by repeat (first | exact cut_head | exact cut_all | apply cut_tail | apply cut_app))))
end
end Go.Proofs.YtihipcofjpnfbaaGreatDoor
