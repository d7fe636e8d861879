/- The rows of a table told one behind the other, and held against a list of rows. -/
import Derived.Test.YtcmdbaafnbdpbaaRefB
import Derived.Test.YtcmdbaafnbdpbaaRangesZ
set_option linter.unusedVariables false
set_option linter.unusedSimpArgs false
set_option maxRecDepth 100000
set_option maxHeartbeats 2000000
namespace Go.Proofs.Ytcmdbaafnbdpbaa
open Go hiding Expr
open Go.RowKit Tr

/-- Rows that lie somewhere, with their values. -/
def AllAt (w : World) (o : Option Addr) (X : List AR) : Prop := RowsAt' w o X ∧ ∀ x ∈ X, ValsAt w x.o x.vals
def okZ (X : List AR) (ys : List (List Value)) (Z : Hp) (av : List Value) : Prop := ∃ (x x' : AR) (c Z' : Hp), X[ys.length]? = some x ∧ x'.row = x.row ∧ av = [.agg ⟨arr x'⟩] ∧ Z = c ++ Z' ∧ OwnV x' c

section
variable {w w' w0 : World} {m c cr : Hp} {p : Nat} {R : List Rw} {s q : Int} {o : Option Addr} {X Y : List AR} {n cap : Nat}
theorem AllAt.fr0 (h : AllAt w o X) (hf : Fr [] w w') : AllAt w' o X := ⟨h.1.fr0 hf, fun x hx => (h.2 x hx).fr0 hf⟩
theorem holds_own {I : List (List Value) → Hp → World → Prop} {S : World → Prop} (hh : HoldsZ I S) {ys : List (List Value)} {Z : Hp} {W u : World} {x : AR} (hI : I ys Z W) (hx : OwnV x c) (H : Has W u (c ++ m)) : I ys (c ++ Z) u := by
  rcases hx.2 with ⟨_, _, rfl⟩ | ⟨g, cap', sp, _, rfl, _⟩
  · exact hh.fr hI H.base
  · have H2 := H.pull (e := cl g 2 (ints x.vals ++ sp)) pick_head
    exact hh.add hI H.base (H2.new (cl g 2 (ints x.vals ++ sp)) (by simp)) (H.get (e := cl g 2 (ints x.vals ++ sp)) pick_head)

theorem rows1_seq {ty : TypeId} (hs : ∀ x ∈ X, x.vals.length * 8 ≤ 140737488355328) (hl : X.length < 9223372036854775807) :
    SeqZ Try.prog 36 [.pointer (some ⟨p, 0, none⟩)] (fun W => Cells W p ty [.slice o X.length cap] ∧ AllAt W o X) (okZ X) (fun ys => ys.length = X.length) := by
  intro l w I S hh hK h0 hY
  apply c36
  obtain ⟨hc, _⟩ := hK _ _ _ h0
  refine s_ldS hc rfl ?_
  refine s_loop (fun vs W => ∃ (i : Nat) (ys : List (List Value)) (Z : Hp), vs = [.int .i64 i] ∧ i ≤ X.length ∧ ys.length = i ∧ I ys Z W) (fun vs _ => X.length - (intOf (vs.getD 0 undef)).toNat) ⟨0, [], [], rfl, by omega, rfl, h0⟩ ?_
  rintro _ j W ⟨i, ys, Z, rfl, hi, hyl, hI⟩
  refine s_asI (s_ite (fun g1 => ?_) (fun g1 => s_ret ⟨⟨_, rfl⟩, .inl ⟨ys, Z, by have : ¬ (i : Int) < (X.length : Int) := by simpa using g1
                                                                                 omega, hI⟩⟩))
  have g1 : (i : Int) < (X.length : Int) := by simpa using g1
  obtain ⟨x, hx⟩ : ∃ x, X[i]? = some x := ⟨_, List.getElem?_eq_getElem (by omega)⟩
  obtain ⟨_, hA⟩ := hK _ _ _ hI
  have hxm := List.mem_of_getElem? hx
  obtain ⟨g, off, rfl, p0, p1, p2, p3, p4, p5⟩ := hA.1.get hx
  refine s_req ⟨by omega, g1⟩ (s_sm (s_loadI p0 (s_loadI p1 (s_loadI p2 (s_loadS p3 (s_loadI p4 (s_loadI p5 ?_)))))))
  refine h_new (Has.init W) fun n19 u H => ?_
  iterate 6 refine h_st H (by repeat (first | exact pick_head | apply pick_tail | apply pick_app)) (by first | (simp; done) | exact Nat.le_of_ble_eq_true rfl) rfl fun u H => ?_
  refine h_ldI H (by repeat (first | exact pick_head | apply pick_tail | apply pick_app)) rfl (h_ldS H (by repeat (first | exact pick_head | apply pick_tail | apply pick_app)) rfl (h_ldI H (by repeat (first | exact pick_head | apply pick_tail | apply pick_app)) rfl (h_ldI H (by repeat (first | exact pick_head | apply pick_tail | apply pick_app)) rfl ?_)))
  refine s_call (clone_c x.e x.slot x.place ((hA.2 x hxm).fr0 H.base) rfl (hs x hxm)) ?_
  rintro _ u ⟨o', cap', c', rfl, ho', Hc⟩
  have H := H.join Hc
  refine ⟨_, rfl, s_asA (s_req rfl (s_asI (s_asS (s_asI (s_asI ?_)))))⟩
  iterate 4 refine h_st H (by repeat (first | exact pick_head | apply pick_tail | apply pick_app)) (by first | (simp; done) | exact Nat.le_of_ble_eq_true rfl) rfl fun u H => ?_
  refine h_ldI H (by repeat (first | exact pick_head | apply pick_tail | apply pick_app)) rfl (h_ldI H (by repeat (first | exact pick_head | apply pick_tail | apply pick_app)) rfl (h_ldI H (by repeat (first | exact pick_head | apply pick_tail | apply pick_app)) rfl (h_ldS H (by repeat (first | exact pick_head | apply pick_tail | apply pick_app)) rfl (h_ldI H (by repeat (first | exact pick_head | apply pick_tail | apply pick_app)) rfl (h_ldI H (by repeat (first | exact pick_head | apply pick_tail | apply pick_app)) rfl ?_)))))
  have H : Has W u (c' ++ []) := H.sub (by repeat (first | exact sb_refl | exact sb_nil | refine sb_cons (by repeat (first | exact pick_head | apply pick_tail | apply pick_app)) ?_ | refine sb_app (by repeat (first | exact cut_head | exact cut_all | apply cut_tail | apply cut_app)) ?_ | exact sb_one (by repeat (first | exact cut_head | exact cut_all | apply cut_tail | apply cut_app))))
  have hI2 := holds_own hh (x := ⟨x.s, x.m, x.e, o', cap', x.vals, x.slot, x.place⟩) hI ho' H
  refine (hY ys (c' ++ Z) u _ hI2 ⟨x, ⟨x.s, x.m, x.e, o', cap', x.vals, x.slot, x.place⟩, c', Z, by rw [hyl]; exact hx, rfl, rfl, rfl, ho'⟩).mono ?_
  rintro _ W' ⟨v, rfl, ⟨rfl, hI'⟩ | ⟨rfl, hS⟩⟩
  · refine ⟨_, rfl, s_asB (s_false rfl (s_next (by first | exact ⟨rfl, rfl⟩ | trivial) ?_))⟩
    simp (config := { decide := true }) only [if_true, if_false]
    exact ⟨⟨i + 1, _, _, by rw [w_succ (by omega)], by omega, by rw [List.length_append, hyl]; rfl, hI'⟩, by rw [w_succ (by omega)]; simp [intOf] <;> omega⟩
  · exact ⟨_, rfl, s_asB (s_true rfl (s_ret ⟨⟨_, rfl⟩, .inr hS⟩))⟩

theorem just_c {ty : TypeId} {stop : Int} {o2 : Option Addr} {n2 cap2 : Nat} (H : Has w0 w m) (hK : ∀ u, Has w0 u m → Cells u p ty [.slice o X.length cap] ∧ AllAt u o X) (hW : ∀ u, Has w0 u m → AllAt u o2 Y) (hn2 : n2 = Y.length)
    (hR : X.map AR.row = Y.map AR.row) (hs : ∀ x ∈ X, x.vals.length * 8 ≤ 140737488355328) (hl : X.length < 9223372036854775807) :
    Calls Try.prog 35 #[.func (.func 36) #[] #[.pointer (some ⟨p, 0, none⟩)], .slice o2 n2 cap2, .int .i64 stop] w fun e w' => e = .returned (.bool true) ∧ Has w0 w' m := by
  subst hn2
  have hXY : X.length = Y.length := by have := congrArg List.length hR; simpa using this
  apply c35
  refine h_new H fun n6 u H => ?_
  (refine h_new H fun n7 u H => ?_)
  (refine h_new H fun n8 u H => ?_)
  (refine h_new H fun n9 u H => ?_)
  refine h_st H (by repeat (first | exact pick_head | apply pick_tail | apply pick_app)) (by simp) rfl fun u H => ?_
  refine h_rfZ (rows1_seq (p := p) (o := o) (ty := ty) (cap := cap) hs hl) H (fun ys _ mi => mi = cl n9 3 [.int .i64 (ys.length : Int)] :: cl n8 4 [.bool false] :: cl n7 3 [.int .i64 stop] :: cl n6 42 [.slice o2 Y.length cap2] :: m)
    (fun mi => ∃ z, mi = cl n9 3 [.int .i64 z] :: cl n8 4 [.bool true] :: cl n7 3 [.int .i64 stop] :: cl n6 42 [.slice o2 Y.length cap2] :: m) (fun _ _ _ _ h => h) rfl ?_ ?_ ?_ ?_
  · rintro ys Z mi W rfl H
    exact hK _ (H.sub (by repeat (first | exact sb_refl | exact sb_nil | refine sb_cons (by repeat (first | exact pick_head | apply pick_tail | apply pick_app)) ?_ | refine sb_app (by repeat (first | exact cut_head | exact cut_all | apply cut_tail | apply cut_app)) ?_ | exact sb_one (by repeat (first | exact cut_head | exact cut_all | apply cut_tail | apply cut_app)))))
  · rintro l rec d Z ys W av mi hrs hrp ⟨x, x', c, Z', hx, hxr, rfl, rfl, hxo⟩ rfl H
    have hxm := List.mem_of_getElem? hx
    have hlt := (List.getElem?_eq_some_iff.1 hx).1
    refine s_req rfl (s_asA (s_req rfl (s_asI (s_asI (s_asI (s_asS (s_asI (s_asI ?_))))))))
    (refine h_new H fun n21 u H => ?_)
    iterate 6 refine h_st H (by repeat (first | exact pick_head | apply pick_tail | apply pick_app)) (by first | (simp; done) | exact Nat.le_of_ble_eq_true rfl) rfl fun u H => ?_
    refine h_beg H (by repeat (first | exact pick_head | apply pick_tail | apply pick_app)) hrs fun w H => ?_
    have H : Has w0 w ((l, .loop { rec with state := .busy }) :: d :: ((c ++ Z') ++ (cl n21 56 (arr x') :: cl n9 3 [.int .i64 (ys.length : Int)] :: cl n8 4 [.bool false] :: cl n7 3 [.int .i64 stop] :: cl n6 42 [.slice o2 Y.length cap2] :: m))) := H.sub (by repeat (first | exact sb_refl | exact sb_nil | refine sb_cons (by repeat (first | exact pick_head | apply pick_tail | apply pick_app)) ?_ | refine sb_app (by repeat (first | exact cut_head | exact cut_all | apply cut_tail | apply cut_app)) ?_ | exact sb_one (by repeat (first | exact cut_head | exact cut_all | apply cut_tail | apply cut_app))))
    refine h_blk (fun _ => True) H ?_ ?_
    · refine h_drew H fun u H => ?_
      obtain ⟨y, hy⟩ : ∃ y, Y[ys.length]? = some y := ⟨_, List.getElem?_eq_getElem (by omega)⟩
      have hym := List.mem_of_getElem? hy
      have hxy : x.row = y.row := by
        have h1 : (X.map AR.row)[ys.length]? = some x.row := by rw [List.getElem?_map, hx]; rfl
        rw [hR, List.getElem?_map, hy] at h1
        simpa using h1.symm
      refine h_ldI H (by repeat (first | exact pick_head | apply pick_tail | apply pick_app)) rfl (h_ldS H (by repeat (first | exact pick_head | apply pick_tail | apply pick_app)) rfl (s_ite (fun g => ?_) (fun g => ?_)))
      · exfalso
        have g : (Y.length : Int) ≤ (ys.length : Int) := by simpa using g
        omega
      refine h_ldI H (by repeat (first | exact pick_head | apply pick_tail | apply pick_app)) rfl (h_ldI H (by repeat (first | exact pick_head | apply pick_tail | apply pick_app)) rfl (h_ldI H (by repeat (first | exact pick_head | apply pick_tail | apply pick_app)) rfl (h_ldS H (by repeat (first | exact pick_head | apply pick_tail | apply pick_app)) rfl (h_ldI H (by repeat (first | exact pick_head | apply pick_tail | apply pick_app)) rfl (h_ldI H (by repeat (first | exact pick_head | apply pick_tail | apply pick_app)) rfl (h_ldS H (by repeat (first | exact pick_head | apply pick_tail | apply pick_app)) rfl (h_ldI H (by repeat (first | exact pick_head | apply pick_tail | apply pick_app)) rfl ?_)))))))
      obtain ⟨hrow, hvals⟩ := hW u (H.sub (by repeat (first | exact sb_refl | exact sb_nil | refine sb_cons (by repeat (first | exact pick_head | apply pick_tail | apply pick_app)) ?_ | refine sb_app (by repeat (first | exact cut_head | exact cut_all | apply cut_tail | apply cut_app)) ?_ | exact sb_one (by repeat (first | exact cut_head | exact cut_all | apply cut_tail | apply cut_app)))))
      obtain ⟨g, off, he, p0, p1, p2, p3, p4, p5⟩ := hrow.get hy
      refine s_req ⟨by omega, by omega⟩ ⟨g, off, he, s_loadI p0 (s_loadI p1 (s_loadI p2 (s_loadS p3 (s_loadI p4 (s_loadI p5 ?_)))))⟩
      have hvx : ValsAt u x'.o x'.vals := valsAt_own hxo H (cut_tail (cut_tail (cut_app' (cut_head))))
      have hxl : x'.vals.length * 8 ≤ 140737488355328 := by
        have : x'.vals = x.vals := by have := congrArg (fun r : Rw => r.r.vals) hxr; exact this
        rw [this]
        exact hs x hxm
      refine s_call (samerow_c (x := x') (y := y) hvx (hvals y hym) (by omega)) ?_
      rintro _ u ⟨rfl, f⟩
      have H := H.fr0 f
      have heq : decide (x'.row = y.row) = true := by rw [decide_eq_true_eq, hxr, hxy]
      rw [heq]
      refine ⟨_, rfl, s_asB (s_chk (hc_cons H (by repeat (first | exact pick_head | apply pick_tail | apply pick_app)) rfl (hc_cons H (by repeat (first | exact pick_head | apply pick_tail | apply pick_app)) rfl (hc_cons H (by repeat (first | exact pick_head | apply pick_tail | apply pick_app)) rfl (hc_cons H (by repeat (first | exact pick_head | apply pick_tail | apply pick_app)) rfl c_nil)))) (s_false rfl (s_next (by simp) ?_)))⟩
      simp (config := { decide := true }) only [if_true, if_false]
      exact ⟨H, trivial⟩
    · rintro _ _ W H _
      refine h_ldI H (by repeat (first | exact pick_head | apply pick_tail | apply pick_app)) rfl (h_st H (by repeat (first | exact pick_head | apply pick_tail | apply pick_app)) (by simp) rfl fun u H => h_ldI H (by repeat (first | exact pick_head | apply pick_tail | apply pick_app)) rfl (h_ldI H (by repeat (first | exact pick_head | apply pick_tail | apply pick_app)) rfl ?_))
      rw [w_succ (by omega)]
      have H : Has w0 u ((l, .loop { rec with state := .busy }) :: d :: ((c ++ Z') ++ (cl n9 3 [.int .i64 ((ys.length + 1 : Nat) : Int)] :: cl n8 4 [.bool false] :: cl n7 3 [.int .i64 stop] :: cl n6 42 [.slice o2 Y.length cap2] :: m))) := by
        rw [w_succ (by omega)] at H
        exact H.sub (by repeat (first | exact sb_refl | exact sb_nil | refine sb_cons (by repeat (first | exact pick_head | apply pick_tail | apply pick_app)) ?_ | refine sb_app (by repeat (first | exact cut_head | exact cut_all | apply cut_tail | apply cut_app)) ?_ | exact sb_one (by repeat (first | exact cut_head | exact cut_all | apply cut_tail | apply cut_app))))
      refine s_ite (fun g => ?_) (fun g => ?_)
      · refine h_st H (by repeat (first | exact pick_head | apply pick_tail | apply pick_app)) (by simp) rfl fun u H => h_stop H (by repeat (first | exact pick_head | apply pick_tail | apply pick_app)) .ret fun w H => s_next trivial ?_
        simp (config := { decide := true }) only [if_true, if_false]
        exact .inr ⟨rfl, _, ⟨_, rfl⟩, H.sub (by repeat (first | exact sb_refl | exact sb_nil | refine sb_cons (by repeat (first | exact pick_head | apply pick_tail | apply pick_app)) ?_ | refine sb_app (by repeat (first | exact cut_head | exact cut_all | apply cut_tail | apply cut_app)) ?_ | exact sb_one (by repeat (first | exact cut_head | exact cut_all | apply cut_tail | apply cut_app))))⟩
      · refine h_cont H (by repeat (first | exact pick_head | apply pick_tail | apply pick_app)) hrs hrp fun w H => s_next trivial ?_
        simp (config := { decide := true }) only [if_true, if_false]
        refine .inl ⟨rfl, _, rfl, ?_⟩
        rw [List.length_append]
        exact H.sub (by repeat (first | exact sb_refl | exact sb_nil | refine sb_cons (by repeat (first | exact pick_head | apply pick_tail | apply pick_app)) ?_ | refine sb_app (by repeat (first | exact cut_head | exact cut_all | apply cut_tail | apply cut_app)) ?_ | exact sb_one (by repeat (first | exact cut_head | exact cut_all | apply cut_tail | apply cut_app))))
  · rintro D W ys Z mi hfin rfl H
    refine h_ldI H (by repeat (first | exact pick_head | apply pick_tail | apply pick_app)) rfl (h_ldS H (by repeat (first | exact pick_head | apply pick_tail | apply pick_app)) rfl (h_st H (by repeat (first | exact pick_head | apply pick_tail | apply pick_app)) (by simp) rfl fun u H => h_col H (by repeat (first | exact pick_head | apply pick_tail | apply pick_app)) fun u H => h_ldB H (by repeat (first | exact pick_head | apply pick_tail | apply pick_app)) rfl (s_ret ⟨?_, H.sub (by repeat (first | exact sb_refl | exact sb_nil | refine sb_cons (by repeat (first | exact pick_head | apply pick_tail | apply pick_app)) ?_ | refine sb_app (by repeat (first | exact cut_head | exact cut_all | apply cut_tail | apply cut_app)) ?_ | exact sb_one (by repeat (first | exact cut_head | exact cut_all | apply cut_tail | apply cut_app))))⟩)))
    congr 2
    simp
    omega
  · rintro D W mi ⟨z, rfl⟩ H
    exact h_col H (by repeat (first | exact pick_head | apply pick_tail | apply pick_app)) fun u H => h_ldB H (by repeat (first | exact pick_head | apply pick_tail | apply pick_app)) rfl (s_ret ⟨rfl, H.sub (by repeat (first | exact sb_refl | exact sb_nil | refine sb_cons (by repeat (first | exact pick_head | apply pick_tail | apply pick_app)) ?_ | refine sb_app (by repeat (first | exact cut_head | exact cut_all | apply cut_tail | apply cut_app)) ?_ | exact sb_one (by repeat (first | exact cut_head | exact cut_all | apply cut_tail | apply cut_app))))⟩)

theorem rowsC_at {v : Value} {m' : Hp} (hC : RowsC (.slice o n cap) R c) (hn : n = R.length) : ∃ X : List AR, X.map AR.row = R ∧ n = X.length ∧ ∀ (u : World) (m : Hp), Has w0 u (c ++ m) → AllAt u o X := by
  obtain ⟨X, cr, cs, rfl, hX, ho, hV⟩ := hC
  refine ⟨X, hX, by rw [hn, ← hX, List.length_map], fun u m H => ?_⟩
  rw [List.append_assoc] at H
  have ho' : OwnC 56 6 (.slice o n cap) n (encA X) cr := by rw [hn]; rw [hn] at ho; exact ho
  refine ⟨rowsAt'_own ho' H cut_head, fun x hx => ?_⟩
  obtain ⟨k, hk, he⟩ := List.getElem_of_mem hx
  have hci : k < cs.length := by rw [hV.1]; exact hk
  exact valsAt_own (hV.2 k x cs[k] (by rw [List.getElem?_eq_getElem hk, he]) (List.getElem?_eq_getElem hci)) H (cut_app (cut_app' (cut_flat (List.getElem?_eq_getElem hci))))

theorem rows_c (H : Has w0 w (c ++ m)) (hT : Tab p R c) (hI : InvR R) : Calls Try.prog 19 #[.pointer (some ⟨p, 0, none⟩)] w fun e w' =>
    ∃ p' o cap c', e = .returned (.func (.func 36) #[] #[.pointer (some ⟨p', 0, none⟩)]) ∧ RowsC (.slice o R.length cap) R c' ∧ Has w0 w' (cl p' 42 [.slice o R.length cap] :: (c' ++ (c ++ m))) := by
  apply c19
  refine s_call (all_c H hT hI) ?_
  rintro _ u ⟨v, c', rfl, hC, H⟩
  have hC0 := hC
  obtain ⟨X, cr, cs, rfl, hX, ho, hV⟩ := hC
  obtain ⟨o, cap, rfl⟩ := ho.slice
  refine ⟨_, rfl, s_asS ?_⟩
  (refine h_new H fun n6 u H => ?_)
  refine h_st H (by repeat (first | exact pick_head | apply pick_tail | apply pick_app)) (by simp) rfl fun u H => s_ret ⟨n6, o, cap, _, rfl, hC0, H⟩

theorem told_c {stop : Int} {o2 : Option Addr} {n2 cap2 : Nat} (H : Has w0 w (c ++ m)) (hT : Tab p R c) (hI : InvR R) (hW : ∀ u, Has w0 u m → AllAt u o2 Y) (hn2 : n2 = Y.length) (hR : Y.map AR.row = R) :
    Calls Try.prog 18 #[.pointer (some ⟨p, 0, none⟩), .slice o2 n2 cap2, .int .i64 stop] w fun e w' => e = .returned (.bool true) ∧ Has w0 w' (c ++ m) := by
  apply c18
  refine s_call (rows_c H hT hI) ?_
  rintro _ u ⟨p', o, cap, c', rfl, hC, H⟩
  obtain ⟨X, hX, hXl, hat⟩ := rowsC_at (w0 := w0) (v := undef) (m' := []) hC rfl
  have hRl := hI.len
  have hs : ∀ x ∈ X, x.vals.length * 8 ≤ 140737488355328 := by
    intro x hx
    have := hI.ok x.row (by rw [← hX]; exact List.mem_map_of_mem hx)
    exact this.2.2.2.2
  have hK : ∀ u, Has w0 u (cl p' 42 [.slice o R.length cap] :: (c' ++ (c ++ m))) → Cells u p' 42 [.slice o X.length cap] ∧ AllAt u o X := by
    intro u H
    rw [← hXl]
    exact ⟨H.cells (by repeat (first | exact pick_head | apply pick_tail | apply pick_app)), hat u (c ++ m) H.drop⟩
  have hj := fun (w : World) (stop : Int) (H : Has w0 w (cl p' 42 [.slice o R.length cap] :: (c' ++ (c ++ m)))) => just_c (stop := stop) (n2 := n2) (cap2 := cap2) H hK (fun u H => hW u (H.sub (by repeat (first | exact sb_refl | exact sb_nil | refine sb_cons (by repeat (first | exact pick_head | apply pick_tail | apply pick_app)) ?_ | refine sb_app (by repeat (first | exact cut_head | exact cut_all | apply cut_tail | apply cut_app)) ?_ | exact sb_one (by repeat (first | exact cut_head | exact cut_all | apply cut_tail | apply cut_app)))))) hn2 (by rw [hX, hR]) hs (by omega)
  refine ⟨_, rfl, s_asC (s_req rfl (s_asP ?_))⟩
  refine s_call (hj _ stop H) ?_
  rintro _ u ⟨rfl, H⟩
  refine ⟨_, rfl, s_asB (s_true rfl (s_call (hj _ 0 H) ?_))⟩
  rintro _ u ⟨rfl, H⟩
  have H : Has w0 u (c ++ m) := H.sub (by repeat (first | exact sb_refl | exact sb_nil | refine sb_cons (by repeat (first | exact pick_head | apply pick_tail | apply pick_app)) ?_ | refine sb_app (by repeat (first | exact cut_head | exact cut_all | apply cut_tail | apply cut_app)) ?_ | exact sb_one (by repeat (first | exact cut_head | exact cut_all | apply cut_tail | apply cut_app))))
  refine ⟨_, rfl, s_asB (s_true rfl (s_call (len_c H hT hI) ?_))⟩
  rintro _ u ⟨rfl, H⟩
  refine ⟨_, rfl, s_asI (s_ret ⟨?_, H⟩)⟩
  have : R.length = n2 := by rw [hn2, ← hR, List.length_map]
  simp [this]
end
end Go.Proofs.Ytcmdbaafnbdpbaa
