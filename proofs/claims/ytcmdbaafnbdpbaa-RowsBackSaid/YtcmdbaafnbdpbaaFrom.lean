/- Tables of rows; a table cloned; the walk of RowsFrom. -/
import Derived.Test.YtcmdbaafnbdpbaaTold
import Derived.Test.YtcmdbaafnbdpbaaFull
import Derived.Test.YtcmdbaafnbdpbaaTreesL
set_option linter.unusedVariables false
set_option linter.unusedSimpArgs false
set_option maxRecDepth 100000
set_option maxHeartbeats 2000000
namespace Go.Proofs.Ytcmdbaafnbdpbaa
open Go hiding Expr
open Go.RowKit Tr

/-- A table of rows, or why there is none. -/
def fromR (acc : List Rw) : List Rw → List Rw ⊕ Int
  | [] => .inl acc
  | r :: l => if outI r.s || outI r.m then .inr 1 else if hasR acc r.s then .inr 5 else if acc.length = 64 then .inr 6 else fromR (setR acc r) l
theorem fromR_cons (acc : List Rw) (r : Rw) (l : List Rw) : fromR acc (r :: l) = if outI r.s || outI r.m then .inr 1 else if hasR acc r.s then .inr 5 else if acc.length = 64 then .inr 6 else fromR (setR acc r) l := rfl

theorem take_pos {R : List Rw} (hu : Up R) {i : Nat} {r : Rw} (hr : R[i]? = some r) : posR (R.take i) r.s = i ∧ hasR (R.take i) r.s = false ∧ setR (R.take i) r = R.take (i + 1) := by
  have hlt := (List.getElem?_eq_some_iff.1 hr).1
  have hl : (R.take i).length = i := by rw [List.length_take]; omega
  have hp : posR (R.take i) r.s = i := by
    symm
    refine cutI_of (by rw [List.length_map]; omega) (fun j a hj ha => ?_) (fun a ha => ?_)
    · rw [List.map_take, List.getElem?_take, if_pos hj] at ha
      exact hu.get hj ha (by rw [List.getElem?_map, hr]; rfl)
    · rw [List.getElem?_eq_none (by rw [List.length_map]; omega)] at ha
      cases ha
  have hh : hasR (R.take i) r.s = false := by
    unfold hasR
    rw [hp, List.getElem?_eq_none (by rw [List.length_map]; omega)]
    rfl
  refine ⟨hp, hh, ?_⟩
  unfold setR
  rw [hp, hh, if_neg (by simp), List.take_of_length_le (by omega), List.drop_eq_nil_of_le (by omega), List.append_nil, List.take_add_one, hr]
  rfl
theorem fromR_self {R : List Rw} (hI : InvR R) : fromR [] R = .inl R := by
  have h : ∀ k i, i + k = R.length → fromR (R.take i) (R.drop i) = .inl R := by
    intro k
    induction k with
    | zero =>
      intro i hi
      rw [List.drop_eq_nil_of_le (by omega), List.take_of_length_le (by omega)]
      rfl
    | succ k ih =>
      intro i hi
      have hlt : i < R.length := by omega
      have hr : R[i]? = some R[i] := List.getElem?_eq_getElem hlt
      obtain ⟨h1, h2, h3⟩ := take_pos hI.up hr
      have hok := hI.ok _ (List.mem_of_getElem? hr)
      rw [List.drop_eq_getElem_cons hlt, fromR_cons, outI_ok hok.1 hok.2.1, outI_ok hok.2.2.1 hok.2.2.2.1, if_neg (by simp), h2, if_neg (by simp), if_neg (by rw [List.length_take]; have := hI.len; omega), h3]
      exact ih (i + 1) (by omega)
  exact h R.length 0 (by omega)

section
variable {w w' w0 : World} {m c cr : Hp} {p : Nat} {R : List Rw} {s q : Int} {o : Option Addr} {X Y : List AR} {n cap : Nat}
theorem from_c (H : Has w0 w m) (hW : ∀ u, Has w0 u m → AllAt u o X) (hn : n = X.length) (hs : ∀ x ∈ X, x.vals.length * 8 ≤ 140737488355328) (hl : X.length < 9223372036854775807) : Calls Try.prog 16 #[.slice o n cap] w fun e w' =>
    match fromR [] (X.map AR.row) with
    | .inl R => ∃ p c, e = .returned (.tuple #[.pointer (some ⟨p, 0, none⟩), .int .i64 0]) ∧ InvR R ∧ Tab p R c ∧ Has w0 w' (c ++ m)
    | .inr k => e = .returned (.tuple #[.pointer none, .int .i64 k]) ∧ Has w0 w' m := by
  subst hn
  apply c16
  refine s_call (new_c H) ?_
  rintro _ u ⟨p, c, rfl, hT, H⟩
  refine ⟨_, rfl, s_asP ?_⟩
  refine s_loop (fun vs W => ∃ (i : Nat) (R : List Rw) (c : Hp), vs = [.int .i64 i] ∧ i ≤ X.length ∧ InvR R ∧ R.length = i ∧ Tab p R c ∧ fromR [] (X.map AR.row) = fromR R ((X.map AR.row).drop i) ∧ Has w0 W (c ++ m)) (fun vs _ => X.length - (intOf (vs.getD 0 undef)).toNat)
    ⟨0, [], c, rfl, by omega, InvR.nil, rfl, hT, rfl, H⟩ ?_
  clear H hT
  rintro _ j W ⟨i, R, c, rfl, hi, hI, hRi, hT, hf, H⟩
  refine s_asI (s_ite (fun g1 => ?_) (fun g1 => ?_))
  · have g1 : (i : Int) < (X.length : Int) := by simpa using g1
    obtain ⟨x, hx⟩ : ∃ x, X[i]? = some x := ⟨_, List.getElem?_eq_getElem (by omega)⟩
    have hxm := List.mem_of_getElem? hx
    have hd : (X.map AR.row).drop i = x.row :: (X.map AR.row).drop (i + 1) := by
      have hlt : i < (X.map AR.row).length := by rw [List.length_map]; omega
      rw [List.drop_eq_getElem_cons hlt]
      congr 1
      have h1 : (X.map AR.row)[i]? = some x.row := by rw [List.getElem?_map, hx]; rfl
      rw [List.getElem?_eq_getElem hlt] at h1
      simpa using h1
    rw [hd] at hf
    obtain ⟨g, off, he, p0, p1, p2, p3, p4, p5⟩ := (hW _ (H.sub (by repeat (first | exact sb_refl | exact sb_nil | refine sb_cons (by repeat (first | exact pick_head | apply pick_tail | apply pick_app)) ?_ | refine sb_app (by repeat (first | exact cut_head | exact cut_all | apply cut_tail | apply cut_app)) ?_ | exact sb_one (by repeat (first | exact cut_head | exact cut_all | apply cut_tail | apply cut_app)))))).1.get hx
    refine s_req ⟨by omega, g1⟩ ⟨g, off, he, s_loadI p0 (s_loadI p1 (s_loadI p2 (s_loadS p3 (s_loadI p4 (s_loadI p5 ?_)))))⟩
    (refine h_new H fun n18 u H => ?_)
    iterate 6 refine h_st H (by repeat (first | exact pick_head | apply pick_tail | apply pick_app)) (by first | (simp; done) | exact Nat.le_of_ble_eq_true rfl) rfl fun u H => ?_
    refine h_ldI H (by repeat (first | exact pick_head | apply pick_tail | apply pick_app)) rfl (h_ldI H (by repeat (first | exact pick_head | apply pick_tail | apply pick_app)) rfl ?_)
    refine h_new H fun n21 u H => ?_
    have hout := out_c (w := u) (l := [x.s, x.m]) (o := some ⟨n21, 0, none⟩) (n := 2) (cap := 2) (rowsAt_cells (ty := 2) (sp := []) (ir1 [x.s, x.m]) (H.cells (by repeat (first | exact pick_head | apply pick_tail | apply pick_app)))) rfl (by simp)
    refine s_call hout ?_
    rintro _ _ ⟨rfl, rfl⟩
    refine ⟨_, rfl, s_asB (s_ite (fun g1 => ?_) (fun g1 => ?_))⟩
    · have hb : (outI x.row.s || outI x.row.m) = true := by show (outI x.s || outI x.m) = true; simpa using g1
      rw [hf, fromR_cons, if_pos hb]
      exact s_ret ⟨rfl, H.sub (by repeat (first | exact sb_refl | exact sb_nil | refine sb_cons (by repeat (first | exact pick_head | apply pick_tail | apply pick_app)) ?_ | refine sb_app (by repeat (first | exact cut_head | exact cut_all | apply cut_tail | apply cut_app)) ?_ | exact sb_one (by repeat (first | exact cut_head | exact cut_all | apply cut_tail | apply cut_app))))⟩
    have hb1 : outI x.s = false ∧ outI x.m = false := by simpa using g1
    have hos := outI_false hb1.1
    have hom := outI_false hb1.2
    have hno : ¬ (outI x.row.s || outI x.row.m) = true := by
      have h1 : outI x.row.s = false := hb1.1
      have h2 : outI x.row.m = false := hb1.2
      rw [h1, h2]
      simp
    refine h_drew H fun u H => s_sm ?_
    have hT0 := hT
    obtain ⟨D, b, om, lv, cl', cs, hce, hM, ho, hV, hP⟩ := hT0
    have H : Has w0 u (cl p 61 [.map (some b), lv] :: (b, om) :: ((cl' ++ cs.flatten) ++ (cl n18 56 (arr x) :: m))) := by
      have : Has w0 u (c ++ (cl n18 56 (arr x) :: m)) := H.sub (by repeat (first | exact sb_refl | exact sb_nil | refine sb_cons (by repeat (first | exact pick_head | apply pick_tail | apply pick_app)) ?_ | refine sb_app (by repeat (first | exact cut_head | exact cut_all | apply cut_tail | apply cut_app)) ?_ | exact sb_one (by repeat (first | exact cut_head | exact cut_all | apply cut_tail | apply cut_app))))
      rw [hce] at this
      exact this
    have hback : ∀ {u : World} {m2 : Hp}, Has w0 u (cl p 61 [.map (some b), lv] :: (b, om) :: ((cl' ++ cs.flatten) ++ m2)) → Has w0 u (c ++ m2) := fun h => by rw [hce]; exact h
    obtain ⟨lk, hkey⟩ := keyI (a := x.s) ⟨by omega, by omega⟩
    refine h_ldM H (by repeat (first | exact pick_head | apply pick_tail | apply pick_app)) rfl (h_ldI H (by repeat (first | exact pick_head | apply pick_tail | apply pick_app)) rfl ?_)
    have hbit : ∀ {bb : Bool}, (getAt (D.map kv) x.s).isSome = bb → bb = hasR R x.row.s := by
      intro bb hbb
      rw [← hbb]
      rcases get_tab (s := x.s) hP hI.up with ⟨y, h1, _, _, h4⟩ | ⟨h1, h4⟩
      · rw [h1]; exact (lookR_some h4).2.2.symm
      · rw [h1]; exact (lookR_none.1 h4).symm
    have hval : ∃ z : AR, ((getAt (D.map kv) x.s).map entV).getD (entV ⟨0, 0, 0, none, 0, [], 0, 0⟩) = entV z := by
      cases getAt (D.map kv) x.s with
      | none => exact ⟨_, rfl⟩
      | some z => exact ⟨z, rfl⟩
    obtain ⟨z, hz⟩ := hval
    generalize hbb : (getAt (D.map kv) x.s).isSome = bb at hbit
    have hbit := hbit rfl
    subst hbit
    constructor
    · refine h_look2 (a := x.s) (kf := kI) (vf := entV) H (b := b) (o := om) (by repeat (first | exact pick_head | apply pick_tail | apply pick_app)) hM keyed2 Try.underlying59 (zero69 _) (kI_inj x.s D) hkey ?_
      rw [hz, hbb]
      refine s_asU (s_req rfl (s_asA (s_req rfl (s_asI (s_asI (s_asS (s_asI (s_asI (s_asB ?_)))))))))
      refine s_chk c_nil ?_
      (refine h_new H fun n39 u H => ?_)
      refine s_chk c_nil ?_
      iterate 5 refine h_st H (by repeat (first | exact pick_head | apply pick_tail | apply pick_app)) (by first | (simp; done) | exact Nat.le_of_ble_eq_true rfl) rfl fun u H => ?_
      refine s_chk c_nil ?_
      have H : Has w0 u (c ++ (cl n18 56 (arr x) :: m)) := hback (H.sub (by repeat (first | exact sb_refl | exact sb_nil | refine sb_cons (by repeat (first | exact pick_head | apply pick_tail | apply pick_app)) ?_ | refine sb_app (by repeat (first | exact cut_head | exact cut_all | apply cut_tail | apply cut_app)) ?_ | exact sb_one (by repeat (first | exact cut_head | exact cut_all | apply cut_tail | apply cut_app)))))
      have hbit : ∀ {P : Prop}, P → P := fun h => h
      have hbit2 : ∀ {P : Prop}, P → P := fun h => h
      refine s_ite (fun g2 => ?_) (fun g2 => s_ite (fun g3 => ?_) (fun g3 => ?_))
      · have hb : hasR R x.row.s = true := hbit g2
        rw [hf, fromR_cons, if_neg hno, if_pos hb]
        exact s_ret ⟨rfl, H.sub (by repeat (first | exact sb_refl | exact sb_nil | refine sb_cons (by repeat (first | exact pick_head | apply pick_tail | apply pick_app)) ?_ | refine sb_app (by repeat (first | exact cut_head | exact cut_all | apply cut_tail | apply cut_app)) ?_ | exact sb_one (by repeat (first | exact cut_head | exact cut_all | apply cut_tail | apply cut_app))))⟩
      · have hb : ¬ hasR R x.row.s = true := fun h => by rw [hbit2 h] at g2; cases g2
        have g3 : (i : Int) = 64 := by simpa using g3
        rw [hf, fromR_cons, if_neg hno, if_neg hb, if_pos (by omega)]
        exact s_ret ⟨rfl, H.sub (by repeat (first | exact sb_refl | exact sb_nil | refine sb_cons (by repeat (first | exact pick_head | apply pick_tail | apply pick_app)) ?_ | refine sb_app (by repeat (first | exact cut_head | exact cut_all | apply cut_tail | apply cut_app)) ?_ | exact sb_one (by repeat (first | exact cut_head | exact cut_all | apply cut_tail | apply cut_app))))⟩
      · have hb : ¬ hasR R x.row.s = true := fun h => by rw [hbit2 h] at g2; cases g2
        have g3 : ¬ (i : Int) = 64 := by simpa using g3
        have H : Has w0 u (c ++ (cl n18 56 (arr x) :: m)) := H.sub (by repeat (first | exact sb_refl | exact sb_nil | refine sb_cons (by repeat (first | exact pick_head | apply pick_tail | apply pick_app)) ?_ | refine sb_app (by repeat (first | exact cut_head | exact cut_all | apply cut_tail | apply cut_app)) ?_ | exact sb_one (by repeat (first | exact cut_head | exact cut_all | apply cut_tail | apply cut_app))))
        refine h_ldI H (by repeat (first | exact pick_head | apply pick_tail | apply pick_app)) rfl (h_ldI H (by repeat (first | exact pick_head | apply pick_tail | apply pick_app)) rfl (h_ldI H (by repeat (first | exact pick_head | apply pick_tail | apply pick_app)) rfl (h_ldS H (by repeat (first | exact pick_head | apply pick_tail | apply pick_app)) rfl (h_ldI H (by repeat (first | exact pick_head | apply pick_tail | apply pick_app)) rfl (h_ldI H (by repeat (first | exact pick_head | apply pick_tail | apply pick_app)) rfl ?_)))))
        refine s_call (set_c (s := x.s) (q := x.m) (e := x.e) (slot := x.slot) (place := x.place) H hT hI ⟨by omega, by omega⟩ (fun u H => (hW u H.drop).2 x hxm) rfl (hs x hxm)) ?_
        rintro _ u ⟨c', rfl, hT', H⟩
        refine ⟨_, rfl, s_next (by first | exact ⟨rfl, rfl⟩ | trivial) ?_⟩
        simp (config := { decide := true }) only [if_true, if_false]
        have hI2 : InvR (setR R x.row) := hI.set (w := x.row) ⟨hos.1, hos.2, hom.1, hom.2, hs x hxm⟩ (.inr (by have := hI.len; omega))
        refine ⟨⟨i + 1, setR R x.row, c', by rw [w_succ (by omega)], by omega, hI2, ?_, hT', ?_, H.sub (by repeat (first | exact sb_refl | exact sb_nil | refine sb_cons (by repeat (first | exact pick_head | apply pick_tail | apply pick_app)) ?_ | refine sb_app (by repeat (first | exact cut_head | exact cut_all | apply cut_tail | apply cut_app)) ?_ | exact sb_one (by repeat (first | exact cut_head | exact cut_all | apply cut_tail | apply cut_app))))⟩, by rw [w_succ (by omega)]; simp [intOf] <;> omega⟩
        · rw [setR_len, if_neg hb, hRi]
        · rw [hf, fromR_cons, if_neg hno, if_neg hb, if_neg (by omega)]
    · refine h_new H fun n49 u H => ?_
      refine s_chk (hc_cons H (by repeat (first | exact pick_head | apply pick_tail | apply pick_app)) rfl (hc_cons H (by repeat (first | exact pick_head | apply pick_tail | apply pick_app)) rfl c_nil)) ?_
      refine h_look2 (a := x.s) (kf := kI) (vf := entV) H (b := b) (o := om) (by repeat (first | exact pick_head | apply pick_tail | apply pick_app)) hM keyed2 Try.underlying59 (zero69 _) (kI_inj x.s D) hkey ?_
      rw [hz, hbb]
      refine s_asU (s_req rfl (s_asA (s_req rfl (s_asI (s_asI (s_asS (s_asI (s_asI (s_asB ?_)))))))))
      refine s_chk c_nil ?_
      iterate 5 refine h_st H (by repeat (first | exact pick_head | apply pick_tail | apply pick_app)) (by first | (simp; done) | exact Nat.le_of_ble_eq_true rfl) rfl fun u H => ?_
      refine s_chk c_nil ?_
      have H : Has w0 u (c ++ (cl n18 56 (arr x) :: m)) := hback (H.sub (by repeat (first | exact sb_refl | exact sb_nil | refine sb_cons (by repeat (first | exact pick_head | apply pick_tail | apply pick_app)) ?_ | refine sb_app (by repeat (first | exact cut_head | exact cut_all | apply cut_tail | apply cut_app)) ?_ | exact sb_one (by repeat (first | exact cut_head | exact cut_all | apply cut_tail | apply cut_app)))))
      have hbit : ∀ {P : Prop}, P → P := fun h => h
      have hbit2 : ∀ {P : Prop}, P → P := fun h => h
      refine s_ite (fun g2 => ?_) (fun g2 => s_ite (fun g3 => ?_) (fun g3 => ?_))
      · have hb : hasR R x.row.s = true := hbit g2
        rw [hf, fromR_cons, if_neg hno, if_pos hb]
        exact s_ret ⟨rfl, H.sub (by repeat (first | exact sb_refl | exact sb_nil | refine sb_cons (by repeat (first | exact pick_head | apply pick_tail | apply pick_app)) ?_ | refine sb_app (by repeat (first | exact cut_head | exact cut_all | apply cut_tail | apply cut_app)) ?_ | exact sb_one (by repeat (first | exact cut_head | exact cut_all | apply cut_tail | apply cut_app))))⟩
      · have hb : ¬ hasR R x.row.s = true := fun h => by rw [hbit2 h] at g2; cases g2
        have g3 : (i : Int) = 64 := by simpa using g3
        rw [hf, fromR_cons, if_neg hno, if_neg hb, if_pos (by omega)]
        exact s_ret ⟨rfl, H.sub (by repeat (first | exact sb_refl | exact sb_nil | refine sb_cons (by repeat (first | exact pick_head | apply pick_tail | apply pick_app)) ?_ | refine sb_app (by repeat (first | exact cut_head | exact cut_all | apply cut_tail | apply cut_app)) ?_ | exact sb_one (by repeat (first | exact cut_head | exact cut_all | apply cut_tail | apply cut_app))))⟩
      · have hb : ¬ hasR R x.row.s = true := fun h => by rw [hbit2 h] at g2; cases g2
        have g3 : ¬ (i : Int) = 64 := by simpa using g3
        have H : Has w0 u (c ++ (cl n18 56 (arr x) :: m)) := H.sub (by repeat (first | exact sb_refl | exact sb_nil | refine sb_cons (by repeat (first | exact pick_head | apply pick_tail | apply pick_app)) ?_ | refine sb_app (by repeat (first | exact cut_head | exact cut_all | apply cut_tail | apply cut_app)) ?_ | exact sb_one (by repeat (first | exact cut_head | exact cut_all | apply cut_tail | apply cut_app))))
        refine h_ldI H (by repeat (first | exact pick_head | apply pick_tail | apply pick_app)) rfl (h_ldI H (by repeat (first | exact pick_head | apply pick_tail | apply pick_app)) rfl (h_ldI H (by repeat (first | exact pick_head | apply pick_tail | apply pick_app)) rfl (h_ldS H (by repeat (first | exact pick_head | apply pick_tail | apply pick_app)) rfl (h_ldI H (by repeat (first | exact pick_head | apply pick_tail | apply pick_app)) rfl (h_ldI H (by repeat (first | exact pick_head | apply pick_tail | apply pick_app)) rfl ?_)))))
        refine s_call (set_c (s := x.s) (q := x.m) (e := x.e) (slot := x.slot) (place := x.place) H hT hI ⟨by omega, by omega⟩ (fun u H => (hW u H.drop).2 x hxm) rfl (hs x hxm)) ?_
        rintro _ u ⟨c', rfl, hT', H⟩
        refine ⟨_, rfl, s_next (by first | exact ⟨rfl, rfl⟩ | trivial) ?_⟩
        simp (config := { decide := true }) only [if_true, if_false]
        have hI2 : InvR (setR R x.row) := hI.set (w := x.row) ⟨hos.1, hos.2, hom.1, hom.2, hs x hxm⟩ (.inr (by have := hI.len; omega))
        refine ⟨⟨i + 1, setR R x.row, c', by rw [w_succ (by omega)], by omega, hI2, ?_, hT', ?_, H.sub (by repeat (first | exact sb_refl | exact sb_nil | refine sb_cons (by repeat (first | exact pick_head | apply pick_tail | apply pick_app)) ?_ | refine sb_app (by repeat (first | exact cut_head | exact cut_all | apply cut_tail | apply cut_app)) ?_ | exact sb_one (by repeat (first | exact cut_head | exact cut_all | apply cut_tail | apply cut_app))))⟩, by rw [w_succ (by omega)]; simp [intOf] <;> omega⟩
        · rw [setR_len, if_neg hb, hRi]
        · rw [hf, fromR_cons, if_neg hno, if_neg hb, if_neg (by omega)]
  · have g1 : ¬ (i : Int) < (X.length : Int) := by simpa using g1
    rw [List.drop_eq_nil_of_le (by rw [List.length_map]; omega)] at hf
    rw [hf]
    exact s_ret ⟨p, c, rfl, hI, hT, H⟩

theorem tclone_c (H : Has w0 w (c ++ m)) (hT : Tab p R c) (hI : InvR R) : Calls Try.prog 20 #[.pointer (some ⟨p, 0, none⟩)] w fun e w' =>
    ∃ p' c', e = .returned (.pointer (some ⟨p', 0, none⟩)) ∧ Tab p' R c' ∧ Has w0 w' (c' ++ (c ++ m)) := by
  apply c20
  refine s_call (none_c H hT) ?_
  rintro _ _ ⟨rfl, rfl⟩
  refine ⟨_, rfl, s_asB (s_false rfl (s_call (all_c H hT hI) ?_))⟩
  rintro _ u ⟨v, c1, rfl, hC, H⟩
  have hv : ∃ o cap, v = .slice o R.length cap := by
    obtain ⟨X, cr, cs, _, _, ho, _⟩ := hC
    exact ho.slice
  obtain ⟨o, cap, rfl⟩ := hv
  obtain ⟨X, hX, hXl, hat⟩ := rowsC_at (w0 := w0) (v := undef) (m' := []) hC rfl
  have hRl := hI.len
  have hs : ∀ x ∈ X, x.vals.length * 8 ≤ 140737488355328 := by
    intro x hx
    exact (hI.ok x.row (by rw [← hX]; exact List.mem_map_of_mem hx)).2.2.2.2
  refine ⟨_, rfl, s_asS (s_call (from_c H (fun u H => hat u _ H) hXl hs (by omega)) ?_)⟩
  rw [hX, fromR_self hI]
  rintro _ u ⟨p', c', rfl, _, hT', H⟩
  exact ⟨_, rfl, s_asU (s_req rfl (s_asP (s_asI (s_ret ⟨p', c', rfl, hT', H.sub (by repeat (first | exact sb_refl | exact sb_nil | refine sb_cons (by repeat (first | exact pick_head | apply pick_tail | apply pick_app)) ?_ | refine sb_app (by repeat (first | exact cut_head | exact cut_all | apply cut_tail | apply cut_app)) ?_ | exact sb_one (by repeat (first | exact cut_head | exact cut_all | apply cut_tail | apply cut_app))))⟩))))⟩
end
end Go.Proofs.Ytcmdbaafnbdpbaa
