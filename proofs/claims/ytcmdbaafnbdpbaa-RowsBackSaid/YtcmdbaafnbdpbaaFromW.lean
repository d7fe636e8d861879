/- The reference's tables of rows; the walk of RowsFrom. -/
import Derived.Test.YtcmdbaafnbdpbaaFrom
set_option linter.unusedVariables false
set_option linter.unusedSimpArgs false
set_option maxRecDepth 100000
set_option maxHeartbeats 2000000
namespace Go.Proofs.Ytcmdbaafnbdpbaa
open Go hiding Expr
open Go.RowKit Tr

theorem fromR_err {acc l : List Rw} {k : Int} (h : fromR acc l = .inr k) : k ≠ 0 := by
  induction l generalizing acc with
  | nil => cases h
  | cons r l ih =>
    rw [fromR_cons] at h
    split at h
    · cases h; decide
    · split at h
      · cases h; decide
      · split at h
        · cases h; decide
        · exact ih h

section
variable {w w' w0 : World} {m c cr : Hp} {p : Nat} {R : List Rw} {s q : Int} {o : Option Addr} {X Y : List AR} {n cap : Nat}
theorem rtab_at (hT : RTab p R c) : ∃ (o : Option Addr) (cap : Nat) (X : List AR) (c1 : Hp), X.map AR.row = R ∧ R.length = X.length ∧ c = cl p 50 [.slice o R.length cap] :: c1 ∧ ∀ (w0 u : World) (m : Hp), Has w0 u (c ++ m) → AllAt u o X := by
  obtain ⟨v, X, cr, cs, rfl, hX, ho, hV⟩ := hT
  obtain ⟨o, cap, rfl⟩ := ho.slice
  refine ⟨o, cap, X, _, hX, by rw [← hX, List.length_map], rfl, fun w0 u m H => ?_⟩
  have H := rassoc_to H
  refine ⟨rowsAt'_own ho H (by repeat (first | exact cut_head | exact cut_all | apply cut_tail | apply cut_app)), fun x hx => ?_⟩
  obtain ⟨k, hk, he⟩ := List.getElem_of_mem hx
  have hci : k < cs.length := by rw [hV.1]; exact hk
  exact valsAt_own (hV.2 k x cs[k] (by rw [List.getElem?_eq_getElem hk, he]) (List.getElem?_eq_getElem hci)) H (cut_tail (cut_app (cut_app' (cut_flat (List.getElem?_eq_getElem hci)))))

theorem rfrom_c (H : Has w0 w m) (hW : ∀ u, Has w0 u m → AllAt u o X) (hn : n = X.length) (hs : ∀ x ∈ X, x.vals.length * 8 ≤ 140737488355328) (hl : X.length < 9223372036854775807) : Calls Try.prog 17 #[.slice o n cap] w fun e w' =>
    match fromR [] (X.map AR.row) with
    | .inl R => ∃ p c, e = .returned (.tuple #[.pointer (some ⟨p, 0, none⟩), .int .i64 0]) ∧ RTab p R c ∧ Has w0 w' (c ++ m)
    | .inr k => e = .returned (.tuple #[.pointer none, .int .i64 k]) ∧ Has w0 w' m := by
  subst hn
  apply c17
  refine h_new H fun n3 u H => ?_
  have hT : RTab n3 [] [cl n3 50 [.slice none 0 0]] := ⟨.slice none 0 0, [], [], [], rfl, rfl, OwnC.nil, Vals.nil⟩
  refine s_loop (fun vs W => ∃ (i : Nat) (R : List Rw) (c : Hp), vs = [.int .i64 i] ∧ i ≤ X.length ∧ InvR R ∧ R.length = i ∧ RTab n3 R c ∧ fromR [] (X.map AR.row) = fromR R ((X.map AR.row).drop i) ∧ Has w0 W (c ++ m)) (fun vs _ => X.length - (intOf (vs.getD 0 undef)).toNat)
    ⟨0, [], _, rfl, by omega, InvR.nil, rfl, hT, rfl, H⟩ ?_
  clear H hT
  rintro _ j W ⟨i, R, c, rfl, hi, hI, hRi, hT, hf, H⟩
  refine s_asI (s_ite (fun g1 => ?_) (fun g1 => ?_))
  · have g1 : (i : Int) < (X.length : Int) := by simpa using g1
    obtain ⟨x, hx⟩ : ∃ x, X[i]? = some x := ⟨_, List.getElem?_eq_getElem (by omega)⟩
    have hxm := List.mem_of_getElem? hx
    have hd : (X.map AR.row).drop i = x.row :: (X.map AR.row).drop (i + 1) := by
      have hlt : i < (X.map AR.row).length := by rw [List.length_map]; omega
      rw [List.drop_eq_getElem_cons hlt]
      congr 1
      have h1 : (X.map AR.row)[i]? = some x.row := by rw [List.getElem?_map, hx]; rfl
      rw [List.getElem?_eq_getElem hlt] at h1
      simpa using h1
    rw [hd] at hf
    refine h_blk (fun _ => outI x.s = false ∧ outI x.m = false) H ?_ ?_
    · obtain ⟨g, off, he, p0, p1, p2, p3, p4, p5⟩ := (hW _ (H.sub (by repeat (first | exact sb_refl | exact sb_nil | refine sb_cons (by repeat (first | exact pick_head | apply pick_tail | apply pick_app)) ?_ | refine sb_app (by repeat (first | exact cut_head | exact cut_all | apply cut_tail | apply cut_app)) ?_ | exact sb_one (by repeat (first | exact cut_head | exact cut_all | apply cut_tail | apply cut_app)))))).1.get hx
      refine s_req ⟨by omega, g1⟩ ⟨g, off, he, s_loadI p0 (s_call (may_c x.s) ?_)⟩
      rintro _ _ ⟨rfl, rfl⟩
      refine ⟨_, rfl, s_asB (s_ite (fun g2 => ?_) (fun g2 => ?_))⟩
      · have g2 : outI x.s = true := by simpa using g2
        have hb : (outI x.row.s || outI x.row.m) = true := by show (outI x.s || outI x.m) = true; simp [g2]
        rw [hf, fromR_cons, if_pos hb]
        exact s_ret ⟨rfl, H.sub (by repeat (first | exact sb_refl | exact sb_nil | refine sb_cons (by repeat (first | exact pick_head | apply pick_tail | apply pick_app)) ?_ | refine sb_app (by repeat (first | exact cut_head | exact cut_all | apply cut_tail | apply cut_app)) ?_ | exact sb_one (by repeat (first | exact cut_head | exact cut_all | apply cut_tail | apply cut_app))))⟩
      have g2 : outI x.s = false := by simpa using g2
      refine s_req ⟨by omega, g1⟩ ⟨g, off, he, s_loadI p1 (s_call (may_c x.m) ?_)⟩
      rintro _ _ ⟨rfl, rfl⟩
      refine ⟨_, rfl, s_asB (s_ite (fun g3 => ?_) (fun g3 => s_next (by simp) ?_))⟩
      · have g3 : outI x.m = true := by simpa using g3
        have hb : (outI x.row.s || outI x.row.m) = true := by show (outI x.s || outI x.m) = true; simp [g3]
        rw [hf, fromR_cons, if_pos hb]
        exact s_ret ⟨rfl, H.sub (by repeat (first | exact sb_refl | exact sb_nil | refine sb_cons (by repeat (first | exact pick_head | apply pick_tail | apply pick_app)) ?_ | refine sb_app (by repeat (first | exact cut_head | exact cut_all | apply cut_tail | apply cut_app)) ?_ | exact sb_one (by repeat (first | exact cut_head | exact cut_all | apply cut_tail | apply cut_app))))⟩
      · have g3 : outI x.m = false := by simpa using g3
        simp (config := { decide := true }) only [if_true, if_false]
        exact ⟨H, g2, g3⟩
    · rintro _ _ W H ⟨hb1, hb2⟩
      have hos := outI_false hb1
      have hom := outI_false hb2
      have hno : ¬ (outI x.row.s || outI x.row.m) = true := by
        have h1 : outI x.row.s = false := hb1
        have h2 : outI x.row.m = false := hb2
        rw [h1, h2]
        simp
      obtain ⟨g, off, he, p0, p1, p2, p3, p4, p5⟩ := (hW _ (H.sub (by repeat (first | exact sb_refl | exact sb_nil | refine sb_cons (by repeat (first | exact pick_head | apply pick_tail | apply pick_app)) ?_ | refine sb_app (by repeat (first | exact cut_head | exact cut_all | apply cut_tail | apply cut_app)) ?_ | exact sb_one (by repeat (first | exact cut_head | exact cut_all | apply cut_tail | apply cut_app)))))).1.get hx
      refine s_req ⟨by omega, g1⟩ ⟨g, off, he, s_loadI p0 ?_⟩
      refine s_call (find_c (s := x.s) H hT (by omega)) ?_
      rintro _ u ⟨rfl, H⟩
      refine ⟨_, rfl, s_asU (s_req rfl (s_asI (s_asB (s_ite (fun g2 => ?_) (fun g2 => ?_)))))⟩
      · have hb : hasR R x.row.s = true := g2
        rw [hf, fromR_cons, if_neg hno, if_pos hb]
        exact s_ret ⟨rfl, H.sub (by repeat (first | exact sb_refl | exact sb_nil | refine sb_cons (by repeat (first | exact pick_head | apply pick_tail | apply pick_app)) ?_ | refine sb_app (by repeat (first | exact cut_head | exact cut_all | apply cut_tail | apply cut_app)) ?_ | exact sb_one (by repeat (first | exact cut_head | exact cut_all | apply cut_tail | apply cut_app))))⟩
      have hb : ¬ hasR R x.row.s = true := fun h => by
        have h : hasR R x.s = true := h
        rw [h] at g2
        cases g2
      obtain ⟨o1, cap1, X1, c1, hX1, hX1l, hce, hat⟩ := rtab_at hT
      have Hc : Has w0 u (cl n3 50 [.slice o1 R.length cap1] :: (c1 ++ m)) := by
        rw [hce] at H
        exact H
      refine h_ldS Hc (by repeat (first | exact pick_head | apply pick_tail | apply pick_app)) rfl (s_ite (fun g3 => ?_) (fun g3 => ?_))
      · have g3 : (64 : Int) ≤ (R.length : Int) := by simpa using g3
        have := hI.len
        rw [hf, fromR_cons, if_neg hno, if_neg hb, if_pos (by omega)]
        exact s_ret ⟨rfl, H.sub (by repeat (first | exact sb_refl | exact sb_nil | refine sb_cons (by repeat (first | exact pick_head | apply pick_tail | apply pick_app)) ?_ | refine sb_app (by repeat (first | exact cut_head | exact cut_all | apply cut_tail | apply cut_app)) ?_ | exact sb_one (by repeat (first | exact cut_head | exact cut_all | apply cut_tail | apply cut_app))))⟩
      · have g3 : ¬ (64 : Int) ≤ (R.length : Int) := by simpa using g3
        obtain ⟨g, off, he, p0, p1, p2, p3, p4, p5⟩ := (hW _ (H.sub (by repeat (first | exact sb_refl | exact sb_nil | refine sb_cons (by repeat (first | exact pick_head | apply pick_tail | apply pick_app)) ?_ | refine sb_app (by repeat (first | exact cut_head | exact cut_all | apply cut_tail | apply cut_app)) ?_ | exact sb_one (by repeat (first | exact cut_head | exact cut_all | apply cut_tail | apply cut_app)))))).1.get hx
        refine s_req ⟨by omega, g1⟩ ⟨g, off, he, s_loadI p0 (s_loadI p1 (s_loadI p2 (s_loadS p3 (s_loadI p4 (s_loadI p5 ?_)))))⟩
        refine s_call (rset_c (s := x.s) (q := x.m) (e := x.e) (slot := x.slot) (place := x.place) H hT hI (fun u H => (hW u H).2 x hxm) rfl (hs x hxm)) ?_
        rintro _ u ⟨c', v, rfl, hT', H⟩
        refine ⟨_, rfl, s_next (by simp) ?_⟩
        simp (config := { decide := true }) only [if_true, if_false]
        have hI2 : InvR (setR R x.row) := hI.set (w := x.row) ⟨hos.1, hos.2, hom.1, hom.2, hs x hxm⟩ (.inr (by omega))
        refine ⟨⟨i + 1, setR R x.row, c', by rw [w_succ (by omega)], by omega, hI2, ?_, hT', ?_, H⟩, by rw [w_succ (by omega)]; simp [intOf] <;> omega⟩
        · rw [setR_len, if_neg hb, hRi]
        · rw [hf, fromR_cons, if_neg hno, if_neg hb, if_neg (by omega)]
  · have g1 : ¬ (i : Int) < (X.length : Int) := by simpa using g1
    rw [List.drop_eq_nil_of_le (by rw [List.length_map]; omega)] at hf
    rw [hf]
    exact s_ret ⟨n3, c, rfl, hT, H⟩

theorem lfrom_c (hA : AllAt w o X) (hn : n = X.length) (hs : ∀ x ∈ X, x.vals.length * 8 ≤ 140737488355328) (hl : X.length < 9223372036854775807) : Calls Try.prog 6 #[.slice o n cap] w fun e w' => e = .returned (.bool true) ∧ Fr [] w w' := by
  apply c6
  have h1 := from_c (cap := cap) (Has.init w) (fun u H => hA.fr0 H.base) hn hs hl
  have h2 := fun (u : World) (m : Hp) (H : Has w u m) => rfrom_c (cap := cap) H (fun u H => hA.fr0 H.base) hn hs hl
  revert h1 h2
  cases hf : fromR [] (X.map AR.row) with
  | inr k =>
    intro h1 h2
    have hk := fromR_err hf
    refine s_call h1 ?_
    rintro _ u ⟨rfl, H⟩
    refine ⟨_, rfl, s_asU (s_req rfl (s_asP (s_asI (s_call (h2 u [] H) ?_))))⟩
    rintro _ u ⟨rfl, H⟩
    refine ⟨_, rfl, s_asU (s_req rfl (s_asP (s_asI (h_blk (fun _ => True) H (s_call live_c ?_) ?_))))⟩
    · rintro _ u ⟨rfl, f⟩
      have H := H.fr0 f
      refine ⟨_, rfl, s_asB (s_false rfl (s_false (by simp) (s_false ?_ (s_next (by simp) ?_))))⟩
      · simp [hk]
      · simp only [if_true]
        exact ⟨H, trivial⟩
    · rintro _ _ W H _
      exact s_true rfl (s_ret ⟨rfl, H.base⟩)
  | inl R =>
    intro h1 h2
    refine s_call h1 ?_
    rintro _ u ⟨p, c, rfl, hI, hT, H⟩
    refine ⟨_, rfl, s_asU (s_req rfl (s_asP (s_asI (s_call (h2 u _ H) ?_))))⟩
    rintro _ u ⟨p2, c2, rfl, hT2, H⟩
    refine ⟨_, rfl, s_asU (s_req rfl (s_asP (s_asI (h_blk (fun _ => True) H (s_call live_c ?_) ?_))))⟩
    · rintro _ u ⟨rfl, f⟩
      have H := H.fr0 f
      refine ⟨_, rfl, s_asB (s_false rfl (s_false (by simp) (s_false ?_ (s_next (by simp) ?_))))⟩
      · simp
      · simp only [if_true]
        exact ⟨H, trivial⟩
    · rintro _ _ W H _
      obtain ⟨o1, cap1, X1, c1, hX1, hX1l, hce, hat⟩ := rtab_at hT2
      have H : Has w W (c ++ c2) := H.sub (by repeat (first | exact sb_refl | exact sb_nil | refine sb_cons (by repeat (first | exact pick_head | apply pick_tail | apply pick_app)) ?_ | refine sb_app (by repeat (first | exact cut_head | exact cut_all | apply cut_tail | apply cut_app)) ?_ | exact sb_one (by repeat (first | exact cut_head | exact cut_all | apply cut_tail | apply cut_app))))
      have Hc : Has w W (c ++ (cl p2 50 [.slice o1 R.length cap1] :: c1)) := by rw [hce] at H; exact H
      refine s_false rfl (s_sm (h_ldS Hc (by repeat (first | exact pick_head | apply pick_tail | apply pick_app)) rfl ?_))
      refine s_call (told_c (m := c2) H hT hI (fun u H => hat w u [] (by simpa using H)) hX1l hX1) ?_
      rintro _ u ⟨rfl, H⟩
      exact ⟨_, rfl, s_asB (s_ret ⟨rfl, H.base⟩)⟩
end
end Go.Proofs.Ytcmdbaafnbdpbaa
