/- RemoteDoes: Clone, All, and equal, walked. -/
import Derived.Test.YtpjcfnnnciknmaaGreatRkX
import Derived.Test.YtpjcfnnnciknmaaGreatTold
import Derived.Test.YtpjcfnnnciknmaaGreatLaidC
import Derived.Test.YtpjcfnnnciknmaaGreatDeepU
set_option linter.unusedVariables false
set_option linter.unusedSimpArgs false
set_option maxRecDepth 100000
set_option maxHeartbeats 4000000
namespace Go.Proofs.YtpjcfnnnciknmaaGreat
open Go hiding Expr
open Go.RowKit Tr

section
variable {w0 w : World} {m c h l1 : Hp} {p : Nat} {X : BX}
theorem Tr.MapO.map_ {α β : Type} {P : Program} {kt : TypeId} {kf : α → Value} {vf : β → Value} {o : Obj} {D : List (α × β)} (h : MapO P kt kf vf o D) : ∃ es clock, o = .map es clock := by
  obtain ⟨es, clock, h1, _⟩ := h.at_
  exact ⟨es, clock, h1⟩
theorem clone_k (H : Has w0 w (h ++ (l1 ++ m))) (hB : BoxK p X h l1) : Calls Tryz.prog 16 #[.pointer (some ⟨p, 0, none⟩)] w fun e w' => ∃ p' h', e = .returned (.pointer (some ⟨p', 0, none⟩)) ∧ BoxK p' X h' l1 ∧ Has w0 w' (h' ++ (h ++ (l1 ++ m))) := by
  have hB0 := hB
  obtain ⟨bn, bc, on, oc, cn, cc, rfl, rfl, hn, hc, hok⟩ := hB
  obtain ⟨Dn, _, _, hMn, _⟩ := id hn
  obtain ⟨Dc, _, _, hMc, _⟩ := id hc
  obtain ⟨esn, ckn, rfl⟩ := hMn.map_
  obtain ⟨esc, ckc, rfl⟩ := hMc.map_
  have hA := hB0.at
  have H : Has w0 w (cl p 44 (remC X bn bc) :: (bn, .map esn ckn) :: (bc, .map esc ckc) :: (cn ++ cc ++ m)) := by
    simp only [List.cons_append, List.nil_append] at H
    exact H
  have HA : Has w0 w ((cl p 44 (remC X bn bc) :: (bn, .map esn ckn) :: (bc, .map esc ckc) :: (cn ++ cc)) ++ m) := by
    simp only [List.cons_append]
    exact H
  apply c16
  refine s_call (none_c (boxW_of HA cut_head hA)) ?_
  rintro _ _ ⟨rfl, rfl⟩
  refine ⟨_, rfl, s_asB (s_false rfl (h_drew H fun u H => h_ldI H (b := p) (by repeat (first | exact pick_head | apply pick_tail | apply pick_app)) rfl (h_ldM H (b := p) (by repeat (first | exact pick_head | apply pick_tail | apply pick_app)) rfl (h_ldM H (b := p) (by repeat (first | exact pick_head | apply pick_tail | apply pick_app)) rfl ?_))))⟩
  refine s_call (AnyW.maps_Clone YtpjcfnnnciknmaaGreat.cloneN bn esn ckn u (H.get (e := (bn, .map esn ckn)) (by repeat (first | exact pick_head | apply pick_tail | apply pick_app)))) ?_
  rintro _ _ ⟨rfl, rfl⟩
  have f1 : Fr [] u (u.alloc (.map esn ckn)) := Fr.push _
  have H := H.add f1 (Nat.le_refl _) (o := .map esn ckn) (by exact Array.getElem?_push_size)
  generalize u.alloc (.map esn ckn) = u1 at H f1
  generalize u.heap.size = b1 at H
  refine ⟨_, rfl, s_asM (s_chk (hc_cons H (b := p) (by repeat (first | exact pick_head | apply pick_tail | apply pick_app)) rfl (hc_cons H (b := p) (by repeat (first | exact pick_head | apply pick_tail | apply pick_app)) rfl c_nil)) ?_)⟩
  refine s_call (AnyW.maps_Clone YtpjcfnnnciknmaaGreat.cloneC bc esc ckc u1 (H.get (e := (bc, .map esc ckc)) (by repeat (first | exact pick_head | apply pick_tail | apply pick_app)))) ?_
  rintro _ _ ⟨rfl, rfl⟩
  have f2 : Fr [] u1 (u1.alloc (.map esc ckc)) := Fr.push _
  have H := H.add f2 (Nat.le_refl _) (o := .map esc ckc) (by exact Array.getElem?_push_size)
  generalize u1.alloc (.map esc ckc) = u2 at H f2
  generalize u1.heap.size = b2 at H
  refine ⟨_, rfl, s_asM (s_chk (hc_cons H (b := p) (by repeat (first | exact pick_head | apply pick_tail | apply pick_app)) rfl c_nil) ?_)⟩
  refine h_new H fun p' u H => s_chk (hc_cons H (b := p) (by repeat (first | exact pick_head | apply pick_tail | apply pick_app)) rfl c_nil) (s_ret ⟨p', [cl p' 44 (remC X b1 b2), (b1, .map esn ckn), (b2, .map esc ckc)], rfl, ⟨b1, b2, _, _, cn, cc, rfl, rfl, hn, hc, hok⟩, ?_⟩)
  simp only [List.cons_append, List.nil_append]
  exact H.sub (by repeat (first | exact sb_refl | exact sb_nil | refine sb_cons (by repeat (first | exact pick_head | apply pick_tail | apply pick_app)) ?_ | refine sb_app (by repeat (first | exact cut_head | exact cut_all | apply cut_tail | apply cut_app)) ?_ | exact sb_one (by repeat (first | exact cut_head | exact cut_all | apply cut_tail | apply cut_app))))

theorem all_c (h : BoxW w p X) (hz : Ids.BxN X) : Calls Tryz.prog 18 #[.pointer (some ⟨p, 0, none⟩)] w fun e w' =>
    ∃ (l : List Ix) (r : Nat) (o : Option Addr) (cap : Nat) (c : Hp), e = .returned (.func (.func 61) #[] #[.pointer (some ⟨r, 0, none⟩)]) ∧ Ids.KnOf X l ∧ l.length * 16 ≤ 140737488355328 ∧ OwnC 32 2 (.slice o l.length cap) l.length (l.map ixr).flatten c ∧ Has w w' (cl r 89 [.slice o l.length cap] :: c) := by
  apply c18
  refine s_call (none_c h) ?_
  rintro _ _ ⟨rfl, rfl⟩
  refine ⟨_, rfl, s_asB (s_true rfl (s_call (Ids.known_c h hz) ?_))⟩
  rintro _ u ⟨l, v, c, hk, rfl, ho, H, hsz⟩
  obtain ⟨o, cap, rfl⟩ := ho.slice
  refine ⟨_, rfl, s_asS (s_call values36_c ?_)⟩
  rintro _ u2 ⟨r, rfl, H2⟩
  have H := H.join H2
  exact ⟨_, rfl, s_asC (s_req rfl (s_asP (s_ret ⟨l, r, o, cap, c, rfl, hk, hsz, ho, H⟩)))⟩

theorem eqints_c {a b : List Int} {o o2 : Option Addr} {n n2 cap cap2 : Nat} (h : ValsAt w o a) (h2 : ValsAt w o2 b) (hn : n = a.length) (hn2 : n2 = b.length) (hmax : a.length < 9223372036854775807) :
    Calls Tryz.prog 22 #[.slice o n cap, .slice o2 n2 cap2] w fun e w' => e = .returned (.bool (decide (a = b))) ∧ Fr [] w w' := by
  subst hn hn2
  apply c22
  refine s_ite (fun g => ?_) (fun g => ?_)
  · refine s_ret ⟨?_, Fr.refl _ _⟩
    have : a ≠ b := fun e => by subst e; simp at g
    rw [decide_eq_false this]
  · have hl : a.length = b.length := by
      have h3 : (a.length : Int) = b.length := by simpa using g
      omega
    refine s_loop (fun vs W => ∃ i : Nat, vs = [.int .i64 i] ∧ i ≤ a.length ∧ a.take i = b.take i ∧ Fr [] w W) (fun vs _ => a.length - (intOf (vs.getD 0 undef)).toNat) ⟨0, rfl, by omega, by simp, Fr.refl _ _⟩ ?_
    rintro _ j W ⟨i, rfl, hi, he, hf⟩
    refine s_asI (s_ite (fun g1 => ?_) (fun g1 => ?_))
    · simp only [decide_eq_true_eq] at g1
      have hlt : i < a.length := by omega
      refine s_drew fun w1 _ f1 => ?_
      have hf := hf.trans f1
      obtain ⟨x, hx⟩ : ∃ x, a[i]? = some x := ⟨_, List.getElem?_eq_getElem hlt⟩
      obtain ⟨y, hy⟩ : ∃ y, b[i]? = some y := ⟨_, List.getElem?_eq_getElem (by omega)⟩
      obtain ⟨g2, off, rfl, q1⟩ := ValsAt.get (w := w1) (RowsAt.fr h hf) hx
      obtain ⟨g3, off3, rfl, q3⟩ := ValsAt.get (w := w1) (RowsAt.fr h2 hf) hy
      refine s_req ⟨by omega, by omega⟩ (s_sm (s_loadI q1 (s_req ⟨by omega, by omega⟩ (s_sm (s_loadI q3 (s_ite (fun g4 => s_ret ⟨?_, hf⟩) (fun g4 => s_next (by first | exact ⟨rfl, rfl⟩ | trivial) ?_)))))))
      · have g4 : ¬ x = y := by simpa using g4
        have : a ≠ b := fun e => by subst e; rw [hx] at hy; cases hy; exact g4 rfl
        rw [decide_eq_false this]
      · have g4 : x = y := by simpa using g4
        simp (config := { decide := true }) only [if_true, if_false]
        refine ⟨⟨i + 1, by rw [w_succ (by omega)], by omega, ?_, hf⟩, by rw [w_succ (by omega)]; simp [intOf] <;> omega⟩
        rw [List.take_add_one, List.take_add_one, he, hx, hy, g4]
    · simp only [decide_eq_false_iff_not] at g1
      rw [List.take_of_length_le (by omega), List.take_of_length_le (by omega)] at he
      exact s_ret ⟨by rw [decide_eq_true he], hf⟩
end

theorem ids_take (X : List KN) : (X.map knr).map (·.take 2) = (idX X).map ixr := by
  rw [List.map_map, List.map_map]
  rfl
section
variable {w : World} {p p2 : Nat} {n : Int} {B : BX} {X : List KN} {t : Ix}
theorem equal_c (hB : BoxW w p B) (hz : Ids.BxN B) (hok : BxOk B) (hR : RW w p2 n X) (hRl : Rl B X) (hls : lsOk X) (hmax : X.length ≤ 4194304) (ht : InI t) :
    Calls Tryz.prog 8 #[.pointer (some ⟨p, 0, none⟩), .pointer (some ⟨p2, 0, none⟩), .agg ⟨ixr t⟩] w fun e w' => e = .returned (.bool true) ∧ Fr [] w w' := by
  have hrow := hRl.get (t := t)
  have hready : readyB B t = readyN (getX X t) := by have := hrow.ready hok; rwa [get_t] at this
  have hmiss : missL B t = missN (getX X t) := by have := hrow.miss hok; rwa [get_t] at this
  have hflat : flatV B t = flatN (getX X t) := by have := hrow.flat hok; rwa [get_t] at this
  have hfl := flatT_len (hls.get (t := t)) 8 (by omega)
  rw [flatT_8] at hfl
  obtain ⟨o1, cap1, h1, h12, h13⟩ := id hR
  apply c8
  refine h_new (Has.init w) fun n6 u H => h_ldI H (by repeat (first | exact pick_head | apply pick_tail | apply pick_app)) rfl (h_ldI H (by repeat (first | exact pick_head | apply pick_tail | apply pick_app)) rfl ?_)
  refine s_call (R := fun e w' => ∃ out v c, e = .returned (.tuple #[v, .int .i64 (if readyB B t = true then 0 else 4)]) ∧ OwnC 53 3 v out.length (encP out) c ∧ Has u w' c ∧ (readyB B t = true → IsPairs (flatV B t) out) ∧ (readyB B t = false → out = [])) ?_ ?_
  · refine (values_c (boxFr hB H.base) ht (by rw [hflat]; omega)).mono ?_
    rintro e w' (⟨hr, rfl, f⟩ | ⟨hr, out, v, c, hp, rfl, ho, H2⟩)
    · exact ⟨[], _, [], by rw [hr]; rfl, OwnC.nil, (Has.init u).fr0 f, (fun h => by rw [hr] at h; cases h), fun _ => rfl⟩
    · exact ⟨out, _, c, by rw [hr]; rfl, ho, H2, fun _ => hp, (fun h => by rw [hr] at h; cases h)⟩
  rintro _ u1 ⟨out, v, c, rfl, ho, H2, hp1, hp2⟩
  have H := H.join H2
  obtain ⟨o2, cap2, rfl⟩ := ho.slice
  refine ⟨_, rfl, s_asU (s_req rfl (s_asS (s_asI (h_ldI H (by repeat (first | exact pick_head | apply pick_tail | apply pick_app)) rfl (h_ldI H (by repeat (first | exact pick_head | apply pick_tail | apply pick_app)) rfl ?_)))))⟩
  refine s_call (R := fun e w' => ∃ out v c, e = .returned (.tuple #[v, .int .i64 (if readyB B t = true then 0 else 4)]) ∧ OwnC 53 3 v out.length (encP out) c ∧ Has u1 w' c ∧ (readyB B t = true → IsPairs (flatV B t) out) ∧ (readyB B t = false → out = [])) ?_ ?_
  · refine (rvals_c (t := t) (hR.fr0 H.base) (by omega) hls).mono ?_
    rw [← hready, ← hflat]
    rintro e w' (⟨hr, rfl, f⟩ | ⟨hr, out, v, c, hp, rfl, ho, H2⟩)
    · exact ⟨[], _, [], by rw [hr]; rfl, OwnC.nil, (Has.init u1).fr0 f, (fun h => by rw [hr] at h; cases h), fun _ => rfl⟩
    · exact ⟨out, _, c, by rw [hr]; rfl, ho, H2, fun _ => hp, (fun h => by rw [hr] at h; cases h)⟩
  rintro _ u2 ⟨out2, v2, c2, rfl, ho2, H3, hp3, hp4⟩
  have H := H.join H3
  obtain ⟨o3, cap3, rfl⟩ := ho2.slice
  have hsame : out = out2 := by
    cases hr : readyB B t with
    | true => exact (hp1 hr).uniq (hp3 hr)
    | false => rw [hp2 hr, hp4 hr]
  have hol : out.length ≤ 8 * 1048577 := by
    cases hr : readyB B t with
    | true => have := (hp1 hr).len; rw [hflat] at this; omega
    | false => rw [hp2 hr]; exact Nat.zero_le _
  subst hsame
  refine ⟨_, rfl, s_asU (s_req rfl (s_asS (s_asI ?_)))⟩
  refine s_call (all_c (boxFr hB H.base) hz) ?_
  rintro _ u3 ⟨l, r, o4, cap4, c4, rfl, hk, hlsz, ho4, H4⟩
  have hl := hk.uniq hRl.kn
  subst hl
  have H := H.join H4
  refine ⟨_, rfl, h_drew H fun u H => s_call (equal_pairs_c (pairsAt_own ho H (by repeat (first | exact cut_head | exact cut_all | apply cut_tail | apply cut_app))) (pairsAt_own ho2 H (by repeat (first | exact cut_head | exact cut_all | apply cut_tail | apply cut_app))) rfl rfl (by omega)) ?_⟩
  rintro _ u ⟨rfl, f⟩
  have H := H.fr0 f
  refine ⟨_, rfl, s_asB (s_chk c_nil (s_true (by simp) (s_true (by simp) ?_)))⟩
  refine h_ldI H (b := n6) (by repeat (first | exact pick_head | apply pick_tail | apply pick_app)) rfl (h_ldI H (b := n6) (by repeat (first | exact pick_head | apply pick_tail | apply pick_app)) rfl (h_ldI H (b := n6) (by repeat (first | exact pick_head | apply pick_tail | apply pick_app)) rfl (h_ldI H (b := n6) (by repeat (first | exact pick_head | apply pick_tail | apply pick_app)) rfl ?_)))
  refine s_call (ready_c (boxFr hB H.base) ht) ?_
  rintro _ u ⟨rfl, f⟩
  have H := H.fr0 f
  refine ⟨_, rfl, s_asB (s_chk (hc_cons H (b := n6) (by repeat (first | exact pick_head | apply pick_tail | apply pick_app)) rfl (hc_cons H (b := n6) (by repeat (first | exact pick_head | apply pick_tail | apply pick_app)) rfl c_nil)) ?_)⟩
  refine s_call (rready_c (t := t) (hR.fr0 H.base) (by omega)) ?_
  rintro _ u ⟨rfl, f⟩
  have H := H.fr0 f
  refine ⟨_, rfl, s_asB (s_chk c_nil (s_true (by rw [hready]; simp) ?_))⟩
  refine h_ldI H (b := n6) (by repeat (first | exact pick_head | apply pick_tail | apply pick_app)) rfl (h_ldI H (b := n6) (by repeat (first | exact pick_head | apply pick_tail | apply pick_app)) rfl (h_ldI H (b := n6) (by repeat (first | exact pick_head | apply pick_tail | apply pick_app)) rfl (h_ldI H (b := n6) (by repeat (first | exact pick_head | apply pick_tail | apply pick_app)) rfl ?_)))
  refine s_call (missing_c (boxFr hB H.base) ht) ?_
  rintro _ u ⟨v5, c5, rfl, ho5, H5⟩
  have H := H.join H5
  obtain ⟨o5, cap5, rfl⟩ := ho5.slice
  refine ⟨_, rfl, s_asS (s_chk (hc_cons H (b := n6) (by repeat (first | exact pick_head | apply pick_tail | apply pick_app)) rfl (hc_cons H (b := n6) (by repeat (first | exact pick_head | apply pick_tail | apply pick_app)) rfl c_nil)) ?_)⟩
  refine s_call (rmiss_c (t := t) (hR.fr0 H.base) (by omega)) ?_
  rintro _ u ⟨v6, c6, rfl, ho6, H6⟩
  have H := H.join H6
  obtain ⟨o6, cap6, rfl⟩ := ho6.slice
  have hm8 := missT_len (getX X t) 8
  rw [missT_8] at hm8
  refine ⟨_, rfl, s_asS (s_chk c_nil ?_)⟩
  refine s_call (eqints_c (a := missL B t) (b := missN (getX X t)) (valsAt_own ho5 H (by repeat (first | exact cut_head | exact cut_all | apply cut_tail | apply cut_app))) (valsAt_own ho6 H (by repeat (first | exact cut_head | exact cut_all | apply cut_tail | apply cut_app))) rfl rfl (by rw [hmiss]; omega)) ?_
  rintro _ u ⟨rfl, f⟩
  have H := H.fr0 f
  refine ⟨_, rfl, s_asB (s_chk c_nil (s_true (by simp [hmiss]) ?_))⟩
  have hil : (idX X).length = X.length := List.length_map ..
  refine s_ldS (H.base.cells h1 (by simp)) rfl ?_
  refine s_call (told_c (l := idX X) (l2 := idX X) (H.cells (b := r) (by repeat (first | exact pick_head | apply pick_tail | apply pick_app))) (rowsAt_own (Ids.kr2 _) (by decide) ho4 H (by repeat (first | exact cut_head | exact cut_all | apply cut_tail | apply cut_app))) (RowsAt.fr h12 H.base) (ids_take X) hil.symm (by omega) (by omega)) ?_
  rintro _ u ⟨rfl, f⟩
  have H := H.fr0 f
  refine ⟨_, rfl, s_asB (s_chk c_nil (s_true (by simp) ?_))⟩
  refine s_ldS (H.base.cells h1 (by simp)) rfl ?_
  refine s_call (told_c (l := idX X) (l2 := idX X) (H.cells (b := r) (by repeat (first | exact pick_head | apply pick_tail | apply pick_app))) (rowsAt_own (Ids.kr2 _) (by decide) ho4 H (by repeat (first | exact cut_head | exact cut_all | apply cut_tail | apply cut_app))) (RowsAt.fr h12 H.base) (ids_take X) hil.symm (by omega) (by omega)) ?_
  rintro _ u ⟨rfl, f⟩
  have H := H.fr0 f
  refine ⟨_, rfl, s_asB (s_chk c_nil (s_true (by simp) ?_))⟩
  refine s_ldS (H.base.cells h1 (by simp)) rfl ?_
  refine s_call (lenB_c (boxFr hB H.base) hz) ?_
  rintro _ u ⟨l2, hk2, rfl, f⟩
  have hl2 := hk2.uniq hRl.kn
  subst hl2
  have H := H.fr0 f
  refine ⟨_, rfl, s_asI (s_chk ⟨(H.base.cells h1 (by simp)).cell rfl, trivial⟩ (s_ret ⟨?_, H.base⟩))⟩
  rw [hil]
  simp
end
end Go.Proofs.YtpjcfnnnciknmaaGreat

/- RemoteDoes: step, walked: an operation with both. -/
set_option linter.unusedVariables false
set_option linter.unusedSimpArgs false
set_option maxRecDepth 100000
set_option maxHeartbeats 4000000
namespace Go.Proofs.YtpjcfnnnciknmaaGreat
open Go hiding Expr
open Go.RowKit Tr

/-- How many keys a box may have, and how long its lists are. -/
def Lz (i : Nat) (B : BX) : Prop := ∃ (a : List Ix) (b : List Fx), (∀ t, (B.needs t).isSome = true → t ∈ a) ∧ (∀ k, (B.came k).isSome = true → k ∈ b) ∧ a.length ≤ i ∧ b.length ≤ i ∧ ∀ k l, B.came k = some l → l.length ≤ 1048577
section
variable {i : Nat} {B : BX} {X : List KN} {t : Ix}
theorem Lz.empty {n : Int} : Lz 0 (emptyB n) := ⟨[], [], fun t h => (by cases h), fun k h => (by cases h), by simp, by simp, fun k l h => (by cases h)⟩
theorem Lz.mono {j : Nat} (h : Lz i B) (hij : i ≤ j) : Lz j B := by
  obtain ⟨a, b, h1, h2, h3, h4, h5⟩ := h
  exact ⟨a, b, h1, h2, by omega, by omega, h5⟩
theorem Lz.bxn (h : Lz i B) (hi : i ≤ 4194304) : Ids.BxN B := by
  obtain ⟨a, b, h1, h2, h3, h4, h5⟩ := h
  exact ⟨a, b, h1, h2, by omega⟩
theorem Lz.sz (h : Lz i B) : BxSz B := by
  obtain ⟨a, b, h1, h2, h3, h4, h5⟩ := h
  exact fun k l hl => Nat.le_trans (h5 k l hl) (by decide)
theorem Lz.ls (h : Lz i B) (hr : Rl B X) : lsOk X := by
  obtain ⟨a, b, h1, h2, h3, h4, h5⟩ := h
  intro x hx q hq
  rw [(hr.row x hx).ls q hq]
  cases hc : B.came (x.t, (q : Int)) with
  | none => exact Nat.zero_le _
  | some l => exact h5 _ _ hc
theorem Lz.len (h : Lz i B) (hr : Rl B X) : X.length ≤ 2 * i := by
  obtain ⟨a, b, h1, h2, h3, h4, h5⟩ := h
  have hn : (idX X).Nodup := Ids.rising_nodup hr.kn.1
  have := Ids.nodup_le hn (l := a ++ b.map (·.1)) (fun t ht => by
    rcases (hr.kn.2 t).1 ht with h | ⟨n, h⟩
    · exact List.mem_append_left _ (h1 t h)
    · exact List.mem_append_right _ (List.mem_map.2 ⟨_, h2 _ h, rfl⟩))
  simp only [List.length_map, List.length_append] at this
  omega
theorem Lz.need (h : Lz i B) {s : List Int} : Lz (i + 1) (needB B t s) := by
  obtain ⟨a, b, h1, h2, h3, h4, h5⟩ := h
  refine ⟨t :: a, b, fun t' ht' => ?_, h2, by simp; omega, by omega, h5⟩
  by_cases e : t' = t
  · subst e; simp
  · rw [show (needB B t s).needs t' = B.needs t' from upd_ne e] at ht'
    simp [h1 _ ht']
theorem Lz.came (h : Lz i B) {k : Fx} {out : List PR} (ho : out.length ≤ 1048577) : Lz (i + 1) (cameB B k out) := by
  obtain ⟨a, b, h1, h2, h3, h4, h5⟩ := h
  refine ⟨a, k :: b, h1, fun k' hk' => ?_, by omega, by simp; omega, fun k' l hl => ?_⟩
  · by_cases e : k' = k
    · subst e; simp
    · rw [show (cameB B k out).came k' = B.came k' from upd_ne e] at hk'
      simp [h2 _ hk']
  · by_cases e : k' = k
    · subst e
      rw [show (cameB B k' out).came k' = some out from upd_at] at hl
      cases hl
      exact ho
    · rw [show (cameB B k out).came k' = B.came k' from upd_ne e] at hl
      exact h5 _ _ hl
theorem Lz.drop (h : Lz i B) : Lz i (dropB B t) := by
  obtain ⟨a, b, h1, h2, h3, h4, h5⟩ := h
  refine ⟨a, b, fun t' ht' => ?_, fun k hk => ?_, h3, h4, fun k l hl => ?_⟩
  · by_cases e : t' = t
    · subst e
      rw [show (dropB B t').needs t' = none from upd_at] at ht'
      cases ht'
    · rw [show (dropB B t).needs t' = B.needs t' from upd_ne e] at ht'
      exact h1 _ ht'
  · have e : (dropB B t).came k = if k.1 = t then none else B.came k := rfl
    rw [e] at hk
    split at hk
    · cases hk
    · exact h2 _ hk
  · have e : (dropB B t).came k = if k.1 = t then none else B.came k := rfl
    rw [e] at hl
    split at hl
    · cases hl
    · exact h5 _ _ hl
theorem Keeps.trans {l l' l'' d d' : Hp} (h : Keeps l l' d) (h2 : Keeps l' l'' d') : Keeps l l'' (d' ++ d) := by
  obtain ⟨r, h⟩ := h
  obtain ⟨r2, h2⟩ := h2
  refine ⟨r ++ r2, ?_⟩
  rw [← List.append_assoc, ← List.append_assoc]
  refine (h2.append_right d).trans ?_
  refine List.Perm.trans ?_ (h.append_right r2)
  rw [List.append_assoc, List.append_assoc]
  exact List.Perm.append_left l' List.perm_append_comm
end

structure OZ where
  d : Int
  t : Ix
  q : Int
  fo : Option Addr
  fc : Nat
  fl : List Int
  po : Option Addr
  pc : Nat
  pl : List PR
def ozr (x : OZ) : List Value := [.int .i64 x.d, .int .i64 x.t.s, .int .i64 x.t.p, .int .i64 x.q, .slice x.fo x.fl.length x.fc, .slice x.po x.pl.length x.pc]
structure OzOk (x : OZ) : Prop where
  t : InI x.t
  q : -9223372036854775808 ≤ x.q ∧ x.q ≤ 9223372036854775807
  fl : x.fl.length ≤ 1048577
  pl : x.pl.length ≤ 1048577
  pin : ∀ p ∈ x.pl, InK p.k
def OzAt (w : World) (x : OZ) : Prop := ValsAt w x.fo x.fl ∧ PairsAt w x.po x.pl
def p77 : PR := ⟨⟨0, 0⟩, 77⟩
section
variable {w0 w : World} {m h l1 cr : Hp} {p p2 i : Nat} {n : Int} {B : BX} {X : List KN}
/-- What step leaves. -/
def Stepped (w0 w' : World) (p2 : Nat) (n : Int) (i : Nat) (m : Hp) (e : Ending) : Prop := ∃ (p' : Nat) (B' : BX) (X' : List KN) (h' l' cr' m' : Hp), e = .returned (.tuple #[.pointer (some ⟨p', 0, none⟩), .bool true]) ∧
  BoxK p' B' h' l' ∧ RkAt p2 n X' cr' ∧ Rl B' X' ∧ B'.parts = n ∧ Lz i B' ∧ Has w0 w' (h' ++ (l' ++ (cr' ++ (m ++ m'))))
theorem step_c {x : OZ} (H : Has w0 w (h ++ (l1 ++ (cr ++ m)))) (hB : BoxK p B h l1) (hR : RkAt p2 n X cr) (hRl : Rl B X) (hn : B.parts = n) (hz : Lz i B) (hi : i ≤ 1048580) (hx : OzOk x) (hA : OzAt w0 x) :
    Calls Tryz.prog 7 #[.pointer (some ⟨p, 0, none⟩), .pointer (some ⟨p2, 0, none⟩), .agg ⟨ozr x⟩] w fun e w' => Stepped w0 w' p2 n (i + 1) m e := by
  have hok : BxOk B := by obtain ⟨_, _, _, _, _, _, _, _, _, _, hok⟩ := hB; exact hok
  have hXl := hz.len hRl
  have hls := hz.ls hRl
  have hn8 : n ≤ 8 := by rw [← hn]; exact hok.p1
  have hrow := hRl.get (t := x.t)
  have hxt := hx.t
  have hfl := hx.fl
  have hpl := hx.pl
  apply c7
  refine h_new H fun n14 u H => h_ldI H (b := n14) (by repeat (first | exact pick_head | apply pick_tail | apply pick_app)) rfl (s_ite (fun g1 => ?_) (fun g1 => s_ite (fun g2 => ?_) (fun g2 => s_ite (fun g3 => ?_) (fun g3 => ?_))))
  · refine h_drew H fun u H => h_ldI H (b := n14) (by repeat (first | exact pick_head | apply pick_tail | apply pick_app)) rfl (h_ldI H (b := n14) (by repeat (first | exact pick_head | apply pick_tail | apply pick_app)) rfl (h_ldS H (b := n14) (by repeat (first | exact pick_head | apply pick_tail | apply pick_app)) rfl (h_ldI H (b := n14) (by repeat (first | exact pick_head | apply pick_tail | apply pick_app)) rfl (h_ldI H (b := n14) (by repeat (first | exact pick_head | apply pick_tail | apply pick_app)) rfl (h_ldS H (b := n14) (by repeat (first | exact pick_head | apply pick_tail | apply pick_app)) rfl ?_)))))
    have H : Has w0 u (h ++ (l1 ++ (cl n14 36 (ozr x) :: (cr ++ m)))) := H.sub (by repeat (first | exact sb_refl | exact sb_nil | refine sb_cons (by repeat (first | exact pick_head | apply pick_tail | apply pick_app)) ?_ | refine sb_app (by repeat (first | exact cut_head | exact cut_all | apply cut_tail | apply cut_app)) ?_ | exact sb_one (by repeat (first | exact cut_head | exact cut_all | apply cut_tail | apply cut_app))))
    refine s_call (need_k (t := x.t) (l := x.fl) H hB hxt (fun u2 H2 => RowsAt.fr hA.1 H2.base) rfl (by omega)) ?_
    rintro _ u (⟨hbad, rfl, H⟩ | ⟨hgood, hsome, rfl, H⟩ | ⟨hgood, hnone, s, h', l', hris, rfl, hB', hKp, H⟩)
    · refine ⟨_, rfl, s_asI (s_chk (hc_cons H (b := n14) (by repeat (first | exact pick_head | apply pick_tail | apply pick_app)) rfl (hc_cons H (b := n14) (by repeat (first | exact pick_head | apply pick_tail | apply pick_app)) rfl (hc_cons H (b := n14) (by repeat (first | exact pick_head | apply pick_tail | apply pick_app)) rfl c_nil))) ?_)⟩
      have H : Has w0 u (cr ++ (h ++ (l1 ++ (cl n14 36 (ozr x) :: m)))) := H.sub (by repeat (first | exact sb_refl | exact sb_nil | refine sb_cons (by repeat (first | exact pick_head | apply pick_tail | apply pick_app)) ?_ | refine sb_app (by repeat (first | exact cut_head | exact cut_all | apply cut_tail | apply cut_app)) ?_ | exact sb_one (by repeat (first | exact cut_head | exact cut_all | apply cut_tail | apply cut_app))))
      refine s_call (rneed_c (t := x.t) (l := x.fl) H hR (by omega) hn8 (fun u2 H2 => RowsAt.fr hA.1 H2.base) rfl (by omega)) ?_
      rintro _ u (⟨_, rfl, H⟩ | ⟨hg, _, _, _⟩ | ⟨hg, _, _⟩)
      · exact ⟨_, rfl, s_asI (s_chk c_nil (s_ret ⟨p, B, X, h, l1, cr, [], rfl, hB, hR, hRl, hn, hz.mono (by omega), by rw [List.append_nil]; exact H.sub (by repeat (first | exact sb_refl | exact sb_nil | refine sb_cons (by repeat (first | exact pick_head | apply pick_tail | apply pick_app)) ?_ | refine sb_app (by repeat (first | exact cut_head | exact cut_all | apply cut_tail | apply cut_app)) ?_ | exact sb_one (by repeat (first | exact cut_head | exact cut_all | apply cut_tail | apply cut_app))))⟩))⟩
      · exact absurd (by rw [hn]; exact hg) hbad
      · exact absurd (by rw [hn]; exact hg) hbad
    · refine ⟨_, rfl, s_asI (s_chk (hc_cons H (b := n14) (by repeat (first | exact pick_head | apply pick_tail | apply pick_app)) rfl (hc_cons H (b := n14) (by repeat (first | exact pick_head | apply pick_tail | apply pick_app)) rfl (hc_cons H (b := n14) (by repeat (first | exact pick_head | apply pick_tail | apply pick_app)) rfl c_nil))) ?_)⟩
      have H : Has w0 u (cr ++ (h ++ (l1 ++ (cl n14 36 (ozr x) :: m)))) := H.sub (by repeat (first | exact sb_refl | exact sb_nil | refine sb_cons (by repeat (first | exact pick_head | apply pick_tail | apply pick_app)) ?_ | refine sb_app (by repeat (first | exact cut_head | exact cut_all | apply cut_tail | apply cut_app)) ?_ | exact sb_one (by repeat (first | exact cut_head | exact cut_all | apply cut_tail | apply cut_app))))
      refine s_call (rneed_c (t := x.t) (l := x.fl) H hR (by omega) hn8 (fun u2 H2 => RowsAt.fr hA.1 H2.base) rfl (by omega)) ?_
      rintro _ u (⟨hb, _, _⟩ | ⟨hg, hnd, rfl, H⟩ | ⟨hg, hnd, _⟩)
      · exact absurd (by rw [← hn]; exact hgood) hb
      · exact ⟨_, rfl, s_asI (s_chk c_nil (s_ret ⟨p, B, X, h, l1, cr, [], rfl, hB, hR, hRl, hn, hz.mono (by omega), by rw [List.append_nil]; exact H.sub (by repeat (first | exact sb_refl | exact sb_nil | refine sb_cons (by repeat (first | exact pick_head | apply pick_tail | apply pick_app)) ?_ | refine sb_app (by repeat (first | exact cut_head | exact cut_all | apply cut_tail | apply cut_app)) ?_ | exact sb_one (by repeat (first | exact cut_head | exact cut_all | apply cut_tail | apply cut_app))))⟩))⟩
      · have := hrow.nd
        rw [get_t, hnd, hsome] at this
        cases this
    · refine ⟨_, rfl, s_asI (s_chk (hc_cons H (b := n14) (by repeat (first | exact pick_head | apply pick_tail | apply pick_app)) rfl (hc_cons H (b := n14) (by repeat (first | exact pick_head | apply pick_tail | apply pick_app)) rfl (hc_cons H (b := n14) (by repeat (first | exact pick_head | apply pick_tail | apply pick_app)) rfl c_nil))) ?_)⟩
      have H : Has w0 u (cr ++ (h' ++ (l' ++ (cl n14 36 (ozr x) :: m)))) := H.sub (by repeat (first | exact sb_refl | exact sb_nil | refine sb_cons (by repeat (first | exact pick_head | apply pick_tail | apply pick_app)) ?_ | refine sb_app (by repeat (first | exact cut_head | exact cut_all | apply cut_tail | apply cut_app)) ?_ | exact sb_one (by repeat (first | exact cut_head | exact cut_all | apply cut_tail | apply cut_app))))
      refine s_call (rneed_c (t := x.t) (l := x.fl) H hR (by omega) hn8 (fun u2 H2 => RowsAt.fr hA.1 H2.base) rfl (by omega)) ?_
      rintro _ u (⟨hb, _, _⟩ | ⟨hg, hnd, _, _⟩ | ⟨hg, hnd, c', rfl, hR', H⟩)
      · exact absurd (by rw [← hn]; exact hgood) hb
      · have := hrow.nd
        rw [get_t, hnd, hnone] at this
        cases this
      · exact ⟨_, rfl, s_asI (s_chk c_nil (s_ret ⟨p, _, _, h', l', c', [], rfl, hB', hR', hRl.need hris.2 hnone, hn, hz.need, by rw [List.append_nil]; exact H.sub (by repeat (first | exact sb_refl | exact sb_nil | refine sb_cons (by repeat (first | exact pick_head | apply pick_tail | apply pick_app)) ?_ | refine sb_app (by repeat (first | exact cut_head | exact cut_all | apply cut_tail | apply cut_app)) ?_ | exact sb_one (by repeat (first | exact cut_head | exact cut_all | apply cut_tail | apply cut_app))))⟩))⟩
  · refine h_ldI H (b := n14) (by repeat (first | exact pick_head | apply pick_tail | apply pick_app)) rfl (h_ldI H (b := n14) (by repeat (first | exact pick_head | apply pick_tail | apply pick_app)) rfl (h_ldI H (b := n14) (by repeat (first | exact pick_head | apply pick_tail | apply pick_app)) rfl (h_ldS H (b := n14) (by repeat (first | exact pick_head | apply pick_tail | apply pick_app)) rfl ?_)))
    have H : Has w0 u (h ++ (l1 ++ (cl n14 36 (ozr x) :: (cr ++ m)))) := H.sub (by repeat (first | exact sb_refl | exact sb_nil | refine sb_cons (by repeat (first | exact pick_head | apply pick_tail | apply pick_app)) ?_ | refine sb_app (by repeat (first | exact cut_head | exact cut_all | apply cut_tail | apply cut_app)) ?_ | exact sb_one (by repeat (first | exact cut_head | exact cut_all | apply cut_tail | apply cut_app))))
    refine s_call (put_k (t := x.t) (l := x.pl) H hB hz.sz hxt hx.q (fun u2 H2 => RowsAt.fr hA.2 H2.base) hx.pin rfl (by omega)) ?_
    rintro _ u (⟨hbad, rfl, H⟩ | ⟨hgood, out, hp, (⟨⟨l0, hl0, hne⟩, rfl, H⟩ | ⟨hsame, h', l', d, rfl, hB', hKp, H⟩)⟩)
    · refine ⟨_, rfl, s_asU (s_req rfl (s_asB (s_asI (h_ldI H (b := n14) (by repeat (first | exact pick_head | apply pick_tail | apply pick_app)) rfl (h_ldI H (b := n14) (by repeat (first | exact pick_head | apply pick_tail | apply pick_app)) rfl (h_ldI H (b := n14) (by repeat (first | exact pick_head | apply pick_tail | apply pick_app)) rfl (h_ldS H (b := n14) (by repeat (first | exact pick_head | apply pick_tail | apply pick_app)) rfl ?_)))))))⟩
      have H : Has w0 u (cr ++ (h ++ (l1 ++ (cl n14 36 (ozr x) :: m)))) := H.sub (by repeat (first | exact sb_refl | exact sb_nil | refine sb_cons (by repeat (first | exact pick_head | apply pick_tail | apply pick_app)) ?_ | refine sb_app (by repeat (first | exact cut_head | exact cut_all | apply cut_tail | apply cut_app)) ?_ | exact sb_one (by repeat (first | exact cut_head | exact cut_all | apply cut_tail | apply cut_app))))
      refine s_call (rput_c (t := x.t) (l := x.pl) H hR (by omega) hls hn8 (fun u2 H2 => RowsAt.fr hA.2 H2.base) rfl (by omega)) ?_
      rintro _ u (⟨_, rfl, H⟩ | ⟨k, hk, hkn, _⟩)
      · exact ⟨_, rfl, s_asU (s_req rfl (s_asB (s_asI (s_true rfl (s_ret ⟨p, B, X, h, l1, cr, [], rfl, hB, hR, hRl, hn, hz.mono (by omega), by rw [List.append_nil]; exact H.sub (by repeat (first | exact sb_refl | exact sb_nil | refine sb_cons (by repeat (first | exact pick_head | apply pick_tail | apply pick_app)) ?_ | refine sb_app (by repeat (first | exact cut_head | exact cut_all | apply cut_tail | apply cut_app)) ?_ | exact sb_one (by repeat (first | exact cut_head | exact cut_all | apply cut_tail | apply cut_app))))⟩)))))⟩
      · exact absurd ⟨by omega, by omega⟩ hbad
    · refine ⟨_, rfl, s_asU (s_req rfl (s_asB (s_asI (h_ldI H (b := n14) (by repeat (first | exact pick_head | apply pick_tail | apply pick_app)) rfl (h_ldI H (b := n14) (by repeat (first | exact pick_head | apply pick_tail | apply pick_app)) rfl (h_ldI H (b := n14) (by repeat (first | exact pick_head | apply pick_tail | apply pick_app)) rfl (h_ldS H (b := n14) (by repeat (first | exact pick_head | apply pick_tail | apply pick_app)) rfl ?_)))))))⟩
      have H : Has w0 u (cr ++ (h ++ (l1 ++ (cl n14 36 (ozr x) :: m)))) := H.sub (by repeat (first | exact sb_refl | exact sb_nil | refine sb_cons (by repeat (first | exact pick_head | apply pick_tail | apply pick_app)) ?_ | refine sb_app (by repeat (first | exact cut_head | exact cut_all | apply cut_tail | apply cut_app)) ?_ | exact sb_one (by repeat (first | exact cut_head | exact cut_all | apply cut_tail | apply cut_app))))
      refine s_call (rput_c (t := x.t) (l := x.pl) H hR (by omega) hls hn8 (fun u2 H2 => RowsAt.fr hA.2 H2.base) rfl (by omega)) ?_
      rintro _ u (⟨hb, _, _⟩ | ⟨k, hk, hkn, out2, hp2, (⟨_, _, rfl, H⟩ | ⟨hs, _⟩)⟩)
      · exact absurd (by rw [← hn]; exact hgood) hb
      · exact ⟨_, rfl, s_asU (s_req rfl (s_asB (s_asI (s_true rfl (s_ret ⟨p, B, X, h, l1, cr, [], rfl, hB, hR, hRl, hn, hz.mono (by omega), by rw [List.append_nil]; exact H.sub (by repeat (first | exact sb_refl | exact sb_nil | refine sb_cons (by repeat (first | exact pick_head | apply pick_tail | apply pick_app)) ?_ | refine sb_app (by repeat (first | exact cut_head | exact cut_all | apply cut_tail | apply cut_app)) ?_ | exact sb_one (by repeat (first | exact cut_head | exact cut_all | apply cut_tail | apply cut_app))))⟩)))))⟩
      · have e := hp.uniq hp2
        subst e
        rw [hk] at hl0
        have h1 := hrow.came k (by omega)
        have h2 := hrow.ls k (by omega)
        rw [get_t, hl0] at h1 h2
        exact absurd (h2.symm.trans (hs h1)) hne
    · have hol := hp.len
      refine ⟨_, rfl, s_asU (s_req rfl (s_asB (s_asI (h_ldI H (b := n14) (by repeat (first | exact pick_head | apply pick_tail | apply pick_app)) rfl (h_ldI H (b := n14) (by repeat (first | exact pick_head | apply pick_tail | apply pick_app)) rfl (h_ldI H (b := n14) (by repeat (first | exact pick_head | apply pick_tail | apply pick_app)) rfl (h_ldS H (b := n14) (by repeat (first | exact pick_head | apply pick_tail | apply pick_app)) rfl ?_)))))))⟩
      have H : Has w0 u (cr ++ (h' ++ (l' ++ (d ++ (cl n14 36 (ozr x) :: m))))) := H.sub (by repeat (first | exact sb_refl | exact sb_nil | refine sb_cons (by repeat (first | exact pick_head | apply pick_tail | apply pick_app)) ?_ | refine sb_app (by repeat (first | exact cut_head | exact cut_all | apply cut_tail | apply cut_app)) ?_ | exact sb_one (by repeat (first | exact cut_head | exact cut_all | apply cut_tail | apply cut_app))))
      refine s_call (rput_c (t := x.t) (l := x.pl) H hR (by omega) hls hn8 (fun u2 H2 => RowsAt.fr hA.2 H2.base) rfl (by omega)) ?_
      rintro _ u (⟨hb, _, _⟩ | ⟨k, hk, hkn, out2, hp2, (⟨h1, h2, _, _⟩ | ⟨_, s, c', rfl, hR', H⟩)⟩)
      · exact absurd (by rw [← hn]; exact hgood) hb
      · have e := hp.uniq hp2
        subst e
        have h3 := hrow.came k (by omega)
        have h4 := hrow.ls k (by omega)
        rw [get_t, ← hk] at h3 h4
        rw [h1] at h3
        cases hc : B.came (x.t, x.q) with
        | none => rw [hc] at h3; cases h3
        | some l0 =>
          rw [hc] at h4
          exact absurd (h4.trans (hsame l0 hc)) h2
      · have e := hp.uniq hp2
        subst e
        have hRl' : Rl (cameB B (x.t, x.q) out) (modX X x.t (cameF k s out)) := by rw [hk]; exact hRl.came (by omega)
        have hrow' := hRl'.row _ ((mod_mem hRl.kn.1).2 (.inl rfl))
        have hok' : BxOk (cameB B (x.t, x.q) out) := by obtain ⟨_, _, _, _, _, _, _, _, _, _, hok⟩ := hB'; exact hok
        have hrd : readyB (cameB B (x.t, x.q) out) x.t = readyN (cameF k s out (getX X x.t)) := by
          have := hrow'.ready hok'
          rwa [show (cameF k s out (getX X x.t)).t = x.t from get_t] at this
        refine ⟨_, rfl, s_asU (s_req rfl (s_asB (s_asI (s_true (by rw [hrd]; simp) (s_ret ⟨p, _, _, h', l', c', d, rfl, hB', hR', hRl', hn, hz.came (by omega), H.sub (by repeat (first | exact sb_refl | exact sb_nil | refine sb_cons (by repeat (first | exact pick_head | apply pick_tail | apply pick_app)) ?_ | refine sb_app (by repeat (first | exact cut_head | exact cut_all | apply cut_tail | apply cut_app)) ?_ | exact sb_one (by repeat (first | exact cut_head | exact cut_all | apply cut_tail | apply cut_app))))⟩)))))⟩
  · refine h_drew H fun u H => h_ldI H (b := n14) (by repeat (first | exact pick_head | apply pick_tail | apply pick_app)) rfl (h_ldI H (b := n14) (by repeat (first | exact pick_head | apply pick_tail | apply pick_app)) rfl (h_ldI H (b := n14) (by repeat (first | exact pick_head | apply pick_tail | apply pick_app)) rfl (h_ldI H (b := n14) (by repeat (first | exact pick_head | apply pick_tail | apply pick_app)) rfl ?_)))
    have H : Has w0 u (h ++ (l1 ++ (cl n14 36 (ozr x) :: (cr ++ m)))) := H.sub (by repeat (first | exact sb_refl | exact sb_nil | refine sb_cons (by repeat (first | exact pick_head | apply pick_tail | apply pick_app)) ?_ | refine sb_app (by repeat (first | exact cut_head | exact cut_all | apply cut_tail | apply cut_app)) ?_ | exact sb_one (by repeat (first | exact cut_head | exact cut_all | apply cut_tail | apply cut_app))))
    refine s_call (drop_k (t := x.t) H hB (hz.bxn (by omega)) hxt) ?_
    rintro _ u (⟨hk, rfl, H⟩ | ⟨hk, rfl, h', l', d, hB', hKp, H⟩)
    · refine ⟨_, rfl, s_asI (s_chk (hc_cons H (b := n14) (by repeat (first | exact pick_head | apply pick_tail | apply pick_app)) rfl (hc_cons H (b := n14) (by repeat (first | exact pick_head | apply pick_tail | apply pick_app)) rfl c_nil)) ?_)⟩
      have H : Has w0 u (cr ++ (h ++ (l1 ++ (cl n14 36 (ozr x) :: m)))) := H.sub (by repeat (first | exact sb_refl | exact sb_nil | refine sb_cons (by repeat (first | exact pick_head | apply pick_tail | apply pick_app)) ?_ | refine sb_app (by repeat (first | exact cut_head | exact cut_all | apply cut_tail | apply cut_app)) ?_ | exact sb_one (by repeat (first | exact cut_head | exact cut_all | apply cut_tail | apply cut_app))))
      refine s_call (rdrop_c (t := x.t) H hR (by omega)) ?_
      rintro _ u (⟨his, rfl, H⟩ | ⟨his, _⟩)
      · exact ⟨_, rfl, s_asI (s_chk c_nil (s_ret ⟨p, B, X, h, l1, cr, [], rfl, hB, hR, hRl, hn, hz.mono (by omega), by rw [List.append_nil]; exact H.sub (by repeat (first | exact sb_refl | exact sb_nil | refine sb_cons (by repeat (first | exact pick_head | apply pick_tail | apply pick_app)) ?_ | refine sb_app (by repeat (first | exact cut_head | exact cut_all | apply cut_tail | apply cut_app)) ?_ | exact sb_one (by repeat (first | exact cut_head | exact cut_all | apply cut_tail | apply cut_app))))⟩))⟩
      · exact absurd (hRl.is.1 his) hk
    · refine ⟨_, rfl, s_asI (s_chk (hc_cons H (b := n14) (by repeat (first | exact pick_head | apply pick_tail | apply pick_app)) rfl (hc_cons H (b := n14) (by repeat (first | exact pick_head | apply pick_tail | apply pick_app)) rfl c_nil)) ?_)⟩
      have H : Has w0 u (cr ++ (h' ++ (l' ++ (d ++ (cl n14 36 (ozr x) :: m))))) := H.sub (by repeat (first | exact sb_refl | exact sb_nil | refine sb_cons (by repeat (first | exact pick_head | apply pick_tail | apply pick_app)) ?_ | refine sb_app (by repeat (first | exact cut_head | exact cut_all | apply cut_tail | apply cut_app)) ?_ | exact sb_one (by repeat (first | exact cut_head | exact cut_all | apply cut_tail | apply cut_app))))
      refine s_call (rdrop_c (t := x.t) H hR (by omega)) ?_
      rintro _ u (⟨his, _⟩ | ⟨his, rfl, c', hR', H⟩)
      · rw [hRl.is.2 hk] at his
        cases his
      · exact ⟨_, rfl, s_asI (s_chk c_nil (s_ret ⟨p, _, _, h', l', c', d, rfl, hB', hR', hRl.drop his, hn, (hz.drop).mono (by omega), H.sub (by repeat (first | exact sb_refl | exact sb_nil | refine sb_cons (by repeat (first | exact pick_head | apply pick_tail | apply pick_app)) ?_ | refine sb_app (by repeat (first | exact cut_head | exact cut_all | apply cut_tail | apply cut_app)) ?_ | exact sb_one (by repeat (first | exact cut_head | exact cut_all | apply cut_tail | apply cut_app))))⟩))⟩
  · have H : Has w0 u (h ++ (l1 ++ (cl n14 36 (ozr x) :: (cr ++ m)))) := H.sub (by repeat (first | exact sb_refl | exact sb_nil | refine sb_cons (by repeat (first | exact pick_head | apply pick_tail | apply pick_app)) ?_ | refine sb_app (by repeat (first | exact cut_head | exact cut_all | apply cut_tail | apply cut_app)) ?_ | exact sb_one (by repeat (first | exact cut_head | exact cut_all | apply cut_tail | apply cut_app))))
    refine s_call (clone_k H hB) ?_
    rintro _ u ⟨p3, h3, rfl, hB3, H⟩
    refine ⟨_, rfl, s_asP (s_false rfl (h_ldI H (b := n14) (by repeat (first | exact pick_head | apply pick_tail | apply pick_app)) rfl (h_ldI H (b := n14) (by repeat (first | exact pick_head | apply pick_tail | apply pick_app)) rfl ?_)))⟩
    (refine h_new H fun n62 u H => ?_)
    have H : Has w0 u (h ++ (l1 ++ (cl n62 53 (encP [p77]) :: (h3 ++ (cl n14 36 (ozr x) :: (cr ++ m)))))) := H.sub (by repeat (first | exact sb_refl | exact sb_nil | refine sb_cons (by repeat (first | exact pick_head | apply pick_tail | apply pick_app)) ?_ | refine sb_app (by repeat (first | exact cut_head | exact cut_all | apply cut_tail | apply cut_app)) ?_ | exact sb_one (by repeat (first | exact cut_head | exact cut_all | apply cut_tail | apply cut_app))))
    generalize hm0 : (cl n62 53 (encP [p77]) :: (h3 ++ (cl n14 36 (ozr x) :: (cr ++ m)))) = m0 at H
    have h14 : ∀ {a : Hp}, ∃ r, Pick (cl n14 36 (ozr x)) (a ++ m0) r := fun {a} => by rw [← hm0]; exact ⟨_, pick_app (pick_tail (pick_app pick_head))⟩
    have hp0 := hok.p0
    refine s_call (R := fun e w' => ∃ (b : Bool) (z : Int) (B1 : BX) (h' l' d : Hp), e = .returned (.tuple #[.bool b, .int .i64 z]) ∧ BoxK p B1 h' l' ∧ Keeps l1 l' d ∧ Lz (i + 1) B1 ∧ B1.parts = B.parts ∧ Has w0 w' (h' ++ (l' ++ (d ++ m0)))) ?_ ?_
    · refine (put_k (t := x.t) (n := 0) (l := [p77]) H hB hz.sz hxt (by omega) (fun u2 H2 => rowsAt_cells (pr3 _) (sp := []) (H2.cells (b := n62) (by subst hm0; rw [List.append_nil]; exact pick_head))) (by intro q hq; simp at hq; subst hq; unfold InK p77; decide) rfl (by decide)).mono ?_
      rintro e u (⟨hbad, _, _⟩ | ⟨hgood, out, hp, (⟨_, rfl, H⟩ | ⟨hsame, h', l', d, rfl, hB', hKp, H⟩)⟩)
      · exact absurd ⟨by omega, by omega⟩ hbad
      · exact ⟨_, _, B, h, l1, [], rfl, hB, Keeps.refl _, hz.mono (by omega), rfl, H⟩
      · have := hp.len
        exact ⟨_, _, _, h', l', d, rfl, hB', hKp, hz.came (by simp at this; omega), rfl, H⟩
    clear H
    rintro _ u ⟨b1, z1, B1, h', l', d, rfl, hB1, hKp1, hz1, hp1, H⟩
    obtain ⟨_, hpk⟩ := h14 (a := h' ++ (l' ++ d))
    simp only [List.append_assoc] at hpk
    refine ⟨_, rfl, s_asU (s_req rfl (s_asB (s_asI (h_ldI H hpk rfl (h_ldI H hpk rfl ?_)))))⟩
    refine s_call (R := fun e w' => ∃ (z : Int) (B2 : BX) (h'' l'' d' : Hp), e = .returned (.int .i64 z) ∧ BoxK p B2 h'' l'' ∧ Keeps l1 l'' d' ∧ Lz (i + 2) B2 ∧ Has w0 w' (h'' ++ (l'' ++ (d' ++ m0)))) ?_ ?_
    · refine (need_k (t := x.t) (l := []) (m := d ++ m0) H hB1 hxt (fun u2 H2 => .inl rfl) rfl (by simp)).mono ?_
      rintro e u (⟨hbad, _, _⟩ | ⟨_, _, rfl, H⟩ | ⟨_, _, s, h'', l'', _, rfl, hB2, hKp2, H⟩)
      · exact absurd (by simp) hbad
      · exact ⟨_, B1, h', l', d, rfl, hB1, hKp1, hz1.mono (by omega), H⟩
      · exact ⟨_, _, h'', l'', d, rfl, hB2, hKp1.trans hKp2, hz1.need, H⟩
    clear H hpk
    rintro _ u ⟨z2, B2, h'', l'', d', rfl, hB2, hKp2, hz2, H⟩
    obtain ⟨_, hpk⟩ := h14 (a := h'' ++ (l'' ++ d'))
    simp only [List.append_assoc] at hpk
    refine ⟨_, rfl, s_asI (h_ldI H hpk rfl (h_ldI H hpk rfl ?_))⟩
    refine s_call (R := fun e w' => ∃ (z : Int) (h4 l4 d4 : Hp), e = .returned (.int .i64 z) ∧ Keeps l1 l4 d4 ∧ Has w0 w' (h4 ++ (l4 ++ (d4 ++ m0)))) ?_ ?_
    · refine (drop_k (t := x.t) (m := d' ++ m0) H hB2 (hz2.bxn (by omega)) hxt).mono ?_
      rintro e u (⟨_, rfl, H⟩ | ⟨_, rfl, h4, l4, d4, _, hKp4, H⟩)
      · exact ⟨_, h'', l'', d', rfl, hKp2, H⟩
      · refine ⟨_, h4, l4, d4 ++ d', rfl, hKp2.trans hKp4, ?_⟩
        rw [List.append_assoc]
        exact H
    clear H hpk
    rintro _ u ⟨z3, h4, l4, d4, rfl, hKp4, H⟩
    have H := hKp4.has H
    subst hm0
    refine ⟨_, rfl, s_asI (s_ret ⟨p3, B, X, h3, l1, cr, [], rfl, hB3, hR, hRl, hn, hz.mono (by omega), ?_⟩)⟩
    rw [List.append_nil]
    exact H.sub (by repeat (first | exact sb_refl | exact sb_nil | refine sb_cons (by repeat (first | exact pick_head | apply pick_tail | apply pick_app)) ?_ | refine sb_app (by repeat (first | exact cut_head | exact cut_all | apply cut_tail | apply cut_app)) ?_ | exact sb_one (by repeat (first | exact cut_head | exact cut_all | apply cut_tail | apply cut_app))))
end
end Go.Proofs.YtpjcfnnnciknmaaGreat

/- RemoteDoes: the walk, and the script that is handed in. -/
set_option linter.unusedVariables false
set_option linter.unusedSimpArgs false
set_option maxRecDepth 100000
set_option maxHeartbeats 4000000
namespace Go.Proofs.YtpjcfnnnciknmaaGreat
open Go hiding Expr
open Go.RowKit Tr

theorem new_bad {w : World} {n : Int} (h : n < 1 ∨ 8 < n) : Calls Tryz.prog 4 #[.int .i64 n] w fun e w' => e = .returned (.tuple #[.pointer none, .int .i64 1]) ∧ w = w' := by
  apply c4
  refine s_blk (fun vs W => False) ?_ ?_
  · rintro vs j W hf
    exact absurd hf id
  · refine s_ite (fun g => s_ret ⟨rfl, rfl⟩) (fun g => s_true ?_ (s_ret ⟨rfl, rfl⟩))
    simp at g ⊢
    omega
section
variable {w : World} {o : Option Addr} {S : List OZ} {cap : Nat} {n : Int}
theorem doz_c (hS : RowsAt w o 6 (S.map ozr)) (hin : ∀ x ∈ S, OzAt w x ∧ OzOk x) (hmax : S.length ≤ 1048576) :
    Calls Tryz.prog 3 #[.int .i64 n, .slice o S.length cap] w fun e w' => e = .returned (.bool true) ∧ Fr [] w w' := by
  apply c3
  by_cases hn : 1 ≤ n ∧ n ≤ 8
  · refine s_call (new_c hn.1 hn.2) ?_
    rintro _ u ⟨p, c, rfl, hB, H⟩
    obtain ⟨h, l1, rfl, hBk⟩ := hB.k
    clear hB
    refine ⟨_, rfl, s_asU (s_req rfl (s_asP (s_asI (s_call (rnew_c hn.1 hn.2) ?_))))⟩
    rintro _ u ⟨r2, cr, rfl, hR, H2⟩
    have H := H.join H2
    refine ⟨_, rfl, s_asU (s_req rfl (s_asP (s_asI ?_)))⟩
    have H : Has w u (h ++ (l1 ++ (cr ++ []))) := by
      have H1 : Has w u ((h ++ l1) ++ cr) := H.sub (by repeat (first | exact sb_refl | exact sb_nil | refine sb_cons (by repeat (first | exact pick_head | apply pick_tail | apply pick_app)) ?_ | refine sb_app (by repeat (first | exact cut_head | exact cut_all | apply cut_tail | apply cut_app)) ?_ | exact sb_one (by repeat (first | exact cut_head | exact cut_all | apply cut_tail | apply cut_app))))
      rw [List.append_assoc] at H1
      rw [List.append_nil]
      exact H1
    refine s_blk (fun vs W => vs = [] ∧ Has w W (h ++ (l1 ++ (cr ++ [])))) ?_ ?_
    · clear H H2
      rintro _ j W ⟨rfl, H⟩
      refine s_false rfl ?_
      refine s_loop (fun vs W => ∃ (i p : Nat) (B : BX) (X : List KN) (h l1 cr mm : Hp), vs = [.pointer (some ⟨p, 0, none⟩), .int .i64 i] ∧ i ≤ S.length ∧ BoxK p B h l1 ∧ RkAt r2 n X cr ∧ Rl B X ∧ B.parts = n ∧ Lz i B ∧ Has w W (h ++ (l1 ++ (cr ++ mm)))) (fun vs _ => S.length - (intOf (vs.getD 1 undef)).toNat)
        ⟨0, p, emptyB n, [], h, l1, cr, [], rfl, by omega, hBk, hR, Rl.empty, rfl, Lz.empty, H⟩ ?_
      clear H hBk hR
      rintro _ j W ⟨i, p, B, X, h, l1, cr, mm, rfl, hi, hB, hR, hRl, hBn, hz, H⟩
      refine s_asP (s_asI (s_ite (fun g1 => ?_) (fun g1 => s_ret ⟨rfl, H.base⟩)))
      simp only [decide_eq_true_eq] at g1
      have hlt : i < S.length := by omega
      obtain ⟨x, hx⟩ : ∃ x, S[i]? = some x := ⟨_, List.getElem?_eq_getElem hlt⟩
      obtain ⟨hxA, hxO⟩ := hin x (List.mem_of_getElem? hx)
      obtain ⟨g, off, rfl, _, hc⟩ := (H.rows hS).at (j := i) (r := ozr x) (by rw [List.getElem?_map, hx]; rfl)
      refine s_req ⟨by omega, by omega⟩ (s_sm (s_loadI (hc 0 _ rfl) (s_loadI (hc 1 _ rfl) (s_loadI (hc 2 _ rfl) (s_loadI (hc 3 _ rfl) (s_loadS (hc 4 _ rfl) (s_loadS (hc 5 _ rfl) ?_)))))))
      (refine h_new H fun n30 u H => ?_)
      iterate 6 refine h_st H (b := n30) (by repeat (first | exact pick_head | apply pick_tail | apply pick_app)) (by first | (simp; done) | exact Nat.le_of_ble_eq_true rfl) rfl fun u H => ?_
      refine h_ldI H (b := n30) (by repeat (first | exact pick_head | apply pick_tail | apply pick_app)) rfl (h_ldI H (b := n30) (by repeat (first | exact pick_head | apply pick_tail | apply pick_app)) rfl (h_ldI H (b := n30) (by repeat (first | exact pick_head | apply pick_tail | apply pick_app)) rfl (h_ldI H (b := n30) (by repeat (first | exact pick_head | apply pick_tail | apply pick_app)) rfl (h_ldS H (b := n30) (by repeat (first | exact pick_head | apply pick_tail | apply pick_app)) rfl (h_ldS H (b := n30) (by repeat (first | exact pick_head | apply pick_tail | apply pick_app)) rfl ?_)))))
      have H : Has w u (h ++ (l1 ++ (cr ++ (cl n30 36 (ozr x) :: mm)))) := H.sub (by repeat (first | exact sb_refl | exact sb_nil | refine sb_cons (by repeat (first | exact pick_head | apply pick_tail | apply pick_app)) ?_ | refine sb_app (by repeat (first | exact cut_head | exact cut_all | apply cut_tail | apply cut_app)) ?_ | exact sb_one (by repeat (first | exact cut_head | exact cut_all | apply cut_tail | apply cut_app))))
      refine s_call (step_c H hB hR hRl hBn hz (by omega) hxO hxA) ?_
      rintro _ u ⟨p', B', X', h', l', cr', m', rfl, hB', hR', hRl', hBn', hz', H⟩
      refine ⟨_, rfl, s_asU (s_req rfl (s_asP (s_asB (s_false rfl ?_))))⟩
      have H : Has w u (cl n30 36 (ozr x) :: (h' ++ (l' ++ (cr' ++ (mm ++ m'))))) := H.sub (by repeat (first | exact sb_refl | exact sb_nil | refine sb_cons (by repeat (first | exact pick_head | apply pick_tail | apply pick_app)) ?_ | refine sb_app (by repeat (first | exact cut_head | exact cut_all | apply cut_tail | apply cut_app)) ?_ | exact sb_one (by repeat (first | exact cut_head | exact cut_all | apply cut_tail | apply cut_app))))
      refine h_ldI H (b := n30) (by repeat (first | exact pick_head | apply pick_tail | apply pick_app)) rfl (h_ldI H (b := n30) (by repeat (first | exact pick_head | apply pick_tail | apply pick_app)) rfl ?_)
      have hok' : BxOk B' := by obtain ⟨_, _, _, _, _, _, _, _, _, _, hok⟩ := hB'; exact hok
      have hXl := hz'.len hRl'
      have H3 : Has w u ((h' ++ l') ++ (cl n30 36 (ozr x) :: (cr' ++ (mm ++ m')))) := by
        rw [List.append_assoc]
        exact H.sub (by repeat (first | exact sb_refl | exact sb_nil | refine sb_cons (by repeat (first | exact pick_head | apply pick_tail | apply pick_app)) ?_ | refine sb_app (by repeat (first | exact cut_head | exact cut_all | apply cut_tail | apply cut_app)) ?_ | exact sb_one (by repeat (first | exact cut_head | exact cut_all | apply cut_tail | apply cut_app))))
      refine s_call (equal_c (t := x.t) (boxW_of H3 cut_head hB'.at) (hz'.bxn (by omega)) hok' (RkAt.rw H (c := cr') (by repeat (first | exact cut_head | exact cut_all | apply cut_tail | apply cut_app)) hR') hRl' (hz'.ls hRl') (by omega) hxO.t) ?_
      rintro _ u ⟨rfl, f⟩
      have H := H.fr0 f
      refine ⟨_, rfl, s_asB (s_false rfl (s_next (by first | exact ⟨rfl, rfl⟩ | trivial) ?_))⟩
      simp (config := { decide := true }) only [if_true, if_false]
      exact ⟨⟨i + 1, p', B', X', h', l', cr', _, by rw [w_succ (by omega)], by omega, hB', hR', hRl', hBn', hz', H.sub (m2 := h' ++ (l' ++ (cr' ++ (mm ++ m')))) (by repeat (first | exact sb_refl | exact sb_nil | refine sb_cons (by repeat (first | exact pick_head | apply pick_tail | apply pick_app)) ?_ | refine sb_app (by repeat (first | exact cut_head | exact cut_all | apply cut_tail | apply cut_app)) ?_ | exact sb_one (by repeat (first | exact cut_head | exact cut_all | apply cut_tail | apply cut_app))))⟩, by rw [w_succ (by omega)]; simp [intOf] <;> omega⟩
    · refine s_call begun_c ?_
      rintro _ u ⟨rfl, f⟩
      have H := H.fr0 f
      refine ⟨_, rfl, s_asB (s_false rfl (s_false (by simp) (s_false rfl (s_next (by first | exact ⟨rfl, rfl⟩ | trivial) ?_))))⟩
      simp (config := { decide := true }) only [if_true, if_false]
      exact ⟨trivial, H⟩
  · have hn : n < 1 ∨ 8 < n := by omega
    refine s_call (new_bad hn) ?_
    rintro _ _ ⟨rfl, rfl⟩
    refine ⟨_, rfl, s_asU (s_req rfl (s_asP (s_asI (s_call (rnew_bad hn) ?_))))⟩
    rintro _ _ ⟨rfl, rfl⟩
    refine ⟨_, rfl, s_asU (s_req rfl (s_asP (s_asI (s_blk (fun vs W => Fr [] w W) ?_ ?_))))⟩
    · rintro vs j W f
      exact s_true rfl (s_ret ⟨rfl, f⟩)
    · refine s_call begun_c ?_
      rintro _ u ⟨rfl, f⟩
      refine ⟨_, rfl, s_asB (s_false rfl (s_false (by simp) (s_false rfl (s_next (by first | exact ⟨rfl, rfl⟩ | trivial) ?_))))⟩
      simp (config := { decide := true }) only [if_true, if_false]
      exact f
end

/-! ### The script that is handed in -/
abbrev lfOzU : List DLeaf := [.flat (.int .i64), .flat (.int .i64), .flat (.int .i64), .flat (.int .i64), .lst [.flat (.int .i64)] 134217727, .lst [.flat (.int .i32), .flat (.int .i64), .flat (.int .i64)] 134217727]
theorem intsZ_of {w : World} (rows : List (List Value)) (h : ∀ r ∈ rows, FitsD w [.flat (.int .i64)] r) : ∃ l : List Int, rows = l.map ir := by
  induction rows with
  | nil => exact ⟨[], rfl⟩
  | cons r rows ih =>
    obtain ⟨l, rfl⟩ := ih (fun r hr => h r (by simp [hr]))
    obtain ⟨a, _, rfl, w1, h1⟩ := (h r (by simp)).int
    obtain rfl := h1.nil
    exact ⟨a :: l, rfl⟩
theorem pairsZ_of {w : World} (rows : List (List Value)) (h : ∀ r ∈ rows, FitsD w [.flat (.int .i32), .flat (.int .i64), .flat (.int .i64)] r) : ∃ l : List PR, rows = l.map pr ∧ ∀ y ∈ l, InK y.k := by
  induction rows with
  | nil => exact ⟨[], rfl, by simp⟩
  | cons r rows ih =>
    obtain ⟨l, rfl, hl⟩ := ih (fun r hr => h r (by simp [hr]))
    obtain ⟨a, _, rfl, w1, h1⟩ := (h r (by simp)).int
    obtain ⟨b, _, rfl, w2, h2⟩ := h1.int
    obtain ⟨x, _, rfl, _, h3⟩ := h2.int
    obtain rfl := h3.nil
    refine ⟨⟨⟨a, b⟩, x⟩ :: l, rfl, fun y hy => ?_⟩
    rcases List.mem_cons.1 hy with rfl | hy
    · simp [Lit.wf, IntKind.min, IntKind.max, IntKind.signed, IntKind.bits] at w1 w2
      unfold InK
      simp only
      omega
    · exact hl y hy
theorem ozU_of {w : World} {vs : List Value} (h : FitsD w lfOzU vs) : ∃ x : OZ, vs = ozr x ∧ OzAt w x ∧ OzOk x := by
  obtain ⟨d, _, rfl, _, h1⟩ := h.int
  obtain ⟨a, _, rfl, w1, h2⟩ := h1.int
  obtain ⟨b, _, rfl, w2, h3⟩ := h2.int
  obtain ⟨q, _, rfl, w3, h4⟩ := h3.int
  obtain ⟨fo, flen, fc, frows, _, rfl, hfl, _, hfb, hfa, hfr, h5⟩ := h4.lst
  obtain ⟨po, plen, pc, prows, _, rfl, hpl, _, hpb, hpa, hpr, h6⟩ := h5.lst
  obtain rfl := h6.nil
  obtain ⟨fl, rfl⟩ := intsZ_of frows hfr
  obtain ⟨pl, rfl, hk⟩ := pairsZ_of prows hpr
  rw [List.length_map] at hfl hpl
  subst hfl hpl
  simp only [reachBytes] at hfb hpb
  simp [Lit.wf, IntKind.min, IntKind.max, IntKind.signed, IntKind.bits] at w1 w2 w3
  exact ⟨⟨d, ⟨a, b⟩, q, fo, fc, fl, po, pc, pl⟩, rfl, ⟨hfa, hpa⟩, ⟨by unfold InI; simp only; omega, by simp only; omega, by simp only; omega, by simp only; omega, hk⟩⟩
theorem ozsU_of {w : World} (rows : List (List Value)) (h : ∀ r ∈ rows, FitsD w lfOzU r) : ∃ X : List OZ, rows = X.map ozr ∧ ∀ x ∈ X, OzAt w x ∧ OzOk x := by
  induction rows with
  | nil => exact ⟨[], rfl, by simp⟩
  | cons r rows ih =>
    obtain ⟨X, rfl, h1⟩ := ih (fun r hr => h r (by simp [hr]))
    obtain ⟨x, rfl, h3, h4⟩ := ozU_of (h r (by simp))
    refine ⟨x :: X, rfl, fun y hy => ?_⟩
    rcases List.mem_cons.1 hy with rfl | hy
    · exact ⟨h3, h4⟩
    · exact h1 y hy
end Go.Proofs.YtpjcfnnnciknmaaGreat
