/- All rows of the program's table, and how many. -/
import Derived.Test.YtcmdbaafnbdpbaaTableW
set_option linter.unusedVariables false
set_option linter.unusedSimpArgs false
set_option maxRecDepth 100000
set_option maxHeartbeats 2000000
namespace Go.Proofs.Ytcmdbaafnbdpbaa
open Go hiding Expr
open Go.RowKit Tr

def arr (x : AR) : List Value := [.int .i64 x.s, .int .i64 x.m, .int .i64 x.e, .slice x.o x.vals.length x.cap, .int .i64 x.slot, .int .i64 x.place]
theorem arr6 (X : List AR) : ∀ r ∈ X.map arr, r.length = 6 := by
  intro r hr
  obtain ⟨x, _, rfl⟩ := List.mem_map.1 hr
  rfl
theorem arr_one (X : List AR) : ∀ r ∈ X.map arr, ∀ u ∈ r, u.oneCell' = true := by
  intro r hr u hu
  obtain ⟨x, _, rfl⟩ := List.mem_map.1 hr
  simp [arr] at hu
  rcases hu with rfl | rfl | rfl | rfl | rfl | rfl <;> rfl
def encA (X : List AR) : List Value := (X.map arr).flatten
theorem encA_append (a b : List AR) : encA (a ++ b) = encA a ++ encA b := by simp [encA]
theorem elemR : Elem Try.prog 42 56 (.agg ⟨[.int .i64 0, .int .i64 0, .int .i64 0, .slice none 0 0, .int .i64 0, .int .i64 0]⟩) 6 64 := ⟨by kernel_rfl, by kernel_rfl, rfl, by decide⟩
/-- Rows that lie somewhere; their values elsewhere. -/
def RowsAt' (w : World) (o : Option Addr) (X : List AR) : Prop := RowsAt w o 6 (X.map arr)
/-- Rows of one's own, with values of one's own. -/
def RowsC (v : Value) (R : List Rw) (c : Hp) : Prop := ∃ (X : List AR) (cr : Hp) (cs : List Hp), c = cr ++ cs.flatten ∧ X.map AR.row = R ∧ OwnC 56 6 v R.length (encA X) cr ∧ Vals X cs

theorem Vals.nil : Vals [] [] := ⟨rfl, by simp⟩
theorem Vals.snoc {X : List AR} {cs : List Hp} {x : AR} {c : Hp} (hv : Vals X cs) (hx : OwnV x c) : Vals (X ++ [x]) (cs ++ [c]) := by
  refine ⟨by simp [hv.1], fun i y d hy hd => ?_⟩
  rcases Nat.lt_or_ge i X.length with h | h
  · rw [List.getElem?_append_left h] at hy
    rw [List.getElem?_append_left (by rw [hv.1]; exact h)] at hd
    exact hv.2 i y d hy hd
  · rw [List.getElem?_append_right h] at hy
    rw [List.getElem?_append_right (by rw [hv.1]; exact h), hv.1] at hd
    cases hk : i - X.length with
    | zero =>
      rw [hk] at hy hd
      simp at hy hd
      subst hy hd
      exact hx
    | succ k => rw [hk] at hy; simp at hy

section
variable {w w' w0 : World} {m c : Hp} {p : Nat} {R : List Rw} {s q : Int}
theorem all_c (H : Has w0 w (c ++ m)) (hT : Tab p R c) (hI : InvR R) : Calls Try.prog 30 #[.pointer (some ⟨p, 0, none⟩)] w fun e w' => ∃ v c', e = .returned v ∧ RowsC v R c' ∧ Has w0 w' (c' ++ (c ++ m)) := by
  apply c30
  refine s_call (none_c H hT) ?_
  rintro _ _ ⟨rfl, rfl⟩
  refine ⟨_, rfl, s_asB (s_false rfl ?_)⟩
  obtain ⟨D, b, om, lv, cl', cs, rfl, hM, ho, hV, hP⟩ := hT
  have H := assoc_to H
  have hRl := hI.len
  have hol : OwnC 2 1 lv (R.map (·.s)).length (ints (R.map (·.s))) cl' := by rw [List.length_map]; exact ho
  obtain ⟨ol, capl, rfl⟩ := ho.slice
  refine h_ldS H (by repeat (first | exact pick_head | apply pick_tail | apply pick_app)) rfl ?_
  refine s_loop (fun vs W => ∃ (i : Nat) (v : Value) (X : List AR) (cr : Hp) (csx : List Hp), vs = [v, .int .i64 i] ∧ i ≤ R.length ∧ X.map AR.row = R.take i ∧ OwnC 56 6 v i (encA X) cr ∧ Vals X csx ∧
      Has w0 W (cr ++ (csx.flatten ++ (cl p 61 [.map (some b), .slice ol R.length capl] :: (b, om) :: (cl' ++ (cs.flatten ++ m))))))
    (fun vs _ => R.length - (intOf (vs.getD 1 undef)).toNat) ⟨0, _, [], [], [], rfl, by omega, rfl, OwnC.nil, Vals.nil, H⟩ ?_
  rintro _ j W ⟨i, v, X, cr, csx, rfl, hi, hXR, hox, hVx, H⟩
  obtain ⟨ov, cv, rfl⟩ := hox.slice
  refine s_asS (s_asI (s_ite (fun g1 => ?_) (fun g1 => ?_)))
  · simp only [decide_eq_true_eq] at g1
    have hlt : i < R.length := by omega
    obtain ⟨r, hr⟩ : ∃ r, R[i]? = some r := ⟨_, List.getElem?_eq_getElem hlt⟩
    have hol' : OwnC 2 1 (.slice ol (R.map (·.s)).length capl) (R.map (·.s)).length (ints (R.map (·.s))) cl' := by rw [List.length_map]; exact ho
    obtain ⟨g, off, rfl, p1⟩ := ValsAt.get (valsAt_own hol' H (cut_app (cut_app (cut_tail (cut_tail cut_head))))) (i := i) (x := r.s) (by rw [List.getElem?_map, hr]; rfl)
    have hrm := List.mem_of_getElem? hr
    have hrok := hI.ok r hrm
    obtain ⟨lk, hkey⟩ := keyI (a := r.s) ⟨by have := hrok.1; omega, by have := hrok.2.1; omega⟩
    obtain ⟨x, h1, h2, h3, h4⟩ : ∃ x, getAt (D.map kv) r.s = some x ∧ x ∈ D ∧ x.s = r.s ∧ lookR R r.s = some x.row := by
      rcases get_tab (s := r.s) hP hI.up with h | ⟨_, h⟩
      · exact h
      · rw [(lookR_mem hI.up).2 ⟨hrm, rfl⟩] at h
        cases h
    have hxr : x.row = r := by
      rw [(lookR_mem hI.up).2 ⟨hrm, rfl⟩] at h4
      cases h4
      rfl
    obtain ⟨k, hk, hke⟩ := List.getElem_of_mem h2
    have hci : k < cs.length := by rw [hV.1]; exact hk
    have hown := hV.2 k x cs[k] (by rw [List.getElem?_eq_getElem hk, hke]) (List.getElem?_eq_getElem hci)
    have hok := (hI.ok _ (row_mem hP h2)).2.2.2.2
    refine s_req ⟨by omega, g1⟩ (s_sm (s_loadI p1 (h_drew H fun u H => h_ldM H (by repeat (first | exact pick_head | apply pick_tail | apply pick_app)) rfl (h_ldM H (by repeat (first | exact pick_head | apply pick_tail | apply pick_app)) rfl ⟨?_, ?_⟩))))
    · skip
      refine h_look1 (a := r.s) (kf := kI) (vf := entV) H (b := b) (o := om) (by repeat (first | exact pick_head | apply pick_tail | apply pick_app)) hM keyed2 Try.underlying59 (zero69 _) (kI_inj r.s D) hkey ?_
      rw [h1]
      refine s_asA (s_req rfl (s_asI (s_asI (s_asS (s_asI (s_asI ?_))))))
      refine s_chk (hc_cons H (by repeat (first | exact pick_head | apply pick_tail | apply pick_app)) rfl c_nil) ?_
      refine h_look1 (a := r.s) (kf := kI) (vf := entV) H (b := b) (o := om) (by repeat (first | exact pick_head | apply pick_tail | apply pick_app)) hM keyed2 Try.underlying59 (zero69 _) (kI_inj r.s D) hkey ?_
      rw [h1]
      refine s_asA (s_req rfl (s_asI (s_asI (s_asS (s_asI (s_asI ?_))))))
      refine s_chk c_nil ?_
      refine s_call (clone_c x.e x.slot x.place (valsAt_own hown H (cut_app (cut_app (cut_tail (cut_tail (cut_app (cut_app' (cut_flat (List.getElem?_eq_getElem hci))))))))) rfl hok) ?_
      rintro _ u ⟨o', cap', c', rfl, ho', Hc⟩
      have H := H.join Hc
      refine ⟨_, rfl, s_asA (s_req rfl (s_asI (s_asS (s_asI (s_asI ?_)))))⟩
      refine s_chk c_nil ?_
      (refine h_new H fun n44 u H => ?_)
      refine s_chk c_nil ?_
      refine h_app1 elemR H (by repeat (first | exact cut_head | exact cut_all | apply cut_tail | apply cut_app)) hox (by repeat (first | exact pick_head | apply pick_tail | apply pick_app)) rfl (arr_one [⟨r.s, x.m, x.e, o', cap', x.vals, x.slot, x.place⟩] _ (List.mem_singleton.2 rfl)) (by omega) (by omega) ?_
      intro v' cr' u hox' H
      obtain ⟨ov', cv', rfl⟩ := hox'.slice
      refine s_asS (s_chk c_nil (s_next (by first | exact ⟨rfl, rfl⟩ | trivial) ?_))
      simp (config := { decide := true }) only [if_true, if_false]
      refine ⟨⟨i + 1, _, X ++ [⟨r.s, x.m, x.e, o', cap', x.vals, x.slot, x.place⟩], cr', csx ++ [c'], by rw [w_succ (by omega)], by omega, ?_, ?_, hVx.snoc (x := ⟨r.s, x.m, x.e, o', cap', x.vals, x.slot, x.place⟩) ho', ?_⟩, by rw [w_succ (by omega)]; simp [intOf] <;> omega⟩
      · rw [List.map_append, hXR, List.take_add_one, hr, Option.toList_some]
        have hx5 : x.row = r := hxr
        rw [← hx5]
        rfl
      · rw [encA_append]
        exact hox'
      · rw [List.flatten_append, List.flatten_singleton, List.append_assoc]
        exact H.sub (by repeat (first | exact sb_refl | exact sb_nil | refine sb_cons (by repeat (first | exact pick_head | apply pick_tail | apply pick_app)) ?_ | refine sb_app (by repeat (first | exact cut_head | exact cut_all | apply cut_tail | apply cut_app)) ?_ | exact sb_one (by repeat (first | exact cut_head | exact cut_all | apply cut_tail | apply cut_app))))
    · skip
      refine h_look1 (a := r.s) (kf := kI) (vf := entV) H (b := b) (o := om) (by repeat (first | exact pick_head | apply pick_tail | apply pick_app)) hM keyed2 Try.underlying59 (zero69 _) (kI_inj r.s D) hkey ?_
      rw [h1]
      refine s_asA (s_req rfl (s_asI (s_asI (s_asS (s_asI (s_asI ?_))))))
      refine s_chk (hc_cons H (by repeat (first | exact pick_head | apply pick_tail | apply pick_app)) rfl c_nil) ⟨?_, ?_⟩
      · skip
        refine h_look1 (a := r.s) (kf := kI) (vf := entV) H (b := b) (o := om) (by repeat (first | exact pick_head | apply pick_tail | apply pick_app)) hM keyed2 Try.underlying59 (zero69 _) (kI_inj r.s D) hkey ?_
        rw [h1]
        refine s_asA (s_req rfl (s_asI (s_asI (s_asS (s_asI (s_asI ?_))))))
        refine s_chk c_nil ?_
        refine s_call (clone_c x.e x.slot x.place (valsAt_own hown H (cut_app (cut_app (cut_tail (cut_tail (cut_app (cut_app' (cut_flat (List.getElem?_eq_getElem hci))))))))) rfl hok) ?_
        rintro _ u ⟨o', cap', c', rfl, ho', Hc⟩
        have H := H.join Hc
        refine ⟨_, rfl, s_asA (s_req rfl (s_asI (s_asS (s_asI (s_asI ?_)))))⟩
        refine s_chk c_nil ?_
        (refine h_new H fun n44 u H => ?_)
        refine s_chk c_nil ?_
        refine h_app1 elemR H (by repeat (first | exact cut_head | exact cut_all | apply cut_tail | apply cut_app)) hox (by repeat (first | exact pick_head | apply pick_tail | apply pick_app)) rfl (arr_one [⟨r.s, x.m, x.e, o', cap', x.vals, x.slot, x.place⟩] _ (List.mem_singleton.2 rfl)) (by omega) (by omega) ?_
        intro v' cr' u hox' H
        obtain ⟨ov', cv', rfl⟩ := hox'.slice
        refine s_asS (s_chk c_nil (s_next (by first | exact ⟨rfl, rfl⟩ | trivial) ?_))
        simp (config := { decide := true }) only [if_true, if_false]
        refine ⟨⟨i + 1, _, X ++ [⟨r.s, x.m, x.e, o', cap', x.vals, x.slot, x.place⟩], cr', csx ++ [c'], by rw [w_succ (by omega)], by omega, ?_, ?_, hVx.snoc (x := ⟨r.s, x.m, x.e, o', cap', x.vals, x.slot, x.place⟩) ho', ?_⟩, by rw [w_succ (by omega)]; simp [intOf] <;> omega⟩
        · rw [List.map_append, hXR, List.take_add_one, hr, Option.toList_some]
          have hx5 : x.row = r := hxr
          rw [← hx5]
          rfl
        · rw [encA_append]
          exact hox'
        · rw [List.flatten_append, List.flatten_singleton, List.append_assoc]
          exact H.sub (by repeat (first | exact sb_refl | exact sb_nil | refine sb_cons (by repeat (first | exact pick_head | apply pick_tail | apply pick_app)) ?_ | refine sb_app (by repeat (first | exact cut_head | exact cut_all | apply cut_tail | apply cut_app)) ?_ | exact sb_one (by repeat (first | exact cut_head | exact cut_all | apply cut_tail | apply cut_app))))
      · skip
        refine s_call (clone_c x.e x.slot x.place (valsAt_own hown H (cut_app (cut_app (cut_tail (cut_tail (cut_app (cut_app' (cut_flat (List.getElem?_eq_getElem hci))))))))) rfl hok) ?_
        rintro _ u ⟨o', cap', c', rfl, ho', Hc⟩
        have H := H.join Hc
        refine ⟨_, rfl, s_asA (s_req rfl (s_asI (s_asS (s_asI (s_asI ?_)))))⟩
        refine s_chk (hc_cons H (by repeat (first | exact pick_head | apply pick_tail | apply pick_app)) rfl c_nil) ?_
        refine h_look1 (a := r.s) (kf := kI) (vf := entV) H (b := b) (o := om) (by repeat (first | exact pick_head | apply pick_tail | apply pick_app)) hM keyed2 Try.underlying59 (zero69 _) (kI_inj r.s D) hkey ?_
        rw [h1]
        refine s_asA (s_req rfl (s_asI (s_asI (s_asS (s_asI (s_asI ?_))))))
        refine s_chk c_nil ?_
        (refine h_new H fun n44 u H => ?_)
        refine s_chk c_nil ?_
        refine h_app1 elemR H (by repeat (first | exact cut_head | exact cut_all | apply cut_tail | apply cut_app)) hox (by repeat (first | exact pick_head | apply pick_tail | apply pick_app)) rfl (arr_one [⟨r.s, x.m, x.e, o', cap', x.vals, x.slot, x.place⟩] _ (List.mem_singleton.2 rfl)) (by omega) (by omega) ?_
        intro v' cr' u hox' H
        obtain ⟨ov', cv', rfl⟩ := hox'.slice
        refine s_asS (s_chk c_nil (s_next (by first | exact ⟨rfl, rfl⟩ | trivial) ?_))
        simp (config := { decide := true }) only [if_true, if_false]
        refine ⟨⟨i + 1, _, X ++ [⟨r.s, x.m, x.e, o', cap', x.vals, x.slot, x.place⟩], cr', csx ++ [c'], by rw [w_succ (by omega)], by omega, ?_, ?_, hVx.snoc (x := ⟨r.s, x.m, x.e, o', cap', x.vals, x.slot, x.place⟩) ho', ?_⟩, by rw [w_succ (by omega)]; simp [intOf] <;> omega⟩
        · rw [List.map_append, hXR, List.take_add_one, hr, Option.toList_some]
          have hx5 : x.row = r := hxr
          rw [← hx5]
          rfl
        · rw [encA_append]
          exact hox'
        · rw [List.flatten_append, List.flatten_singleton, List.append_assoc]
          exact H.sub (by repeat (first | exact sb_refl | exact sb_nil | refine sb_cons (by repeat (first | exact pick_head | apply pick_tail | apply pick_app)) ?_ | refine sb_app (by repeat (first | exact cut_head | exact cut_all | apply cut_tail | apply cut_app)) ?_ | exact sb_one (by repeat (first | exact cut_head | exact cut_all | apply cut_tail | apply cut_app))))
  · simp only [decide_eq_false_iff_not] at g1
    obtain rfl : i = R.length := by omega
    rw [List.take_length] at hXR
    refine s_ret ⟨_, cr ++ csx.flatten, rfl, ⟨X, cr, csx, rfl, hXR, hox, hVx⟩, ?_⟩
    rw [List.append_assoc]
    have : cl p 61 [.map (some b), .slice ol R.length capl] :: (b, om) :: (cl' ++ cs.flatten) ++ m = cl p 61 [.map (some b), .slice ol R.length capl] :: (b, om) :: (cl' ++ (cs.flatten ++ m)) := by simp
    rw [this]
    exact H
theorem len_c (H : Has w0 w (c ++ m)) (hT : Tab p R c) (hI : InvR R) : Calls Try.prog 15 #[.pointer (some ⟨p, 0, none⟩)] w fun e w' => e = .returned (.int .i64 (R.length : Int)) ∧ Has w0 w' (c ++ m) := by
  apply c15
  refine s_call (all_c H hT hI) ?_
  rintro _ u ⟨v, c', rfl, ⟨X, cr, cs, rfl, hX, ho, hV⟩, H⟩
  obtain ⟨ov, cv, rfl⟩ := ho.slice
  exact ⟨_, rfl, s_asS (s_ret ⟨rfl, H.right⟩)⟩
end
end Go.Proofs.Ytcmdbaafnbdpbaa
