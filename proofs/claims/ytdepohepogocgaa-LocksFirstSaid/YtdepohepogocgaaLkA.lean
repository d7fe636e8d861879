/- All that are ready, as a sequence; lists held against each other. -/
import Derived.Test.YtdepohepogocgaaLkR
set_option linter.unusedVariables false
set_option linter.unusedSimpArgs false
set_option maxRecDepth 100000
set_option maxHeartbeats 1000000
namespace Go.Proofs.Ytdepohepogocgaa
open Go hiding Expr
open Go.RowKit Tr

theorem Wt.ext' {a b : Wt} (h1 : a.t = b.t) (h2 : a.x = b.x) (h3 : a.h = b.h) : a = b := by cases a; cases b; simp_all
def toldI (l : List Ix) : List (List Value) := l.map (fun t => [.agg ⟨ir t⟩])
theorem toldI_get {l : List Ix} {i : Nat} {av : List Value} (h : (toldI l)[i]? = some av) : ∃ t, l[i]? = some t ∧ av = [.agg ⟨ir t⟩] := by
  unfold toldI at h
  rw [List.getElem?_map] at h
  obtain ⟨t, ht, rfl⟩ := Option.map_eq_some_iff.1 h
  exact ⟨t, ht, rfl⟩

theorem ids_seq {p : Nat} {ty : TypeId} {o : Option Addr} {cap : Nat} {l : List Ix} (hmax : l.length < 9223372036854775807) :
    Seq Try.prog 46 [.pointer (some ⟨p, 0, none⟩)] (fun W => Cells W p ty [.slice o l.length cap] ∧ RowsAt W o 2 (l.map ir)) (toldI l) := by
  intro f w I S hh hK h0 hY
  apply c46
  refine s_ldS (hK _ _ h0).1 rfl ?_
  refine s_loop (fun vs W => ∃ i : Nat, vs = [.int .i64 i] ∧ i ≤ l.length ∧ I i W) (fun vs _ => l.length - (intOf (vs.getD 0 undef)).toNat) ⟨0, rfl, by omega, h0⟩ ?_
  rintro _ j W ⟨i, rfl, hil, hI⟩
  obtain ⟨hp, hb⟩ := hK _ W hI
  refine s_asI (s_ite (fun g1 => ?_) (fun g1 => s_ret ?_))
  · simp only [decide_eq_true_eq] at g1
    have hlt : i < l.length := by omega
    obtain ⟨t, ht⟩ : ∃ t, l[i]? = some t := ⟨_, List.getElem?_eq_getElem hlt⟩
    obtain ⟨g, off, he, _, hc⟩ := hb.at (j := i) (r := ir t) (by rw [List.getElem?_map, ht]; rfl)
    refine s_req ⟨by omega, g1⟩ ⟨g, off, he, s_loadI (hc 0 _ rfl) (s_loadI (hc 1 _ rfl) ?_)⟩
    have H := Has.init W
    (refine h_new H fun n13 u H => ?_)
    iterate 2 refine h_st H (by repeat (first | exact pick_head | apply pick_tail | apply pick_app)) (by first | (simp; done) | exact Nat.le_of_ble_eq_true rfl) rfl fun u H => ?_
    refine h_ldI H (by repeat (first | exact pick_head | apply pick_tail | apply pick_app)) rfl (h_ldI H (by repeat (first | exact pick_head | apply pick_tail | apply pick_app)) rfl ?_)
    refine (hY i u [.agg ⟨ir t⟩] (hh.go' hI H.base) (by unfold toldI; rw [List.getElem?_map, ht]; rfl)).mono ?_
    rintro _ W' ⟨v, rfl, ⟨rfl, hI'⟩ | ⟨rfl, hS⟩⟩
    · refine ⟨_, rfl, s_asB (s_false rfl (s_next (by first | exact ⟨rfl, rfl⟩ | trivial) ?_))⟩
      simp only [if_true]
      exact ⟨⟨i + 1, by rw [w_succ (by omega)], by omega, hI'⟩, by rw [w_succ (by omega)]; simp [intOf] <;> omega⟩
    · exact ⟨_, rfl, s_asB (s_true rfl (s_ret ⟨⟨_, rfl⟩, .inr hS⟩))⟩
  · simp only [decide_eq_false_iff_not] at g1
    obtain rfl : i = l.length := by omega
    exact ⟨⟨_, rfl⟩, .inl (by simpa [toldI] using hI)⟩

section
variable {w : World} {p : Nat} {A : St}

theorem eqI_c {o o2 : Option Addr} {l1 l2 : List Ix} {n cap n2 cap2 : Nat} (h1 : RowsAt w o 2 (l1.map ir)) (h2 : RowsAt w o2 2 (l2.map ir)) (hn : n = l1.length) (hn2 : n2 = l2.length) (hmax : l1.length < 9223372036854775807) :
    Calls Try.prog 32 #[.slice o n cap, .slice o2 n2 cap2] w fun e w' => e = .returned (.bool (decide (l1 = l2))) ∧ Fr [] w w' := by
  subst hn hn2
  apply c32
  refine s_ite (fun g => ?_) (fun g => ?_)
  · simp only [bne_iff_ne, ne_eq] at g
    refine s_ret ⟨?_, Fr.refl _ _⟩
    have : l1 ≠ l2 := fun h => g (by rw [h])
    simp [this]
  · simp only [bne_eq_false_iff_eq] at g
    have hl : l1.length = l2.length := by omega
    refine s_loop (fun vs W => ∃ i : Nat, vs = [.int .i64 i] ∧ i ≤ l1.length ∧ l1.take i = l2.take i ∧ Has w W []) (fun vs _ => l1.length - (intOf (vs.getD 0 undef)).toNat) ⟨0, rfl, by omega, by simp, Has.init w⟩ ?_
    rintro _ j W ⟨i, rfl, hi, htk, H⟩
    refine s_asI (s_ite (fun g1 => ?_) (fun g1 => ?_))
    · simp only [decide_eq_true_eq] at g1
      obtain ⟨x, hx⟩ : ∃ x, l1[i]? = some x := ⟨_, List.getElem?_eq_getElem (by omega)⟩
      obtain ⟨y, hy⟩ : ∃ y, l2[i]? = some y := ⟨_, List.getElem?_eq_getElem (by omega)⟩
      refine h_drew H fun u H => ?_
      obtain ⟨ga, offa, ha, _, q⟩ := (RowsAt.fr h1 H.base).at (j := i) (r := ir x) (by rw [List.getElem?_map, hx]; rfl)
      obtain ⟨gb, offb, hb, _, r⟩ := (RowsAt.fr h2 H.base).at (j := i) (r := ir y) (by rw [List.getElem?_map, hy]; rfl)
      refine s_req ⟨by omega, g1⟩ ⟨ga, offa, ha, (s_loadI (q 0 _ rfl) (s_loadI (q 1 _ rfl) (s_req ⟨by omega, by omega⟩ ⟨gb, offb, hb, (s_loadI (r 0 _ rfl) (s_loadI (r 1 _ rfl) (s_ite (fun g2 => ?_) (fun g2 => s_next (by first | exact ⟨rfl, rfl⟩ | trivial) ?_))))⟩)))⟩
      · have g2 : ¬ x = y := fun h => by subst h; simp at g2
        refine s_ret ⟨?_, H.base⟩
        have : l1 ≠ l2 := fun h => g2 (by rw [h, hy] at hx; cases hx; rfl)
        simp [this]
      · have g2 : x = y := Ix.ext' (by simp at g2; exact g2.1) (by simp at g2; exact g2.2)
        simp (config := { decide := true }) only [if_true, if_false]
        refine ⟨⟨i + 1, by rw [w_succ (by omega)], by omega, ?_, H⟩, by rw [w_succ (by omega)]; simp [intOf] <;> omega⟩
        rw [List.take_add_one, List.take_add_one, htk, hx, hy, g2]
    · simp only [decide_eq_false_iff_not] at g1
      rw [List.take_of_length_le (by omega), List.take_of_length_le (by omega)] at htk
      exact s_ret ⟨by simp [htk], H.base⟩

theorem eqW_c {o o2 : Option Addr} {l1 l2 : List Wt} {n cap n2 cap2 : Nat} (h1 : RowsAt w o 4 (l1.map wtr)) (h2 : RowsAt w o2 4 (l2.map wtr)) (hn : n = l1.length) (hn2 : n2 = l2.length) (hmax : l1.length < 9223372036854775807) :
    Calls Try.prog 54 #[.slice o n cap, .slice o2 n2 cap2] w fun e w' => e = .returned (.bool (decide (l1 = l2))) ∧ Fr [] w w' := by
  subst hn hn2
  apply c54
  refine s_ite (fun g => ?_) (fun g => ?_)
  · simp only [bne_iff_ne, ne_eq] at g
    refine s_ret ⟨?_, Fr.refl _ _⟩
    have : l1 ≠ l2 := fun h => g (by rw [h])
    simp [this]
  · simp only [bne_eq_false_iff_eq] at g
    have hl : l1.length = l2.length := by omega
    refine s_loop (fun vs W => ∃ i : Nat, vs = [.int .i64 i] ∧ i ≤ l1.length ∧ l1.take i = l2.take i ∧ Has w W []) (fun vs _ => l1.length - (intOf (vs.getD 0 undef)).toNat) ⟨0, rfl, by omega, by simp, Has.init w⟩ ?_
    rintro _ j W ⟨i, rfl, hi, htk, H⟩
    refine s_asI (s_ite (fun g1 => ?_) (fun g1 => ?_))
    · simp only [decide_eq_true_eq] at g1
      obtain ⟨x, hx⟩ : ∃ x, l1[i]? = some x := ⟨_, List.getElem?_eq_getElem (by omega)⟩
      obtain ⟨y, hy⟩ : ∃ y, l2[i]? = some y := ⟨_, List.getElem?_eq_getElem (by omega)⟩
      refine h_drew H fun u H => ?_
      obtain ⟨ga, offa, ha, _, q⟩ := (RowsAt.fr h1 H.base).at (j := i) (r := wtr x) (by rw [List.getElem?_map, hx]; rfl)
      obtain ⟨gb, offb, hb, _, r⟩ := (RowsAt.fr h2 H.base).at (j := i) (r := wtr y) (by rw [List.getElem?_map, hy]; rfl)
      refine s_req ⟨by omega, g1⟩ ⟨ga, offa, ha, (s_loadI (q 0 _ rfl) (s_loadI (q 1 _ rfl) (s_loadB (q 2 _ rfl) (s_loadB (q 3 _ rfl) (s_req ⟨by omega, by omega⟩ ⟨gb, offb, hb, (s_loadI (r 0 _ rfl) (s_loadI (r 1 _ rfl) (s_loadB (r 2 _ rfl) (s_loadB (r 3 _ rfl) (s_ite (fun g2 => ?_) (fun g2 => s_next (by first | exact ⟨rfl, rfl⟩ | trivial) ?_))))))⟩)))))⟩
      · have g2 : ¬ x = y := fun h => by subst h; simp at g2
        refine s_ret ⟨?_, H.base⟩
        have : l1 ≠ l2 := fun h => g2 (by rw [h, hy] at hx; cases hx; rfl)
        simp [this]
      · have g2 : x = y := Wt.ext' (by simp at g2; exact Ix.ext' g2.1.1 g2.1.2) (by simp at g2; exact g2.2.1) (by simp at g2; exact g2.2.2)
        simp (config := { decide := true }) only [if_true, if_false]
        refine ⟨⟨i + 1, by rw [w_succ (by omega)], by omega, ?_, H⟩, by rw [w_succ (by omega)]; simp [intOf] <;> omega⟩
        rw [List.take_add_one, List.take_add_one, htk, hx, hy, g2]
    · simp only [decide_eq_false_iff_not] at g1
      rw [List.take_of_length_le (by omega), List.take_of_length_le (by omega)] at htk
      exact s_ret ⟨by simp [htk], H.base⟩

theorem eqKs_c {o o2 : Option Addr} {l1 l2 : List K} {n cap n2 cap2 : Nat} (h1 : RowsAt w o 2 (l1.map kr)) (h2 : RowsAt w o2 2 (l2.map kr)) (hn : n = l1.length) (hn2 : n2 = l2.length) (hmax : l1.length < 9223372036854775807) :
    Calls Try.prog 57 #[.slice o n cap, .slice o2 n2 cap2] w fun e w' => e = .returned (.bool (decide (l1 = l2))) ∧ Fr [] w w' := by
  subst hn hn2
  apply c57
  refine s_ite (fun g => ?_) (fun g => ?_)
  · simp only [bne_iff_ne, ne_eq] at g
    refine s_ret ⟨?_, Fr.refl _ _⟩
    have : l1 ≠ l2 := fun h => g (by rw [h])
    simp [this]
  · simp only [bne_eq_false_iff_eq] at g
    have hl : l1.length = l2.length := by omega
    refine s_loop (fun vs W => ∃ i : Nat, vs = [.int .i64 i] ∧ i ≤ l1.length ∧ l1.take i = l2.take i ∧ Has w W []) (fun vs _ => l1.length - (intOf (vs.getD 0 undef)).toNat) ⟨0, rfl, by omega, by simp, Has.init w⟩ ?_
    rintro _ j W ⟨i, rfl, hi, htk, H⟩
    refine s_asI (s_ite (fun g1 => ?_) (fun g1 => ?_))
    · simp only [decide_eq_true_eq] at g1
      obtain ⟨x, hx⟩ : ∃ x, l1[i]? = some x := ⟨_, List.getElem?_eq_getElem (by omega)⟩
      obtain ⟨y, hy⟩ : ∃ y, l2[i]? = some y := ⟨_, List.getElem?_eq_getElem (by omega)⟩
      refine h_drew H fun u H => ?_
      obtain ⟨ga, offa, ha, _, q⟩ := (RowsAt.fr h1 H.base).at (j := i) (r := kr x) (by rw [List.getElem?_map, hx]; rfl)
      obtain ⟨gb, offb, hb, _, r⟩ := (RowsAt.fr h2 H.base).at (j := i) (r := kr y) (by rw [List.getElem?_map, hy]; rfl)
      refine s_req ⟨by omega, g1⟩ ⟨ga, offa, ha, (s_loadI (q 0 _ rfl) (s_loadI (q 1 _ rfl) (s_req ⟨by omega, by omega⟩ ⟨gb, offb, hb, (s_loadI (r 0 _ rfl) (s_loadI (r 1 _ rfl) (s_ite (fun g2 => ?_) (fun g2 => s_next (by first | exact ⟨rfl, rfl⟩ | trivial) ?_))))⟩)))⟩
      · have g2 : ¬ x = y := fun h => by subst h; simp at g2
        refine s_ret ⟨?_, H.base⟩
        have : l1 ≠ l2 := fun h => g2 (by rw [h, hy] at hx; cases hx; rfl)
        simp [this]
      · have g2 : x = y := K.ext' (by simp at g2; exact g2.1) (by simp at g2; exact g2.2)
        simp (config := { decide := true }) only [if_true, if_false]
        refine ⟨⟨i + 1, by rw [w_succ (by omega)], by omega, ?_, H⟩, by rw [w_succ (by omega)]; simp [intOf] <;> omega⟩
        rw [List.take_add_one, List.take_add_one, htk, hx, hy, g2]
    · simp only [decide_eq_false_iff_not] at g1
      rw [List.take_of_length_le (by omega), List.take_of_length_le (by omega)] at htk
      exact s_ret ⟨by simp [htk], H.base⟩

theorem all_c (h : LkW w p A) (hz : Sz A) : Calls Try.prog 17 #[.pointer (some ⟨p, 0, none⟩)] w fun e w' =>
    ∃ r o cap c, e = .returned (.func (.func 46) #[] #[.pointer (some ⟨r, 0, none⟩)]) ∧ OwnC 27 2 (.slice o (allA A).length cap) (allA A).length ((allA A).map ir).flatten c ∧ Has w w' (cl r 33 [.slice o (allA A).length cap] :: c) := by
  apply c17
  refine h_new (Has.init w) fun n2 u H => ?_
  refine s_call (none_c (h.fr0 H.base)) ?_
  rintro _ _ ⟨rfl, rfl⟩
  refine ⟨_, rfl, s_asB (s_true rfl (s_call (readyL_c (h.fr0 H.base) hz) ?_))⟩
  rintro _ u ⟨v, c, rfl, ho, H2⟩
  obtain ⟨o, cap, rfl⟩ := ho.slice
  have H := H.join H2
  refine ⟨_, rfl, s_asS (h_st H (by repeat (first | exact pick_head | apply pick_tail | apply pick_app)) (by simp) rfl fun u H => s_ret ⟨n2, o, cap, c, rfl, ho, H.sub (by repeat (first | exact sb_refl | exact sb_nil | refine sb_cons (by repeat (first | exact pick_head | apply pick_tail | apply pick_app)) ?_ | refine sb_app (by repeat (first | exact cut_head | exact cut_all | apply cut_tail | apply cut_app)) ?_ | exact sb_one (by repeat (first | exact cut_head | exact cut_all | apply cut_tail | apply cut_app))))⟩)⟩

theorem told_c {r : Nat} {ty : TypeId} {o o2 : Option Addr} {cap n2 cap2 : Nat} {l l2 : List Ix} (hc : Cells w r ty [.slice o l.length cap]) (hl : RowsAt w o 2 (l.map ir)) (h2 : RowsAt w o2 2 (l2.map ir)) (hn2 : n2 = l2.length)
    (hmax : l.length < 9223372036854775807) (hmax2 : l2.length < 9223372036854775807) :
    Calls Try.prog 29 #[.func (.func 46) #[] #[.pointer (some ⟨r, 0, none⟩)], .slice o2 n2 cap2] w fun e w' => e = .returned (.bool (decide (l = l2))) ∧ Fr [] w w' := by
  subst hn2
  apply c29
  refine h_new (Has.init w) fun n5 u H => ?_
  (refine h_new H fun n6 u H => ?_)
  (refine h_new H fun n7 u H => ?_)
  refine h_st H (by repeat (first | exact pick_head | apply pick_tail | apply pick_app)) (by simp) rfl fun u H => ?_
  refine h_rf (ids_seq (p := r) (ty := ty) (o := o) (cap := cap) (l := l) hmax) H (fun i mi => i ≤ l2.length ∧ i ≤ l.length ∧ l.take i = l2.take i ∧ mi = cl n7 3 [.int .i64 i] :: cl n6 4 [.bool false] :: cl n5 33 [.slice o2 l2.length cap2] :: [])
    (fun mi => l ≠ l2 ∧ ∃ z : Int, mi = cl n7 3 [.int .i64 z] :: cl n6 4 [.bool false] :: cl n5 33 [.slice o2 l2.length cap2] :: []) ⟨by omega, by omega, by simp, rfl⟩ ?_ ?_ ?_ ?_ ?_ ?_
  · rintro i mi ⟨_, _, _, rfl⟩
    exact fit_cl (fit_cl (fit_cl fit_nil))
  · rintro mi ⟨_, z, rfl⟩
    exact fit_cl (fit_cl (fit_cl fit_nil))
  · rintro i mi W ⟨_, _, _, rfl⟩ H
    exact ⟨H.base.cells hc (by simp), RowsAt.fr hl H.base⟩
  · rintro f rec d i W av mi hrs hrp hi ⟨hi1, hi2, htk, rfl⟩ H
    obtain ⟨t, ht, rfl⟩ := toldI_get hi
    have hlt := (List.getElem?_eq_some_iff.1 ht).1
    refine s_req rfl (s_asA (s_req rfl (s_asI (s_asI ?_))))
    (refine h_new H fun n13 u H => ?_)
    iterate 2 refine h_st H (by repeat (first | exact pick_head | apply pick_tail | apply pick_app)) (by first | (simp; done) | exact Nat.le_of_ble_eq_true rfl) rfl fun u H => ?_
    refine h_beg H (by repeat (first | exact pick_head | apply pick_tail | apply pick_app)) hrs fun w H => h_drew H fun u H => h_ldI H (by repeat (first | exact pick_head | apply pick_tail | apply pick_app)) rfl (h_ldS H (by repeat (first | exact pick_head | apply pick_tail | apply pick_app)) rfl (s_ite (fun g => ?_) (fun g => ?_)))
    · have g : l2.length ≤ i := by simpa using g
      refine h_st H (by repeat (first | exact pick_head | apply pick_tail | apply pick_app)) (by simp) rfl fun u H => h_stop H (by repeat (first | exact pick_head | apply pick_tail | apply pick_app)) .ret fun w H => s_next trivial ?_
      simp (config := { decide := true }) only [if_true, if_false]
      refine .inr ⟨rfl, _, ⟨fun e => ?_, _, rfl⟩, H.sub (by repeat (first | exact sb_refl | exact sb_nil | refine sb_cons (by repeat (first | exact pick_head | apply pick_tail | apply pick_app)) ?_ | refine sb_app (by repeat (first | exact cut_head | exact cut_all | apply cut_tail | apply cut_app)) ?_ | exact sb_one (by repeat (first | exact cut_head | exact cut_all | apply cut_tail | apply cut_app))))⟩
      rw [e] at hlt
      omega
    · have g : i < l2.length := by simpa using g
      obtain ⟨t2, ht2⟩ : ∃ t2, l2[i]? = some t2 := ⟨_, List.getElem?_eq_getElem g⟩
      obtain ⟨gb, offb, hb, _, q⟩ := (RowsAt.fr h2 H.base).at (j := i) (r := ir t2) (by rw [List.getElem?_map, ht2]; rfl)
      refine h_ldI H (by repeat (first | exact pick_head | apply pick_tail | apply pick_app)) rfl (h_ldI H (by repeat (first | exact pick_head | apply pick_tail | apply pick_app)) rfl (h_ldS H (by repeat (first | exact pick_head | apply pick_tail | apply pick_app)) rfl (h_ldI H (by repeat (first | exact pick_head | apply pick_tail | apply pick_app)) rfl ?_)))
      refine s_req ⟨by omega, by omega⟩ ⟨gb, offb, hb, s_loadI (q 0 _ rfl) (s_loadI (q 1 _ rfl) (s_ite (fun g2 => ?_) (fun g2 => ?_)))⟩
      · have g2 : ¬ t = t2 := fun h => by subst h; simp at g2
        refine h_st H (by repeat (first | exact pick_head | apply pick_tail | apply pick_app)) (by simp) rfl fun u H => h_stop H (by repeat (first | exact pick_head | apply pick_tail | apply pick_app)) .ret fun w H => s_next trivial ?_
        simp (config := { decide := true }) only [if_true, if_false]
        refine .inr ⟨rfl, _, ⟨fun e => ?_, _, rfl⟩, H.sub (by repeat (first | exact sb_refl | exact sb_nil | refine sb_cons (by repeat (first | exact pick_head | apply pick_tail | apply pick_app)) ?_ | refine sb_app (by repeat (first | exact cut_head | exact cut_all | apply cut_tail | apply cut_app)) ?_ | exact sb_one (by repeat (first | exact cut_head | exact cut_all | apply cut_tail | apply cut_app))))⟩
        rw [e, ht2] at ht
        cases ht
        exact g2 rfl
      · have g2 : t = t2 := Ix.ext' (by simp at g2; exact g2.1) (by simp at g2; exact g2.2)
        refine h_ldI H (by repeat (first | exact pick_head | apply pick_tail | apply pick_app)) rfl (h_st H (by repeat (first | exact pick_head | apply pick_tail | apply pick_app)) (by simp) rfl fun u H => h_cont H (by repeat (first | exact pick_head | apply pick_tail | apply pick_app)) hrs hrp fun w H => s_next trivial ?_)
        simp (config := { decide := true }) only [if_true, if_false]
        rw [w_succ (by omega)] at H
        refine .inl ⟨rfl, _, ⟨by omega, by omega, ?_, rfl⟩, H.sub (by repeat (first | exact sb_refl | exact sb_nil | refine sb_cons (by repeat (first | exact pick_head | apply pick_tail | apply pick_app)) ?_ | refine sb_app (by repeat (first | exact cut_head | exact cut_all | apply cut_tail | apply cut_app)) ?_ | exact sb_one (by repeat (first | exact cut_head | exact cut_all | apply cut_tail | apply cut_app))))⟩
        rw [List.take_add_one, List.take_add_one, htk, ht, ht2, g2]
  · rintro D W mi ⟨hi1, hi2, htk, rfl⟩ H
    have hxl : (toldI l).length = l.length := by simp [toldI]
    rw [hxl] at hi1 hi2 htk H
    rw [List.take_length] at htk
    refine h_ldI H (by repeat (first | exact pick_head | apply pick_tail | apply pick_app)) rfl (h_ldS H (by repeat (first | exact pick_head | apply pick_tail | apply pick_app)) rfl (h_st H (by repeat (first | exact pick_head | apply pick_tail | apply pick_app)) (by simp) rfl fun u H => h_col H (by repeat (first | exact pick_head | apply pick_tail | apply pick_app)) fun u H => h_ldB H (by repeat (first | exact pick_head | apply pick_tail | apply pick_app)) rfl (s_ret ⟨?_, H.base⟩)))
    have : ((l.length : Int) == (l2.length : Int)) = decide (l = l2) := by
      rw [Bool.eq_iff_iff]
      simp
      constructor
      · intro e
        have e : l.length = l2.length := by omega
        rw [e, List.take_length] at htk
        exact htk
      · intro e
        rw [e]
    rw [this]
  · rintro D W mi ⟨hne, z, rfl⟩ H
    refine h_col H (by repeat (first | exact pick_head | apply pick_tail | apply pick_app)) fun u H => h_ldB H (by repeat (first | exact pick_head | apply pick_tail | apply pick_app)) rfl (s_ret ⟨?_, H.base⟩)
    simp [hne]

theorem collI_c {r : Nat} {ty : TypeId} {o : Option Addr} {cap : Nat} {l : List Ix} (hc : Cells w r ty [.slice o l.length cap]) (hl : RowsAt w o 2 (l.map ir)) (hmax : l.length ≤ 5864062014805) :
    Calls Try.prog 16 #[.func (.func 46) #[] #[.pointer (some ⟨r, 0, none⟩)]] w fun e w' => ∃ v c, e = .returned v ∧ OwnC 27 2 v l.length (l.map ir).flatten c ∧ Has w w' c := by
  apply c16
  refine s_call (R := fun e w' => ∃ v c, e = .returned v ∧ OwnC 27 2 v l.length (l.map ir).flatten c ∧ Has w w' c) ?_ ?_
  · apply c45
    refine h_new (Has.init w) fun n5 u H => ?_
    refine h_rf (ids_seq (p := r) (ty := ty) (o := o) (cap := cap) (l := l) (by omega)) H (fun i mi => i ≤ l.length ∧ ∃ v c, OwnC 27 2 v i ((l.take i).map ir).flatten c ∧ mi = cl n5 33 [v] :: c)
      (fun _ => False) ⟨by omega, _, [], OwnC.nil, rfl⟩ ?_ (fun _ h => h.elim) ?_ ?_ ?_ (fun _ _ _ h => h.elim)
    · rintro i mi ⟨_, v, c, ho, rfl⟩
      exact fit_cl ho.fit
    · rintro i mi W ⟨_, v, c, ho, rfl⟩ H
      exact ⟨H.base.cells hc (by simp), RowsAt.fr hl H.base⟩
    · rintro f rec d i W av mi hrs hrp hi ⟨hi1, v, c, ho, rfl⟩ H
      obtain ⟨t, ht, rfl⟩ := toldI_get hi
      have hlt := (List.getElem?_eq_some_iff.1 ht).1
      obtain ⟨ov, capv, rfl⟩ := ho.slice
      refine s_req rfl (s_asA (s_req rfl (s_asI (s_asI ?_))))
      (refine h_new H fun n11 u H => ?_)
      iterate 2 refine h_st H (by repeat (first | exact pick_head | apply pick_tail | apply pick_app)) (by first | (simp; done) | exact Nat.le_of_ble_eq_true rfl) rfl fun u H => ?_
      refine h_beg H (by repeat (first | exact pick_head | apply pick_tail | apply pick_app)) hrs fun w H => h_ldS H (by repeat (first | exact pick_head | apply pick_tail | apply pick_app)) rfl (h_ldI H (by repeat (first | exact pick_head | apply pick_tail | apply pick_app)) rfl (h_ldI H (by repeat (first | exact pick_head | apply pick_tail | apply pick_app)) rfl ?_))
      (refine h_new H fun n17 u H => ?_)
      refine h_app1 elemI H (by repeat (first | exact cut_head | exact cut_all | apply cut_tail | apply cut_app)) ho (r := n17) (l := ir t) (by repeat (first | exact pick_head | apply pick_tail | apply pick_app)) rfl (by intro u hu; simp [ir] at hu; rcases hu with rfl | rfl <;> rfl) (by omega) (by omega) ?_
      intro v' c' w ho' H
      obtain ⟨o', cap', rfl⟩ := ho'.slice
      refine s_asS (h_st H (by repeat (first | exact pick_head | apply pick_tail | apply pick_app)) (by simp) rfl fun u H => h_cont H (by repeat (first | exact pick_head | apply pick_tail | apply pick_app)) hrs hrp fun w H => s_next trivial ?_)
      simp only [if_true]
      refine .inl ⟨rfl, _, ⟨by omega, _, c', ?_, rfl⟩, H.sub (by repeat (first | exact sb_refl | exact sb_nil | refine sb_cons (by repeat (first | exact pick_head | apply pick_tail | apply pick_app)) ?_ | refine sb_app (by repeat (first | exact cut_head | exact cut_all | apply cut_tail | apply cut_app)) ?_ | exact sb_one (by repeat (first | exact cut_head | exact cut_all | apply cut_tail | apply cut_app))))⟩
      rw [List.take_add_one, ht, Option.toList_some, List.map_append, List.flatten_append]
      simpa using ho'
    · rintro D W mi ⟨_, v, c, ho, rfl⟩ H
      obtain ⟨ov, capv, rfl⟩ := ho.slice
      have hxl : (toldI l).length = l.length := by simp [toldI]
      rw [hxl] at ho H
      rw [List.take_length] at ho
      refine h_ldS H (by repeat (first | exact pick_head | apply pick_tail | apply pick_app)) rfl (h_col H (by repeat (first | exact pick_head | apply pick_tail | apply pick_app)) fun w H => s_ret ⟨_, c, rfl, ho, H.sub (by repeat (first | exact sb_refl | exact sb_nil | refine sb_cons (by repeat (first | exact pick_head | apply pick_tail | apply pick_app)) ?_ | refine sb_app (by repeat (first | exact cut_head | exact cut_all | apply cut_tail | apply cut_app)) ?_ | exact sb_one (by repeat (first | exact cut_head | exact cut_all | apply cut_tail | apply cut_app))))⟩)
  · rintro _ u ⟨v, c, rfl, ho, H⟩
    obtain ⟨ov, capv, rfl⟩ := ho.slice
    exact ⟨_, rfl, s_asS (s_ret ⟨_, c, rfl, ho, H⟩)⟩
end
end Go.Proofs.Ytdepohepogocgaa
