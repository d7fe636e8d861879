/- slices.Values over ids, and told. -/
import Derived.Test.YtpjcfnnnciknmaaGreatBegun
import Derived.Test.YtpjcfnnnciknmaaGreatTreesN
set_option linter.unusedVariables false
set_option linter.unusedSimpArgs false
set_option maxRecDepth 100000
set_option maxHeartbeats 4000000
namespace Go.Proofs.YtpjcfnnnciknmaaGreat
open Go hiding Expr
open Go.RowKit Tr

def toldI (l : List Ix) : List (List Value) := l.map (fun t => [.agg ⟨ixr t⟩])
theorem toldI_get {l : List Ix} {i : Nat} {av : List Value} (h : (toldI l)[i]? = some av) : ∃ t, l[i]? = some t ∧ av = [.agg ⟨ixr t⟩] := by
  unfold toldI at h
  rw [List.getElem?_map] at h
  obtain ⟨t, ht, rfl⟩ := Option.map_eq_some_iff.1 h
  exact ⟨t, ht, rfl⟩
theorem ids_seq {p : Nat} {ty : TypeId} {o : Option Addr} {cap : Nat} {l : List Ix} (hmax : l.length < 9223372036854775807) :
    Seq Tryz.prog 61 [.pointer (some ⟨p, 0, none⟩)] (fun W => Cells W p ty [.slice o l.length cap] ∧ RowsAt W o 2 (l.map ixr)) (toldI l) := by
  intro f w I S hh hK h0 hY
  apply c61
  refine s_ldS (hK _ _ h0).1 rfl ?_
  refine s_loop (fun vs W => ∃ i : Nat, vs = [.int .i64 i] ∧ i ≤ l.length ∧ I i W) (fun vs _ => l.length - (intOf (vs.getD 0 undef)).toNat) ⟨0, rfl, by omega, h0⟩ ?_
  rintro _ j W ⟨i, rfl, hil, hI⟩
  obtain ⟨hp, hb⟩ := hK _ W hI
  refine s_asI (s_ite (fun g1 => ?_) (fun g1 => s_ret ?_))
  · simp only [decide_eq_true_eq] at g1
    have hlt : i < l.length := by omega
    obtain ⟨t, ht⟩ : ∃ t, l[i]? = some t := ⟨_, List.getElem?_eq_getElem hlt⟩
    obtain ⟨g, off, he, _, hc⟩ := hb.at (j := i) (r := ixr t) (by rw [List.getElem?_map, ht]; rfl)
    refine s_req ⟨by omega, g1⟩ ⟨g, off, he, s_loadI (hc 0 _ rfl) (s_loadI (hc 1 _ rfl) ?_)⟩
    have H := Has.init W
    (refine h_new H fun n13 u H => ?_)
    iterate 2 refine h_st H (by repeat (first | exact pick_head | apply pick_tail | apply pick_app)) (by first | (simp; done) | exact Nat.le_of_ble_eq_true rfl) rfl fun u H => ?_
    refine h_ldI H (by repeat (first | exact pick_head | apply pick_tail | apply pick_app)) rfl (h_ldI H (by repeat (first | exact pick_head | apply pick_tail | apply pick_app)) rfl ?_)
    refine (hY i u [.agg ⟨ixr t⟩] (hh.go' hI H.base) (by unfold toldI; rw [List.getElem?_map, ht]; rfl)).mono ?_
    rintro _ W' ⟨v, rfl, ⟨rfl, hI'⟩ | ⟨rfl, hS⟩⟩
    · refine ⟨_, rfl, s_asB (s_false rfl (s_next (by first | exact ⟨rfl, rfl⟩ | trivial) ?_))⟩
      simp only [if_true]
      exact ⟨⟨i + 1, by rw [w_succ (by omega)], by omega, hI'⟩, by rw [w_succ (by omega)]; simp [intOf] <;> omega⟩
    · exact ⟨_, rfl, s_asB (s_true rfl (s_ret ⟨⟨_, rfl⟩, .inr hS⟩))⟩
  · simp only [decide_eq_false_iff_not] at g1
    obtain rfl : i = l.length := by omega
    exact ⟨⟨_, rfl⟩, .inl (by simpa [toldI] using hI)⟩

section
variable {w : World}
theorem values36_c {o : Option Addr} {n cap : Nat} : Calls Tryz.prog 45 #[.slice o n cap] w fun e w' => ∃ r, e = .returned (.func (.func 61) #[] #[.pointer (some ⟨r, 0, none⟩)]) ∧ Has w w' [cl r 89 [.slice o n cap]] := by
  apply c45
  exact h_new (Has.init w) fun n3 u H => s_ret ⟨n3, rfl, H⟩

theorem told_c {r : Nat} {ty : TypeId} {o o2 : Option Addr} {cap n2 cap2 : Nat} {l l2 : List Ix} {rows : List (List Value)} (hc : Cells w r ty [.slice o l.length cap]) (hl : RowsAt w o 2 (l.map ixr)) (h2 : RowsAt w o2 27 rows) (hrw : rows.map (·.take 2) = l2.map ixr) (hn2 : n2 = l2.length)
    (hmax : l.length < 9223372036854775807) (hmax2 : l2.length < 9223372036854775807) :
    Calls Tryz.prog 25 #[.func (.func 61) #[] #[.pointer (some ⟨r, 0, none⟩)], .slice o2 n2 cap2] w fun e w' => e = .returned (.bool (decide (l = l2))) ∧ Fr [] w w' := by
  subst hn2
  apply c25
  refine h_new (Has.init w) fun n5 u H => ?_
  (refine h_new H fun n6 u H => ?_)
  (refine h_new H fun n7 u H => ?_)
  refine h_st H (by repeat (first | exact pick_head | apply pick_tail | apply pick_app)) (by simp) rfl fun u H => ?_
  refine h_rf (ids_seq (p := r) (ty := ty) (o := o) (cap := cap) (l := l) hmax) H (fun i mi => i ≤ l2.length ∧ i ≤ l.length ∧ l.take i = l2.take i ∧ mi = cl n7 3 [.int .i64 i] :: cl n6 4 [.bool false] :: cl n5 45 [.slice o2 l2.length cap2] :: [])
    (fun mi => l ≠ l2 ∧ ∃ z : Int, mi = cl n7 3 [.int .i64 z] :: cl n6 4 [.bool false] :: cl n5 45 [.slice o2 l2.length cap2] :: []) ⟨by omega, by omega, by simp, rfl⟩ ?_ ?_ ?_ ?_ ?_ ?_
  · rintro i mi ⟨_, _, _, rfl⟩
    exact fit_cl (fit_cl (fit_cl fit_nil))
  · rintro mi ⟨_, z, rfl⟩
    exact fit_cl (fit_cl (fit_cl fit_nil))
  · rintro i mi W ⟨_, _, _, rfl⟩ H
    exact ⟨H.base.cells hc (by simp), RowsAt.fr hl H.base⟩
  · rintro f rec d i W av mi hrs hrp hi ⟨hi1, hi2, htk, rfl⟩ H
    obtain ⟨t, ht, rfl⟩ := toldI_get hi
    have hlt := (List.getElem?_eq_some_iff.1 ht).1
    refine s_req rfl (s_asA (s_req rfl (s_asI (s_asI ?_))))
    (refine h_new H fun n13 u H => ?_)
    iterate 2 refine h_st H (by repeat (first | exact pick_head | apply pick_tail | apply pick_app)) (by first | (simp; done) | exact Nat.le_of_ble_eq_true rfl) rfl fun u H => ?_
    refine h_beg H (by repeat (first | exact pick_head | apply pick_tail | apply pick_app)) hrs fun w H => h_drew H fun u H => h_ldI H (by repeat (first | exact pick_head | apply pick_tail | apply pick_app)) rfl (h_ldS H (by repeat (first | exact pick_head | apply pick_tail | apply pick_app)) rfl (s_ite (fun g => ?_) (fun g => ?_)))
    · have g : l2.length ≤ i := by simpa using g
      refine h_st H (by repeat (first | exact pick_head | apply pick_tail | apply pick_app)) (by simp) rfl fun u H => h_stop H (by repeat (first | exact pick_head | apply pick_tail | apply pick_app)) .ret fun w H => s_next trivial ?_
      simp (config := { decide := true }) only [if_true, if_false]
      refine .inr ⟨rfl, _, ⟨fun e => ?_, _, rfl⟩, H.sub (by repeat (first | exact sb_refl | exact sb_nil | refine sb_cons (by repeat (first | exact pick_head | apply pick_tail | apply pick_app)) ?_ | refine sb_app (by repeat (first | exact cut_head | exact cut_all | apply cut_tail | apply cut_app)) ?_ | exact sb_one (by repeat (first | exact cut_head | exact cut_all | apply cut_tail | apply cut_app))))⟩
      rw [e] at hlt
      omega
    · have g : i < l2.length := by simpa using g
      obtain ⟨t2, ht2⟩ : ∃ t2, l2[i]? = some t2 := ⟨_, List.getElem?_eq_getElem g⟩
      obtain ⟨row, hrow, hr2⟩ : ∃ row, rows[i]? = some row ∧ row.take 2 = ixr t2 := by
        have e : (rows.map (·.take 2))[i]? = (l2.map ixr)[i]? := by rw [hrw]
        rw [List.getElem?_map, List.getElem?_map, ht2] at e
        exact Option.map_eq_some_iff.1 e
      obtain ⟨gb, offb, hb, _, q⟩ := (RowsAt.fr h2 H.base).at (j := i) (r := row) hrow
      have r0 : row[0]? = some (.int .i64 t2.s) := by
        have : (row.take 2)[0]? = some (.int .i64 t2.s) := by rw [hr2]; rfl
        rwa [List.getElem?_take_of_lt (by omega)] at this
      have r1 : row[1]? = some (.int .i64 t2.p) := by
        have : (row.take 2)[1]? = some (.int .i64 t2.p) := by rw [hr2]; rfl
        rwa [List.getElem?_take_of_lt (by omega)] at this
      refine h_ldI H (by repeat (first | exact pick_head | apply pick_tail | apply pick_app)) rfl (h_ldI H (by repeat (first | exact pick_head | apply pick_tail | apply pick_app)) rfl (h_ldS H (by repeat (first | exact pick_head | apply pick_tail | apply pick_app)) rfl (h_ldI H (by repeat (first | exact pick_head | apply pick_tail | apply pick_app)) rfl ?_)))
      refine s_req ⟨by omega, by omega⟩ ⟨gb, offb, hb, s_loadI (q 0 _ r0) (s_loadI (q 1 _ r1) (s_ite (fun g2 => ?_) (fun g2 => ?_)))⟩
      · have g2 : ¬ t = t2 := fun h => by subst h; simp at g2
        refine h_st H (by repeat (first | exact pick_head | apply pick_tail | apply pick_app)) (by simp) rfl fun u H => h_stop H (by repeat (first | exact pick_head | apply pick_tail | apply pick_app)) .ret fun w H => s_next trivial ?_
        simp (config := { decide := true }) only [if_true, if_false]
        refine .inr ⟨rfl, _, ⟨fun e => ?_, _, rfl⟩, H.sub (by repeat (first | exact sb_refl | exact sb_nil | refine sb_cons (by repeat (first | exact pick_head | apply pick_tail | apply pick_app)) ?_ | refine sb_app (by repeat (first | exact cut_head | exact cut_all | apply cut_tail | apply cut_app)) ?_ | exact sb_one (by repeat (first | exact cut_head | exact cut_all | apply cut_tail | apply cut_app))))⟩
        rw [e, ht2] at ht
        cases ht
        exact g2 rfl
      · have g2 : t = t2 := Ix.ext' (by simp at g2; exact g2.1) (by simp at g2; exact g2.2)
        refine h_ldI H (by repeat (first | exact pick_head | apply pick_tail | apply pick_app)) rfl (h_st H (by repeat (first | exact pick_head | apply pick_tail | apply pick_app)) (by simp) rfl fun u H => h_cont H (by repeat (first | exact pick_head | apply pick_tail | apply pick_app)) hrs hrp fun w H => s_next trivial ?_)
        simp (config := { decide := true }) only [if_true, if_false]
        rw [w_succ (by omega)] at H
        refine .inl ⟨rfl, _, ⟨by omega, by omega, ?_, rfl⟩, H.sub (by repeat (first | exact sb_refl | exact sb_nil | refine sb_cons (by repeat (first | exact pick_head | apply pick_tail | apply pick_app)) ?_ | refine sb_app (by repeat (first | exact cut_head | exact cut_all | apply cut_tail | apply cut_app)) ?_ | exact sb_one (by repeat (first | exact cut_head | exact cut_all | apply cut_tail | apply cut_app))))⟩
        rw [List.take_add_one, List.take_add_one, htk, ht, ht2, g2]
  · rintro D W mi ⟨hi1, hi2, htk, rfl⟩ H
    have hxl : (toldI l).length = l.length := by simp [toldI]
    rw [hxl] at hi1 hi2 htk H
    rw [List.take_length] at htk
    refine h_ldI H (by repeat (first | exact pick_head | apply pick_tail | apply pick_app)) rfl (h_ldS H (by repeat (first | exact pick_head | apply pick_tail | apply pick_app)) rfl (h_st H (by repeat (first | exact pick_head | apply pick_tail | apply pick_app)) (by simp) rfl fun u H => h_col H (by repeat (first | exact pick_head | apply pick_tail | apply pick_app)) fun u H => h_ldB H (by repeat (first | exact pick_head | apply pick_tail | apply pick_app)) rfl (s_ret ⟨?_, H.base⟩)))
    have : ((l.length : Int) == (l2.length : Int)) = decide (l = l2) := by
      rw [Bool.eq_iff_iff]
      simp
      constructor
      · intro e
        have e : l.length = l2.length := by omega
        rw [e, List.take_length] at htk
        exact htk
      · intro e
        rw [e]
    rw [this]
  · rintro D W mi ⟨hne, z, rfl⟩ H
    refine h_col H (by repeat (first | exact pick_head | apply pick_tail | apply pick_app)) fun u H => h_ldB H (by repeat (first | exact pick_head | apply pick_tail | apply pick_app)) rfl (s_ret ⟨?_, H.base⟩)
    simp [hne]
end
end Go.Proofs.YtpjcfnnnciknmaaGreat
