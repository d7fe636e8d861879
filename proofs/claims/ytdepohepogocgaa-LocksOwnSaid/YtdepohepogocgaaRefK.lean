/- The document's Keys, walked. -/
import Derived.Test.YtdepohepogocgaaRefM
import Derived.Test.YtdepohepogocgaaPairsP
import Derived.Test.YtdepohepogocgaaLkK
set_option linter.unusedVariables false
set_option linter.unusedSimpArgs false
set_option maxRecDepth 100000
set_option maxHeartbeats 4000000
namespace Go.Proofs.Ytdepohepogocgaa
open Go hiding Expr
open Go.RowKit Tr
theorem kr_one (l : List K) : ∀ r ∈ l.map kr, ∀ u ∈ r, u.oneCell' = true := by
  intro r hr u hu
  obtain ⟨p, _, rfl⟩ := List.mem_map.1 hr
  simp [kr] at hu
  rcases hu with rfl | rfl <;> rfl
theorem enc_part (l : List K) (i j : Nat) : (((l.map kr).drop i).take j).flatten = enc ((l.drop i).take j) := by
  unfold enc
  rw [← List.map_drop, ← List.map_take]
theorem none_own {e : TypeId} {sz n cap : Nat} {rows : List (List Value)} {c : Hp} (ho : OwnC e sz (.slice none n cap) n rows.flatten c) (hr : ∀ r ∈ rows, r.length = sz) (hpos : 0 < sz) : rows = [] := by
  rcases ho.2 with ⟨hv, hn, rfl⟩ | ⟨g, cap', sp, hv, _⟩
  · have hl := ho.len
    rw [flat_len hr, hn] at hl
    exact List.eq_nil_of_length_eq_zero (by
      rcases Nat.eq_zero_or_pos rows.length with h | h
      · exact h
      · have := Nat.mul_pos h hpos
        omega)
  · cases hv
theorem Tr.OwnC.cap_ge {e : TypeId} {sz n cap N : Nat} {xs : List Value} {c : Hp} {o : Option Addr} (ho : OwnC e sz (.slice o n cap) N xs c) : N ≤ cap ∧ n = N := by
  rcases ho.2 with ⟨hv, hn, rfl⟩ | ⟨g, cap', sp, hv, _, h1, _⟩
  · cases hv; exact ⟨by omega, hn.symm⟩
  · cases hv; exact ⟨h1, rfl⟩


theorem KS_nil' : KS [] = [] := by simp [KS, compL]
theorem flat_step {X : List AW} {i : Nat} {x : AW} (hx : X[i]? = some x) : flatK ((X.take (i + 1)).map AW.row) = flatK ((X.take i).map AW.row) ++ x.w.map (·.k) := by
  unfold flatK
  rw [List.take_add_one, hx, Option.toList_some, List.map_append, List.flatMap_append]
  simp [AW.row]
theorem take_total' {A : St} {i : Nat} : total (A.take i) ≤ total A := by
  have : total A = total (A.take i) + total (A.drop i) := by rw [← total_append, List.take_append_drop]
  omega
section
variable {w : World} {p : Nat} {X : List AW}
theorem rKeys_c (h : RV w p X) (hmax : X.length ≤ 1099511627776) (hmw : ∀ x ∈ X, x.w.length ≤ 5864062014805) (htot : (flatK (X.map AW.row)).length ≤ 5864062014805) :
    Calls Try.prog 53 #[.pointer (some ⟨p, 0, none⟩)] w fun e w' => ∃ v c, e = .returned v ∧ OwnC 39 2 v (keysA (X.map AW.row)).length (enc (keysA (X.map AW.row))) c ∧ Has w w' c := by
  obtain ⟨o, cap, h1, h2, h3⟩ := h
  have hfl : ∀ i, (flatK ((X.take i).map AW.row)).length ≤ (flatK (X.map AW.row)).length := fun i => by
    have := take_total' (A := X.map AW.row) (i := i)
    rw [flat_total, flat_total, List.map_take]
    exact this
  apply c53
  refine s_loop (fun vs W => ∃ (i : Nat) (v : Value) (c m : Hp), vs = [v, .int .i64 i] ∧ i ≤ X.length ∧ OwnC 39 2 v (KS (flatK ((X.take i).map AW.row))).length (enc (KS (flatK ((X.take i).map AW.row)))) c ∧ Has w W (c ++ m))
    (fun vs _ => X.length - (intOf (vs.getD 1 undef)).toNat) ⟨0, _, [], [], rfl, by omega, by rw [List.take_zero]; show OwnC _ _ _ (KS []).length (enc (KS [])) _; rw [KS_nil']; exact OwnC.nil, Has.init w⟩ ?_
  rintro _ j W ⟨i, v, c, mm, rfl, hi, ho, H⟩
  obtain ⟨ov, cv, rfl⟩ := ho.slice
  refine s_asS (s_asI (s_ldS (H.base.cells h1 (by simp)) rfl (s_ite (fun g1 => ?_) (fun g1 => ?_))))
  · simp only [decide_eq_true_eq] at g1
    have hlt : i < X.length := by omega
    obtain ⟨x, hx⟩ : ∃ x, X[i]? = some x := ⟨_, List.getElem?_eq_getElem hlt⟩
    have hxm := List.mem_of_getElem? hx
    have hlx := hmw x hxm
    obtain ⟨g, off, he, _, hc⟩ := h2.at (j := i) (r := ar x) (by rw [List.getElem?_map, hx]; rfl)
    have hfs := flat_step hx
    have hf1 := hfl (i + 1)
    rw [hfs, List.length_append, List.length_map] at hf1
    generalize flatK ((X.take i).map AW.row) = B at *
    refine s_loop (fun vs W => ∃ (j : Nat) (v : Value) (c m : Hp), vs = [v, .int .i64 j] ∧ j ≤ x.w.length ∧ OwnC 39 2 v (KS (B ++ (x.w.take j).map (·.k))).length (enc (KS (B ++ (x.w.take j).map (·.k)))) c ∧ Has w W (c ++ m))
      (fun vs _ => x.w.length - (intOf (vs.getD 1 undef)).toNat) ⟨0, _, c, mm, rfl, by omega, by simpa using ho, H⟩ ?_
    clear H ho
    rintro _ jj W ⟨j, v, c, mm, rfl, hj, ho, H⟩
    obtain ⟨ov, cv, rfl⟩ := ho.slice
    generalize hout : KS (B ++ (x.w.take j).map (·.k)) = out at ho
    have hol : out.length ≤ B.length + j := by
      have := KS_len (B ++ (x.w.take j).map (·.k))
      rw [hout, List.length_append, List.length_map, List.length_take] at this
      omega
    have hcap := ho.cap_ge.1
    refine s_asS (s_asI (s_ldS (H.base.cells h1 (by simp)) rfl (s_req ⟨by omega, by omega⟩ ⟨g, off, he, s_loadS (H.cell0 (hc 2 _ rfl)) (s_ite (fun g1 => ?_) (fun g1 => s_next (by first | exact ⟨rfl, rfl⟩ | trivial) ?_))⟩)))
    · simp only [decide_eq_true_eq] at g1
      obtain ⟨y, hy⟩ : ∃ y, x.w[j]? = some y := ⟨_, List.getElem?_eq_getElem (by omega)⟩
      have htake : B ++ (x.w.take (j + 1)).map (·.k) = (B ++ (x.w.take j).map (·.k)) ++ [y.k] := by rw [List.take_add_one, hy, Option.toList_some, List.map_append, List.append_assoc]; rfl
      obtain ⟨gy, offy, hey, _, hcy⟩ := (h3 x hxm).at (j := j) (r := lr y) (by rw [List.getElem?_map, hy]; rfl)
      refine s_ldS (H.base.cells h1 (by simp)) rfl (s_req ⟨by omega, by omega⟩ ⟨g, off, he, s_loadS (H.cell0 (hc 2 _ rfl)) (s_req ⟨by omega, g1⟩ ⟨gy, offy, hey, s_loadI (H.cell0 (hcy 0 _ rfl)) (s_loadI (H.cell0 (hcy 1 _ rfl)) ?_)⟩)⟩)
      (refine h_new H fun n37 u H => ?_)
      iterate 2 refine h_st H (by repeat (first | exact pick_head | apply pick_tail | apply pick_app)) (by first | (simp; done) | exact Nat.le_of_ble_eq_true rfl) rfl fun u H => ?_
      have H : Has w u (cl n37 39 (kr y.k) :: (c ++ mm)) := H
      refine s_blk (fun vs W => ∃ k : Nat, vs = [.int .i64 k] ∧ Pos out y.k k ∧ Has w W (cl n37 39 (kr y.k) :: (c ++ mm))) ?_ ?_
      · clear H
        rintro _ j1 W ⟨k, rfl, hpos, H⟩
        have hkle := hpos.le
        refine s_asI (s_blk (fun vs W => ∃ b : Bool, vs = [.bool b] ∧ (b = true ↔ out[k]? ≠ some y.k) ∧ Has w W (cl n37 39 (kr y.k) :: (c ++ mm))) ?_ ?_)
        · clear H
          rintro _ j2 W ⟨b, rfl, hb, H⟩
          refine s_asB (s_ite (fun g2 => ?_) (fun g2 => s_next (by first | exact ⟨rfl, rfl⟩ | trivial) ?_))
          · have hins : KS (B ++ (x.w.take (j + 1)).map (·.k)) = out.take k ++ [y.k] ++ out.drop k := by subst hout; rw [htake]; exact KS_ins hpos (hb.1 g2)
            refine s_req ⟨by omega, by omega⟩ ?_
            refine h_appRows elemK (by decide) H cut_nil OwnC.nil (kr2 out) (kr_one out) (keysAt_own ho H (by repeat (first | exact cut_head | exact cut_all | apply cut_tail | apply cut_app))) (fun e => by subst e; exact none_own ho (kr2 out) (by decide)) (i := 0) (j := k) (by rw [List.length_map]; omega) (by rw [List.length_map]; exact hcap) (by omega) (by omega) ?_
            intro v1 c1 u ho1 H
            obtain ⟨o1, cap1, rfl⟩ := ho1.slice
            refine s_asS (h_drew H fun u H => h_ldI H (by repeat (first | exact pick_head | apply pick_tail | apply pick_app)) rfl (h_ldI H (by repeat (first | exact pick_head | apply pick_tail | apply pick_app)) rfl (s_req ⟨by omega, by omega⟩ ?_)))
            (refine h_new H fun n50 u H => ?_)
            refine s_chk c_nil ?_
            refine h_app1 elemK H (by repeat (first | exact cut_head | exact cut_all | apply cut_tail | apply cut_app)) ho1 (r := n50) (l := kr y.k) (by repeat (first | exact pick_head | apply pick_tail | apply pick_app)) rfl (by intro u hu; simp [kr] at hu; rcases hu with rfl | rfl <;> rfl) (by omega) (by omega) ?_
            intro v2 c2 u ho2 H
            obtain ⟨o2, cap2, rfl⟩ := ho2.slice
            refine s_asS (s_chk c_nil ?_)
            refine h_appRows elemK (by decide) H (by repeat (first | exact cut_head | exact cut_all | apply cut_tail | apply cut_app)) ho2 (kr2 out) (kr_one out) (keysAt_own ho H (by repeat (first | exact cut_head | exact cut_all | apply cut_tail | apply cut_app))) (fun e => by subst e; exact none_own ho (kr2 out) (by decide)) (i := k) (j := out.length - k) (by rw [List.length_map]; omega) (by rw [List.length_map]; exact hcap) (by omega) (by omega) ?_
            intro v3 c3 u ho3 H
            obtain ⟨o3, cap3, rfl⟩ := ho3.slice
            refine s_asS (s_chk c_nil (s_next (by first | exact ⟨rfl, rfl⟩ | trivial) ?_))
            simp (config := { decide := true }) only [if_true, if_false]
            refine ⟨⟨j + 1, _, c3, _, by rw [w_succ (by omega)], by omega, ?_, H.sub (by repeat (first | exact sb_refl | exact sb_nil | refine sb_cons (by repeat (first | exact pick_head | apply pick_tail | apply pick_app)) ?_ | refine sb_app (by repeat (first | exact cut_head | exact cut_all | apply cut_tail | apply cut_app)) ?_ | exact sb_one (by repeat (first | exact cut_head | exact cut_all | apply cut_tail | apply cut_app))))⟩, by rw [w_succ (by omega)]; simp [intOf] <;> omega⟩
            rw [enc_part, enc_part, List.drop_zero, List.nil_append, List.take_of_length_le (i := out.length - k) (by rw [List.length_drop]; omega)] at ho3
            have hlen : (out.take k ++ [y.k] ++ out.drop k).length = 0 + k + 1 + (out.length - k) := by simp; omega
            have henc : enc (out.take k ++ [y.k] ++ out.drop k) = enc (out.take k) ++ kr y.k ++ enc (out.drop k) := by
              rw [enc_append, enc_append]; rfl
            rw [hins, hlen, henc]
            exact ho3
          · have hsame : KS (B ++ (x.w.take (j + 1)).map (·.k)) = out := by
              subst hout
              rw [htake]
              refine KS_same (k := k) ?_
              cases hh : decide ((KS (B ++ (x.w.take j).map (·.k)))[k]? = some y.k) with
              | true => simpa using hh
              | false => have := hb.2 (by simpa using hh); rw [this] at g2; cases g2
            simp (config := { decide := true }) only [if_true, if_false]
            exact ⟨⟨j + 1, _, c, _, by rw [w_succ (by omega)], by omega, by rw [hsame]; exact ho, H.sub (by repeat (first | exact sb_refl | exact sb_nil | refine sb_cons (by repeat (first | exact pick_head | apply pick_tail | apply pick_app)) ?_ | refine sb_app (by repeat (first | exact cut_head | exact cut_all | apply cut_tail | apply cut_app)) ?_ | exact sb_one (by repeat (first | exact cut_head | exact cut_all | apply cut_tail | apply cut_app))))⟩, by rw [w_succ (by omega)]; simp [intOf] <;> omega⟩
        · refine h_drew H fun u H => s_ite (fun g2 => s_next (by first | exact ⟨rfl, rfl⟩ | trivial) ?_) (fun g2 => ?_)
          · have g2 : k = out.length := by have : (k : Int) = out.length := by simpa using g2
                                           omega
            simp (config := { decide := true }) only [if_true, if_false]
            exact ⟨true, rfl, by rw [g2, List.getElem?_eq_none (Nat.le_refl _)]; simp, H⟩
          · have g2 : k ≠ out.length := fun e => by rw [e] at g2; simp at g2
            obtain ⟨z, hz⟩ : ∃ z, out[k]? = some z := ⟨_, List.getElem?_eq_getElem (by omega)⟩
            obtain ⟨g3, off3, he3, q1, q2⟩ := (keysAt_own ho H (by repeat (first | exact cut_head | exact cut_all | apply cut_tail | apply cut_app))).get hz
            refine s_req ⟨by omega, by omega⟩ ⟨g3, off3, he3, s_loadI q1 (s_loadI q2 (h_ldI H (by repeat (first | exact pick_head | apply pick_tail | apply pick_app)) rfl (h_ldI H (by repeat (first | exact pick_head | apply pick_tail | apply pick_app)) rfl (s_next (by first | exact ⟨rfl, rfl⟩ | trivial) ?_))))⟩
            simp (config := { decide := true }) only [if_true, if_false]
            refine ⟨_, rfl, ?_, H⟩
            rw [eqKb, hz]
            simp
      · refine s_loop (fun vs W => ∃ k : Nat, vs = [.int .i64 k] ∧ k ≤ out.length ∧ (∀ z ∈ out.take k, ltK z y.k = true) ∧ Has w W (cl n37 39 (kr y.k) :: (c ++ mm))) (fun vs _ => out.length - (intOf (vs.getD 0 undef)).toNat) ⟨0, rfl, by omega, by simp, H⟩ ?_
        clear H
        rintro _ j3 W ⟨k, rfl, hk, hlow, H⟩
        refine s_asI (h_drew H fun u H => s_ite (fun g2 => ?_) (fun g2 => s_chk c_nil (s_next (by first | exact ⟨rfl, rfl⟩ | trivial) ?_)))
        · simp only [decide_eq_true_eq] at g2
          obtain ⟨z, hz⟩ : ∃ z, out[k]? = some z := ⟨_, List.getElem?_eq_getElem (by omega)⟩
          obtain ⟨g3, off3, he3, q1, q2⟩ := (keysAt_own ho H (by repeat (first | exact cut_head | exact cut_all | apply cut_tail | apply cut_app))).get hz
          refine s_req ⟨by omega, by omega⟩ ⟨g3, off3, he3, s_loadI q1 (s_loadI q2 (h_ldI H (by repeat (first | exact pick_head | apply pick_tail | apply pick_app)) rfl (h_ldI H (by repeat (first | exact pick_head | apply pick_tail | apply pick_app)) rfl (s_call (less_c z y.k) ?_))))⟩
          rintro _ u ⟨rfl, f⟩
          have H := H.fr0 f
          refine ⟨_, rfl, s_asB (s_chk c_nil (s_ite (fun g4 => s_next (by first | exact ⟨rfl, rfl⟩ | trivial) ?_) (fun g4 => s_next (by first | exact ⟨rfl, rfl⟩ | trivial) ?_)))⟩
          · simp (config := { decide := true }) only [if_true, if_false]
            refine ⟨⟨k + 1, by rw [w_succ (by omega)], by omega, ?_, H⟩, by rw [w_succ (by omega)]; simp [intOf] <;> omega⟩
            rw [List.take_add_one, hz, Option.toList_some]
            intro a ha
            rcases List.mem_append.1 ha with ha | ha
            · exact hlow a ha
            · rw [List.mem_singleton] at ha; subst ha; exact g4
          · simp (config := { decide := true }) only [if_true, if_false]
            refine ⟨k, rfl, ⟨hk, hlow, fun a ha => ?_⟩, H⟩
            rw [hz] at ha
            cases ha
            exact g4
        · simp only [decide_eq_false_iff_not] at g2
          simp (config := { decide := true }) only [if_true, if_false]
          refine ⟨k, rfl, ⟨hk, hlow, fun a ha => ?_⟩, H⟩
          rw [List.getElem?_eq_none (by omega)] at ha
          cases ha
    · simp only [decide_eq_false_iff_not] at g1
      simp (config := { decide := true }) only [if_true, if_false]
      refine ⟨⟨i + 1, _, c, mm, by rw [w_succ (by omega)], by omega, ?_, H⟩, by rw [w_succ (by omega)]; simp [intOf] <;> omega⟩
      rw [List.take_of_length_le (by omega)] at hout
      rw [hfs, hout]
      exact ho
  · simp only [decide_eq_false_iff_not] at g1
    rw [List.take_of_length_le (by omega)] at ho ⊢
    exact s_ret ⟨_, c, rfl, ho, H.left⟩
end
end Go.Proofs.Ytdepohepogocgaa
