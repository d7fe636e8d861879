/- There and back: the walk. -/
import Derived.Test.YtgoecmggbcaoiaaBackP
import Derived.Test.YtgoecmggbcaoiaaWalkM
set_option linter.unusedVariables false
set_option linter.unusedSimpArgs false
set_option maxRecDepth 100000
set_option maxHeartbeats 8000000
namespace Go.Proofs.Ytgoecmggbcaoiaa
open Go hiding Expr
open Go.RowKit Tr

section
variable {l : List Ins}
theorem encW_zero : ∀ {l : List Ins}, (encW l).2 = 0 → ∀ x ∈ l, fitsP x = 0
  | [], _, x, hx => by simp at hx
  | y :: r, h, x, hx => by
    unfold encW at h
    split at h
    · rename_i h1
      exact absurd h h1
    · rename_i h1
      split at h
      · rename_i h2
        exact absurd h h2
      · rename_i h2
        rcases List.mem_cons.1 hx with rfl | hx
        · simpa using h1
        · exact encW_zero (by simpa using h2) x hx
theorem encP_zero (h : (encP l).2 = 0) : (∀ x ∈ l, fitsP x = 0) ∧ (encP l).1 = l.flatMap bytsP ∧ (l.flatMap bytsP).length ≤ 512 := by
  unfold encP at h
  split at h
  · rename_i h1
    exact absurd h h1
  · rename_i h1
    have h2 := encW_zero (by simpa using h1)
    rw [encW_ok h2] at h h1
    split at h
    · simp at h
    · rename_i h3
      refine ⟨h2, ?_, by simpa using h3⟩
      rw [encP_ok h2, if_neg (by simpa using h3)]
theorem len_le_flat : ∀ (l : List Ins), l.length ≤ (l.flatMap bytsP).length
  | [] => by simp
  | x :: r => by
    have := len_le_flat r
    have h1 : 1 ≤ (bytsP x).length := by unfold bytsP; simp
    simp only [List.flatMap_cons, List.length_append, List.length_cons]
    omega
theorem byt_rng (n : Int) : 0 ≤ byt n ∧ byt n ≤ 255 := by unfold byt; omega
theorem byts_rng (l : List Ins) : ∀ b ∈ l.flatMap bytsP, 0 ≤ b ∧ b ≤ 255 := by
  intro b hb
  obtain ⟨x, _, hb⟩ := List.mem_flatMap.1 hb
  unfold bytsP immB at hb
  simp only [List.mem_cons, List.mem_append] at hb
  have h1 : ∀ c : Bool, ∀ y, b ∈ (if c = true then [byt y] else []) → 0 ≤ b ∧ b ≤ 255 := by
    intro c y h
    cases c <;> simp at h
    subst h
    exact byt_rng y
  rcases hb with rfl | (hb | hb) | hb
  · exact byt_rng _
  · exact h1 _ _ hb
  · exact h1 _ _ hb
  · split at hb
    · simp at hb
      rcases hb with rfl | rfl <;> exact byt_rng _
    · split at hb
      · simp at hb
        subst hb
        exact byt_rng _
      · cases hb
theorem off_take_le (h : ∀ x ∈ l, fitsP x = 0) (i : Nat) : 0 ≤ offI 0 (l.take i) ∧ offI 0 (l.take i) ≤ (l.flatMap bytsP).length := by
  rw [off_len _ _ (fun x hx => h x (List.mem_of_mem_take hx))]
  have : l.flatMap bytsP = (l.take i).flatMap bytsP ++ (l.drop i).flatMap bytsP := by rw [← List.flatMap_append, List.take_append_drop]
  rw [this, List.length_append]
  omega
end

section
variable {w w' w0 : World} {m m' c : Hp} {bs : List Int} {o o2 : Option Addr} {cap cap2 n p : Nat} {l : List Ins}

theorem back_c (h : BytAt w o bs) (hu : ∀ x ∈ bs, 0 ≤ x ∧ x ≤ 255) (hc : bs.length ≤ cap) (hl : bs.length ≤ 140737488355328) (h2 : InsAt w o2 l) (hl2 : l.length * 40 ≤ 140737488355328) :
    Calls Try.prog 4 #[.slice o bs.length cap, .slice o2 l.length cap2] w fun e w' => e = .returned (.bool true) ∧ Fr [] w w' := by
  apply c4
  have H := Has.init w
  (refine h_new H fun n6 u H => ?_)
  (refine h_new H fun n7 u H => ?_)
  (refine s_call (live_c H) ?_; rintro _ u ⟨rfl, H⟩; refine ⟨_, rfl, ?_⟩)
  refine s_asB (s_false rfl (h_blk (fun _ => True) H ?_ ?_))
  · (refine s_call (dec_c (bs := bs) H (fun u hu => hu.rows h) hu hc rfl hl) ?_; rintro _ u ⟨v, c, rfl, ho, H⟩; refine ⟨_, rfl, ?_⟩)
    obtain ⟨ol, capl, rfl⟩ := ho.slice
    refine s_asU (s_req rfl (s_asS (s_asI (s_ite (fun g => ?_) (fun g => s_next ⟨rfl, rfl⟩ ?_)))))
    · have hok : (decP bs).2 = 0 := by simpa using g
      obtain ⟨hris, hj, hrng, hlen, hbl, hw0, hwe⟩ := dec_facts hu hok
      have hbk := back_dec hu hw0 hbl
      rw [← hwe] at hbk
      (refine s_call (enc_c (l := (decP bs).1) H (fun u hu => insAt_own ho hu (by repeat (first | exact cut_head | exact cut_all | apply cut_tail | apply cut_app))) rfl (by omega)) ?_; rintro _ u ⟨v3, c3, rfl, ho3, H⟩; refine ⟨_, rfl, ?_⟩)
      rw [hbk] at ho3 ⊢
      obtain ⟨o3, cap3, rfl⟩ := ho3.slice
      refine s_asU (s_req rfl (s_asS (s_asI (s_false rfl ?_))))
      (refine s_call (eqb_c H (bytAt_own ho3 H (by repeat (first | exact cut_head | exact cut_all | apply cut_tail | apply cut_app))) (H.rows h) rfl rfl) ?_; rintro _ u ⟨rfl, H⟩; refine ⟨_, rfl, ?_⟩)
      refine s_asB (s_false rfl (s_next ⟨rfl, rfl⟩ ?_))
      simp only [if_true]
      exact ⟨H.sub (by repeat (first | exact sb_refl | exact sb_nil | refine sb_cons (by repeat (first | exact pick_head | apply pick_tail | apply pick_app)) ?_ | refine sb_app (by repeat (first | exact cut_head | exact cut_all | apply cut_tail | apply cut_app)) ?_ | exact sb_one (by repeat (first | exact cut_head | exact cut_all | apply cut_tail | apply cut_app)))), trivial⟩
    · simp only [if_true]
      exact ⟨H.sub (by repeat (first | exact sb_refl | exact sb_nil | refine sb_cons (by repeat (first | exact pick_head | apply pick_tail | apply pick_app)) ?_ | refine sb_app (by repeat (first | exact cut_head | exact cut_all | apply cut_tail | apply cut_app)) ?_ | exact sb_one (by repeat (first | exact cut_head | exact cut_all | apply cut_tail | apply cut_app)))), trivial⟩
  clear H
  rintro _ _ W H _
  refine h_ldS H (by repeat (first | exact pick_head | apply pick_tail | apply pick_app)) rfl ?_
  (refine s_call (enc_c (l := l) H (fun u hu => hu.rows h2) rfl hl2) ?_; rintro _ u ⟨v, c, rfl, ho, H⟩; refine ⟨_, rfl, ?_⟩)
  obtain ⟨ob, capb, rfl⟩ := ho.slice
  refine s_asU (s_req rfl (s_asS (s_asI (s_ite (fun g => h_st H (by repeat (first | exact pick_head | apply pick_tail | apply pick_app)) (by simp) rfl fun u H => h_ldB H (by repeat (first | exact pick_head | apply pick_tail | apply pick_app)) rfl (s_ret ⟨rfl, H.base⟩)) (fun g => ?_)))))
  obtain ⟨hfit, hbe, hble⟩ := encP_zero (l := l) (by simpa using g)
  rw [hbe] at ho ⊢
  have hru := byts_rng l
  have hwp : walkP (l.flatMap bytsP) = (place 0 l, 0) := walk_place l [] 0 rfl hfit
  have hll := len_le_flat l
  have hofl := off_len l 0 hfit
  have hoft := off_take_le hfit
  generalize hB : l.flatMap bytsP = B at *
  (refine h_new H fun n23 u H => ?_)
  (refine h_new H fun n24 u H => ?_)
  refine h_st H (by repeat (first | exact pick_head | apply pick_tail | apply pick_app)) (by simp) rfl fun u H => h_st H (by repeat (first | exact pick_head | apply pick_tail | apply pick_app)) (by simp) rfl fun u H => ?_
  (refine s_call (walk_c (bs := B) H (fun u hu => bytAt_own ho hu (by repeat (first | exact cut_head | exact cut_all | apply cut_tail | apply cut_app))) rfl (by omega)) ?_; rintro _ u ⟨p, o', cap', cw, rfl, how, H⟩; refine ⟨_, rfl, ?_⟩)
  refine s_asC (s_req rfl (s_asP ?_))
  have htl : (toldW B).length = l.length := by simp [toldW, hwp, place_len]
  have H : Has w u (cl n24 3 [.int .i64 ((0 : Nat) : Int)] :: cl n23 3 [.int .i64 (offI 0 (l.take 0))] :: cl p 23 [.slice o' B.length cap'] :: (cw ++ (c ++ [cl n7 4 [.bool false], cl n6 22 [.slice o2 l.length cap2]]))) := H.sub (by repeat (first | exact sb_refl | exact sb_nil | refine sb_cons (by repeat (first | exact pick_head | apply pick_tail | apply pick_app)) ?_ | refine sb_app (by repeat (first | exact cut_head | exact cut_all | apply cut_tail | apply cut_app)) ?_ | exact sb_one (by repeat (first | exact cut_head | exact cut_all | apply cut_tail | apply cut_app))))
  refine h_rf (walk_seq (p := p) (o := o') (cap := cap') hru (own_cap how) (by omega)) H (fun i mi => i ≤ l.length ∧ mi = cl n24 3 [.int .i64 (i : Int)] :: cl n23 3 [.int .i64 (offI 0 (l.take i))] :: cl p 23 [.slice o' B.length cap'] :: (cw ++ (c ++ [cl n7 4 [.bool false], cl n6 22 [.slice o2 l.length cap2]])))
    (fun _ => False) ⟨by omega, rfl⟩ ?_ (fun _ h => h.elim) ?_ ?_ ?_ (fun _ _ _ h => h.elim)
  · rintro i mi ⟨_, rfl⟩
    exact fit_cl (fit_cl (fit_cl (fit_app how.fit (fit_app ho.fit (fit_cl (fit_cl fit_nil))))))
  · rintro i mi W ⟨_, rfl⟩ H
    exact ⟨H.cells (by repeat (first | exact pick_head | apply pick_tail | apply pick_app)), bytAt_own how H (by repeat (first | exact cut_head | exact cut_all | apply cut_tail | apply cut_app))⟩
  · rintro lp rec d i W av mi hrs hrp hi ⟨hil, rfl⟩ H
    have hilt : i < l.length := by
      have := (List.getElem?_eq_some_iff.1 hi).1
      omega
    obtain ⟨x, hx⟩ : ∃ x, l[i]? = some x := ⟨_, List.getElem?_eq_getElem hilt⟩
    have hfx := hfit x (List.mem_of_getElem? hx)
    have hof := hoft i
    have hof1 := hoft (i + 1)
    rw [take_succ' hx, off_snoc] at hof1
    have hsn : offI 0 (l.take (i + 1)) = offI 0 (l.take i) + szP x.op := by rw [take_succ' hx, off_snoc]
    obtain rfl : av = [.int .i64 (offI 0 (l.take i)), insV { x with at_ := offI 0 (l.take i) }] := by
      have hpg := place_get l 0 i x hx
      unfold toldW at hi
      rw [List.getElem?_map, hwp] at hi
      simp only at hi
      rw [hpg] at hi
      simpa using hi.symm
    generalize offI 0 (l.take i) = a at *
    have hs4 := szP_le x.op
    refine s_req rfl (s_asI (s_asA (s_req rfl (s_asI (s_asI (s_asI (s_asI (s_asI ?_))))))))
    (refine h_new H fun n37 u H => ?_)
    iterate 5 refine h_st H (by repeat (first | exact pick_head | apply pick_tail | apply pick_app)) (by first | (simp; done) | exact Nat.le_of_ble_eq_true rfl) rfl fun u H => ?_
    refine h_beg H (by repeat (first | exact pick_head | apply pick_tail | apply pick_app)) hrs fun w1 H => ?_
    refine h_blk (fun _ => True) H ?_ ?_
    · refine h_ldI H (by repeat (first | exact pick_head | apply pick_tail | apply pick_app)) rfl (h_ldS H (by repeat (first | exact pick_head | apply pick_tail | apply pick_app)) rfl (s_false (by simpa using hilt) (h_ldI H (by repeat (first | exact pick_head | apply pick_tail | apply pick_app)) rfl (s_false (by simp) (s_next ⟨rfl, rfl⟩ ?_)))))
      simp (config := { decide := true }) only [if_true, if_false]
      exact ⟨H, trivial⟩
    clear H
    rintro _ _ W H _
    refine h_ldS H (by repeat (first | exact pick_head | apply pick_tail | apply pick_app)) rfl (h_ldI H (by repeat (first | exact pick_head | apply pick_tail | apply pick_app)) rfl (s_req ⟨by omega, by omega⟩ ?_))
    have hW2 : InsAt W o2 l := H.rows h2
    obtain ⟨gg, off, rfl, p0, p1, p2, p3, p4⟩ := hW2.get hx
    refine s_sm (s_loadI p0 (s_loadI p1 (s_loadI p2 (s_loadI p3 (s_loadI p4 ?_)))))
    (refine h_new H fun n51 u H => ?_)
    iterate 5 refine h_st H (by repeat (first | exact pick_head | apply pick_tail | apply pick_app)) (by first | (simp; done) | exact Nat.le_of_ble_eq_true rfl) rfl fun u H => ?_
    refine h_ldI H (by repeat (first | exact pick_head | apply pick_tail | apply pick_app)) rfl (h_st H (by repeat (first | exact pick_head | apply pick_tail | apply pick_app)) (by first | (simp; done) | exact Nat.le_of_ble_eq_true rfl) rfl fun u H => ?_)
    iterate 10 refine h_ldI H (by repeat (first | exact pick_head | apply pick_tail | apply pick_app)) rfl ?_
    refine s_false (by simp) (h_ldI H (by repeat (first | exact pick_head | apply pick_tail | apply pick_app)) rfl ?_)
    (refine s_call (size_c (op := x.op) H) ?_; rintro _ u ⟨rfl, H⟩; refine ⟨_, rfl, ?_⟩)
    refine s_asU (s_req rfl (s_asI (s_asB (h_ldI H (by repeat (first | exact pick_head | apply pick_tail | apply pick_app)) rfl ?_))))
    rw [wrapI (n := a + szP x.op) (by omega) (by omega)]
    refine h_st H (by repeat (first | exact pick_head | apply pick_tail | apply pick_app)) (by simp) rfl fun u H => h_ldI H (by repeat (first | exact pick_head | apply pick_tail | apply pick_app)) rfl ?_
    rw [w_succ (by omega)]
    refine h_st H (by repeat (first | exact pick_head | apply pick_tail | apply pick_app)) (by simp) rfl fun u H => h_cont H (by repeat (first | exact pick_head | apply pick_tail | apply pick_app)) hrs hrp fun w2 H => s_next trivial ?_
    simp (config := { decide := true }) only [if_true, if_false]
    refine .inl ⟨rfl, _, ⟨by omega, rfl⟩, ?_⟩
    rw [hsn]
    exact H.sub (by repeat (first | exact sb_refl | exact sb_nil | refine sb_cons (by repeat (first | exact pick_head | apply pick_tail | apply pick_app)) ?_ | refine sb_app (by repeat (first | exact cut_head | exact cut_all | apply cut_tail | apply cut_app)) ?_ | exact sb_one (by repeat (first | exact cut_head | exact cut_all | apply cut_tail | apply cut_app))))
  · rintro D W mi ⟨_, rfl⟩ H
    rw [htl, List.take_length] at H
    refine h_ldI H (by repeat (first | exact pick_head | apply pick_tail | apply pick_app)) rfl (h_ldS H (by repeat (first | exact pick_head | apply pick_tail | apply pick_app)) rfl (s_true (by simp) (h_ldI H (by repeat (first | exact pick_head | apply pick_tail | apply pick_app)) rfl ?_)))
    have : ((offI 0 l == (B.length : Int)) : Bool) = true := by rw [hofl]; simp
    rw [this]
    refine h_st H (by repeat (first | exact pick_head | apply pick_tail | apply pick_app)) (by simp) rfl fun u H => h_col H (by repeat (first | exact pick_head | apply pick_tail | apply pick_app)) fun u H => h_ldB H (by repeat (first | exact pick_head | apply pick_tail | apply pick_app)) rfl (s_ret ⟨rfl, H.base⟩)
end
end Go.Proofs.Ytgoecmggbcaoiaa
