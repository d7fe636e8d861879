/- What a transaction may touch, by partitions. -/
import Derived.Test.YtndkffhlheaepaaLevels
import Derived.Test.YtndkffhlheaepaaTreesO
set_option linter.unusedVariables false
set_option linter.unusedSimpArgs false
set_option maxRecDepth 100000
set_option maxHeartbeats 4000000
namespace Go.Proofs.Ytndkffhlheaepaa
open Go hiding Expr
open Go.RowKit Tr

abbrev nilS : Value := .slice none 0 0
/-- Eight lists of keys, each in a block of its own or nowhere. -/
structure Fs where
  o : Nat → Option Addr
  c : Nat → Nat
def footL (f : Fs) (F : Nat → List K) : List Value := (List.range 8).map (fun p => .slice (f.o p) (F p).length (f.c p))
def FsOk (f : Fs) (F : Nat → List K) (cs : List Hp) : Prop := cs.length = 8 ∧ ∀ p, p < 8 → ∃ c, cs[p]? = some c ∧ OwnC 50 2 (.slice (f.o p) (F p).length (f.c p)) (F p).length (enc (F p)) c
theorem FsOk.list {f : Fs} {F : Nat → List K} {cs : List Hp} (h : FsOk f F cs) : Lists 8 F (footL f F) cs :=
  ⟨rfl, h.1, fun p hp => by
    obtain ⟨c, h1, h2⟩ := h.2 p hp
    exact ⟨_, c, by simp [footL, hp], h1, h2⟩⟩
theorem footL_get {f : Fs} {F : Nat → List K} {p : Nat} (hp : p < 8) : (footL f F)[p]? = some (.slice (f.o p) (F p).length (f.c p)) := by simp [footL, hp]
theorem footL_len (f : Fs) (F : Nat → List K) : (footL f F).length = 8 := rfl

/-- Partition lists made eight. -/
theorem lists_eight {parts : Int} {l : List K} {M : Nat} {vs : List Value} {cs : List Hp} (hM : M ≤ 8) (hMm : (M : Int) = manyI parts) (h : Lists M (FP parts l) vs cs) :
    ∃ f : Fs, vs ++ List.replicate (8 - M) nilS = footL f (FP parts l) ∧ FsOk f (FP parts l) (cs ++ List.replicate (8 - M) []) ∧ (cs ++ List.replicate (8 - M) ([] : Hp)).flatten = cs.flatten := by
  have hempty : ∀ p, M ≤ p → FP parts l p = [] := by
    intro p hp
    unfold FP
    rw [List.filter_eq_nil_iff]
    intro k _
    have := (partI_range k parts).2
    simp only [beq_iff_eq]
    omega
  have hall : ∀ p, p < 8 → ∃ oc : Option Addr × Nat × Hp, (vs ++ List.replicate (8 - M) nilS)[p]? = some (.slice oc.1 (FP parts l p).length oc.2.1) ∧ (cs ++ List.replicate (8 - M) [])[p]? = some oc.2.2 ∧
      OwnC 50 2 (.slice oc.1 (FP parts l p).length oc.2.1) (FP parts l p).length (enc (FP parts l p)) oc.2.2 := by
    intro p hp
    rcases Nat.lt_or_ge p M with h1 | h1
    · obtain ⟨v, c, hv, hc, ho⟩ := h.2.2 p h1
      obtain ⟨o, cap, rfl⟩ := ho.slice
      exact ⟨(o, cap, c), by rw [List.getElem?_append_left (by rw [h.1]; exact h1)]; exact hv, by rw [List.getElem?_append_left (by rw [h.2.1]; exact h1)]; exact hc, ho⟩
    · refine ⟨(none, 0, []), ?_, ?_, ?_⟩
      · rw [List.getElem?_append_right (by rw [h.1]; exact h1), h.1, hempty p h1, List.getElem?_replicate, if_pos (by omega)]
        rfl
      · rw [List.getElem?_append_right (by rw [h.2.1]; exact h1), h.2.1, List.getElem?_replicate, if_pos (by omega)]
      · rw [hempty p h1]
        exact OwnC.nil
  obtain ⟨g, hg⟩ := Go.Deep.choose_lt hall
  refine ⟨⟨fun p => (g p).1, fun p => (g p).2.1⟩, ?_, ⟨by simp [h.2.1]; omega, fun p hp => ⟨(g p).2.2, (hg p hp).2.1, (hg p hp).2.2⟩⟩, by simp⟩
  apply List.ext_getElem?
  intro p
  rcases Nat.lt_or_ge p 8 with hp | hp
  · rw [(hg p hp).1, footL_get hp]
  · rw [List.getElem?_eq_none (by simp [h.1]; omega), List.getElem?_eq_none (by rw [footL_len]; exact hp)]

theorem copied (vs vs' : List Value) (M : Nat) (hM : M ≤ 8) (h : vs.length = M) (h' : vs'.length = M) :
    setL (setL (List.replicate 18 nilS) 0 vs) 8 vs' = (vs ++ List.replicate (8 - M) nilS) ++ (vs' ++ List.replicate (8 - M) nilS) ++ [nilS, nilS] := by
  apply List.ext_getElem?
  intro k
  rw [setL_get _ _ _ (by rw [setL_len, List.length_replicate]; omega), setL_get _ _ _ (by rw [List.length_replicate]; omega), h, h']
  have hl : (vs ++ List.replicate (8 - M) nilS).length = 8 := by rw [List.length_append, List.length_replicate]; omega
  have hl' : (vs' ++ List.replicate (8 - M) nilS).length = 8 := by rw [List.length_append, List.length_replicate]; omega
  rcases Nat.lt_or_ge k 8 with h1 | h1
  · rw [if_neg (by omega), List.append_assoc, List.getElem?_append_left (l₁ := vs ++ List.replicate (8 - M) nilS) (by omega)]
    rcases Nat.lt_or_ge k M with h2 | h2
    · rw [if_pos ⟨by omega, by omega⟩, List.getElem?_append_left (by omega)]
      rfl
    · rw [if_neg (by omega), List.getElem?_append_right (by omega), List.getElem?_replicate, List.getElem?_replicate, if_pos (by omega), if_pos (by omega)]
  · rw [List.append_assoc, List.getElem?_append_right (l₁ := vs ++ List.replicate (8 - M) nilS) (by omega), hl]
    rcases Nat.lt_or_ge k 16 with h2 | h2
    · rw [List.getElem?_append_left (l₁ := vs' ++ List.replicate (8 - M) nilS) (by omega)]
      rcases Nat.lt_or_ge k (8 + M) with h3 | h3
      · rw [if_pos ⟨h1, h3⟩, List.getElem?_append_left (by omega)]
      · rw [if_neg (by omega), if_neg (by omega), List.getElem?_append_right (by omega), List.getElem?_replicate, List.getElem?_replicate, if_pos (by omega), if_pos (by omega)]
    · rw [if_neg (by omega), if_neg (by omega), List.getElem?_append_right (l₁ := vs' ++ List.replicate (8 - M) nilS) (by omega), hl']
      rcases Nat.lt_or_ge k 18 with h3 | h3
      · rw [List.getElem?_replicate, if_pos h3]
        have : k = 16 ∨ k = 17 := by omega
        rcases this with rfl | rfl <;> rfl
      · rw [List.getElem?_eq_none (by rw [List.length_replicate]; exact h3), List.getElem?_eq_none (by simp; omega)]

/-! ### The partitions -/
def touchN (parts : Int) (x : TX) (p : Nat) : Bool := decide (0 < (FP parts (KS x.rd) p).length + (FP parts (KS x.wr) p).length)
def actN (parts : Int) (x : TX) (p : Nat) : Bool := decide (0 < (FP parts (KS x.wr) p).length)
def partsU (c : Nat → Bool) (k : Nat) : List Int := ((List.range k).filter c).map (fun p : Nat => (p : Int))
theorem partsU_succ (c : Nat → Bool) (k : Nat) : partsU c (k + 1) = partsU c k ++ (if c k then [(k : Int)] else []) := by
  unfold partsU
  rw [List.range_succ, List.filter_append, List.map_append]
  congr 1
  by_cases h : c k <;> simp [h]
theorem partsU_len (c : Nat → Bool) (k : Nat) : (partsU c k).length ≤ k := by
  unfold partsU
  rw [List.length_map]
  have := List.length_filter_le c (List.range k)
  simpa using this
def partsOf (parts : Int) (x : TX) : List Int := if (partsU (touchN parts x) 8).length = 0 then [0] else partsU (touchN parts x) 8
def activeOf (parts : Int) (x : TX) : List Int := if (partsU (actN parts x) 8).length = 0 then [(partsOf parts x).headD 0] else partsU (actN parts x) 8
theorem partsOf_pos (parts : Int) (x : TX) : 0 < (partsOf parts x).length := by
  unfold partsOf
  split
  · simp
  · omega
theorem partsOf_len (parts : Int) (x : TX) : (partsOf parts x).length ≤ 8 := by
  unfold partsOf
  split
  · simp
  · exact partsU_len _ 8
theorem activeOf_len (parts : Int) (x : TX) : (activeOf parts x).length ≤ 8 := by
  unfold activeOf
  split
  · simp
  · exact partsU_len _ 8

abbrev footAll (f g : Fs) (parts : Int) (x : TX) (vp va : Value) : List Value := footL f (FP parts (KS x.rd)) ++ footL g (FP parts (KS x.wr)) ++ [vp, va]
/-- A footprint in memory. -/
def FootC (parts : Int) (x : TX) (l : List Value) (c : Hp) : Prop := ∃ (f g : Fs) (o1 o2 : Option Addr) (c1 c2 : Nat) (cr cw : List Hp) (cp ca : Hp),
  l = footAll f g parts x (.slice o1 (partsOf parts x).length c1) (.slice o2 (activeOf parts x).length c2) ∧ c = cr.flatten ++ (cw.flatten ++ (cp ++ ca)) ∧
  FsOk f (FP parts (KS x.rd)) cr ∧ FsOk g (FP parts (KS x.wr)) cw ∧ OwnC 3 1 (.slice o1 (partsOf parts x).length c1) (partsOf parts x).length (ints (partsOf parts x)) cp ∧
  OwnC 3 1 (.slice o2 (activeOf parts x).length c2) (activeOf parts x).length (ints (activeOf parts x)) ca

theorem elem37 : (Try.prog.info? 37).map (·.size) = some 1 := by kernel_rfl

section
variable {w : World}
theorem foot_lits (f g : Fs) (FA FB : Nat → List K) (vp va : Value) : footL f FA ++ footL g FB ++ [vp, va] = [.slice (f.o 0) (FA 0).length (f.c 0), .slice (f.o 1) (FA 1).length (f.c 1), .slice (f.o 2) (FA 2).length (f.c 2), .slice (f.o 3) (FA 3).length (f.c 3), .slice (f.o 4) (FA 4).length (f.c 4), .slice (f.o 5) (FA 5).length (f.c 5), .slice (f.o 6) (FA 6).length (f.c 6), .slice (f.o 7) (FA 7).length (f.c 7), .slice (g.o 0) (FB 0).length (g.c 0), .slice (g.o 1) (FB 1).length (g.c 1), .slice (g.o 2) (FB 2).length (g.c 2), .slice (g.o 3) (FB 3).length (g.c 3), .slice (g.o 4) (FB 4).length (g.c 4), .slice (g.o 5) (FB 5).length (g.c 5), .slice (g.o 6) (FB 6).length (g.c 6), .slice (g.o 7) (FB 7).length (g.c 7), vp, va] := rfl
theorem nil_lits : List.replicate 18 nilS = [nilS, nilS, nilS, nilS, nilS, nilS, nilS, nilS, nilS, nilS, nilS, nilS, nilS, nilS, nilS, nilS, nilS, nilS] := rfl
theorem bst (n m : Nat) (h : Nat.ble (n + 1) m = true) : n < m := Nat.le_of_ble_eq_true h
theorem of_c {x : TX} (h : TxAt w x) (hx : TxOk x) (parts : Int) : Calls Try.prog 19 #[.agg ⟨txr x⟩, .int .i64 parts] w fun en w' =>
    ∃ l c, en = .returned (.agg ⟨l⟩) ∧ FootC parts x l c ∧ Has w w' c := by
  have hsz := hx.sz
  have hm : 1 ≤ manyI parts ∧ manyI parts ≤ 8 := by unfold manyI; omega
  obtain ⟨M, hM⟩ := Int.eq_ofNat_of_zero_le (show 0 ≤ manyI parts by omega)
  have hMt : (manyI parts).toNat = M := by omega
  apply c19
  refine h_new (Has.init w) fun n15 u H => h_new H fun n16 u H => h_new H fun n17 u H => h_drew H fun u H => h_ldS H (by repeat (first | exact pick_head | apply pick_tail | apply pick_app)) rfl ?_
  refine s_call (split_c parts (h.rd.fr0 H.base) rfl (by omega)) ?_
  rintro _ u ⟨g1, vs, cs, rfl, hL, Hs⟩
  have H := H.join Hs
  rw [hMt] at hL ⊢
  obtain ⟨f, hf, hfo, hfc⟩ := lists_eight (by omega) hM.symm hL
  have h1c : ∀ {vs : List Value} {cs : List Hp} {F : Nat → List K}, Lists M F vs cs → ∀ u ∈ vs, u.oneCell' = true := by
    intro vs cs F hL u hu
    obtain ⟨i, hi, he⟩ := List.getElem_of_mem hu
    obtain ⟨v, c, hv, _, ho⟩ := hL.2.2 i (by rw [← hL.1]; exact hi)
    obtain ⟨o, cap, rfl⟩ := ho.slice
    rw [List.getElem?_eq_getElem hi, he] at hv
    cases hv
    rfl
  refine ⟨_, rfl, s_asS (s_chk c_nil ?_)⟩
  refine h_copy (by kernel_rfl) elem37 H (by repeat (first | exact pick_head | apply pick_tail | apply pick_app)) (news := vs) (H.cells (b := g1) (l := vs) (ty := 37) (by repeat (first | exact pick_head | apply pick_tail | apply pick_app))).reads (by rw [hL.1, Nat.min_def]; split <;> omega) (by rw [hL.1]; show 0 + M ≤ 18; omega) (h1c hL) fun u H => ?_
  refine s_asI (s_chk c_nil (h_drew H fun u H => h_ldS H (by repeat (first | exact pick_head | apply pick_tail | apply pick_app)) rfl ?_))
  refine s_call (split_c parts (h.wr.fr0 H.base) rfl (by omega)) ?_
  rintro _ u ⟨g2, vs', cs', rfl, hL', Hs'⟩
  have H := H.join Hs'
  rw [hMt] at hL' ⊢
  obtain ⟨g, hg, hgo, hgc⟩ := lists_eight (by omega) hM.symm hL'
  refine ⟨_, rfl, s_asS (s_chk c_nil ?_)⟩
  refine h_copy (by kernel_rfl) elem37 H (by repeat (first | exact pick_head | apply pick_tail | apply pick_app)) (news := vs') (H.cells (b := g2) (l := vs') (ty := 37) (by repeat (first | exact pick_head | apply pick_tail | apply pick_app))).reads (by rw [hL'.1, Nat.min_def]; split <;> omega) (by rw [hL'.1, setL_len]; show 8 + M ≤ 18; omega) (h1c hL') fun u H => ?_
  have hcopy := copied vs vs' M (by omega) hL.1 hL'.1
  have H : Has w u (cl n17 45 (footL f (FP parts (KS x.rd)) ++ footL g (FP parts (KS x.wr)) ++ [nilS, nilS]) :: (cl n16 45 (List.replicate 18 nilS) :: (cs.flatten ++ cs'.flatten))) := by
    rw [hf, hg] at hcopy
    rw [show (Array.toList (#[nilS, nilS, nilS, nilS, nilS, nilS, nilS, nilS, nilS, nilS, nilS, nilS, nilS, nilS, nilS, nilS, nilS, nilS] : Array Value)) = List.replicate 18 nilS from rfl, hcopy] at H
    exact H.sub (by repeat (first | exact sb_refl | exact sb_nil | refine sb_cons (by repeat (first | exact pick_head | apply pick_tail | apply pick_app)) ?_ | refine sb_app (by repeat (first | exact cut_head | exact cut_all | apply cut_tail | apply cut_app)) ?_ | exact sb_one (by repeat (first | exact cut_head | exact cut_all | apply cut_tail | apply cut_app))))
  refine s_asI (s_chk c_nil ?_)
  generalize hA : FP parts (KS x.rd) = FA at *
  generalize hB : FP parts (KS x.wr) = FB at *
  have hAl : ∀ p, (FA p).length ≤ x.rd.length := fun p => by rw [← hA]; have := FP_len parts (KS x.rd) p; have := KS_len x.rd; omega
  have hBl : ∀ p, (FB p).length ≤ x.wr.length := fun p => by rw [← hB]; have := FP_len parts (KS x.wr) p; have := KS_len x.wr; omega
  refine s_loop (fun vs W => ∃ (k : Nat) (o1 o2 : Option Addr) (c1 c2 : Nat) (cp ca : Hp), vs = [.int .i64 k] ∧ k ≤ 8 ∧ OwnC 3 1 (.slice o1 (partsU (touchN parts x) k).length c1) (partsU (touchN parts x) k).length (ints (partsU (touchN parts x) k)) cp ∧
      OwnC 3 1 (.slice o2 (partsU (actN parts x) k).length c2) (partsU (actN parts x) k).length (ints (partsU (actN parts x) k)) ca ∧
      Has w W (cl n17 45 (footL f FA ++ footL g FB ++ [.slice o1 (partsU (touchN parts x) k).length c1, .slice o2 (partsU (actN parts x) k).length c2]) :: (cp ++ (ca ++ (cl n16 45 (List.replicate 18 nilS) :: (cs.flatten ++ cs'.flatten))))))
    (fun vs _ => 8 - (intOf (vs.getD 0 undef)).toNat) ⟨0, none, none, 0, 0, [], [], rfl, by omega, OwnC.nil, OwnC.nil, H⟩ ?_
  clear H
  rintro _ j W ⟨k, o1, o2, c1, c2, cp, ca, rfl, hk, hop, hoa, H⟩
  refine s_asI (s_ite (fun g1 => ?_) (fun g1 => ?_))
  · have g1 : (k : Int) < 8 := by simpa using g1
    have hk8 : k < 8 := by omega
    have hgr : ∀ (vp va : Value), (footL f FA ++ footL g FB ++ [vp, va])[0 + Int.toNat (k : Int) * 1]? = some (.slice (f.o k) (FA k).length (f.c k)) := by
      intro vp va
      rw [Int.toNat_natCast, Nat.zero_add, Nat.mul_one, List.append_assoc, List.getElem?_append_left (by rw [footL_len]; exact hk8), footL_get hk8]
    have hgw : ∀ (vp va : Value), (footL f FA ++ footL g FB ++ [vp, va])[8 + Int.toNat (k : Int) * 1]? = some (.slice (g.o k) (FB k).length (g.c k)) := by
      intro vp va
      rw [Int.toNat_natCast, Nat.mul_one, List.append_assoc, List.getElem?_append_right (by rw [footL_len]; omega), footL_len, show 8 + k - 8 = k by omega, List.getElem?_append_left (by rw [footL_len]; exact hk8), footL_get hk8]
    have ha := hAl k
    have hb := hBl k
    have hpl := partsU_len (touchN parts x) k
    have hal := partsU_len (actN parts x) k
    refine s_blk (fun _ W => ∃ (o1 : Option Addr) (c1 : Nat) (cp : Hp), OwnC 3 1 (.slice o1 (partsU (touchN parts x) (k + 1)).length c1) (partsU (touchN parts x) (k + 1)).length (ints (partsU (touchN parts x) (k + 1))) cp ∧
      Has w W (cl n17 45 (footL f FA ++ footL g FB ++ [.slice o1 (partsU (touchN parts x) (k + 1)).length c1, .slice o2 (partsU (actN parts x) k).length c2]) :: (cp ++ (ca ++ (cl n16 45 (List.replicate 18 nilS) :: (cs.flatten ++ cs'.flatten)))))) ?_ ?_
    · clear H hop
      rintro _ _ W ⟨o1, c1, cp, hop, H⟩
      refine s_req ⟨by omega, g1⟩ (h_ldS H (by repeat (first | exact pick_head | apply pick_tail | apply pick_app)) (hgw _ _) (s_ite (fun g2 => ?_) (fun g2 => s_next (by first | exact ⟨rfl, rfl⟩ | trivial) ?_)))
      · have g2 : 0 < (FB k).length := by simpa using g2
        refine h_ldS H (by repeat (first | exact pick_head | apply pick_tail | apply pick_app)) rfl ?_
        (refine h_new H fun n47 u H => ?_)
        refine h_app1 elemN H (cut_tail (cut_tail (cut_app cut_head))) hoa (by repeat (first | exact pick_head | apply pick_tail | apply pick_app)) rfl (ints_one [(k : Int)]) (by omega) (by omega) ?_
        intro v' c' u ho' H
        obtain ⟨o', cap', rfl⟩ := ho'.slice
        refine s_asS (h_st H (by repeat (first | exact pick_head | apply pick_tail | apply pick_app)) (by simp [footL]) rfl fun u H => s_next (by first | exact ⟨rfl, rfl⟩ | trivial) ?_)
        simp (config := { decide := true }) only [if_true, if_false]
        have hs : actN parts x k = true := by unfold actN; rw [hB]; simpa using g2
        have hu : partsU (actN parts x) (k + 1) = partsU (actN parts x) k ++ [(k : Int)] := by rw [partsU_succ, hs, if_pos rfl]
        refine ⟨⟨k + 1, o1, o', c1, cap', cp, c', by rw [w_succ (by omega)], by omega, hop, ?_, ?_⟩, by rw [w_succ (by omega)]; simp [intOf] <;> omega⟩
        · rw [hu, List.length_append, ints_append]
          exact ho'
        · rw [hu, List.length_append]
          exact H.sub (by repeat (first | exact sb_refl | exact sb_nil | refine sb_cons (by repeat (first | exact pick_head | apply pick_tail | apply pick_app)) ?_ | refine sb_app (by repeat (first | exact cut_head | exact cut_all | apply cut_tail | apply cut_app)) ?_ | exact sb_one (by repeat (first | exact cut_head | exact cut_all | apply cut_tail | apply cut_app))))
      · have g2 : ¬ 0 < (FB k).length := by simpa using g2
        simp (config := { decide := true }) only [if_true, if_false]
        have hs : actN parts x k = false := by unfold actN; rw [hB]; simpa using g2
        have hu : partsU (actN parts x) (k + 1) = partsU (actN parts x) k := by rw [partsU_succ, hs, if_neg (by simp), List.append_nil]
        exact ⟨⟨k + 1, o1, o2, c1, c2, cp, ca, by rw [w_succ (by omega)], by omega, hop, by rw [hu]; exact hoa, by rw [hu]; exact H⟩, by rw [w_succ (by omega)]; simp [intOf] <;> omega⟩
    · refine h_drew H fun u H => s_req ⟨by omega, g1⟩ (h_ldS H (by repeat (first | exact pick_head | apply pick_tail | apply pick_app)) (hgr _ _) (s_req ⟨by omega, g1⟩ (h_ldS H (by repeat (first | exact pick_head | apply pick_tail | apply pick_app)) (hgw _ _) ?_)))
      rw [w_add (by omega)]
      refine s_ite (fun g2 => ?_) (fun g2 => s_next (by first | exact ⟨rfl, rfl⟩ | trivial) ?_)
      · have g2 : 0 < (FA k).length + (FB k).length := by
          have : (0 : Int) < (((FA k).length + (FB k).length : Nat) : Int) := by simpa using g2
          omega
        refine h_ldS H (by repeat (first | exact pick_head | apply pick_tail | apply pick_app)) rfl ?_
        (refine h_new H fun n61 u H => ?_)
        refine h_app1 elemN H (cut_tail (cut_tail cut_head)) hop (by repeat (first | exact pick_head | apply pick_tail | apply pick_app)) rfl (ints_one [(k : Int)]) (by omega) (by omega) ?_
        intro v' c' u ho' H
        obtain ⟨o', cap', rfl⟩ := ho'.slice
        refine s_asS (h_st H (by repeat (first | exact pick_head | apply pick_tail | apply pick_app)) (by simp [footL]) rfl fun u H => s_next (by first | exact ⟨rfl, rfl⟩ | trivial) ?_)
        simp (config := { decide := true }) only [if_true, if_false]
        have hs : touchN parts x k = true := by unfold touchN; rw [hA, hB]; simpa using g2
        have hu : partsU (touchN parts x) (k + 1) = partsU (touchN parts x) k ++ [(k : Int)] := by rw [partsU_succ, hs, if_pos rfl]
        refine ⟨o', cap', c', ?_, ?_⟩
        · rw [hu, List.length_append, ints_append]
          exact ho'
        · rw [hu, List.length_append]
          exact H.sub (by repeat (first | exact sb_refl | exact sb_nil | refine sb_cons (by repeat (first | exact pick_head | apply pick_tail | apply pick_app)) ?_ | refine sb_app (by repeat (first | exact cut_head | exact cut_all | apply cut_tail | apply cut_app)) ?_ | exact sb_one (by repeat (first | exact cut_head | exact cut_all | apply cut_tail | apply cut_app))))
      · have g2 : ¬ 0 < (FA k).length + (FB k).length := by
          have : ¬ (0 : Int) < (((FA k).length + (FB k).length : Nat) : Int) := by simpa using g2
          omega
        simp (config := { decide := true }) only [if_true, if_false]
        have hs : touchN parts x k = false := by unfold touchN; rw [hA, hB]; exact decide_eq_false g2
        have hu : partsU (touchN parts x) (k + 1) = partsU (touchN parts x) k := by rw [partsU_succ, hs, if_neg (by simp), List.append_nil]
        exact ⟨o1, c1, cp, by rw [hu]; exact hop, by rw [hu]; exact H⟩
  · have g1 : ¬ (k : Int) < 8 := by simpa using g1
    obtain rfl : k = 8 := by omega
    have hpl := partsU_len (touchN parts x) 8
    have hal := partsU_len (actN parts x) 8
    refine s_blk (fun _ W => ∃ (o1 : Option Addr) (c1 : Nat) (cp : Hp), OwnC 3 1 (.slice o1 (partsOf parts x).length c1) (partsOf parts x).length (ints (partsOf parts x)) cp ∧
      Has w W (cl n17 45 (footL f FA ++ footL g FB ++ [.slice o1 (partsOf parts x).length c1, .slice o2 (partsU (actN parts x) 8).length c2]) :: (cp ++ (ca ++ (cl n16 45 (List.replicate 18 nilS) :: (cs.flatten ++ cs'.flatten)))))) ?_ ?_
    · clear H hop
      rintro _ _ W ⟨o1, c1, cp, hop, H⟩
      have hpp := partsOf_pos parts x
      have hfin : ∀ {u : World} {m : Hp} {o2 : Option Addr} {c2 : Nat} {ca : Hp}, OwnC 3 1 (.slice o2 (activeOf parts x).length c2) (activeOf parts x).length (ints (activeOf parts x)) ca → Has w u (cs.flatten ++ (cs'.flatten ++ (cp ++ ca))) →
          ∃ l c, Ending.returned (.agg ⟨footL f FA ++ footL g FB ++ [.slice o1 (partsOf parts x).length c1, .slice o2 (activeOf parts x).length c2]⟩) = Ending.returned (.agg ⟨l⟩) ∧ FootC parts x l c ∧ Has w u c := by
        intro u m o2 c2 ca hoa H
        refine ⟨_, _, rfl, ⟨f, g, o1, o2, c1, c2, _, _, cp, ca, by unfold footAll; rw [hA, hB], rfl, by rw [hA]; exact hfo, by rw [hB]; exact hgo, hop, hoa⟩, ?_⟩
        rw [hfc, hgc]
        exact H
      refine h_ldS H (by repeat (first | exact pick_head | apply pick_tail | apply pick_app)) rfl (s_ite (fun g2 => ?_) (fun g2 => ?_))
      · have g2 : (partsU (actN parts x) 8).length = 0 := by
          have : ((partsU (actN parts x) 8).length : Int) = 0 := by simpa using g2
          omega
        obtain ⟨z, hz⟩ : ∃ z, (partsOf parts x)[0]? = some z := ⟨_, List.getElem?_eq_getElem hpp⟩
        have hact : activeOf parts x = [z] := by
          unfold activeOf
          rw [if_pos g2]
          congr 1
          cases hq : partsOf parts x with
          | nil => rw [hq] at hz; simp at hz
          | cons a l => rw [hq] at hz; simpa using hz
        refine h_ldS H (by repeat (first | exact pick_head | apply pick_tail | apply pick_app)) rfl ?_
        obtain ⟨ga, offa, hea, p1⟩ := (valsAt_own hop H (by repeat (first | exact cut_head | exact cut_all | apply cut_tail | apply cut_app))).get hz
        refine s_req ⟨by omega, by omega⟩ ⟨ga, offa, hea, s_loadI (by simpa using p1) ?_⟩
        (refine h_new H fun n77 u H => ?_)
        refine h_st H (by repeat (first | exact pick_head | apply pick_tail | apply pick_app)) (by simp [footL]) rfl fun u H => ?_
        rw [nil_lits] at H
        simp only [foot_lits, List.set_cons_zero, List.set_cons_succ] at H
        iterate 18 refine h_ldS H (by repeat (first | exact pick_head | apply pick_tail | apply pick_app)) rfl ?_
        iterate 18 (refine h_st H (by repeat (first | exact pick_head | apply pick_tail | apply pick_app)) (bst _ _ rfl) rfl fun u H => ?_; simp only [List.set_cons_zero, List.set_cons_succ] at H)
        iterate 18 refine h_ldS H (by repeat (first | exact pick_head | apply pick_tail | apply pick_app)) rfl ?_
        have hoa2 : OwnC 3 1 (.slice (some ⟨n77, 0, none⟩) (activeOf parts x).length 1) (activeOf parts x).length (ints (activeOf parts x)) [cl n77 3 [.int .i64 z]] := by
          rw [hact]
          exact ⟨rfl, .inr ⟨n77, 1, [], rfl, rfl, Nat.le_refl _, by decide, rfl⟩⟩
        have := hfin (m := []) hoa2 (u := u) (H.sub (by repeat (first | exact sb_refl | exact sb_nil | refine sb_cons (by repeat (first | exact pick_head | apply pick_tail | apply pick_app)) ?_ | refine sb_app (by repeat (first | exact cut_head | exact cut_all | apply cut_tail | apply cut_app)) ?_ | exact sb_one (by repeat (first | exact cut_head | exact cut_all | apply cut_tail | apply cut_app)))))
        rw [foot_lits, hact] at this
        exact s_ret this
      · have g2 : ¬ (partsU (actN parts x) 8).length = 0 := by
          have : ¬ ((partsU (actN parts x) 8).length : Int) = 0 := by simpa using g2
          omega
        have hact : activeOf parts x = partsU (actN parts x) 8 := by unfold activeOf; rw [if_neg g2]
        rw [← hact] at hoa H
        rw [nil_lits] at H
        simp only [foot_lits, List.set_cons_zero, List.set_cons_succ] at H
        iterate 18 refine h_ldS H (by repeat (first | exact pick_head | apply pick_tail | apply pick_app)) rfl ?_
        iterate 18 (refine h_st H (by repeat (first | exact pick_head | apply pick_tail | apply pick_app)) (bst _ _ rfl) rfl fun u H => ?_; simp only [List.set_cons_zero, List.set_cons_succ] at H)
        iterate 18 refine h_ldS H (by repeat (first | exact pick_head | apply pick_tail | apply pick_app)) rfl ?_
        have := hfin (m := []) hoa (u := u) (H.sub (by repeat (first | exact sb_refl | exact sb_nil | refine sb_cons (by repeat (first | exact pick_head | apply pick_tail | apply pick_app)) ?_ | refine sb_app (by repeat (first | exact cut_head | exact cut_all | apply cut_tail | apply cut_app)) ?_ | exact sb_one (by repeat (first | exact cut_head | exact cut_all | apply cut_tail | apply cut_app)))))
        rw [foot_lits] at this
        exact s_ret this
    · refine h_ldS H (by repeat (first | exact pick_head | apply pick_tail | apply pick_app)) rfl (s_ite (fun g2 => ?_) (fun g2 => s_next (by simp) ?_))
      · have g2 : (partsU (touchN parts x) 8).length = 0 := by
          have : ((partsU (touchN parts x) 8).length : Int) = 0 := by simpa using g2
          omega
        have hpo : partsOf parts x = [0] := by unfold partsOf; rw [if_pos g2]
        (refine h_new H fun n297 u H => ?_)
        refine h_st H (by repeat (first | exact pick_head | apply pick_tail | apply pick_app)) (by simp [footL]) rfl fun u H => s_next (by simp) ?_
        simp (config := { decide := true }) only [if_true, if_false]
        refine ⟨some ⟨n297, 0, none⟩, 1, [cl n297 3 [.int .i64 0]], ?_, ?_⟩
        · rw [hpo]
          exact ⟨rfl, .inr ⟨n297, 1, [], rfl, rfl, Nat.le_refl _, by decide, rfl⟩⟩
        · rw [hpo]
          exact H.sub (by repeat (first | exact sb_refl | exact sb_nil | refine sb_cons (by repeat (first | exact pick_head | apply pick_tail | apply pick_app)) ?_ | refine sb_app (by repeat (first | exact cut_head | exact cut_all | apply cut_tail | apply cut_app)) ?_ | exact sb_one (by repeat (first | exact cut_head | exact cut_all | apply cut_tail | apply cut_app))))
      · have g2 : ¬ (partsU (touchN parts x) 8).length = 0 := by
          have : ¬ ((partsU (touchN parts x) 8).length : Int) = 0 := by simpa using g2
          omega
        have hpo : partsOf parts x = partsU (touchN parts x) 8 := by unfold partsOf; rw [if_neg g2]
        simp (config := { decide := true }) only [if_true, if_false]
        exact ⟨o1, c1, cp, by rw [hpo]; exact hop, by rw [hpo]; exact H⟩
end
end Go.Proofs.Ytndkffhlheaepaa
