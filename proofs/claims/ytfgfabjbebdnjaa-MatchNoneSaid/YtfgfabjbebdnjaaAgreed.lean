/- What a majority agrees on: the walk over all, sorted, the middle one. -/
import Derived.Test.YtfgfabjbebdnjaaSortB
import Derived.Test.YtfgfabjbebdnjaaSep
set_option linter.unusedVariables false
set_option linter.unusedSimpArgs false
set_option maxRecDepth 100000

namespace Go.Proofs.Ytfgfabjbebdnjaa
open Go hiding Expr
open Go.RowKit Tr

/-- What the sequence over all tells. -/
def toldAll (s : MS) : List (List Value) := (List.range s.n.toNat).map fun (i : Nat) => [.int .i64 (i : Int), .agg ⟨[.int .i64 (s.at (i : Int)).1, .int .i64 (s.at (i : Int)).2]⟩]
def MS.likes (s : MS) : List Int := (List.range s.n.toNat).map fun (i : Nat) => (s.at (i : Int)).2

section
variable {w : World} {b p : Nat} {s : MS}
theorem seqAll_c (hs : s.Ok) : Seq Try.prog 26 [.pointer (some ⟨p, 0, none⟩)] (fun W => Cells W b 46 (pm s) ∧ Cells W p 25 [.pointer (some ⟨b, 0, none⟩)]) (toldAll s) := by
  intro l w I S hh hK h0 hY
  apply c26
  have hn5 := hs.n5
  have hn1 := hs.n1
  refine s_drew fun w1 hq f1 => ?_
  have h0 := hh.go' h0 f1
  obtain ⟨h, hp⟩ := hK 0 w1 h0
  refine s_ldP hp rfl (s_sm (s_ldP hp rfl (s_sm (s_ldI h rfl (s_req (by omega) ?_)))))
  refine s_loop (fun vs W => ∃ i : Nat, vs = [.int .i64 i] ∧ (i : Int) ≤ s.n ∧ I i W) (fun vs _ => s.n.toNat - (intOf (vs.getD 0 undef)).toNat) ⟨0, rfl, by omega, h0⟩ ?_
  rintro _ j W ⟨i, rfl, hi, hI⟩
  obtain ⟨h, hp⟩ := hK _ W hI
  refine s_asI (s_ite (fun g1 => ?_) (fun g1 => ?_))
  · simp only [decide_eq_true_eq] at g1
    have hi' : (i : Int) < s.n := by omega
    have hw : IntKind.wrap .i64 ((i : Int) + 1) = ((i + 1 : Nat) : Int) := by rw [wrap64 (by omega) (by omega)]; rfl
    have hlt : i < s.l.length := by rw [hs.five]; omega
    obtain ⟨p1, p2⟩ := pm_get (s := s) (List.getElem?_eq_getElem hlt)
    have hat : s.at (i : Int) = s.l[i] := by unfold MS.at; rw [if_neg (by omega)]; simp [hlt]
    refine s_req ⟨by omega, g1⟩ (s_sm (s_ldI h (n := s.l[i].1) (by simpa using p1) (s_ldI h (n := s.l[i].2) (by simpa using p2) ?_)))
    refine s_new fun r W1 hr hz f1 hc => ?_
    refine s_st hc (by simp) rfl fun W2 z2 f2 hc => s_st hc (by simp) rfl fun W3 z3 f3 hc => s_ldI hc rfl (s_ldI hc rfl ?_)
    have fN : Fr [] W W3 := f1.trans' (f2.trans f3) (fun x hx => by simp at hx; exact .inr (by omega))
    refine (hY i W3 _ (hh.go' hI fN) (by simp only [toldAll, List.getElem?_map, List.getElem?_range (show i < s.n.toNat by omega), Option.map_some, hat])).mono ?_
    rintro _ W' ⟨v, rfl, ⟨rfl, hI'⟩ | ⟨rfl, hS⟩⟩
    · refine ⟨_, rfl, s_asB (s_false rfl (s_next ⟨rfl, rfl⟩ ?_))⟩
      simp only [if_true]
      refine ⟨⟨i + 1, by rw [hw], by omega, hI'⟩, ?_⟩
      rw [hw]; simp [intOf]; omega
    · exact ⟨_, rfl, s_asB (s_true rfl (s_ret ⟨⟨_, rfl⟩, .inr hS⟩))⟩
  · simp only [decide_eq_false_iff_not] at g1
    have : i = (toldAll s).length := by simp [toldAll]; omega
    rw [this] at hI
    exact s_ret ⟨⟨_, rfl⟩, .inl hI⟩

theorem fn23_c : Calls Try.prog 23 #[.pointer (some ⟨b, 0, none⟩)] w fun e w' => ∃ r, e = .returned (.func (.func 26) #[] ⟨[.pointer (some ⟨r, 0, none⟩)]⟩) ∧ w.heap.size ≤ r ∧ Fr [] w w' ∧ Cells w' r 25 [.pointer (some ⟨b, 0, none⟩)] := by
  apply c23
  refine s_new fun r w1 hr hz f1 hc => s_ret ⟨r, rfl, by omega, f1, hc⟩

/-- The middle one of a sorted permutation. -/
def IsAg (ls : List Int) (v : Int) : Prop := ∃ ys, ys.Perm ls ∧ Upto ys ys.length ∧ ys[(ls.length - 1) / 2]? = some v

theorem elem59 : Elem Try.prog 59 2 (.int .i64 0) 1 8 := ⟨by kernel_rfl, by kernel_rfl, rfl, by decide⟩

theorem agreed_c (h : Cells w b 46 (pm s)) (hs : s.Ok) : Calls Try.prog 11 #[.pointer (some ⟨b, 0, none⟩)] w fun e w' => ∃ v, e = .returned (.int .i64 v) ∧ IsAg s.likes v ∧ Fr [] w w' := by
  apply c11
  have hn5 := hs.n5
  have hn1 := hs.n1
  refine s_call (none_c h hs) ?_
  rintro _ _ ⟨rfl, rfl⟩
  refine ⟨_, rfl, s_asB (s_false rfl ?_)⟩
  refine h_new (Has.init w) fun n4 w1 H => s_call fn23_c ?_
  rintro _ w2 ⟨r, rfl, hr, f2, hc⟩
  have H := (H.addc f2 hr hc).sub (m2 := cl n4 59 [.slice none 0 0] :: ([] ++ (cl r 25 [.pointer (some ⟨b, 0, none⟩)] :: []))) (by repeat (first | exact sb_refl | exact sb_nil | refine sb_cons (by repeat (first | exact pick_head | apply pick_tail | apply pick_app)) ?_ | refine sb_app (by repeat (first | exact cut_head | exact cut_all | apply cut_tail | apply cut_app)) ?_ | exact sb_one (by repeat (first | exact cut_head | exact cut_all | apply cut_tail | apply cut_app))))
  refine ⟨_, rfl, s_asC (s_req rfl (s_asP ?_))⟩
  have hlen : s.likes.length = s.n.toNat := by simp [MS.likes]
  refine h_rf (seqAll_c (b := b) hs) H (fun i mi => i ≤ s.likes.length ∧ ∃ v c, OwnC 2 1 v i (ints (s.likes.take i)) c ∧ mi = cl n4 59 [v] :: (c ++ (cl r 25 [.pointer (some ⟨b, 0, none⟩)] :: [])))
    (fun _ => False) ⟨by omega, _, _, OwnC.nil, rfl⟩ ?_ (fun _ h => h.elim) ?_ ?_ ?_ (fun _ _ _ h => h.elim)
  · rintro i mi ⟨_, v, c, ho, rfl⟩
    exact fit_cl (fit_app ho.fit (fit_cl fit_nil))
  · rintro i mi W ⟨_, v, c, ho, rfl⟩ H
    exact ⟨H.base.cells h (by simp), H.cells (by repeat (first | exact pick_head | apply pick_tail | apply pick_app))⟩
  · rintro l rec d i W av mi hrs hrp hi ⟨hil, v, c, ho, rfl⟩ H
    obtain ⟨o, cap, rfl⟩ := ho.slice
    have hilt : i < s.n.toNat := by
      have := (List.getElem?_eq_some_iff.1 hi).1
      simpa [toldAll] using this
    obtain rfl : av = [.int .i64 (i : Int), .agg ⟨[.int .i64 (s.at (i : Int)).1, .int .i64 (s.at (i : Int)).2]⟩] := by
      simp only [toldAll, List.getElem?_map, List.getElem?_range hilt, Option.map_some, Option.some.injEq] at hi
      exact hi.symm
    refine s_req rfl ?_
    (repeat (first | refine s_asI ?_ | refine s_asS ?_ | refine s_asP ?_ | refine s_asB ?_ | refine s_asA ?_ | refine s_asT ?_ | refine s_asM ?_ | refine s_asU ?_ | refine s_asC ?_ | refine s_sm ?_ | refine s_req (by first | rfl | exact ⟨rfl, rfl⟩) ?_ | refine h_ldI H (by repeat (first | exact pick_head | apply pick_tail | apply pick_app)) (by first | rfl | (simp; done)) ?_ | refine h_ldB H (by repeat (first | exact pick_head | apply pick_tail | apply pick_app)) (by first | rfl | (simp; done)) ?_ | refine h_ldP H (by repeat (first | exact pick_head | apply pick_tail | apply pick_app)) (by first | rfl | (simp; done)) ?_ | refine h_ldS H (by repeat (first | exact pick_head | apply pick_tail | apply pick_app)) (by first | rfl | (simp; done)) ?_ | refine h_ldM H (by repeat (first | exact pick_head | apply pick_tail | apply pick_app)) (by first | rfl | (simp; done)) ?_ | refine h_ldT H (by repeat (first | exact pick_head | apply pick_tail | apply pick_app)) (by first | rfl | (simp; done)) ?_ | refine h_ldV H (by repeat (first | exact pick_head | apply pick_tail | apply pick_app)) (by first | rfl | (simp; done)) ?_ | (refine h_new H fun _ u H => ?_) | (refine h_st H (by repeat (first | exact pick_head | apply pick_tail | apply pick_app)) (by simp) rfl fun u H => ?_) | (refine h_drew H fun u H => ?_) | refine s_chk c_nil ?_))
    refine h_beg H (by repeat (first | exact pick_head | apply pick_tail | apply pick_app)) hrs fun w H => ?_
    (repeat (first | refine s_asI ?_ | refine s_asS ?_ | refine s_asP ?_ | refine s_asB ?_ | refine s_asA ?_ | refine s_asT ?_ | refine s_asM ?_ | refine s_asU ?_ | refine s_asC ?_ | refine s_sm ?_ | refine s_req (by first | rfl | exact ⟨rfl, rfl⟩) ?_ | refine h_ldI H (by repeat (first | exact pick_head | apply pick_tail | apply pick_app)) (by first | rfl | (simp; done)) ?_ | refine h_ldB H (by repeat (first | exact pick_head | apply pick_tail | apply pick_app)) (by first | rfl | (simp; done)) ?_ | refine h_ldP H (by repeat (first | exact pick_head | apply pick_tail | apply pick_app)) (by first | rfl | (simp; done)) ?_ | refine h_ldS H (by repeat (first | exact pick_head | apply pick_tail | apply pick_app)) (by first | rfl | (simp; done)) ?_ | refine h_ldM H (by repeat (first | exact pick_head | apply pick_tail | apply pick_app)) (by first | rfl | (simp; done)) ?_ | refine h_ldT H (by repeat (first | exact pick_head | apply pick_tail | apply pick_app)) (by first | rfl | (simp; done)) ?_ | refine h_ldV H (by repeat (first | exact pick_head | apply pick_tail | apply pick_app)) (by first | rfl | (simp; done)) ?_ | (refine h_new H fun _ u H => ?_) | (refine h_st H (by repeat (first | exact pick_head | apply pick_tail | apply pick_app)) (by simp) rfl fun u H => ?_) | (refine h_drew H fun u H => ?_) | refine s_chk c_nil ?_))
    refine h_app1 elem59 H (by repeat (first | exact cut_head | exact cut_all | apply cut_tail | apply cut_app)) ho (by repeat (first | exact pick_head | apply pick_tail | apply pick_app)) rfl (by simp; rfl) (by omega) (by omega) ?_
    intro v' c' w ho' H
    obtain ⟨o', cap', rfl⟩ := ho'.slice
    (repeat (first | refine s_asI ?_ | refine s_asS ?_ | refine s_asP ?_ | refine s_asB ?_ | refine s_asA ?_ | refine s_asT ?_ | refine s_asM ?_ | refine s_asU ?_ | refine s_asC ?_ | refine s_sm ?_ | refine s_req (by first | rfl | exact ⟨rfl, rfl⟩) ?_ | refine h_ldI H (by repeat (first | exact pick_head | apply pick_tail | apply pick_app)) (by first | rfl | (simp; done)) ?_ | refine h_ldB H (by repeat (first | exact pick_head | apply pick_tail | apply pick_app)) (by first | rfl | (simp; done)) ?_ | refine h_ldP H (by repeat (first | exact pick_head | apply pick_tail | apply pick_app)) (by first | rfl | (simp; done)) ?_ | refine h_ldS H (by repeat (first | exact pick_head | apply pick_tail | apply pick_app)) (by first | rfl | (simp; done)) ?_ | refine h_ldM H (by repeat (first | exact pick_head | apply pick_tail | apply pick_app)) (by first | rfl | (simp; done)) ?_ | refine h_ldT H (by repeat (first | exact pick_head | apply pick_tail | apply pick_app)) (by first | rfl | (simp; done)) ?_ | refine h_ldV H (by repeat (first | exact pick_head | apply pick_tail | apply pick_app)) (by first | rfl | (simp; done)) ?_ | (refine h_new H fun _ u H => ?_) | (refine h_st H (by repeat (first | exact pick_head | apply pick_tail | apply pick_app)) (by simp) rfl fun u H => ?_) | (refine h_drew H fun u H => ?_) | refine s_chk c_nil ?_))
    refine h_cont H (by repeat (first | exact pick_head | apply pick_tail | apply pick_app)) hrs hrp fun w H => s_next trivial ?_
    simp only [if_true]
    refine .inl ⟨rfl, _, ⟨by omega, _, _, ?_, rfl⟩, H.sub (by repeat (first | exact sb_refl | exact sb_nil | refine sb_cons (by repeat (first | exact pick_head | apply pick_tail | apply pick_app)) ?_ | refine sb_app (by repeat (first | exact cut_head | exact cut_all | apply cut_tail | apply cut_app)) ?_ | exact sb_one (by repeat (first | exact cut_head | exact cut_all | apply cut_tail | apply cut_app))))⟩
    have : s.likes[i]? = some (s.at (i : Int)).2 := by simp [MS.likes, hilt]
    rw [List.take_add_one, this, Option.toList_some]
    simpa [ints] using ho'
  · rintro D W mi ⟨_, v, c, ho, rfl⟩ H
    have hxl : (toldAll s).length = s.likes.length := by simp [toldAll, MS.likes]
    rw [hxl, List.take_length] at ho
    obtain ⟨g, cap, sp, rfl, rfl, hcap, _⟩ := ho.pos (by omega)
    (repeat (first | refine s_asI ?_ | refine s_asS ?_ | refine s_asP ?_ | refine s_asB ?_ | refine s_asA ?_ | refine s_asT ?_ | refine s_asM ?_ | refine s_asU ?_ | refine s_asC ?_ | refine s_sm ?_ | refine s_req (by first | rfl | exact ⟨rfl, rfl⟩) ?_ | refine h_ldI H (by repeat (first | exact pick_head | apply pick_tail | apply pick_app)) (by first | rfl | (simp; done)) ?_ | refine h_ldB H (by repeat (first | exact pick_head | apply pick_tail | apply pick_app)) (by first | rfl | (simp; done)) ?_ | refine h_ldP H (by repeat (first | exact pick_head | apply pick_tail | apply pick_app)) (by first | rfl | (simp; done)) ?_ | refine h_ldS H (by repeat (first | exact pick_head | apply pick_tail | apply pick_app)) (by first | rfl | (simp; done)) ?_ | refine h_ldM H (by repeat (first | exact pick_head | apply pick_tail | apply pick_app)) (by first | rfl | (simp; done)) ?_ | refine h_ldT H (by repeat (first | exact pick_head | apply pick_tail | apply pick_app)) (by first | rfl | (simp; done)) ?_ | refine h_ldV H (by repeat (first | exact pick_head | apply pick_tail | apply pick_app)) (by first | rfl | (simp; done)) ?_ | (refine h_new H fun _ u H => ?_) | (refine h_st H (by repeat (first | exact pick_head | apply pick_tail | apply pick_app)) (by simp) rfl fun u H => ?_) | (refine h_drew H fun u H => ?_) | refine s_chk c_nil ?_))
    have H := H.pull (e := cl g 2 (ints s.likes ++ sp)) (by repeat (first | exact pick_head | apply pick_tail | apply pick_app))
    refine s_call2 (sort_c (H.cells pick_head) (by omega)) ?_
    rintro _ w ⟨⟨v, rfl⟩, f3, ys, hperm, hup, hc⟩
    have H := H.updc pick_head f3 hc
    refine ⟨_, rfl, ?_⟩
    (repeat (first | refine s_asI ?_ | refine s_asS ?_ | refine s_asP ?_ | refine s_asB ?_ | refine s_asA ?_ | refine s_asT ?_ | refine s_asM ?_ | refine s_asU ?_ | refine s_asC ?_ | refine s_sm ?_ | refine s_req (by first | rfl | exact ⟨rfl, rfl⟩) ?_ | refine h_ldI H (by repeat (first | exact pick_head | apply pick_tail | apply pick_app)) (by first | rfl | (simp; done)) ?_ | refine h_ldB H (by repeat (first | exact pick_head | apply pick_tail | apply pick_app)) (by first | rfl | (simp; done)) ?_ | refine h_ldP H (by repeat (first | exact pick_head | apply pick_tail | apply pick_app)) (by first | rfl | (simp; done)) ?_ | refine h_ldS H (by repeat (first | exact pick_head | apply pick_tail | apply pick_app)) (by first | rfl | (simp; done)) ?_ | refine h_ldM H (by repeat (first | exact pick_head | apply pick_tail | apply pick_app)) (by first | rfl | (simp; done)) ?_ | refine h_ldT H (by repeat (first | exact pick_head | apply pick_tail | apply pick_app)) (by first | rfl | (simp; done)) ?_ | refine h_ldV H (by repeat (first | exact pick_head | apply pick_tail | apply pick_app)) (by first | rfl | (simp; done)) ?_ | (refine h_new H fun _ u H => ?_) | (refine h_st H (by repeat (first | exact pick_head | apply pick_tail | apply pick_app)) (by simp) rfl fun u H => ?_) | (refine h_drew H fun u H => ?_) | refine s_chk c_nil ?_))
    have hyl : ys.length = s.likes.length := hperm.length_eq
    have hw1 : IntKind.wrap .i64 ((s.likes.length : Int) - 1) = ((s.likes.length - 1 : Nat) : Int) := by rw [wrap64 (by omega) (by omega)]; omega
    have hw : IntKind.wrap .i64 (Int.tdiv (IntKind.wrap .i64 ((s.likes.length : Int) - 1)) 2) = (((s.likes.length - 1) / 2 : Nat) : Int) := by
      rw [hw1, show Int.tdiv ((s.likes.length - 1 : Nat) : Int) 2 = (((s.likes.length - 1) / 2 : Nat) : Int) from rfl, wrap64 (by omega) (by omega)]
    have hlt : (s.likes.length - 1) / 2 < ys.length := by omega
    refine s_req (by decide) (s_req (by rw [hw]; omega) (s_sm ?_))
    refine h_ldI H (by repeat (first | exact pick_head | apply pick_tail | apply pick_app)) (n := ys[(s.likes.length - 1) / 2]) ?_ ?_
    · rw [hw, Int.toNat_natCast, Nat.zero_add, Nat.mul_one, List.getElem?_append_left (by simp [ints]; omega)]
      simp only [ints, List.getElem?_map, List.getElem?_eq_getElem hlt, Option.map_some]
    · refine h_col H (by repeat (first | exact pick_head | apply pick_tail | apply pick_app)) fun w H => s_ret ⟨_, rfl, ⟨ys, hperm, hup, List.getElem?_eq_getElem hlt⟩, H.base⟩
end
end Go.Proofs.Ytfgfabjbebdnjaa
