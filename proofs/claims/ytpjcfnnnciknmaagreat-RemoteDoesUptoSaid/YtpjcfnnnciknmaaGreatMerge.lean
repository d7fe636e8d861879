/- slices.Equal and slices.Concat of pairs, shard.Merge. -/
import Derived.Test.YtpjcfnnnciknmaaGreatPairsM
import Derived.Test.YtpjcfnnnciknmaaGreatWrite
import Derived.Test.YtpjcfnnnciknmaaGreatZeros
import Derived.Test.YtpjcfnnnciknmaaGreatCopy
set_option linter.unusedVariables false
set_option linter.unusedSimpArgs false
set_option maxRecDepth 100000
set_option maxHeartbeats 4000000
namespace Go.Proofs.YtpjcfnnnciknmaaGreat
open Go hiding Expr
open Go.RowKit Tr

section
variable {w : World} {o o2 : Option Addr} {l l2 : List PR}
theorem equal_pairs_c {n n2 c c2 : Nat} (h : PairsAt w o l) (h2 : PairsAt w o2 l2) (hn : n = l.length) (hn2 : n2 = l2.length) (hmax : l.length < 9223372036854775807) :
    Calls Tryz.prog 19 #[.slice o n c, .slice o2 n2 c2] w fun e w' => e = .returned (.bool (decide (l = l2))) ∧ Fr [] w w' := by
  subst hn hn2
  apply c19
  refine s_ite (fun g => ?_) (fun g => ?_)
  · refine s_ret ⟨?_, Fr.refl _ _⟩
    have : l ≠ l2 := fun e => by subst e; simp at g
    rw [decide_eq_false this]
  · have hl : l.length = l2.length := by
      have h3 : (l.length : Int) = l2.length := by simpa using g
      omega
    refine s_loop (fun vs W => ∃ i : Nat, vs = [.int .i64 i] ∧ i ≤ l.length ∧ l.take i = l2.take i ∧ Fr [] w W) (fun vs _ => l.length - (intOf (vs.getD 0 undef)).toNat) ⟨0, rfl, by omega, by simp, Fr.refl _ _⟩ ?_
    rintro _ j W ⟨i, rfl, hi, he, hf⟩
    refine s_asI (s_ite (fun g1 => ?_) (fun g1 => ?_))
    · simp only [decide_eq_true_eq] at g1
      have hlt : i < l.length := by omega
      refine s_drew fun w1 _ f1 => ?_
      have hf := hf.trans f1
      have hx : l[i]? = some l[i] := List.getElem?_eq_getElem hlt
      have hy : l2[i]? = some (l2[i]'(by omega)) := List.getElem?_eq_getElem _
      obtain ⟨g2, off, rfl, p1, p2, p3⟩ := (h.fr0 hf).get hx
      obtain ⟨g3, off3, rfl, q1, q2, q3⟩ := (h2.fr0 hf).get hy
      refine s_req ⟨by omega, by omega⟩ (s_sm (s_loadI p1 (s_loadI p2 (s_loadI p3 (s_req ⟨by omega, by omega⟩ (s_sm (s_loadI q1 (s_loadI q2 (s_loadI q3 ?_)))))))))
      rw [eqPR]
      refine s_ite (fun g4 => ?_) (fun g4 => s_next (by first | exact ⟨rfl, rfl⟩ | trivial) ?_)
      · have hne : l[i] ≠ l2[i]'(by omega) := by simpa using g4
        have : l ≠ l2 := fun e => hne (by subst e; rfl)
        rw [decide_eq_false this]
        exact s_ret ⟨rfl, hf⟩
      · have heq : l[i] = l2[i]'(by omega) := by simpa using g4
        simp (config := { decide := true }) only [if_true, if_false]
        refine ⟨⟨i + 1, by rw [w_succ (by omega)], by omega, ?_, hf⟩, by rw [w_succ (by omega)]; simp [intOf] <;> omega⟩
        rw [List.take_add_one, List.take_add_one, hx, hy, he, heq]
    · simp only [decide_eq_false_iff_not] at g1
      rw [List.take_of_length_le (by omega), List.take_of_length_le (by omega)] at he
      rw [decide_eq_true he]
      exact s_ret ⟨rfl, hf⟩

end

/-! ### slices.Concat -/
structure PL where
  o : Option Addr
  cap : Nat
  l : List PR
def plr (x : PL) : List Value := [.slice x.o x.l.length x.cap]
theorem plr1 (ls : List PL) : ∀ r ∈ ls.map plr, r.length = 1 := by
  intro r hr
  obtain ⟨x, _, rfl⟩ := List.mem_map.1 hr
  rfl
def flatP (ls : List PL) : List PR := (ls.map (·.l)).flatten
theorem flatP_snoc (ls : List PL) (x : PL) : flatP (ls ++ [x]) = flatP ls ++ x.l := by simp [flatP]
theorem flatP_take (ls : List PL) (i : Nat) : (flatP (ls.take i)).length ≤ (flatP ls).length := by
  conv => rhs; rw [← List.take_append_drop i ls]
  simp only [flatP, List.map_append, List.flatten_append, List.length_append]
  omega
def PLAt (w : World) (o : Option Addr) (ls : List PL) : Prop := RowsAt w o 1 (ls.map plr) ∧ ∀ x ∈ ls, PairsAt w x.o x.l

section
variable {w w' : World} {o : Option Addr} {ls : List PL}
theorem PLAt.fr0 (h : PLAt w o ls) (hf : Fr [] w w') : PLAt w' o ls := ⟨h.1.fr hf, fun x hx => (h.2 x hx).fr0 hf⟩
theorem PLAt.get (h : PLAt w o ls) {i : Nat} {x : PL} (hi : ls[i]? = some x) : ∃ g off, o = some ⟨g, off, none⟩ ∧ w.cell? ⟨g, off + i * 1, none⟩ = some (.slice x.o x.l.length x.cap) ∧ PairsAt w x.o x.l := by
  obtain ⟨g, off, rfl, _, hc⟩ := RowsAt.at h.1 (j := i) (r := plr x) (by simp [hi])
  exact ⟨g, off, rfl, hc 0 _ rfl, h.2 x (List.mem_of_getElem? hi)⟩

theorem grow_c {n : Nat} (hsz : n * 24 ≤ 140737488355328) : Calls Tryz.prog 79 #[.slice none 0 0, .int .i64 (n : Int)] w fun e w' =>
    ∃ v c, e = .returned v ∧ OwnC 53 3 v 0 [] c ∧ Has w w' c := by
  apply c79
  refine s_blk (fun vs W => w = W) ?_ ?_
  · rintro vs j W rfl
    have e1 : IntKind.wrap .i64 ((n : Int) - IntKind.wrap .i64 (((0 : Nat) : Int) - ((0 : Nat) : Int))) = (n : Int) := by
      rw [wrap64 (n := ((0 : Nat) : Int) - ((0 : Nat) : Int)) (by omega) (by omega), wrap64 (by omega) (by omega)]
      omega
    rw [e1]
    refine s_ite (fun g => ?_) (fun g => ?_)
    · simp only [decide_eq_true_eq] at g
      refine s_req ⟨by omega, by omega⟩ ?_
      rw [show (sliceBase (none : Option Addr) 0 0 3) = none from rfl, show Int.toNat ((0 : Nat) : Int) = 0 from rfl]
      refine h_appNilZeros elemPr (tn := 3) (kn := .i64) (by kernel_rfl) (Has.init w) (n := n) rfl (by omega) (by omega) (by omega) ?_
      intro r cap sp u h1 h2 h3 H
      refine s_asS (s_req ⟨by omega, by omega⟩ ?_)
      rw [sb_zero]
      refine s_ret ⟨_, _, rfl, ⟨rfl, .inr ⟨r, cap, (Builtin.zeroCells _ n).toList ++ sp, rfl, rfl, Nat.zero_le _, h2, ?_⟩⟩, H⟩
      rw [List.nil_append, List.length_append, h3, Array.length_toList, size_zeroCells]
      have e2 : (Value.agg ⟨[.int .i32 0, .int .i64 0, .int .i64 0]⟩).cells.size = 3 := rfl
      rw [e2, ← Nat.add_mul]
      congr 1
      omega
    · exact s_ret ⟨_, _, rfl, OwnC.nil, Has.init w⟩
  · refine s_ite (fun g => ?_) (fun g => ?_)
    · simp only [decide_eq_true_eq] at g
      omega
    · exact s_next (by simp) (by simp)

theorem concat_c {n cap : Nat} (h : PLAt w o ls) (hn : n = ls.length) (hsz : (flatP ls).length * 24 ≤ 140737488355328) (hls : ls.length < 9223372036854775807) : Calls Tryz.prog 51 #[.slice o n cap] w fun e w' =>
    ∃ v c, e = .returned v ∧ OwnC 53 3 v (flatP ls).length (encP (flatP ls)) c ∧ Has w w' c := by
  subst hn
  apply c51
  refine s_loop (fun vs W => ∃ i : Nat, vs = [.int .i64 ((flatP (ls.take i)).length : Int), .int .i64 i] ∧ i ≤ ls.length ∧ Has w W []) (fun vs _ => ls.length - (intOf (vs.getD 1 undef)).toNat) ⟨0, rfl, by omega, Has.init w⟩ ?_
  rintro _ j W ⟨i, rfl, hi, H⟩
  refine s_asI (s_asI (s_ite (fun g1 => ?_) (fun g1 => ?_)))
  · simp only [decide_eq_true_eq] at g1
    have hlt : i < ls.length := by omega
    obtain ⟨x, hx⟩ : ∃ x, ls[i]? = some x := ⟨_, List.getElem?_eq_getElem hlt⟩
    obtain ⟨g2, off, rfl, p1, _⟩ := (h.fr0 H.base).get hx
    have ht : ls.take (i + 1) = ls.take i ++ [x] := by rw [List.take_add_one, hx, Option.toList_some]
    have htl := flatP_take ls (i + 1)
    rw [ht, flatP_snoc, List.length_append] at htl
    refine s_req ⟨by omega, g1⟩ (s_sm (s_loadS p1 ?_))
    rw [w_add (by omega)]
    refine s_ite (fun g3 => ?_) (fun g3 => s_next (by first | exact ⟨rfl, rfl⟩ | trivial) ?_)
    · simp only [decide_eq_true_eq] at g3
      omega
    · simp (config := { decide := true }) only [if_true, if_false]
      exact ⟨⟨i + 1, by rw [w_succ (by omega), ht, flatP_snoc, List.length_append], by omega, H⟩, by rw [w_succ (by omega)]; simp [intOf] <;> omega⟩
  · simp only [decide_eq_false_iff_not] at g1
    rw [List.take_of_length_le (by omega)]
    refine s_call2 (grow_c hsz) ?_
    rintro _ u ⟨v, c, rfl, ho, Hc⟩
    have H := H.join Hc
    obtain ⟨o13, n15, rfl⟩ := ho.slice
    refine ⟨_, rfl, s_asS ?_⟩
    refine s_loop (fun vs W => ∃ (i : Nat) (v : Value) (c : Hp), vs = [v, .int .i64 i] ∧ i ≤ ls.length ∧ OwnC 53 3 v (flatP (ls.take i)).length (encP (flatP (ls.take i))) c ∧ Has w W c) (fun vs _ => ls.length - (intOf (vs.getD 1 undef)).toNat)
      ⟨0, _, c, rfl, by omega, ho, H.sub (by repeat (first | exact sb_refl | exact sb_nil | refine sb_cons (by repeat (first | exact pick_head | apply pick_tail | apply pick_app)) ?_ | refine sb_app (by repeat (first | exact cut_head | exact cut_all | apply cut_tail | apply cut_app)) ?_ | exact sb_one (by repeat (first | exact cut_head | exact cut_all | apply cut_tail | apply cut_app))))⟩ ?_
    rintro _ j W ⟨i, v, c, rfl, hi, ho, H⟩
    obtain ⟨ov, cv, rfl⟩ := ho.slice
    refine s_asS (s_asI (s_ite (fun g1 => ?_) (fun g1 => ?_)))
    · simp only [decide_eq_true_eq] at g1
      have hlt : i < ls.length := by omega
      obtain ⟨x, hx⟩ : ∃ x, ls[i]? = some x := ⟨_, List.getElem?_eq_getElem hlt⟩
      obtain ⟨g2, off, rfl, p1, hP⟩ := (h.fr0 H.base).get hx
      have ht : ls.take (i + 1) = ls.take i ++ [x] := by rw [List.take_add_one, hx, Option.toList_some]
      have htl := flatP_take ls (i + 1)
      rw [ht, flatP_snoc, List.length_append] at htl
      refine s_req ⟨by omega, g1⟩ (s_sm (s_loadS p1 ?_))
      refine h_appAll elemPr (by decide) H (by repeat (first | exact cut_head | exact cut_all | apply cut_tail | apply cut_app)) ho (pr3 x.l) (pr_one x.l) hP (by rw [List.length_map]) (by omega) (by omega) ?_
      intro v' c' u ho' H
      obtain ⟨ov', cv', rfl⟩ := ho'.slice
      refine s_asS (s_next (by first | exact ⟨rfl, rfl⟩ | trivial) ?_)
      simp (config := { decide := true }) only [if_true, if_false]
      refine ⟨⟨i + 1, _, c', by rw [w_succ (by omega)], by omega, ?_, H.sub (by repeat (first | exact sb_refl | exact sb_nil | refine sb_cons (by repeat (first | exact pick_head | apply pick_tail | apply pick_app)) ?_ | refine sb_app (by repeat (first | exact cut_head | exact cut_all | apply cut_tail | apply cut_app)) ?_ | exact sb_one (by repeat (first | exact cut_head | exact cut_all | apply cut_tail | apply cut_app))))⟩, by rw [w_succ (by omega)]; simp [intOf] <;> omega⟩
      rw [ht, flatP_snoc, List.length_append, encP_append]
      exact ho'
    · simp only [decide_eq_false_iff_not] at g1
      rw [List.take_of_length_le (by omega)] at ho
      rw [List.take_of_length_le (by omega)]
      exact s_ret ⟨_, c, rfl, ho, H⟩
end


section
variable {w : World} {o : Option Addr} {ls : List PL}
theorem merge_c {n cap : Nat} (h : PLAt w o ls) (hin : ∀ p ∈ flatP ls, InK p.k) (hn : n = ls.length) (hsz : (flatP ls).length * 24 ≤ 140737488355328) (hls : ls.length < 9223372036854775807) : Calls Tryz.prog 33 #[.slice o n cap] w fun e w' =>
    ∃ out v c, IsPairs (flatP ls) out ∧ e = .returned v ∧ OwnC 53 3 v out.length (encP out) c ∧ Has w w' c := by
  apply c33
  refine s_call2 (concat_c h hn hsz hls) ?_
  rintro _ u ⟨v, c, rfl, ho, H⟩
  obtain ⟨o2, cap2, rfl⟩ := ho.slice
  refine ⟨_, rfl, s_asS (s_call (pairs_c (pairsAt_own ho H (by repeat (first | exact cut_head | exact cut_all | apply cut_tail | apply cut_app))) hin rfl hsz) ?_)⟩
  rintro _ u ⟨out, v2, c2, hp, rfl, ho2, H2⟩
  have H := H.join H2
  obtain ⟨o3, cap3, rfl⟩ := ho2.slice
  exact ⟨_, rfl, s_asS (s_ret ⟨out, _, c2, hp, rfl, ho2, H.sub (by repeat (first | exact sb_refl | exact sb_nil | refine sb_cons (by repeat (first | exact pick_head | apply pick_tail | apply pick_app)) ?_ | refine sb_app (by repeat (first | exact cut_head | exact cut_all | apply cut_tail | apply cut_app)) ?_ | exact sb_one (by repeat (first | exact cut_head | exact cut_all | apply cut_tail | apply cut_app))))⟩)⟩
end
end Go.Proofs.YtpjcfnnnciknmaaGreat
