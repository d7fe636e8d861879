/- RemoteAnyOrder: the walk. -/
import Derived.Test.YtpjcfnnnciknmaaAnyP
set_option linter.unusedVariables false
set_option linter.unusedSimpArgs false
set_option maxRecDepth 100000
set_option maxHeartbeats 8000000
namespace Go.Proofs.Ytpjcfnnnciknmaa
open Go hiding Expr
open Go.RowKit Tr

def br (b : Bool) : List Value := [.bool b]
theorem br1 (l : List Bool) : ∀ r ∈ l.map br, r.length = 1 := by
  intro r hr
  obtain ⟨x, _, rfl⟩ := List.mem_map.1 hr
  rfl
def bools (l : List Bool) : List Value := (l.map br).flatten
theorem bools_len (l : List Bool) : (bools l).length = l.length := by unfold bools; rw [flat_len (br1 l), List.length_map, Nat.mul_one]
theorem bools_set {l : List Bool} {i : Nat} (hi : i < l.length) (b : Bool) : (bools l).set (i * 1 + 0) (.bool b) = bools (l.set i b) := by
  have hg : (l.map br)[i]? = some (br l[i]) := by simp [hi]
  unfold bools
  rw [flat_set (br1 l) hg (by omega), List.map_set]
  rfl
theorem bools_rep (n : Nat) : List.replicate n (Value.bool false) = bools (List.replicate n false) := by
  unfold bools
  rw [List.map_replicate]
  induction n with
  | zero => rfl
  | succ n ih =>
    rw [List.replicate_succ, List.replicate_succ, List.flatten_cons, ← ih]
    rfl

section
variable {w w0 : World} {o : Option Addr} {cm : List Bool} {n cap : Nat}
theorem contb_c (h : RowsAt w o 1 (cm.map br)) (hn : n = cm.length) (hmax : cm.length < 9223372036854775807) {b : Bool} : Calls Try.prog 13 #[.slice o n cap, .bool b] w fun e w' => e = .returned (.bool (decide (b ∈ cm))) ∧ w = w' := by
  subst hn
  apply c13
  refine s_call (R := fun e w' => ∃ i : Int, e = .returned (.int .i64 i) ∧ (0 ≤ i ↔ b ∈ cm) ∧ w = w') ?_ ?_
  · apply c31
    refine s_loop (fun vs W => ∃ i : Nat, vs = [.int .i64 i] ∧ i ≤ cm.length ∧ (∀ x ∈ cm.take i, x ≠ b) ∧ w = W) (fun vs _ => cm.length - (intOf (vs.getD 0 undef)).toNat) ⟨0, rfl, by omega, by simp, rfl⟩ ?_
    rintro _ j W ⟨i, rfl, hi, hno, rfl⟩
    refine s_asI (s_ite (fun g1 => ?_) (fun g1 => ?_))
    · simp only [decide_eq_true_eq] at g1
      have hlt : i < cm.length := by omega
      have hx : cm[i]? = some cm[i] := List.getElem?_eq_getElem hlt
      obtain ⟨g, off, rfl, _, hc⟩ := RowsAt.at h (j := i) (r := br cm[i]) (by simp [hx])
      refine s_req ⟨by omega, g1⟩ (s_sm (s_loadB (hc 0 _ rfl) (s_ite (fun g2 => ?_) (fun g2 => s_next (by first | exact ⟨rfl, rfl⟩ | trivial) ?_))))
      · have g2 : b = cm[i] := by simpa using g2
        exact s_ret ⟨_, rfl, ⟨fun _ => g2 ▸ List.getElem_mem hlt, fun _ => by omega⟩, rfl⟩
      · have g2 : ¬ b = cm[i] := by simpa using g2
        simp (config := { decide := true }) only [if_true, if_false]
        refine ⟨⟨i + 1, by rw [w_succ (by omega)], by omega, fun x hx' => ?_, trivial⟩, by rw [w_succ (by omega)]; simp [intOf] <;> omega⟩
        rw [List.take_add_one, hx, Option.toList_some] at hx'
        rcases List.mem_append.1 hx' with hx' | hx'
        · exact hno x hx'
        · simp at hx'
          subst hx'
          exact fun e => g2 e.symm
    · simp only [decide_eq_false_iff_not] at g1
      rw [List.take_of_length_le (by omega)] at hno
      exact s_ret ⟨-1, rfl, ⟨fun h => by omega, fun hm => absurd rfl (hno b hm)⟩, rfl⟩
  · rintro _ _ ⟨i, rfl, hi, rfl⟩
    refine ⟨_, rfl, s_asI (s_ret ⟨?_, rfl⟩)⟩
    congr 2
    exact decide_eq_decide.2 hi

variable {p : Nat} {X : BX} {c m : Hp} {ls : List PL} {nd : Bool} {L : List PL}
theorem put14_c (H : Has w0 w (c ++ m)) (hB : BoxAt p X c) (hI : AInv ls cm nd X) (h : PLAt w0 o ls) (hsz : ∀ y ∈ ls, y.l.length ≤ 1048577 ∧ ∀ q ∈ y.l, InK q.k) (hM : ls.length ≤ 8) {q : Nat} {y : PL} (hq : ls[q]? = some y) (hn : n = ls.length) :
    Calls Try.prog 14 #[.pointer (some ⟨p, 0, none⟩), .agg ⟨ixr xA⟩, .int .i64 (q : Int), .slice o n cap] w fun e w' => ∃ out c', IsPairs y.l out ∧ e = .returned (.tuple #[.bool (readyB (cameB X (xA, (q : Int)) out) xA), .bool true]) ∧ BoxAt p (cameB X (xA, (q : Int)) out) c' ∧ Has w0 w' (c' ++ m) := by
  subst hn
  have hlt := (List.getElem?_eq_some_iff.1 hq).1
  apply c14
  refine h_new H fun n8 u H => h_drew H fun u H => h_ldI H (b := n8) (by repeat (first | exact pick_head | apply pick_tail | apply pick_app)) rfl (h_ldI H (b := n8) (by repeat (first | exact pick_head | apply pick_tail | apply pick_app)) rfl (s_req ⟨by omega, by omega⟩ ?_))
  obtain ⟨g2, off, rfl, p1, p2⟩ := (h.fr0 H.base).get hq
  have hy := hsz y (List.mem_of_getElem? hq)
  refine s_sm (s_loadS p1 ?_)
  have H1 : Has w0 u (c ++ (cl n8 28 (ixr xA) :: m)) := H.sub (by repeat (first | exact sb_refl | exact sb_nil | refine sb_cons (by repeat (first | exact pick_head | apply pick_tail | apply pick_app)) ?_ | refine sb_app (by repeat (first | exact cut_head | exact cut_all | apply cut_tail | apply cut_app)) ?_ | exact sb_one (by repeat (first | exact cut_head | exact cut_all | apply cut_tail | apply cut_app))))
  refine s_call (put_c (t := xA) (n := (q : Int)) H1 hB (hI.sz fun y hy => by have := (hsz y hy).1; omega) inI_a (by omega) (l := y.l) (fun u' Hm => (h.2 y (List.mem_of_getElem? hq)).fr0 Hm.base) hy.2 rfl (by omega)) ?_
  rintro _ u (⟨hv, _, _⟩ | ⟨_, out, hp, (⟨⟨l0, hl0, hne⟩, _, _⟩ | ⟨_, c1, rfl, hB1, H⟩)⟩)
  · exact absurd ⟨by omega, by rw [hI.parts]; omega⟩ hv
  · obtain ⟨_, q', h2, _, y', h4, h5⟩ := hI.came1 _ _ _ hl0
    have : q = q' := by omega
    subst this
    rw [hq] at h4
    cases h4
    exact absurd (h5.uniq hp) hne
  · exact ⟨_, rfl, s_asU (s_req rfl (s_asB (s_asI (s_chk c_nil (s_ret ⟨out, c1, hp, rfl, hB1, H.sub (by repeat (first | exact sb_refl | exact sb_nil | refine sb_cons (by repeat (first | exact pick_head | apply pick_tail | apply pick_app)) ?_ | refine sb_app (by repeat (first | exact cut_head | exact cut_all | apply cut_tail | apply cut_app)) ?_ | exact sb_one (by repeat (first | exact cut_head | exact cut_all | apply cut_tail | apply cut_app))))⟩)))))⟩

def u8r (n : Int) : List Value := [.int .u8 n]
theorem elemBl : Elem Try.prog 44 4 (.bool false) 1 1 := ⟨by kernel_rfl, by kernel_rfl, rfl, by decide⟩
theorem PLAt.take {k : Nat} (h : PLAt w o L) : PLAt w o (L.take k) := by
  refine ⟨?_, fun x hx => h.2 x (List.mem_of_mem_take hx)⟩
  rcases h.1 with h1 | ⟨g, off, rfl, hg, h1⟩
  · left
    have : L = [] := by simpa using h1
    subst this
    simp
  · refine .inr ⟨g, off, rfl, hg, fun j r hj => h1 j r ?_⟩
    rw [List.getElem?_map] at hj ⊢
    rw [List.getElem?_take] at hj
    split at hj
    · exact hj
    · simp at hj
/-- What the loop keeps. -/
structure AJ (ls : List PL) (N1 nd0 i : Nat) (nd : Bool) (cm : List Bool) (X : BX) : Prop where
  le : i ≤ N1 + ls.length
  inv : AInv ls cm nd X
  all : ∀ q : Nat, q < ls.length → N1 + q < i → cm[q]? = some true
  need : nd0 < i → nd = true
theorem any_c {n1 n2 n4 n5 : Nat} {o3 : Option Addr} {od : List Int} {i6 : Int} (h : PLAt w o L) (hn1 : n1 = L.length) (hcap : n1 ≤ n2) (hsz : ∀ y ∈ L, y.l.length ≤ 1048577 ∧ ∀ q ∈ y.l, InK q.k)
    (ho3 : RowsAt w o3 1 (od.map u8r)) (hod : ∀ x ∈ od, 0 ≤ x ∧ x ≤ 255) (hn4 : n4 = od.length) (hn4s : od.length ≤ 1048577) (h6 : 0 ≤ i6 ∧ i6 ≤ 255) :
    Calls Try.prog 4 #[.slice o n1 n2, .slice o3 n4 n5, .int .u8 i6] w fun e w' => e = .returned (.bool true) ∧ Fr [] w w' := by
  apply c4
  refine s_min (s_asI (s_req ⟨by omega, by omega⟩ ?_))
  have hMi : ((min (n1 : Int) 8).toNat : Int) = min (n1 : Int) 8 := by omega
  generalize (min (n1 : Int) 8).toNat = M at hMi
  rw [sb_zero]
  have hlsl : (L.take M).length = M := by rw [List.length_take]; omega
  have hP : PLAt w o (L.take M) := h.take
  have hsz : ∀ y ∈ L.take M, y.l.length ≤ 1048577 ∧ ∀ q ∈ y.l, InK q.k := fun y hy => hsz y (List.mem_of_mem_take hy)
  generalize L.take M = ls at hlsl hP hsz
  subst hlsl
  clear h
  have hM8 : ls.length ≤ 8 := by omega
  have hMle : ls.length ≤ n2 := by omega
  clear hMi hcap hn1
  have hfl : ∀ i, i ≤ ls.length → (flatP (ls.take i)).length ≤ i * 1048577 := by
    intro i
    induction i with
    | zero => intro _; simp [flatP]
    | succ i ih =>
      intro hi
      have hx : ls[i]? = some (ls[i]'(by omega)) := List.getElem?_eq_getElem _
      rw [List.take_add_one, hx, Option.toList_some, flatP_snoc, List.length_append]
      have := ih (by omega)
      have := (hsz _ (List.mem_of_getElem? hx)).1
      omega
  refine s_blk (fun vs W => vs = [] ∧ 1 ≤ ls.length ∧ Has w W []) ?_ ?_
  · rintro _ j W ⟨rfl, hM1, H⟩
    refine s_call (new_c (n := (ls.length : Int)) (by omega) (by omega)) ?_
    rintro _ u ⟨p, c, rfl, hB, H2⟩
    have H := H.join H2
    refine ⟨_, rfl, s_asU (s_req rfl (s_asP (s_asI ?_)))⟩
    (refine h_new H fun n15 u H => ?_)
    iterate 2 refine h_st H (b := n15) (by repeat (first | exact pick_head | apply pick_tail | apply pick_app)) (by first | (simp; done) | exact Nat.le_of_ble_eq_true rfl) rfl fun u H => ?_
    refine s_blk (fun vs W => vs = [] ∧ Has w W (c ++ [cl n15 28 (ixr xA)])) ?_ ?_
    · clear H H2
      rintro _ j W ⟨rfl, H⟩
      refine s_loop (fun vs W => ∃ (i : Nat) (v1 v2 : Value) (c1 c2 : Hp), vs = [v1, v2, .int .i64 i] ∧ i ≤ ls.length ∧ OwnC 3 1 v1 i (ints (rngM i)) c1 ∧ OwnC 40 3 v2 (flatP (ls.take i)).length (encP (flatP (ls.take i))) c2 ∧ Has w W (c ++ (c1 ++ (c2 ++ [cl n15 28 (ixr xA)])))) (fun vs _ => ls.length - (intOf (vs.getD 2 undef)).toNat)
        ⟨0, _, _, [], [], rfl, by omega, OwnC.nil, OwnC.nil, H⟩ ?_
      clear H
      rintro _ j W ⟨i, v1, v2, c1, c2, rfl, hi, ho1, ho2, H⟩
      obtain ⟨o20, n22, rfl⟩ := ho1.slice
      obtain ⟨o23, n25, rfl⟩ := ho2.slice
      refine s_asS (s_asS (s_asI (s_ite (fun g1 => ?_) (fun g1 => ?_))))
      · simp only [decide_eq_true_eq] at g1
        have hlt : i < ls.length := by omega
        obtain ⟨x, hx⟩ : ∃ x, ls[i]? = some x := ⟨_, List.getElem?_eq_getElem hlt⟩
        (refine h_new H fun n27 u H => ?_)
        refine h_app1 elemN H (by repeat (first | exact cut_head | exact cut_all | apply cut_tail | apply cut_app)) ho1 (by repeat (first | exact pick_head | apply pick_tail | apply pick_app)) rfl (by intro u hu; simp at hu; subst hu; rfl) (by omega) (by omega) ?_
        intro v' c' u ho1' H
        obtain ⟨o29, n31, rfl⟩ := ho1'.slice
        refine s_asS (s_req ⟨by omega, g1⟩ ?_)
        obtain ⟨g2, off, rfl, p1, hPx⟩ := (hP.fr0 H.base).get hx
        refine s_sm (s_loadS p1 ?_)
        have ht : ls.take (i + 1) = ls.take i ++ [x] := by rw [List.take_add_one, hx, Option.toList_some]
        have hf1 := hfl (i + 1) (by omega)
        rw [ht, flatP_snoc, List.length_append] at hf1
        refine h_appAll elemPr (by decide) H (by repeat (first | exact cut_head | exact cut_all | apply cut_tail | apply cut_app)) ho2 (pr3 x.l) (pr_one x.l) hPx (by rw [List.length_map]) (by omega) (by omega) ?_
        intro v' c'' u ho2' H
        obtain ⟨o38, n40, rfl⟩ := ho2'.slice
        refine s_asS (s_next (by first | exact ⟨rfl, rfl⟩ | trivial) ?_)
        simp (config := { decide := true }) only [if_true, if_false]
        refine ⟨⟨i + 1, _, _, c', c'', by rw [w_succ (by omega)], by omega, ?_, ?_, H.sub (by repeat (first | exact sb_refl | exact sb_nil | refine sb_cons (by repeat (first | exact pick_head | apply pick_tail | apply pick_app)) ?_ | refine sb_app (by repeat (first | exact cut_head | exact cut_all | apply cut_tail | apply cut_app)) ?_ | exact sb_one (by repeat (first | exact cut_head | exact cut_all | apply cut_tail | apply cut_app))))⟩, by rw [w_succ (by omega)]; simp [intOf] <;> omega⟩
        · have e : rngM (i + 1) = rngM i ++ [(i : Int)] := by simp [rngM, List.range_succ]
          rw [e, ints_append]
          exact ho1'
        · rw [ht, flatP_snoc, List.length_append, encP_append]
          exact ho2'
      · simp only [decide_eq_false_iff_not] at g1
        have hiM : i = ls.length := by omega
        subst hiM
        rw [List.take_length] at ho2
        refine h_make elemBl H (by omega) (by omega) (by omega) fun g u H => ?_
        rw [Int.toNat_natCast, made_one (.bool false) ls.length rfl, bools_rep] at H
        refine s_asS ?_
        have hN1 : ∀ x ∈ od, True := fun _ _ => trivial
        have hb0 : OwnC 4 1 (.slice (some ⟨g, 0, none⟩) ls.length ls.length) ls.length (bools (List.replicate ls.length false)) [cl g 4 (bools (List.replicate ls.length false))] :=
          ⟨by rw [bools_len]; simp, .inr ⟨g, ls.length, [], rfl, by rw [List.append_nil], by omega, by simp [maxLen]; omega, by rw [List.append_nil, bools_len]; simp⟩⟩
        have hns : ((n4 : Int) + (ls.length : Int)) = ((od.length + ls.length : Nat) : Int) := by rw [hn4]; rfl
        rw [hns, wrap64 (n := ((od.length + ls.length : Nat) : Int)) (by omega) (by omega)]
        have hi6 : IntKind.wrap .i64 i6 = ((i6.toNat : Nat) : Int) := by rw [wrap64 (by omega) (by omega)]; omega
        rw [hi6]
        have htm : Int.tmod ((i6.toNat : Nat) : Int) ((od.length + ls.length : Nat) : Int) = ((i6.toNat % (od.length + ls.length) : Nat) : Int) := by rw [Int.tmod_eq_emod_of_nonneg (by omega)]; rfl
        rw [htm]
        have hnd0 : i6.toNat % (od.length + ls.length) < od.length + ls.length := Nat.mod_lt _ (by omega)
        generalize i6.toNat % (od.length + ls.length) = nd0 at hnd0
        clear hi6 htm
        refine s_loop (fun vs W => ∃ (i : Nat) (nd : Bool) (cm : List Bool) (X : BX) (c : Hp) (cb : Hp), vs = [.bool nd, .int .i64 i] ∧ AJ ls od.length nd0 i nd cm X ∧ BoxAt p X c ∧ OwnC 4 1 (.slice (some ⟨g, 0, none⟩) ls.length ls.length) ls.length (bools cm) cb ∧ Has w W (c ++ (cb ++ (c1 ++ (c2 ++ [cl n15 28 (ixr xA)]))))) (fun vs _ => od.length + ls.length - (intOf (vs.getD 1 undef)).toNat)
          ⟨0, false, _, _, c, _, rfl, ⟨by omega, AInv.empty ls, by omega, by omega⟩, hB, hb0, H.sub (by repeat (first | exact sb_refl | exact sb_nil | refine sb_cons (by repeat (first | exact pick_head | apply pick_tail | apply pick_app)) ?_ | refine sb_app (by repeat (first | exact cut_head | exact cut_all | apply cut_tail | apply cut_app)) ?_ | exact sb_one (by repeat (first | exact cut_head | exact cut_all | apply cut_tail | apply cut_app))))⟩ ?_
        clear H hB hb0
        rintro _ j W ⟨i, nd, cm, X, c, cb, rfl, hJ, hB, hb, H⟩
        have hI := hJ.inv
        have hcm := hI.len
        refine s_asB (s_asI (s_ite (fun g1 => ?_) (fun g1 => ?_)))
        · simp only [decide_eq_true_eq] at g1
          have hlt : i < od.length + ls.length := by omega
          refine s_blk (fun vs W => ∃ q : Nat, vs = [.int .i64 q] ∧ q < ls.length ∧ (od.length ≤ i → q = i - od.length) ∧ Has w W (c ++ (cb ++ (c1 ++ (c2 ++ [cl n15 28 (ixr xA)]))))) ?_ ?_
          · clear H
            rintro _ j W ⟨q, rfl, hq, hqi, H⟩
            refine s_asI (s_blk (fun vs W => ∃ (nd' : Bool) (X' : BX) (c' : Hp), vs = [.bool nd'] ∧ AInv ls cm nd' X' ∧ BoxAt p X' c' ∧ (nd0 ≤ i → nd' = true) ∧ Has w W (c' ++ (cb ++ (c1 ++ (c2 ++ [cl n15 28 (ixr xA)]))))) ?_ ?_)
            · have hall := hJ.all
              clear H hI hB
              rintro _ j W ⟨nd', X', c', rfl, hI, hB, hnd, H⟩
              refine s_asB (s_req ⟨by omega, by omega⟩ (s_sm ?_))
              refine h_stC H (by repeat (first | exact cut_head | exact cut_all | apply cut_tail | apply cut_app)) hb (i := q) (f := 0) (by rw [bools_len]; omega) rfl fun cb' u hb' H => ?_
              rw [bools_set (by omega)] at hb'
              refine s_blk (fun vs W => vs = [.bool (nd' && !decide (false ∈ cm.set q true))] ∧ Has w W (c' ++ (cb' ++ (c1 ++ (c2 ++ [cl n15 28 (ixr xA)]))))) ?_ ?_
              · clear H
                rintro _ j W ⟨rfl, H⟩
                obtain ⟨y, hy⟩ : ∃ y, ls[q]? = some y := ⟨_, List.getElem?_eq_getElem hq⟩
                refine s_asB (h_ldI H (b := n15) (by repeat (first | exact pick_head | apply pick_tail | apply pick_app)) rfl (h_ldI H (b := n15) (by repeat (first | exact pick_head | apply pick_tail | apply pick_app)) rfl ?_))
                refine s_call (put14_c H hB hI hP hsz hM8 hy rfl) ?_
                rintro _ u ⟨out, c3, hp, rfl, hB2, H⟩
                have hI2 := hI.put hy hp
                rw [hI2.ready]
                refine ⟨_, rfl, s_asU (s_req rfl (s_asB (s_asB (s_false rfl (s_false (by cases (nd' && !decide (false ∈ cm.set q true)) <;> rfl) ?_)))))⟩
                refine h_ldI H (b := n15) (by repeat (first | exact pick_head | apply pick_tail | apply pick_app)) rfl (h_ldI H (b := n15) (by repeat (first | exact pick_head | apply pick_tail | apply pick_app)) rfl ?_)
                refine s_call (ready_c (boxW_of H (by repeat (first | exact cut_head | exact cut_all | apply cut_tail | apply cut_app)) hB2) inI_a) ?_
                rintro _ u ⟨rfl, f⟩
                rw [hI2.ready]
                have H := H.fr0 f
                refine ⟨_, rfl, s_asB (s_false (by cases (nd' && !decide (false ∈ cm.set q true)) <;> rfl) (s_next (by first | exact ⟨rfl, rfl⟩ | trivial) ?_))⟩
                simp (config := { decide := true }) only [if_true, if_false]
                refine ⟨⟨i + 1, nd', _, _, c3, cb', by rw [w_succ (by omega)], ⟨by omega, hI2, fun q' hq' hlt' => ?_, fun h => hnd (by omega)⟩, hB2, hb', H⟩, by rw [w_succ (by omega)]; simp [intOf] <;> omega⟩
                rw [List.getElem?_set]
                split
                · rename_i e
                  rw [if_pos (by omega)]
                · exact hall q' hq' (by omega)
              · cases nd' with
                | false => exact s_false rfl (s_next ⟨rfl, rfl⟩ (by simp only [if_true]; exact ⟨rfl, H.sub (by repeat (first | exact sb_refl | exact sb_nil | refine sb_cons (by repeat (first | exact pick_head | apply pick_tail | apply pick_app)) ?_ | refine sb_app (by repeat (first | exact cut_head | exact cut_all | apply cut_tail | apply cut_app)) ?_ | exact sb_one (by repeat (first | exact cut_head | exact cut_all | apply cut_tail | apply cut_app))))⟩))
                | true =>
                  refine s_true rfl (s_call (contb_c (cm := cm.set q true) (rowsAt_own (br1 _) (by decide) hb' H (by repeat (first | exact cut_head | exact cut_all | apply cut_tail | apply cut_app))) (by rw [List.length_set]; omega) (by rw [List.length_set]; omega)) ?_)
                  rintro _ _ ⟨rfl, rfl⟩
                  exact ⟨_, rfl, s_asB (s_next ⟨rfl, rfl⟩ (by simp only [if_true]; exact ⟨rfl, H.sub (by repeat (first | exact sb_refl | exact sb_nil | refine sb_cons (by repeat (first | exact pick_head | apply pick_tail | apply pick_app)) ?_ | refine sb_app (by repeat (first | exact cut_head | exact cut_all | apply cut_tail | apply cut_app)) ?_ | exact sb_one (by repeat (first | exact cut_head | exact cut_all | apply cut_tail | apply cut_app))))⟩))⟩
            · refine s_blk (fun vs W => vs = [.bool (!nd && decide (nd0 ≤ i))] ∧ Has w W (c ++ (cb ++ (c1 ++ (c2 ++ [cl n15 28 (ixr xA)]))))) ?_ ?_
              · clear H
                rintro _ j W ⟨rfl, H⟩
                refine s_asB (s_ite (fun g2 => ?_) (fun g2 => ?_))
                · have g2 : nd = false ∧ nd0 ≤ i := by simpa using g2
                  obtain ⟨rfl, g3⟩ := g2
                  refine h_ldI H (b := n15) (by repeat (first | exact pick_head | apply pick_tail | apply pick_app)) rfl (h_ldI H (b := n15) (by repeat (first | exact pick_head | apply pick_tail | apply pick_app)) rfl ?_)
                  refine s_call (need_c (t := xA) H hB inI_a (l := rngM ls.length) (fun u Hm => valsAt_own (n := (rngM ls.length).length) (by rw [rngM_len]; exact ho1) Hm (by repeat (first | exact cut_head | exact cut_all | apply cut_tail | apply cut_app))) (by rw [rngM_len]) (by rw [rngM_len]; omega)) ?_
                  rintro _ u (⟨hv, _, _⟩ | ⟨_, hs, _, _⟩ | ⟨_, _, s, c3, hris, rfl, hB3, H⟩)
                  · exact absurd (fun x hx => by
                      obtain ⟨q', rfl, hq'⟩ := rngM_mem.1 hx
                      rw [hI.parts]
                      omega) hv
                  · rw [hI.needs] at hs
                    simp at hs
                  have e := (rngM_ris ls.length).uniq hris
                  subst e
                  refine ⟨_, rfl, s_asI (s_false rfl (s_next ⟨rfl, rfl⟩ ?_))⟩
                  simp (config := { decide := true }) only [if_true, if_false]
                  exact ⟨true, _, c3, rfl, hI.need, hB3, fun _ => rfl, H⟩
                · have g2 : nd = true ∨ ¬ nd0 ≤ i := by
                    cases nd <;> simp at g2 ⊢
                    exact g2
                  refine s_next ⟨rfl, rfl⟩ ?_
                  simp (config := { decide := true }) only [if_true, if_false]
                  exact ⟨nd, X, c, rfl, hI, hB, fun h => g2.elim id (fun h2 => absurd h h2), H⟩
              · cases nd with
                | true => exact s_false rfl (s_next ⟨rfl, rfl⟩ (by simp (config := { decide := true }) only [if_true, if_false]; exact ⟨rfl, H⟩))
                | false =>
                  refine s_true rfl (s_req (by omega) (s_next ⟨rfl, rfl⟩ ?_))
                  simp (config := { decide := true }) only [if_true, if_false]
                  refine ⟨?_, H⟩
                  have : decide ((nd0 : Int) ≤ (i : Int)) = decide (nd0 ≤ i) := decide_eq_decide.2 (by omega)
                  simp [this]
          · refine s_ite (fun g2 => ?_) (fun g2 => ?_)
            · have g2 : i < od.length := by
                have g2 : (i : Int) < (n4 : Int) := by simpa using g2
                omega
              obtain ⟨x, hx⟩ : ∃ x, od[i]? = some x := ⟨_, List.getElem?_eq_getElem g2⟩
              obtain ⟨g3, off, ho, _, hc⟩ := (RowsAt.fr ho3 H.base).at (j := i) (r := u8r x) (by rw [List.getElem?_map, hx]; rfl)
              have hx1 := hod x (List.mem_of_getElem? hx)
              refine s_req ⟨by omega, by omega⟩ ⟨g3, off, ho, s_loadI (hc 0 _ rfl) (s_req (by omega) (s_next ⟨rfl, rfl⟩ ?_))⟩
              simp (config := { decide := true }) only [if_true, if_false]
              have hxw : IntKind.wrap .i64 x = ((x.toNat : Nat) : Int) := by rw [wrap64 (by omega) (by omega)]; omega
              rw [hxw]
              have htm : Int.tmod ((x.toNat : Nat) : Int) ((ls.length : Nat) : Int) = ((x.toNat % ls.length : Nat) : Int) := by rw [Int.tmod_eq_emod_of_nonneg (by omega)]; rfl
              rw [htm]
              exact ⟨_, rfl, Nat.mod_lt _ (by omega), fun h => by omega, H⟩
            · have g2 : od.length ≤ i := by
                have g2 : ¬ (i : Int) < (n4 : Int) := by simpa using g2
                omega
              refine s_next ⟨rfl, rfl⟩ ?_
              simp (config := { decide := true }) only [if_true, if_false]
              have hw : IntKind.wrap .i64 ((i : Int) - (n4 : Int)) = ((i - od.length : Nat) : Int) := by rw [wrap64 (by omega) (by omega)]; omega
              rw [hw]
              exact ⟨_, rfl, by omega, fun _ => rfl, H⟩
        · simp only [decide_eq_false_iff_not] at g1
          have hle := hJ.le
          have hiN : i = od.length + ls.length := by omega
          have hnd : nd = true := hJ.need (by omega)
          subst hnd
          have hno : false ∉ cm := by
            intro hf
            obtain ⟨q, hq⟩ := List.mem_iff_getElem?.1 hf
            have hql := (List.getElem?_eq_some_iff.1 hq).1
            rw [hJ.all q (by omega) (by omega)] at hq
            cases hq
          refine h_ldI H (b := n15) (by repeat (first | exact pick_head | apply pick_tail | apply pick_app)) rfl (h_ldI H (b := n15) (by repeat (first | exact pick_head | apply pick_tail | apply pick_app)) rfl ?_)
          refine s_call (values_c (t := xA) (boxW_of H (by repeat (first | exact cut_head | exact cut_all | apply cut_tail | apply cut_app)) hB) inI_a (hI.flat_len hM8 fun y hy => (hsz y hy).1)) ?_
          rintro _ u (⟨hr, _, _⟩ | ⟨_, out, v, c4, hp, rfl, ho, H4⟩)
          · rw [hI.ready] at hr
            simp [hno] at hr
          have hp := hI.flat hno hp
          have H := H.join H4
          obtain ⟨o86, n88, rfl⟩ := ho.slice
          have hf8 := hfl ls.length (Nat.le_refl _)
          rw [List.take_length] at hf8
          have hol := hp.len
          refine ⟨_, rfl, s_asU (s_req rfl (s_asS (s_asI (s_true rfl (s_call (rpairs_c (pairsAt_own ho2 H (by repeat (first | exact cut_head | exact cut_all | apply cut_tail | apply cut_app))) (by rw [List.take_length]) (by omega)) ?_)))))⟩
          rintro _ u ⟨out2, v2, c5, hp2, rfl, ho5, H5⟩
          have e := hp.uniq hp2
          subst e
          have H := H.join H5
          obtain ⟨o91, n93, rfl⟩ := ho5.slice
          refine ⟨_, rfl, s_asS (s_call (equal_pairs_c (pairsAt_own ho H (by repeat (first | exact cut_head | exact cut_all | apply cut_tail | apply cut_app))) (pairsAt_own ho5 H (by repeat (first | exact cut_head | exact cut_all | apply cut_tail | apply cut_app))) rfl rfl (by omega)) ?_)⟩
          rintro _ u ⟨rfl, f⟩
          have H := H.fr0 f
          rw [decide_eq_true rfl]
          refine ⟨_, rfl, s_asB (s_true rfl (h_ldI H (b := n15) (by repeat (first | exact pick_head | apply pick_tail | apply pick_app)) rfl (h_ldI H (b := n15) (by repeat (first | exact pick_head | apply pick_tail | apply pick_app)) rfl ?_)))⟩
          have H1 : Has w u (c ++ [cl n15 28 (ixr xA)]) := H.sub (by repeat (first | exact sb_refl | exact sb_nil | refine sb_cons (by repeat (first | exact pick_head | apply pick_tail | apply pick_app)) ?_ | refine sb_app (by repeat (first | exact cut_head | exact cut_all | apply cut_tail | apply cut_app)) ?_ | exact sb_one (by repeat (first | exact cut_head | exact cut_all | apply cut_tail | apply cut_app))))
          refine s_call (drop_c (t := xA) H1 hB (hI.bxn hM8) inI_a) ?_
          rintro _ u (⟨hk, _, _⟩ | ⟨_, rfl, c6, hB6, H⟩)
          · exact absurd hI.known hk
          have hz6 : Ids.BxN (dropB X xA) := by
            obtain ⟨a, b, h1, h2, h3⟩ := hI.bxn hM8
            refine ⟨a, b, fun t ht => h1 t ?_, fun k hk => h2 k ?_, h3⟩
            · have ht : (upd X.needs xA none t).isSome = true := ht
              unfold upd at ht
              split at ht
              · cases ht
              · exact ht
            · have hk : (dropC X.came xA k).isSome = true := hk
              unfold dropC at hk
              split at hk
              · cases hk
              · exact hk
          refine ⟨_, rfl, s_asI (s_true rfl (s_call (lenB_c (boxW_of H (by repeat (first | exact cut_head | exact cut_all | apply cut_tail | apply cut_app)) hB6) hz6) ?_))⟩
          rintro _ u ⟨l, hkn, rfl, f⟩
          have H := H.fr0 f
          have e := hI.gone hkn
          subst e
          refine ⟨_, rfl, s_asI (s_true rfl (h_ldI H (b := n15) (by repeat (first | exact pick_head | apply pick_tail | apply pick_app)) rfl (h_ldI H (b := n15) (by repeat (first | exact pick_head | apply pick_tail | apply pick_app)) rfl ?_)))⟩
          refine s_call (ready_c (boxW_of H (by repeat (first | exact cut_head | exact cut_all | apply cut_tail | apply cut_app)) hB6) inI_a) ?_
          rintro _ u ⟨rfl, f⟩
          rw [drop_ready]
          exact ⟨_, rfl, s_asB (s_ret ⟨rfl, (H.fr0 f).base⟩)⟩
    · refine s_false rfl (s_false rfl (s_next ⟨rfl, rfl⟩ ⟨rfl, H.sub (by repeat (first | exact sb_refl | exact sb_nil | refine sb_cons (by repeat (first | exact pick_head | apply pick_tail | apply pick_app)) ?_ | refine sb_app (by repeat (first | exact cut_head | exact cut_all | apply cut_tail | apply cut_app)) ?_ | exact sb_one (by repeat (first | exact cut_head | exact cut_all | apply cut_tail | apply cut_app))))⟩))
  · refine s_call begun_c ?_
    rintro _ u ⟨rfl, f⟩
    refine ⟨_, rfl, s_asB (s_false rfl (s_ite (fun g => ?_) (fun g => ?_)))⟩
    · refine s_call begun_c ?_
      rintro _ u2 ⟨rfl, f2⟩
      exact ⟨_, rfl, s_asB (s_ret ⟨rfl, f.trans f2⟩)⟩
    · have g : ¬ (ls.length : Int) = 0 := by simpa using g
      exact s_next ⟨rfl, rfl⟩ ⟨rfl, by omega, (Has.init w).fr0 f⟩
end
end Go.Proofs.Ytpjcfnnnciknmaa
