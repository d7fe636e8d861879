/- Transactions that are handed in; slices.Concat of keys; a transaction's locks. -/
import Derived.Test.YtndkffhlheaepaaSplitL
import Derived.Test.YtndkffhlheaepaaKeyMap
import Derived.Test.YtndkffhlheaepaaWrite
import Derived.Test.YtndkffhlheaepaaCopy
import Derived.Test.YtndkffhlheaepaaRangesZ
import Derived.Test.YtndkffhlheaepaaDeep
import Derived.Test.YtndkffhlheaepaaTreesB
set_option linter.unusedVariables false
set_option linter.unusedSimpArgs false
set_option maxRecDepth 100000
set_option maxHeartbeats 1000000
namespace Go.Proofs.Ytndkffhlheaepaa
open Go hiding Expr
open Go.RowKit Tr

/-! ### slices.Concat -/
structure KL where
  o : Option Addr
  cap : Nat
  l : List K
def klr (x : KL) : List Value := [.slice x.o x.l.length x.cap]
theorem klr1 (ls : List KL) : ∀ r ∈ ls.map klr, r.length = 1 := by
  intro r hr
  obtain ⟨x, _, rfl⟩ := List.mem_map.1 hr
  rfl
def flatK (ls : List KL) : List K := (ls.map (·.l)).flatten
theorem flatK_snoc (ls : List KL) (x : KL) : flatK (ls ++ [x]) = flatK ls ++ x.l := by simp [flatK]
theorem flatK_take (ls : List KL) (i : Nat) : (flatK (ls.take i)).length ≤ (flatK ls).length := by
  conv => rhs; rw [← List.take_append_drop i ls]
  simp only [flatK, List.map_append, List.flatten_append, List.length_append]
  omega
def KLAt (w : World) (o : Option Addr) (ls : List KL) : Prop := RowsAt w o 1 (ls.map klr) ∧ ∀ x ∈ ls, KeysAt w x.o x.l

section
variable {w w' : World} {o : Option Addr} {ls : List KL}
theorem KLAt.fr0 (h : KLAt w o ls) (hf : Fr [] w w') : KLAt w' o ls := ⟨h.1.fr hf, fun x hx => (h.2 x hx).fr0 hf⟩
theorem KLAt.get (h : KLAt w o ls) {i : Nat} {x : KL} (hi : ls[i]? = some x) : ∃ g off, o = some ⟨g, off, none⟩ ∧ w.cell? ⟨g, off + i * 1, none⟩ = some (.slice x.o x.l.length x.cap) ∧ KeysAt w x.o x.l := by
  obtain ⟨g, off, rfl, _, hc⟩ := RowsAt.at h.1 (j := i) (r := klr x) (by simp [hi])
  exact ⟨g, off, rfl, hc 0 _ rfl, h.2 x (List.mem_of_getElem? hi)⟩

theorem grow_c {n : Nat} (hsz : n * 16 ≤ 140737488355328) : Calls Try.prog 57 #[.slice none 0 0, .int .i64 (n : Int)] w fun e w' =>
    ∃ v c, e = .returned v ∧ OwnC 50 2 v 0 [] c ∧ Has w w' c := by
  apply c57
  refine s_blk (fun vs W => w = W) ?_ ?_
  · rintro vs j W rfl
    have e1 : IntKind.wrap .i64 ((n : Int) - IntKind.wrap .i64 (((0 : Nat) : Int) - ((0 : Nat) : Int))) = (n : Int) := by
      rw [wrap64 (n := ((0 : Nat) : Int) - ((0 : Nat) : Int)) (by omega) (by omega), wrap64 (by omega) (by omega)]
      omega
    rw [e1]
    refine s_ite (fun g => ?_) (fun g => ?_)
    · simp only [decide_eq_true_eq] at g
      refine s_req ⟨by omega, by omega⟩ ?_
      rw [show (sliceBase (none : Option Addr) 0 0 2) = none from rfl, show Int.toNat ((0 : Nat) : Int) = 0 from rfl]
      refine h_appNilZeros elemK (tn := 3) (kn := .i64) (by kernel_rfl) (Has.init w) (n := n) rfl (by omega) (by omega) (by omega) ?_
      intro r cap sp u h1 h2 h3 H
      refine s_asS (s_req ⟨by omega, by omega⟩ ?_)
      rw [sb_zero]
      refine s_ret ⟨_, _, rfl, ⟨rfl, .inr ⟨r, cap, (Builtin.zeroCells _ n).toList ++ sp, rfl, rfl, Nat.zero_le _, h2, ?_⟩⟩, H⟩
      rw [List.nil_append, List.length_append, h3, Array.length_toList, size_zeroCells]
      have e2 : (Value.agg ⟨[.int .i32 0, .int .i64 0]⟩).cells.size = 2 := rfl
      rw [e2, ← Nat.add_mul]
      congr 1
      omega
    · exact s_ret ⟨_, _, rfl, OwnC.nil, Has.init w⟩
  · refine s_ite (fun g => ?_) (fun g => ?_)
    · simp only [decide_eq_true_eq] at g
      omega
    · exact s_next (by simp) (by simp)

theorem concat_c {n cap : Nat} (h : KLAt w o ls) (hn : n = ls.length) (hsz : (flatK ls).length * 16 ≤ 140737488355328) (hls : ls.length < 9223372036854775807) : Calls Try.prog 42 #[.slice o n cap] w fun e w' =>
    ∃ v c, e = .returned v ∧ OwnC 50 2 v (flatK ls).length (enc (flatK ls)) c ∧ Has w w' c := by
  subst hn
  apply c42
  refine s_loop (fun vs W => ∃ i : Nat, vs = [.int .i64 ((flatK (ls.take i)).length : Int), .int .i64 i] ∧ i ≤ ls.length ∧ Has w W []) (fun vs _ => ls.length - (intOf (vs.getD 1 undef)).toNat) ⟨0, rfl, by omega, Has.init w⟩ ?_
  rintro _ j W ⟨i, rfl, hi, H⟩
  refine s_asI (s_asI (s_ite (fun g1 => ?_) (fun g1 => ?_)))
  · simp only [decide_eq_true_eq] at g1
    have hlt : i < ls.length := by omega
    obtain ⟨x, hx⟩ : ∃ x, ls[i]? = some x := ⟨_, List.getElem?_eq_getElem hlt⟩
    obtain ⟨g2, off, rfl, p1, _⟩ := (h.fr0 H.base).get hx
    have ht : ls.take (i + 1) = ls.take i ++ [x] := by rw [List.take_add_one, hx, Option.toList_some]
    have htl := flatK_take ls (i + 1)
    rw [ht, flatK_snoc, List.length_append] at htl
    refine s_req ⟨by omega, g1⟩ (s_sm (s_loadS p1 ?_))
    rw [w_add (by omega)]
    refine s_ite (fun g3 => ?_) (fun g3 => s_next (by first | exact ⟨rfl, rfl⟩ | trivial) ?_)
    · simp only [decide_eq_true_eq] at g3
      omega
    · simp (config := { decide := true }) only [if_true, if_false]
      exact ⟨⟨i + 1, by rw [w_succ (by omega), ht, flatK_snoc, List.length_append], by omega, H⟩, by rw [w_succ (by omega)]; simp [intOf] <;> omega⟩
  · simp only [decide_eq_false_iff_not] at g1
    rw [List.take_of_length_le (by omega)]
    refine s_call (grow_c hsz) ?_
    rintro _ u ⟨v, c, rfl, ho, Hc⟩
    have H := H.join Hc
    obtain ⟨o13, n15, rfl⟩ := ho.slice
    refine ⟨_, rfl, s_asS ?_⟩
    refine s_loop (fun vs W => ∃ (i : Nat) (v : Value) (c : Hp), vs = [v, .int .i64 i] ∧ i ≤ ls.length ∧ OwnC 50 2 v (flatK (ls.take i)).length (enc (flatK (ls.take i))) c ∧ Has w W c) (fun vs _ => ls.length - (intOf (vs.getD 1 undef)).toNat)
      ⟨0, _, c, rfl, by omega, ho, H.sub (by repeat (first | exact sb_refl | exact sb_nil | refine sb_cons (by repeat (first | exact pick_head | apply pick_tail | apply pick_app)) ?_ | refine sb_app (by repeat (first | exact cut_head | exact cut_all | apply cut_tail | apply cut_app)) ?_ | exact sb_one (by repeat (first | exact cut_head | exact cut_all | apply cut_tail | apply cut_app))))⟩ ?_
    rintro _ j W ⟨i, v, c, rfl, hi, ho, H⟩
    obtain ⟨ov, cv, rfl⟩ := ho.slice
    refine s_asS (s_asI (s_ite (fun g1 => ?_) (fun g1 => ?_)))
    · simp only [decide_eq_true_eq] at g1
      have hlt : i < ls.length := by omega
      obtain ⟨x, hx⟩ : ∃ x, ls[i]? = some x := ⟨_, List.getElem?_eq_getElem hlt⟩
      obtain ⟨g2, off, rfl, p1, hP⟩ := (h.fr0 H.base).get hx
      have ht : ls.take (i + 1) = ls.take i ++ [x] := by rw [List.take_add_one, hx, Option.toList_some]
      have htl := flatK_take ls (i + 1)
      rw [ht, flatK_snoc, List.length_append] at htl
      refine s_req ⟨by omega, g1⟩ (s_sm (s_loadS p1 ?_))
      refine h_appAll elemK (by decide) H (by repeat (first | exact cut_head | exact cut_all | apply cut_tail | apply cut_app)) ho (kr2 x.l) (kr_one x.l) hP (by rw [List.length_map]) (by omega) (by omega) ?_
      intro v' c' u ho' H
      obtain ⟨ov', cv', rfl⟩ := ho'.slice
      refine s_asS (s_next (by first | exact ⟨rfl, rfl⟩ | trivial) ?_)
      simp (config := { decide := true }) only [if_true, if_false]
      refine ⟨⟨i + 1, _, c', by rw [w_succ (by omega)], by omega, ?_, H.sub (by repeat (first | exact sb_refl | exact sb_nil | refine sb_cons (by repeat (first | exact pick_head | apply pick_tail | apply pick_app)) ?_ | refine sb_app (by repeat (first | exact cut_head | exact cut_all | apply cut_tail | apply cut_app)) ?_ | exact sb_one (by repeat (first | exact cut_head | exact cut_all | apply cut_tail | apply cut_app))))⟩, by rw [w_succ (by omega)]; simp [intOf] <;> omega⟩
      rw [ht, flatK_snoc, List.length_append, enc_append]
      exact ho'
    · simp only [decide_eq_false_iff_not] at g1
      rw [List.take_of_length_le (by omega)] at ho
      rw [List.take_of_length_le (by omega)]
      exact s_ret ⟨_, c, rfl, ho, H⟩
end

/-! ### Transactions and locks -/
structure TX where
  s : Int
  q : Int
  oc : Option Addr
  nc : Nat
  cc : Nat
  oa : Option Addr
  na : Nat
  ca : Nat
  od : Option Addr
  cd : Nat
  rd : List K
  ow : Option Addr
  cw : Nat
  wr : List K
def txr (x : TX) : List Value := [.int .i64 x.s, .int .i64 x.q, .slice x.oc x.nc x.cc, .slice x.oa x.na x.ca, .slice x.od x.rd.length x.cd, .slice x.ow x.wr.length x.cw]
structure TxAt (w : World) (x : TX) : Prop where
  rd : KeysAt w x.od x.rd
  wr : KeysAt w x.ow x.wr
structure TxOk (x : TX) : Prop where
  sz : (x.rd.length + x.wr.length) * 24 ≤ 140737488355328
  inr : ∀ k ∈ x.rd, InK k
  inw : ∀ k ∈ x.wr, InK k
theorem TxAt.fr0 {w w' : World} {x : TX} (h : TxAt w x) (hf : Fr [] w w') : TxAt w' x := ⟨h.rd.fr0 hf, h.wr.fr0 hf⟩

/-- A lock. -/
structure Lk where
  k : K
  x : Bool
deriving DecidableEq
def lr (y : Lk) : List Value := [.int .i32 y.k.t, .int .i64 y.k.r, .bool y.x]
theorem lr3 (l : List Lk) : ∀ r ∈ l.map lr, r.length = 3 := by
  intro r hr
  obtain ⟨x, _, rfl⟩ := List.mem_map.1 hr
  rfl
theorem lr_one (l : List Lk) : ∀ r ∈ l.map lr, ∀ u ∈ r, u.oneCell' = true := by
  intro r hr u hu
  obtain ⟨x, _, rfl⟩ := List.mem_map.1 hr
  simp [lr] at hu
  rcases hu with rfl | rfl | rfl <;> rfl
def encL (l : List Lk) : List Value := (l.map lr).flatten
theorem encL_append (a b : List Lk) : encL (a ++ b) = encL a ++ encL b := by simp [encL]
theorem elemL : Elem Try.prog 48 52 (.agg ⟨[.int .i32 0, .int .i64 0, .bool false]⟩) 3 24 := ⟨by kernel_rfl, by kernel_rfl, rfl, by decide⟩
def LocksAt (w : World) (o : Option Addr) (l : List Lk) : Prop := RowsAt w o 3 (l.map lr)
section
variable {w w' w0 : World} {o : Option Addr} {l : List Lk} {m m' c : Hp} {n cap : Nat} {e : TypeId}
theorem LocksAt.fr0 (h : LocksAt w o l) (hf : Fr [] w w') : LocksAt w' o l := RowsAt.fr h hf
theorem LocksAt.get (h : LocksAt w o l) {i : Nat} {x : Lk} (hi : l[i]? = some x) : ∃ g off, o = some ⟨g, off, none⟩ ∧ w.cell? ⟨g, off + i * 3, none⟩ = some (.int .i32 x.k.t) ∧ w.cell? ⟨g, off + i * 3 + 1, none⟩ = some (.int .i64 x.k.r) ∧ w.cell? ⟨g, off + i * 3 + 2, none⟩ = some (.bool x.x) := by
  obtain ⟨g, off, rfl, _, hc⟩ := RowsAt.at h (j := i) (r := lr x) (by simp [hi])
  exact ⟨g, off, rfl, hc 0 _ rfl, hc 1 _ rfl, hc 2 _ rfl⟩
theorem locksAt_own (ho : OwnC e 3 (.slice o n cap) n (encL l) c) (H : Has w0 w m) (hp : Cut c m m') : LocksAt w o l := rowsAt_own (lr3 l) (by decide) ho H hp

/-- A transaction's locks. -/
def locksOf (x : TX) : List Lk := (KS (x.rd ++ x.wr)).map (fun k => ⟨k, decide (k ∈ x.wr)⟩)
theorem locksOf_len (x : TX) : (locksOf x).length ≤ x.rd.length + x.wr.length := by
  unfold locksOf
  rw [List.length_map]
  have := KS_len (x.rd ++ x.wr)
  rw [List.length_append] at this
  exact this
abbrev vB (b : Bool) : Value := .bool b
abbrev MapB (o : Obj) (D : List (K × Bool)) : Prop := MapO Try.prog 50 kfK vB o D
theorem mapB : Try.prog.underlying 68 = some (.map 50 4) := by kernel_rfl
theorem zeroB (w : World) : (zeroValue 4).run Try.prog w = .ok (.bool false) w := by rfl
theorem kfK_inj' {β : Type} (k : K) (D : List (K × β)) : ∀ p ∈ D, kfK p.1 = kfK k → p.1 = k := fun p _ he => kfK_inj he

theorem locks_c {x : TX} (h : TxAt w x) (hx : TxOk x) : Calls Try.prog 22 #[.agg ⟨txr x⟩] w fun en w' =>
    ∃ v c, en = .returned v ∧ OwnC 52 3 v (locksOf x).length (encL (locksOf x)) c ∧ Has w w' c := by
  have hsz := hx.sz
  apply c22
  refine h_new (Has.init w) fun n14 u H => h_newMap H fun n15 u H => h_ldS H (by repeat (first | exact pick_head | apply pick_tail | apply pick_app)) rfl ?_
  refine s_loop (fun vs W => ∃ (i : Nat) (om : Obj) (D : List (K × Bool)), vs = [.int .i64 i] ∧ i ≤ x.wr.length ∧ MapB om D ∧ (∀ k, getAt D k = if k ∈ x.wr.take i then some true else none) ∧ Has w W ((n15, om) :: [cl n14 39 (txr x)])) (fun vs _ => x.wr.length - (intOf (vs.getD 0 undef)).toNat)
    ⟨0, .map #[] 0, [], rfl, by omega, MapO.new, by intro k; simp [getAt], H⟩ ?_
  clear H
  rintro _ j W ⟨i, om, D, rfl, hi, hM, hD, H⟩
  refine s_asI (s_ite (fun g1 => ?_) (fun g1 => ?_))
  · simp only [decide_eq_true_eq] at g1
    have hlt : i < x.wr.length := by omega
    obtain ⟨k, hk⟩ : ∃ k, x.wr[i]? = some k := ⟨_, List.getElem?_eq_getElem hlt⟩
    obtain ⟨g, off, he, p1, p2⟩ := (h.wr.fr0 H.base).get hk
    obtain ⟨lk, hkl⟩ := keyOfK (hx.inw k (List.mem_of_getElem? hk))
    refine s_req ⟨by omega, g1⟩ ⟨g, off, he, s_loadI p1 (s_loadI p2 ?_)⟩
    (refine h_new H fun n26 u H => ?_)
    iterate 2 refine h_st H (by repeat (first | exact pick_head | apply pick_tail | apply pick_app)) (by first | (simp; done) | exact Nat.le_of_ble_eq_true rfl) rfl fun u H => ?_
    refine h_ldI H (by repeat (first | exact pick_head | apply pick_tail | apply pick_app)) rfl (h_ldI H (by repeat (first | exact pick_head | apply pick_tail | apply pick_app)) rfl ?_)
    refine h_put (a := k) (v := true) (kf := kfK) (vf := vB) H (b := n15) (o := om) (by repeat (first | exact pick_head | apply pick_tail | apply pick_app)) hM keyedK mapB (kfK_inj' k D) hkl fun om' u hM' H => s_next (by first | exact ⟨rfl, rfl⟩ | trivial) ?_
    simp (config := { decide := true }) only [if_true, if_false]
    refine ⟨⟨i + 1, om', _, by rw [w_succ (by omega)], by omega, hM', fun k' => ?_, H.sub (by repeat (first | exact sb_refl | exact sb_nil | refine sb_cons (by repeat (first | exact pick_head | apply pick_tail | apply pick_app)) ?_ | refine sb_app (by repeat (first | exact cut_head | exact cut_all | apply cut_tail | apply cut_app)) ?_ | exact sb_one (by repeat (first | exact cut_head | exact cut_all | apply cut_tail | apply cut_app))))⟩, by rw [w_succ (by omega)]; simp [intOf] <;> omega⟩
    rw [getAt_put, hD k', List.take_add_one, hk, Option.toList_some]
    by_cases h1 : k = k'
    · subst h1
      simp
    · have : k' ≠ k := fun h => h1 h.symm
      simp [h1, this]
  · simp only [decide_eq_false_iff_not] at g1
    rw [List.take_of_length_le (by omega)] at hD
    refine h_ldS H (by repeat (first | exact pick_head | apply pick_tail | apply pick_app)) rfl (h_ldS H (by repeat (first | exact pick_head | apply pick_tail | apply pick_app)) rfl (h_new H fun n36 u H => ?_))
    have hkl : KLAt u (some ⟨n36, 0, none⟩) [⟨x.od, x.cd, x.rd⟩, ⟨x.ow, x.cw, x.wr⟩] := by
      refine ⟨rowsAt_cells (ty := 37) (sp := []) (klr1 _) (H.cells (by repeat (first | exact pick_head | apply pick_tail | apply pick_app))), fun y hy => ?_⟩
      simp at hy
      rcases hy with rfl | rfl
      · exact h.rd.fr0 H.base
      · exact h.wr.fr0 H.base
    have hfl : flatK [⟨x.od, x.cd, x.rd⟩, ⟨x.ow, x.cw, x.wr⟩] = x.rd ++ x.wr := by simp [flatK]
    refine s_call (concat_c (n := 2) (cap := 2) hkl rfl (by rw [hfl, List.length_append]; omega) (by simp)) ?_
    rintro _ u ⟨v1, c1, rfl, ho1, H1⟩
    have H := H.join H1
    obtain ⟨o1, cap1, rfl⟩ := ho1.slice
    rw [hfl] at ho1 ⊢
    refine ⟨_, rfl, s_asS ?_⟩
    refine s_call (keys_c (keysAt_own ho1 H (by repeat (first | exact cut_head | exact cut_all | apply cut_tail | apply cut_app))) rfl (by rw [List.length_append]; omega)) ?_
    rintro _ u ⟨v2, c2, rfl, ho2, H2⟩
    have H := H.join H2
    obtain ⟨o2, cap2, rfl⟩ := ho2.slice
    have hKl := KS_len (x.rd ++ x.wr)
    rw [List.length_append] at hKl
    refine ⟨_, rfl, s_asS ?_⟩
    refine s_loop (fun vs W => ∃ (i : Nat) (v : Value) (c : Hp), vs = [v, .int .i64 i] ∧ i ≤ (KS (x.rd ++ x.wr)).length ∧ OwnC 52 3 v i (encL ((locksOf x).take i)) c ∧ Has w W (c ++ (c2 ++ [(n15, om)]))) (fun vs _ => (KS (x.rd ++ x.wr)).length - (intOf (vs.getD 1 undef)).toNat)
      ⟨0, _, [], rfl, by omega, OwnC.nil, H.sub (by repeat (first | exact sb_refl | exact sb_nil | refine sb_cons (by repeat (first | exact pick_head | apply pick_tail | apply pick_app)) ?_ | refine sb_app (by repeat (first | exact cut_head | exact cut_all | apply cut_tail | apply cut_app)) ?_ | exact sb_one (by repeat (first | exact cut_head | exact cut_all | apply cut_tail | apply cut_app))))⟩ ?_
    clear H hkl
    rintro _ j W ⟨i, v, c, rfl, hi, ho, H⟩
    obtain ⟨ov, cv, rfl⟩ := ho.slice
    refine s_asS (s_asI (s_ite (fun g2 => ?_) (fun g2 => ?_)))
    · simp only [decide_eq_true_eq] at g2
      have hlt : i < (KS (x.rd ++ x.wr)).length := by omega
      obtain ⟨k, hk⟩ : ∃ k, (KS (x.rd ++ x.wr))[i]? = some k := ⟨_, List.getElem?_eq_getElem hlt⟩
      obtain ⟨g, off, he, p1, p2⟩ := (keysAt_own ho2 H (by repeat (first | exact cut_head | exact cut_all | apply cut_tail | apply cut_app))).get hk
      have hkm : k ∈ x.rd ++ x.wr := (KS_mem _ _).1 (List.mem_of_getElem? hk)
      have hin : InK k := by
        rcases List.mem_append.1 hkm with h | h
        · exact hx.inr k h
        · exact hx.inw k h
      obtain ⟨lk, hkl⟩ := keyOfK hin
      refine s_req ⟨by omega, g2⟩ ⟨g, off, he, s_loadI p1 (s_loadI p2 ?_)⟩
      (refine h_new H fun n55 u H => ?_)
      iterate 2 refine h_st H (by repeat (first | exact pick_head | apply pick_tail | apply pick_app)) (by first | (simp; done) | exact Nat.le_of_ble_eq_true rfl) rfl fun u H => ?_
      refine h_drew H fun u H => h_ldI H (by repeat (first | exact pick_head | apply pick_tail | apply pick_app)) rfl (h_ldI H (by repeat (first | exact pick_head | apply pick_tail | apply pick_app)) rfl (h_ldI H (by repeat (first | exact pick_head | apply pick_tail | apply pick_app)) rfl (h_ldI H (by repeat (first | exact pick_head | apply pick_tail | apply pick_app)) rfl ?_)))
      refine h_look1 (a := k) (kf := kfK) (vf := vB) H (b := n15) (o := om) (by repeat (first | exact pick_head | apply pick_tail | apply pick_app)) hM keyedK mapB (zeroB _) (kfK_inj' k D) hkl ?_
      have hval : ((getAt D k).map vB).getD (Value.bool false) = .bool (decide (k ∈ x.wr)) := by
        rw [hD k]
        by_cases h : k ∈ x.wr <;> simp [h]
      rw [hval]
      refine s_asB (s_chk (hc_cons H (by repeat (first | exact pick_head | apply pick_tail | apply pick_app)) rfl (hc_cons H (by repeat (first | exact pick_head | apply pick_tail | apply pick_app)) rfl c_nil)) ?_)
      (refine h_new H fun n62 u H => ?_)
      refine s_chk (hc_cons H (by repeat (first | exact pick_head | apply pick_tail | apply pick_app)) rfl (hc_cons H (by repeat (first | exact pick_head | apply pick_tail | apply pick_app)) rfl c_nil)) ?_
      refine h_app1 elemL H (by repeat (first | exact cut_head | exact cut_all | apply cut_tail | apply cut_app)) ho (by repeat (first | exact pick_head | apply pick_tail | apply pick_app)) rfl (lr_one [⟨k, decide (k ∈ x.wr)⟩] _ (List.mem_singleton.2 rfl)) (by omega) (by omega) ?_
      intro v' c' u ho' H
      obtain ⟨ov', cv', rfl⟩ := ho'.slice
      refine s_asS (s_chk (hc_cons H (by repeat (first | exact pick_head | apply pick_tail | apply pick_app)) rfl (hc_cons H (by repeat (first | exact pick_head | apply pick_tail | apply pick_app)) rfl c_nil)) (s_next (by first | exact ⟨rfl, rfl⟩ | trivial) ?_))
      simp (config := { decide := true }) only [if_true, if_false]
      refine ⟨⟨i + 1, _, c', by rw [w_succ (by omega)], by omega, ?_, H.sub (by repeat (first | exact sb_refl | exact sb_nil | refine sb_cons (by repeat (first | exact pick_head | apply pick_tail | apply pick_app)) ?_ | refine sb_app (by repeat (first | exact cut_head | exact cut_all | apply cut_tail | apply cut_app)) ?_ | exact sb_one (by repeat (first | exact cut_head | exact cut_all | apply cut_tail | apply cut_app))))⟩, by rw [w_succ (by omega)]; simp [intOf] <;> omega⟩
      have : (locksOf x)[i]? = some ⟨k, decide (k ∈ x.wr)⟩ := by unfold locksOf; rw [List.getElem?_map, hk]; rfl
      rw [List.take_add_one, this, Option.toList_some, encL_append]
      exact ho'
    · simp only [decide_eq_false_iff_not] at g2
      have hl : (locksOf x).length = (KS (x.rd ++ x.wr)).length := by unfold locksOf; rw [List.length_map]
      obtain rfl : i = (locksOf x).length := by omega
      rw [List.take_length] at ho
      exact s_ret ⟨_, c, rfl, ho, H.sub (by repeat (first | exact sb_refl | exact sb_nil | refine sb_cons (by repeat (first | exact pick_head | apply pick_tail | apply pick_app)) ?_ | refine sb_app (by repeat (first | exact cut_head | exact cut_all | apply cut_tail | apply cut_app)) ?_ | exact sb_one (by repeat (first | exact cut_head | exact cut_all | apply cut_tail | apply cut_app))))⟩
end
end Go.Proofs.Ytndkffhlheaepaa
