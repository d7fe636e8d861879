/- Regions in whatever order, by a plan: what has come up is a number's bits; the region is looked through once. -/
import Derived.Test.YtihipcofjpnfbaaGreatDoorReg
namespace Go.Proofs.YtihipcofjpnfbaaGreatDoor.Tr
open Go
set_option linter.unusedSimpArgs false
set_option linter.unusedVariables false

def force {α : Type} (m : Nat) (κ : Nat → α) : α :=
  match m with
  | 0 => κ 0
  | k + 1 => κ (k + 1)
theorem force_eq {α : Type} (m : Nat) (κ : Nat → α) : force m κ = κ m := by cases m <;> rfl

def bit (i : Nat) : Nat := Nat.shiftLeft 1 i
def maskOf : List Nat → Nat
  | [] => 0
  | t :: r => Nat.lor (bit t) (maskOf r)

theorem testBit_bit (i j : Nat) : (bit i).testBit j = decide (i = j) := by
  show (1 <<< i).testBit j = _
  rw [Nat.one_shiftLeft, Nat.testBit_two_pow]

theorem testBit_maskOf (l : List Nat) (j : Nat) : (maskOf l).testBit j = l.contains j := by
  induction l with
  | nil => simp [maskOf]
  | cons t r ih =>
    show (bit t ||| maskOf r).testBit j = _
    rw [Nat.testBit_or, testBit_bit, ih]
    simp only [List.contains_cons]
    congr 1
    rw [Bool.eq_iff_iff, decide_eq_true_iff, beq_iff_eq]
    exact eq_comm

theorem mask_disj {l r : List Nat} (h : Nat.beq (Nat.land (maskOf l) (maskOf r)) 0 = true) (t : Nat) (hl : t ∈ l) : t ∉ r := by
  intro hr
  have h1 : (maskOf l &&& maskOf r) = 0 := Nat.eq_of_beq_eq_true h
  have h2 : (maskOf l &&& maskOf r).testBit t = true := by
    rw [Nat.testBit_and, testBit_maskOf, testBit_maskOf]; simp [hl, hr]
  rw [h1] at h2
  simp at h2

def tmpsOf : List Operand → List Nat
  | [] => []
  | .tmp t :: r => t :: tmpsOf r
  | _ :: r => tmpsOf r

theorem tmpsOf_eq (l : List Operand) : tmpsOf l = l.filterMap fun | .tmp t => some t | _ => none := by
  induction l with
  | nil => rfl
  | cons x r ih => cases x <;> simp [tmpsOf, ih]

def lookL (ops : Array Oper) (o : Oper) : List Nat :=
  tmpsOf o.op.operands.toList ++ (match o.guard with
   | some (g, _) => ((ops[g]?).bind (·.dst)).toList
   | none => [])
theorem lookL_eq (ops : Array Oper) (o : Oper) : lookL ops o = o.looksAt ops := by
  unfold lookL Oper.looksAt
  rw [tmpsOf_eq]
  rfl

def predL (o : Oper) : List Nat := (o.after.toList.filter fun e => Region.binds .any e).map (·.on)

/-- One operation beside those ahead of it: each waits for the other, or they are apart. -/
def besides (d u p : Nat) : List (Nat × Nat × Nat × Nat) → Bool
  | [] => true
  | (i, d', u', p') :: r => match Nat.testBit p i, Nat.beq (Nat.land d (Nat.lor u' d')) 0, Nat.beq (Nat.land d' u) 0 with
    | true, _, _ => besides d u p r
    | false, true, true => besides d u p r
    | _, _, _ => false

def lookThrough (ops : Array Oper) : List Oper → Nat → List (Nat × Nat × Nat × Nat) → Bool
  | [], _, _ => true
  | o :: r, i, acc => force (maskOf o.dst.toList) fun d => force (maskOf (lookL ops o)) fun u => force (maskOf (predL o)) fun p =>
    match besides d u p acc with
    | true => lookThrough ops r (i + 1) ((i, d, u, p) :: acc)
    | false => false

def Besides (ops : Array Oper) (oi oj : Oper) (j : Nat) : Prop := (∃ e ∈ oi.after, Region.binds .any e = true ∧ e.on = j) ∨ (oi.apart ops oj = true ∧ oj.apart ops oi = true)

theorem apart_of {ops : Array Oper} {x y : Oper} (h1 : Nat.beq (Nat.land (maskOf x.dst.toList) (Nat.lor (maskOf (lookL ops y)) (maskOf y.dst.toList))) 0 = true) (h2 : Nat.beq (Nat.land (maskOf y.dst.toList) (maskOf (lookL ops x))) 0 = true) :
    x.apart ops y = true ∧ y.apart ops x = true := by
  have e1 : (maskOf x.dst.toList &&& (maskOf (lookL ops y) ||| maskOf y.dst.toList)) = 0 := Nat.eq_of_beq_eq_true h1
  have a1 : ∀ t, t ∈ x.dst.toList → t ∉ lookL ops y ∧ t ∉ y.dst.toList := by
    intro t ht
    have h3 : (maskOf x.dst.toList &&& (maskOf (lookL ops y) ||| maskOf y.dst.toList)).testBit t = false := by rw [e1]; simp
    rw [Nat.testBit_and, Nat.testBit_or, testBit_maskOf, testBit_maskOf, testBit_maskOf] at h3
    have h4 : x.dst.toList.contains t = true := by simpa using ht
    rw [h4] at h3
    simpa using h3
  have a2 : ∀ t, t ∈ y.dst.toList → t ∉ lookL ops x := fun t ht => mask_disj h2 t ht
  rw [lookL_eq] at a1 a2
  unfold Oper.apart
  cases hx : x.dst with
  | none =>
    cases hy : y.dst with
    | none => simp
    | some d => have := a2 d (by simp [hy]); simp [this]
  | some c =>
    have h5 := a1 c (by simp [hx])
    cases hy : y.dst with
    | none => simp [h5.1]
    | some d =>
      have := a2 d (by simp [hy])
      have h6 : ¬ (c = d) := by have := h5.2; simpa [hy] using this
      have h7 : ¬ (d = c) := fun h => h6 h.symm
      simp [h5.1, this, h6, h7]

theorem predL_mem {o : Oper} {i : Nat} (h : (maskOf (predL o)).testBit i = true) : ∃ e ∈ o.after, Region.binds .any e = true ∧ e.on = i := by
  rw [testBit_maskOf] at h
  have h1 : i ∈ predL o := by simpa using h
  unfold predL at h1
  obtain ⟨e, he, rfl⟩ := List.mem_map.1 h1
  rw [List.mem_filter] at he
  exact ⟨e, by simpa using he.1, he.2, rfl⟩

def row (ops : Array Oper) (x : Nat × Oper) : Nat × Nat × Nat × Nat := (x.1, maskOf x.2.dst.toList, maskOf (lookL ops x.2), maskOf (predL x.2))

theorem besides_cons {ops : Array Oper} {o : Oper} {y : Nat × Oper} {r : List (Nat × Nat × Nat × Nat)} (h : besides (maskOf o.dst.toList) (maskOf (lookL ops o)) (maskOf (predL o)) (row ops y :: r) = true) :
    Besides ops o y.2 y.1 ∧ besides (maskOf o.dst.toList) (maskOf (lookL ops o)) (maskOf (predL o)) r = true := by
  unfold row besides at h
  split at h
  case h_1 => rename_i h1; exact ⟨.inl (predL_mem h1), h⟩
  case h_2 => rename_i h1 h2 h3; exact ⟨.inr (apart_of h2 h3), h⟩
  case h_3 => cases h

theorem besides_sound {ops : Array Oper} {o : Oper} (l : List (Nat × Oper)) (h : besides (maskOf o.dst.toList) (maskOf (lookL ops o)) (maskOf (predL o)) (l.map (row ops)) = true) :
    ∀ x ∈ l, Besides ops o x.2 x.1 := by
  induction l with
  | nil => intro x hx; cases hx
  | cons y r ih =>
    rw [List.map_cons] at h
    have h1 := besides_cons h
    intro x hx
    rcases List.mem_cons.1 hx with rfl | hx
    · exact h1.1
    · exact ih h1.2 x hx

theorem lookThrough_cons {ops : Array Oper} {y : Oper} {r : List Oper} {i : Nat} {acc : List (Nat × Nat × Nat × Nat)} (h : lookThrough ops (y :: r) i acc = true) :
    besides (maskOf y.dst.toList) (maskOf (lookL ops y)) (maskOf (predL y)) acc = true ∧ lookThrough ops r (i + 1) (row ops (i, y) :: acc) = true := by
  unfold lookThrough at h
  simp only [force_eq] at h
  split at h
  · rename_i hb; exact ⟨hb, h⟩
  · cases h

theorem lookThrough_sound {ops : Array Oper} (l : List Oper) : ∀ (i : Nat) (acc : List (Nat × Oper)), lookThrough ops l i (acc.map (row ops)) = true →
    ∀ (m : Nat) (o : Oper), l[m]? = some o → (∀ x ∈ acc, Besides ops o x.2 x.1) ∧ ∀ (m' : Nat) (o' : Oper), m' < m → l[m']? = some o' → Besides ops o o' (i + m') := by
  induction l with
  | nil => intro i acc h m o ho; simp at ho
  | cons y r ih =>
    intro i acc h m o ho
    obtain ⟨hb, h2⟩ := lookThrough_cons h
    have h1 := besides_sound acc hb
    cases m with
    | zero =>
      simp only [List.getElem?_cons_zero, Option.some.injEq] at ho
      subst ho
      exact ⟨h1, fun m' o' hm => absurd hm (Nat.not_lt_zero _)⟩
    | succ m =>
      simp only [List.getElem?_cons_succ] at ho
      obtain ⟨h3, h4⟩ := ih (i + 1) ((i, y) :: acc) h2 m o ho
      refine ⟨fun x hx => h3 x (List.mem_cons_of_mem _ hx), fun m' o' hm ho' => ?_⟩
      cases m' with
      | zero =>
        simp only [List.getElem?_cons_zero, Option.some.injEq] at ho'
        subst ho'
        exact h3 (i, y) (List.mem_cons_self ..)
      | succ m' =>
        simp only [List.getElem?_cons_succ] at ho'
        have := h4 m' o' (by omega) ho'
        rwa [show i + (m' + 1) = i + 1 + m' by omega]

/-- What is looked through: for each two numbers, one waits for the other or they are apart. -/
theorem looked {ops : Array Oper} (h : lookThrough ops ops.toList 0 [] = true) (i j : Nat) (oi oj : Oper) (hi : ops[i]? = some oi) (hj : ops[j]? = some oj) (hne : j ≠ i) :
    (∃ e ∈ oi.after, Region.binds .any e = true ∧ e.on = j) ∨ (∃ e ∈ oj.after, Region.binds .any e = true ∧ e.on = i) ∨ oi.apart ops oj = true := by
  have h' := lookThrough_sound ops.toList 0 [] h
  rcases Nat.lt_or_ge j i with hlt | hge
  · have := (h' i oi (by simpa using hi)).2 j oj hlt (by simpa using hj)
    rw [Nat.zero_add] at this
    rcases this with h1 | h1
    · exact .inl h1
    · exact .inr (.inr h1.1)
  · have := (h' j oj (by simpa using hj)).2 i oi (by omega) (by simpa using hi)
    rw [Nat.zero_add] at this
    rcases this with h1 | h1
    · exact .inr (.inl h1)
    · exact .inr (.inr h1.2)

def arrOf (n m : Nat) : Array Bool := ⟨(List.range n).map fun i => m.testBit i⟩

theorem arrOf_get (n m i : Nat) (d : Bool) : (arrOf n m).getD i d = if i < n then m.testBit i else d := by
  unfold arrOf
  by_cases h : i < n
  · simp [Array.getD, h]
  · simp [Array.getD, h]

theorem arrOf_size (n m : Nat) : (arrOf n m).size = n := by simp [arrOf]

theorem arrOf_set {n m i : Nat} (h : i < n) : (arrOf n m).setIfInBounds i true = arrOf n (Nat.lor m (bit i)) := by
  apply Array.ext
  · simp [arrOf]
  · intro j h1 h2
    have hj : j < n := by simpa [arrOf] using h2
    rw [Array.getElem_setIfInBounds (by simpa [arrOf] using hj)]
    show _ = (arrOf n (m ||| bit i))[j]
    simp only [arrOf, List.getElem_toArray, List.getElem_map, List.getElem_range, Nat.testBit_or, testBit_bit]
    by_cases hij : i = j
    · simp [hij]
    · simp [hij]

section
variable (P : Program) (n : Nat) (ops : Array Oper) (pk : Env → Value → T)

def predOk (sz m : Nat) : List Edge → Bool
  | [] => true
  | e :: r => match Region.binds .any e, Nat.blt e.on sz, Nat.testBit m e.on with
    | false, _, _ => predOk sz m r
    | true, true, true => predOk sz m r
    | _, _, _ => false

def drawP : List Nat → Nat → Held → Env → (Env → T) → T
  | [], m, L, e, k => match Region.ready .any ops (arrOf ops.size m) with
    | [] => k e
    | _ => .bad
  | i :: r, m, L, e, k => match ops[i]?, Nat.testBit m i with
    | some o, false => match isStill P o.op with
      | true => match predOk ops.size m o.after.toList with
        | true => guardT n ops o e
          (fun e => stillT P o.op e fun s cs => putT n o.dst s e fun e => force (Nat.lor m (bit i)) fun m' => drawP r m' (addHeld P ops i cs L) e k)
          (fun e => putT n o.dst (.v undef) e fun e => force (Nat.lor m (bit i)) fun m' => drawP r m' L e k)
        | false => .bad
      | false => match Region.ready .any ops (arrOf ops.size m) with
        | [j] => match Nat.beq i j with
          | true => guardT n ops o e
            (fun e => effT P (pk e) o.op o.type e fun s => putT n o.dst s e fun e => force (Nat.lor m (bit i)) fun m' => .chk (Held.cells (arrOf ops.size m') L) (drawP r m' L e k))
            (fun e => putT n o.dst (.v undef) e fun e => force (Nat.lor m (bit i)) fun m' => .chk (Held.cells (arrOf ops.size m') L) (drawP r m' L e k))
          | false => .bad
        | _ => drawT P n ops pk (r.length + 1) (arrOf ops.size m) L e k
    | _, _ => .bad
end

section
variable {P : Program} {Q : Ending → World → Prop} {ρ : Lv} {w : World} {n : Nat} {ops : Array Oper} {rd : Option Nat} {pk : Env → Value → T}

theorem predOk_sound {sz m : Nat} : ∀ {l : List Edge}, predOk sz m l = true → ∀ e ∈ l, Region.binds .any e = true → e.on < sz ∧ m.testBit e.on = true
  | x :: r, h, e, he, hb => by
    unfold predOk at h
    rcases List.mem_cons.1 he with rfl | he
    · rw [hb] at h
      split at h
      case h_1 h1 => cases h1
      case h_2 h1 h2 => exact ⟨blt_lt h1, h2⟩
      case h_3 => cases h
    · split at h
      case h_1 => exact predOk_sound h e he hb
      case h_2 => exact predOk_sound h e he hb
      case h_3 => cases h

theorem drawP_sound {X : Exit → Act → World → Prop} (hX : ∀ v e a w, Rel n e a → (pk e v).sem P Q ρ w → X (.panic [{ v, recovered := false }]) a w)
    (hXput : ∀ c (a : Act) (i : Nat) (o : Oper) (v : Value) (w : World), ops[i]? = some o → X (.panic c) (Act.put a o.dst v) w → X (.panic c) a w) (hsel : Region.noSelect ops = true) (hlk : lookThrough ops ops.toList 0 [] = true) {k : Env → T} (hN : ∀ a w, At P Q ρ n k a w → X .normal a w) :
    ∀ (pl : List Nat) (m : Nat) (L : Held) (e : Env) (a : Act) (w : World), Rel n e a → HeldWf P ops L → Closed ops (arrOf ops.size m) → HeldOk L (arrOf ops.size m) w →
      (drawP P n ops pk pl m L e k).sem P Q ρ w → wpV P ops rd X (HeldOk L) pl.length (arrOf ops.size m) a w := by
  intro pl
  induction pl with
  | nil =>
    intro m L e a w hr hwf hcl hL h
    unfold drawP at h
    cases hrd : Region.ready .any ops (arrOf ops.size m) with
    | nil => rw [hrd] at h; exact ⟨hrd, hN a w ⟨e, hr, h⟩⟩
    | cons x r => rw [hrd] at h; exact h.elim
  | cons i r ih =>
    intro m L e a w hr hwf hcl hL h
    unfold drawP at h
    cases ho : ops[i]? with
    | none => simp only [ho] at h; exact h.elim
    | some o =>
      cases hun : Nat.testBit m i with
      | true => simp only [ho, hun] at h; exact h.elim
      | false =>
        simp only [ho, hun, force_eq] at h
        have hlt : i < ops.size := (Array.getElem?_eq_some_iff.1 ho).1
        have hset := arrOf_set (m := m) hlt
        have hiu : (arrOf ops.size m).getD i true = false := by rw [arrOf_get]; simp [hlt, hun]
        cases hst : isStill P o.op with
        | true =>
          simp only [hst] at h
          cases hpm : predOk ops.size m o.after.toList with
          | false => simp only [hpm] at h; exact h.elim
          | true =>
            simp only [hpm] at h
            have hi : i ∈ Region.ready .any ops (arrOf ops.size m) := by
              rw [mem_ready]
              refine ⟨hiu, o, ho, fun e he hb => ?_⟩
              have h2 := predOk_sound hpm e (by simpa using he) hb
              rw [arrOf_get, if_pos h2.1]
              exact h2.2
            have hfr : ∀ j oj, ops[j]? = some oj → j ≠ i → (arrOf ops.size m).getD j true = false → (∀ e ∈ oj.after, Region.binds .any e = true → e.on ≠ i) → o.apart ops oj = true := by
              intro j oj hj hne hju hno
              rcases looked hlk i j o oj ho hj hne with ⟨e, he, hb, hon⟩ | ⟨e, he, hb, hon⟩ | h1
              · exfalso
                obtain ⟨_, o', ho', hall⟩ := mem_ready.1 hi
                rw [ho] at ho'; cases ho'
                have h3 := hall e he hb
                rw [hon] at h3
                rw [getD_true_false hju] at h3
                cases h3
              · exact absurd hon (hno e he hb)
              · exact h1
            obtain ⟨e1, hr1, ⟨hw, h1⟩ | ⟨hw, h1⟩⟩ := guardT_sound hr h
            · obtain ⟨sv, cs, h2, h3, h4⟩ := stillT_sound (d := o.dst) (ty := o.type) (pos := o.pos) (af := o.after) (g := o.guard) hst h1
              obtain ⟨e2, hr2, h6⟩ := putT_sound hr1 h4
              have hwf' := addHeld_wf (i := i) (cs := cs) hwf
              have hL' : HeldOk (addHeld P ops i cs L) (arrOf ops.size m) w := (addHeld_cells hiu hcl).2 ⟨h3, hL⟩
              have hL'' : HeldOk (addHeld P ops i cs L) ((arrOf ops.size m).setIfInBounds i true) w := by unfold HeldOk; rw [heldCells_set ho hst _ _ hwf']; exact hL'
              have hcl' := hcl.set hi
              rw [hset] at hL'' hcl'
              have h7 := ih _ _ e2 _ w hr2 hwf' hcl' hL'' h6
              rw [← hset] at h7
              refine wpV_mono (fun l w => addHeld_less) _ _ _ _ (wpV_first (C := fun w => AllCells w cs) (v := sv.val) ho (Region.noSelect_spec hsel) (fun c a w => hXput c a _ _ _ w ho) (fun l w => by unfold HeldOk; rw [heldCells_set ho hst l _ hwf']) (fun l w hl hc hS => ((addHeld_cells hl hc).1 hS).1) r.length _ a w hfr hi hcl ?_ hL' h7)
              refine .inl ⟨hw, fun w' hw' => ?_⟩
              have h8 := h2 w' hw'
              unfold ex at h8
              rw [rest_eta] at h8
              rw [semAt_eq (still_not_defer hst), hr1.rho]
              exact h8
            · obtain ⟨e2, hr2, h6⟩ := putT_sound hr1 h1
              have hL'' : HeldOk L ((arrOf ops.size m).setIfInBounds i true) w := by unfold HeldOk; rw [heldCells_set ho hst _ _ hwf]; exact hL
              have hcl' := hcl.set hi
              rw [hset] at hL'' hcl'
              have h7 := ih _ _ e2 _ w hr2 hwf hcl' hL'' h6
              rw [← hset] at h7
              exact wpV_first (C := fun w => True) (v := undef) ho (Region.noSelect_spec hsel) (fun c a w => hXput c a _ _ _ w ho) (fun l w => by unfold HeldOk; rw [heldCells_set ho hst l _ hwf]) (fun l w hl hc hS => trivial) r.length _ a w hfr hi hcl (.inr ⟨hw, rfl⟩) hL h7
        | false =>
          simp only [hst] at h
          split at h
          · rename_i j hrd
            split at h
            · rename_i hb
              have hj := Nat.eq_of_beq_eq_true hb
              subst hj
              show wpV P ops rd X (HeldOk L) (r.length + 1) _ a w
              refine ⟨fun h0 => (by rw [hrd] at h0; cases h0), fun i' hi' => ?_⟩
              have hi0 := hi'
              rw [hrd] at hi'
              simp only [List.mem_singleton] at hi'
              subst hi'
              have hcl' := hcl.set hi0
              rw [hset] at hcl'
              have key : ∀ (e : Env) (a : Act) (w : World), Rel n e a → (T.chk (Held.cells (arrOf ops.size (Nat.lor m (bit i'))) L) (drawP P n ops pk r (Nat.lor m (bit i')) L e k)).sem P Q ρ w →
                  HeldOk L ((arrOf ops.size m).setIfInBounds i' true) w ∧ wpV P ops rd X (HeldOk L) r.length ((arrOf ops.size m).setIfInBounds i' true) a w := fun e a w hr h => by
                simp only [T.sem] at h
                rw [hset]
                exact ⟨h.1, ih _ _ e a w hr hwf hcl' h.1 h.2⟩
              exact wpOp_of ho hX hr h key key
            · exact h.elim
          · exact drawT_sound hX hXput hsel hN (r.length + 1) _ L e a w hr hwf hcl hL h
end
end Go.Proofs.YtihipcofjpnfbaaGreatDoor.Tr
