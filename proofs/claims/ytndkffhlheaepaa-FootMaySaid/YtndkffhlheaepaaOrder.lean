/- The pairs that clash, and the levels. -/
import Derived.Test.YtndkffhlheaepaaClash
set_option linter.unusedVariables false
set_option linter.unusedSimpArgs false
set_option maxRecDepth 100000
set_option maxHeartbeats 2000000
namespace Go.Proofs.Ytndkffhlheaepaa
open Go hiding Expr
open Go.RowKit Tr

def TxsAt (w : World) (o : Option Addr) (X : List TX) : Prop := RowsAt w o 6 (X.map txr) ∧ ∀ x ∈ X, TxAt w x
def clAt (X : List TX) (i k : Nat) : Bool := match X[i]?, X[k]? with
  | some a, some b => clashB a b
  | _, _ => false
def ordK (X : List TX) (k j : Nat) : List (Nat × Nat) := ((List.range j).filter (fun i => clAt X i k)).map (fun i => (i, k))
def ordU (X : List TX) (k : Nat) : List (Nat × Nat) := (List.range k).flatMap (fun k => ordK X k k)
def ordL (X : List TX) : List (Nat × Nat) := ordU X X.length
theorem ordK_succ (X : List TX) (k j : Nat) : ordK X k (j + 1) = ordK X k j ++ (if clAt X j k then [(j, k)] else []) := by
  unfold ordK
  rw [List.range_succ, List.filter_append, List.map_append]
  congr 1
  by_cases h : clAt X j k <;> simp [h]
theorem ordU_succ (X : List TX) (k : Nat) : ordU X (k + 1) = ordU X k ++ ordK X k k := by
  unfold ordU
  rw [List.range_succ, List.flatMap_append]
  simp
theorem ordK_len (X : List TX) (k j : Nat) : (ordK X k j).length ≤ j := by
  unfold ordK
  rw [List.length_map]
  have := List.length_filter_le (fun i => clAt X i k) (List.range j)
  simpa using this
theorem ordU_len (X : List TX) (k : Nat) : (ordU X k).length ≤ k * k := by
  induction k with
  | zero => simp [ordU]
  | succ k ih =>
    rw [ordU_succ, List.length_append]
    have := ordK_len X k k
    have : (k + 1) * (k + 1) = k * k + 2 * k + 1 := by rw [Nat.succ_mul, Nat.mul_succ]; omega
    omega
theorem ordK_mem {X : List TX} {k j : Nat} {q : Nat × Nat} (h : q ∈ ordK X k j) : q.1 < j ∧ q.2 = k := by
  obtain ⟨i, hi, rfl⟩ := List.mem_map.1 h
  exact ⟨List.mem_range.1 (List.mem_filter.1 hi).1, rfl⟩
theorem ordU_mem {X : List TX} {k : Nat} {q : Nat × Nat} (h : q ∈ ordU X k) : q.1 < q.2 ∧ q.2 < k := by
  obtain ⟨k', hk, hq⟩ := List.mem_flatMap.1 h
  obtain ⟨h1, h2⟩ := ordK_mem hq
  have := List.mem_range.1 hk
  omega

def qr (q : Nat × Nat) : List Value := [.int .i64 (q.1 : Int), .int .i64 (q.2 : Int)]
theorem qr2 (l : List (Nat × Nat)) : ∀ r ∈ l.map qr, r.length = 2 := by
  intro r hr
  obtain ⟨x, _, rfl⟩ := List.mem_map.1 hr
  rfl
theorem qr_one (l : List (Nat × Nat)) : ∀ r ∈ l.map qr, ∀ u ∈ r, u.oneCell' = true := by
  intro r hr u hu
  obtain ⟨x, _, rfl⟩ := List.mem_map.1 hr
  simp [qr] at hu
  rcases hu with rfl | rfl <;> rfl
def encQ (l : List (Nat × Nat)) : List Value := (l.map qr).flatten
theorem encQ_append (a b : List (Nat × Nat)) : encQ (a ++ b) = encQ a ++ encQ b := by simp [encQ]
theorem elemQ : Elem Try.prog 23 66 (.agg ⟨[.int .i64 0, .int .i64 0]⟩) 2 16 := ⟨by kernel_rfl, by kernel_rfl, rfl, by decide⟩
theorem elemN : Elem Try.prog 31 3 (.int .i64 0) 1 8 := ⟨by kernel_rfl, by kernel_rfl, rfl, by decide⟩
def PrsAt (w : World) (o : Option Addr) (P : List (Nat × Nat)) : Prop := RowsAt w o 2 (P.map qr)

section
variable {w w' w0 : World} {o : Option Addr} {n cap p : Nat} {X : List TX} {P : List (Nat × Nat)} {m m' c : Hp} {e : TypeId}
theorem TxsAt.fr0 (h : TxsAt w o X) (hf : Fr [] w w') : TxsAt w' o X := ⟨h.1.fr hf, fun x hx => (h.2 x hx).fr0 hf⟩
theorem TxsAt.get (h : TxsAt w o X) {i : Nat} {x : TX} (hi : X[i]? = some x) : ∃ g off, o = some ⟨g, off, none⟩ ∧ (w.cell? ⟨g, off + i * 6, none⟩ = some (.int .i64 x.s) ∧ w.cell? ⟨g, off + i * 6 + 1, none⟩ = some (.int .i64 x.q) ∧
    w.cell? ⟨g, off + i * 6 + 2, none⟩ = some (.slice x.oc x.nc x.cc) ∧ w.cell? ⟨g, off + i * 6 + 3, none⟩ = some (.slice x.oa x.na x.ca) ∧ w.cell? ⟨g, off + i * 6 + 4, none⟩ = some (.slice x.od x.rd.length x.cd) ∧ w.cell? ⟨g, off + i * 6 + 5, none⟩ = some (.slice x.ow x.wr.length x.cw)) ∧ TxAt w x := by
  obtain ⟨g, off, rfl, _, hc⟩ := RowsAt.at h.1 (j := i) (r := txr x) (by simp [hi])
  exact ⟨g, off, rfl, ⟨hc 0 _ rfl, hc 1 _ rfl, hc 2 _ rfl, hc 3 _ rfl, hc 4 _ rfl, hc 5 _ rfl⟩, h.2 x (List.mem_of_getElem? hi)⟩
theorem PrsAt.get (h : PrsAt w o P) {i : Nat} {x : Nat × Nat} (hi : P[i]? = some x) : ∃ g off, o = some ⟨g, off, none⟩ ∧ w.cell? ⟨g, off + i * 2, none⟩ = some (.int .i64 (x.1 : Int)) ∧ w.cell? ⟨g, off + i * 2 + 1, none⟩ = some (.int .i64 (x.2 : Int)) := by
  obtain ⟨g, off, rfl, _, hc⟩ := RowsAt.at h (j := i) (r := qr x) (by simp [hi])
  exact ⟨g, off, rfl, hc 0 _ rfl, hc 1 _ rfl⟩
theorem prsAt_own (ho : OwnC e 2 (.slice o n cap) n (encQ P) c) (H : Has w0 w m) (hp : Cut c m m') : PrsAt w o P := rowsAt_own (qr2 P) (by decide) ho H hp
theorem clAt_of {i k : Nat} {a b : TX} (ha : X[i]? = some a) (hb : X[k]? = some b) : clAt X i k = clashB a b := by
  unfold clAt
  rw [ha, hb]

theorem order_c (h : TxsAt w o X) (hX : ∀ x ∈ X, TxOk x) (hn : n = X.length) (hl : X.length ≤ 1048576) : Calls Try.prog 12 #[.slice o n cap] w fun en w' =>
    ∃ p v c, en = .returned (.func (.func 34) #[] #[.pointer (some ⟨p, 0, none⟩)]) ∧ OwnC 66 2 v (ordL X).length (encQ (ordL X)) c ∧ Has w w' (cl p 23 [v] :: c) := by
  subst hn
  apply c12
  refine h_new (Has.init w) fun n3 u H => ?_
  refine s_loop (fun vs W => ∃ (k : Nat) (v : Value) (c : Hp), vs = [.int .i64 k] ∧ k ≤ X.length ∧ OwnC 66 2 v (ordU X k).length (encQ (ordU X k)) c ∧ Has w W (cl n3 23 [v] :: c)) (fun vs _ => X.length - (intOf (vs.getD 0 undef)).toNat) ⟨0, _, [], rfl, by omega, OwnC.nil, H⟩ ?_
  clear H
  rintro _ j W ⟨k, v, c, rfl, hk, ho, H⟩
  refine s_asI (s_ite (fun g1 => ?_) (fun g1 => ?_))
  · simp only [decide_eq_true_eq] at g1
    obtain ⟨b, hb⟩ : ∃ b, X[k]? = some b := ⟨_, List.getElem?_eq_getElem (by omega)⟩
    refine s_loop (fun vs W => ∃ (i : Nat) (v : Value) (c : Hp), vs = [.int .i64 i] ∧ i ≤ k ∧ OwnC 66 2 v (ordU X k ++ ordK X k i).length (encQ (ordU X k ++ ordK X k i)) c ∧ Has w W (cl n3 23 [v] :: c)) (fun vs _ => k - (intOf (vs.getD 0 undef)).toNat)
      ⟨0, v, c, rfl, by omega, by simpa [ordK] using ho, H⟩ ?_
    clear H ho
    rintro _ j2 W ⟨i, v, c, rfl, hi, ho, H⟩
    refine s_asI (s_ite (fun g2 => ?_) (fun g2 => ?_))
    · simp only [decide_eq_true_eq] at g2
      obtain ⟨a, ha⟩ : ∃ a, X[i]? = some a := ⟨_, List.getElem?_eq_getElem (by omega)⟩
      refine h_drew H fun u H => ?_
      obtain ⟨ga, offa, hea, ⟨a0, a1, a2, a3, a4, a5⟩, hat⟩ := (h.fr0 H.base).get ha
      obtain ⟨gb, offb, heb, ⟨b0, b1, b2, b3, b4, b5⟩, hbt⟩ := (h.fr0 H.base).get hb
      refine s_req ⟨by omega, by omega⟩ ⟨ga, offa, hea, s_loadI a0 (s_loadI a1 (s_loadS a2 (s_loadS a3 (s_loadS a4 (s_loadS a5 (s_req ⟨by omega, g1⟩ ⟨gb, offb, heb, s_loadI b0 (s_loadI b1 (s_loadS b2 (s_loadS b3 (s_loadS b4 (s_loadS b5 ?_)))))⟩))))))⟩
      refine s_call (clash_c hat (hX a (List.mem_of_getElem? ha)) hbt (hX b (List.mem_of_getElem? hb))) ?_
      rintro _ u ⟨rfl, f⟩
      have H := H.fr0 f
      have hcl := clAt_of ha hb
      have hlen : (ordU X k ++ ordK X k i).length + 1 ≤ X.length * X.length := by
        rw [List.length_append]
        have h1 := ordU_len X k
        have h2 := ordK_len X k i
        have h3 : (k + 1) * (k + 1) ≤ X.length * X.length := Nat.mul_le_mul (by omega) (by omega)
        have h4 : (k + 1) * (k + 1) = k * k + 2 * k + 1 := by rw [Nat.succ_mul, Nat.mul_succ]; omega
        omega
      have hsq : X.length * X.length ≤ 1099511627776 := Nat.le_trans (Nat.mul_le_mul hl hl) (by decide)
      refine ⟨_, rfl, s_asB (s_chk c_nil (s_ite (fun g3 => ?_) (fun g3 => s_next (by first | exact ⟨rfl, rfl⟩ | trivial) ?_)))⟩
      · obtain ⟨ov, cv, rfl⟩ := ho.slice
        refine h_ldS H (by repeat (first | exact pick_head | apply pick_tail | apply pick_app)) rfl ?_
        (refine h_new H fun n47 u H => ?_)
        refine h_app1 elemQ H (by repeat (first | exact cut_head | exact cut_all | apply cut_tail | apply cut_app)) ho (by repeat (first | exact pick_head | apply pick_tail | apply pick_app)) rfl (qr_one [(i, k)] _ (List.mem_singleton.2 rfl)) (by omega) (by omega) ?_
        intro v' c' u ho' H
        obtain ⟨ov', cv', rfl⟩ := ho'.slice
        refine s_asS (h_st H (by repeat (first | exact pick_head | apply pick_tail | apply pick_app)) (by simp) rfl fun u H => s_next (by first | exact ⟨rfl, rfl⟩ | trivial) ?_)
        simp (config := { decide := true }) only [if_true, if_false]
        refine ⟨⟨i + 1, _, c', by rw [w_succ (by omega)], by omega, ?_, H.sub (by repeat (first | exact sb_refl | exact sb_nil | refine sb_cons (by repeat (first | exact pick_head | apply pick_tail | apply pick_app)) ?_ | refine sb_app (by repeat (first | exact cut_head | exact cut_all | apply cut_tail | apply cut_app)) ?_ | exact sb_one (by repeat (first | exact cut_head | exact cut_all | apply cut_tail | apply cut_app))))⟩, by rw [w_succ (by omega)]; simp [intOf] <;> omega⟩
        have hL : (ordU X k ++ ordK X k i ++ [(i, k)]).length = (ordU X k ++ ordK X k i).length + 1 := by rw [List.length_append (bs := [(i, k)])]; rfl
        rw [ordK_succ, hcl, g3, if_pos rfl, ← List.append_assoc, hL, encQ_append]
        exact ho'
      · simp (config := { decide := true }) only [if_true, if_false]
        refine ⟨⟨i + 1, v, c, by rw [w_succ (by omega)], by omega, ?_, H⟩, by rw [w_succ (by omega)]; simp [intOf] <;> omega⟩
        rw [ordK_succ, hcl, g3, if_neg (by simp), List.append_nil]
        exact ho
    · simp only [decide_eq_false_iff_not] at g2
      obtain rfl : i = k := by omega
      refine s_next (by first | exact ⟨rfl, rfl⟩ | trivial) ?_
      simp (config := { decide := true }) only [if_true, if_false]
      exact ⟨⟨i + 1, v, c, by rw [w_succ (by omega)], by omega, by rw [ordU_succ]; exact ho, H⟩, by rw [w_succ (by omega)]; simp [intOf] <;> omega⟩
  · simp only [decide_eq_false_iff_not] at g1
    obtain rfl : k = X.length := by omega
    exact s_ret ⟨n3, v, c, rfl, ho, H⟩

theorem rorder_c (h : TxsAt w o X) (hX : ∀ x ∈ X, TxOk x) (hn : n = X.length) (hl : X.length ≤ 1048576) : Calls Try.prog 9 #[.slice o n cap] w fun en w' =>
    ∃ v c, en = .returned v ∧ OwnC 66 2 v (ordL X).length (encQ (ordL X)) c ∧ Has w w' c := by
  subst hn
  apply c9
  refine s_loop (fun vs W => ∃ (k : Nat) (v : Value) (c : Hp), vs = [v, .int .i64 k] ∧ k ≤ X.length ∧ OwnC 66 2 v (ordU X k).length (encQ (ordU X k)) c ∧ Has w W c) (fun vs _ => X.length - (intOf (vs.getD 1 undef)).toNat) ⟨0, _, [], rfl, by omega, OwnC.nil, Has.init w⟩ ?_
  rintro _ j W ⟨k, v, c, rfl, hk, ho, H⟩
  obtain ⟨ov, cv, rfl⟩ := ho.slice
  refine s_asS (s_asI (s_ite (fun g1 => ?_) (fun g1 => ?_)))
  · simp only [decide_eq_true_eq] at g1
    obtain ⟨b, hb⟩ : ∃ b, X[k]? = some b := ⟨_, List.getElem?_eq_getElem (by omega)⟩
    refine s_loop (fun vs W => ∃ (i : Nat) (v : Value) (c : Hp), vs = [v, .int .i64 i] ∧ i ≤ k ∧ OwnC 66 2 v (ordU X k ++ ordK X k i).length (encQ (ordU X k ++ ordK X k i)) c ∧ Has w W c) (fun vs _ => k - (intOf (vs.getD 1 undef)).toNat)
      ⟨0, _, c, rfl, by omega, by simpa [ordK] using ho, H⟩ ?_
    clear H ho
    rintro _ j2 W ⟨i, v, c, rfl, hi, ho, H⟩
    obtain ⟨ov, cv, rfl⟩ := ho.slice
    refine s_asS (s_asI (s_ite (fun g2 => ?_) (fun g2 => ?_)))
    · simp only [decide_eq_true_eq] at g2
      obtain ⟨a, ha⟩ : ∃ a, X[i]? = some a := ⟨_, List.getElem?_eq_getElem (by omega)⟩
      refine h_drew H fun u H => ?_
      obtain ⟨ga, offa, hea, ⟨a0, a1, a2, a3, a4, a5⟩, hat⟩ := (h.fr0 H.base).get ha
      obtain ⟨gb, offb, heb, ⟨b0, b1, b2, b3, b4, b5⟩, hbt⟩ := (h.fr0 H.base).get hb
      refine s_req ⟨by omega, by omega⟩ ⟨ga, offa, hea, s_loadI a0 (s_loadI a1 (s_loadS a2 (s_loadS a3 (s_loadS a4 (s_loadS a5 (s_req ⟨by omega, g1⟩ ⟨gb, offb, heb, s_loadI b0 (s_loadI b1 (s_loadS b2 (s_loadS b3 (s_loadS b4 (s_loadS b5 ?_)))))⟩))))))⟩
      refine s_call (rclash_c hat (hX a (List.mem_of_getElem? ha)) hbt (hX b (List.mem_of_getElem? hb))) ?_
      rintro _ u ⟨rfl, f⟩
      have H := H.fr0 f
      have hcl := clAt_of ha hb
      have hlen : (ordU X k ++ ordK X k i).length + 1 ≤ X.length * X.length := by
        rw [List.length_append]
        have h1 := ordU_len X k
        have h2 := ordK_len X k i
        have h3 : (k + 1) * (k + 1) ≤ X.length * X.length := Nat.mul_le_mul (by omega) (by omega)
        have h4 : (k + 1) * (k + 1) = k * k + 2 * k + 1 := by rw [Nat.succ_mul, Nat.mul_succ]; omega
        omega
      have hsq : X.length * X.length ≤ 1099511627776 := Nat.le_trans (Nat.mul_le_mul hl hl) (by decide)
      refine ⟨_, rfl, s_asB (s_chk c_nil (s_ite (fun g3 => ?_) (fun g3 => s_next (by first | exact ⟨rfl, rfl⟩ | trivial) ?_)))⟩
      · skip
        (refine h_new H fun n47 u H => ?_)
        refine h_app1 elemQ H (by repeat (first | exact cut_head | exact cut_all | apply cut_tail | apply cut_app)) ho (by repeat (first | exact pick_head | apply pick_tail | apply pick_app)) rfl (qr_one [(i, k)] _ (List.mem_singleton.2 rfl)) (by omega) (by omega) ?_
        intro v' c' u ho' H
        obtain ⟨ov', cv', rfl⟩ := ho'.slice
        refine s_asS (s_next (by first | exact ⟨rfl, rfl⟩ | trivial) ?_)
        simp (config := { decide := true }) only [if_true, if_false]
        refine ⟨⟨i + 1, _, c', by rw [w_succ (by omega)], by omega, ?_, H.sub (by repeat (first | exact sb_refl | exact sb_nil | refine sb_cons (by repeat (first | exact pick_head | apply pick_tail | apply pick_app)) ?_ | refine sb_app (by repeat (first | exact cut_head | exact cut_all | apply cut_tail | apply cut_app)) ?_ | exact sb_one (by repeat (first | exact cut_head | exact cut_all | apply cut_tail | apply cut_app))))⟩, by rw [w_succ (by omega)]; simp [intOf] <;> omega⟩
        have hL : (ordU X k ++ ordK X k i ++ [(i, k)]).length = (ordU X k ++ ordK X k i).length + 1 := by rw [List.length_append (bs := [(i, k)])]; rfl
        rw [ordK_succ, hcl, g3, if_pos rfl, ← List.append_assoc, hL, encQ_append]
        exact ho'
      · simp (config := { decide := true }) only [if_true, if_false]
        refine ⟨⟨i + 1, _, c, by rw [w_succ (by omega)], by omega, ?_, H⟩, by rw [w_succ (by omega)]; simp [intOf] <;> omega⟩
        rw [ordK_succ, hcl, g3, if_neg (by simp), List.append_nil]
        exact ho
    · simp only [decide_eq_false_iff_not] at g2
      obtain rfl : i = k := by omega
      refine s_next (by first | exact ⟨rfl, rfl⟩ | trivial) ?_
      simp (config := { decide := true }) only [if_true, if_false]
      exact ⟨⟨i + 1, _, c, by rw [w_succ (by omega)], by omega, by rw [ordU_succ]; exact ho, H⟩, by rw [w_succ (by omega)]; simp [intOf] <;> omega⟩
  · simp only [decide_eq_false_iff_not] at g1
    obtain rfl : k = X.length := by omega
    exact s_ret ⟨_, c, rfl, ho, H⟩

/-! ### The pairs told -/
def okQ (P : List (Nat × Nat)) (ys : List (List Value)) (Z : Hp) (av : List Value) : Prop := ∃ q, P[ys.length]? = some q ∧ av = qr q
theorem order1_seq {ty : TypeId} (hl : P.length < 9223372036854775807) : SeqZ Try.prog 34 [.pointer (some ⟨p, 0, none⟩)] (fun W => Cells W p ty [.slice o P.length cap] ∧ PrsAt W o P) (okQ P) (fun ys => ys.length = P.length) := by
  intro l w I S hh hK h0 hY
  apply c34
  obtain ⟨hc, _⟩ := hK _ _ _ h0
  refine s_ldS hc rfl ?_
  refine s_loop (fun vs W => ∃ (i : Nat) (ys : List (List Value)) (Z : Hp), vs = [.int .i64 i] ∧ i ≤ P.length ∧ ys.length = i ∧ I ys Z W) (fun vs _ => P.length - (intOf (vs.getD 0 undef)).toNat) ⟨0, [], [], rfl, by omega, rfl, h0⟩ ?_
  rintro _ j W ⟨i, ys, Z, rfl, hi, hyl, hI⟩
  refine s_asI (s_ite (fun g1 => ?_) (fun g1 => s_ret ⟨⟨_, rfl⟩, .inl ⟨ys, Z, by have : ¬ (i : Int) < (P.length : Int) := by simpa using g1
                                                                                 omega, hI⟩⟩))
  have g1 : (i : Int) < (P.length : Int) := by simpa using g1
  obtain ⟨x, hx⟩ : ∃ x, P[i]? = some x := ⟨_, List.getElem?_eq_getElem (by omega)⟩
  obtain ⟨_, hA⟩ := hK _ _ _ hI
  obtain ⟨g, off, he, p0, p1⟩ := hA.get hx
  refine s_req ⟨by omega, g1⟩ ⟨g, off, he, s_loadI p0 (s_loadI p1 ?_)⟩
  refine h_new (Has.init W) fun n13 u H => ?_
  iterate 2 refine h_st H (by repeat (first | exact pick_head | apply pick_tail | apply pick_app)) (by first | (simp; done) | exact Nat.le_of_ble_eq_true rfl) rfl fun u H => ?_
  refine s_req (by decide) (h_ldI H (by repeat (first | exact pick_head | apply pick_tail | apply pick_app)) rfl (s_req (by decide) (h_ldI H (by repeat (first | exact pick_head | apply pick_tail | apply pick_app)) rfl ?_)))
  refine (hY ys Z u _ (hh.fr hI H.base) ⟨x, by rw [hyl]; exact hx, rfl⟩).mono ?_
  rintro _ W' ⟨v, rfl, ⟨rfl, hI'⟩ | ⟨rfl, hS⟩⟩
  · refine ⟨_, rfl, s_asB (s_false rfl (s_next (by first | exact ⟨rfl, rfl⟩ | trivial) ?_))⟩
    simp (config := { decide := true }) only [if_true, if_false]
    exact ⟨⟨i + 1, _, _, by rw [w_succ (by omega)], by omega, by rw [List.length_append, hyl]; rfl, hI'⟩, by rw [w_succ (by omega)]; simp [intOf] <;> omega⟩
  · exact ⟨_, rfl, s_asB (s_true rfl (s_ret ⟨⟨_, rfl⟩, .inr hS⟩))⟩
end
end Go.Proofs.Ytndkffhlheaepaa
