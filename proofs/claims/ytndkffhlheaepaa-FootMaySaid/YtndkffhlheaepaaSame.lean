/- Footprints compared; keys by partitions, as the reference has them. -/
import Derived.Test.YtndkffhlheaepaaAt
import Derived.Test.YtndkffhlheaepaaOf
set_option linter.unusedVariables false
set_option linter.unusedSimpArgs false
set_option maxRecDepth 100000
set_option maxHeartbeats 4000000
namespace Go.Proofs.Ytndkffhlheaepaa
open Go hiding Expr
open Go.RowKit Tr

/-- A footprint that can be read. -/
structure FootRd (w : World) (l : List Value) (F G : Nat → List K) (P A : List Int) : Prop where
  ex : ∃ (f g : Fs) (o1 o2 : Option Addr) (c1 c2 : Nat), l = footL f F ++ footL g G ++ [.slice o1 P.length c1, .slice o2 A.length c2] ∧
    (∀ p, p < 8 → KeysAt w (f.o p) (F p)) ∧ (∀ p, p < 8 → KeysAt w (g.o p) (G p)) ∧ ValsAt w o1 P ∧ ValsAt w o2 A
theorem FsOk.keys {f : Fs} {F : Nat → List K} {cs : List Hp} (h : FsOk f F cs) {w0 w : World} {m : Hp} (H : Has w0 w m) (hs : Sb cs.flatten m) {p : Nat} (hp : p < 8) : KeysAt w (f.o p) (F p) := by
  obtain ⟨c, hc, ho⟩ := h.2 p hp
  exact keysAt_own ho (H.sub hs) (cut_flat hc)
theorem FootC.rd {parts : Int} {x : TX} {l : List Value} {c : Hp} (h : FootC parts x l c) {w0 w : World} {m : Hp} (H : Has w0 w m) (hs : Sb c m) : FootRd w l (FP parts (KS x.rd)) (FP parts (KS x.wr)) (partsOf parts x) (activeOf parts x) := by
  obtain ⟨f, g, o1, o2, c1, c2, cr, cw, cp, ca, rfl, rfl, hfo, hgo, hop, hoa⟩ := h
  have H := H.sub hs
  exact ⟨f, g, o1, o2, c1, c2, rfl, fun p hp => hfo.keys H (by repeat (first | exact sb_refl | exact sb_nil | refine sb_cons (by repeat (first | exact pick_head | apply pick_tail | apply pick_app)) ?_ | refine sb_app (by repeat (first | exact cut_head | exact cut_all | apply cut_tail | apply cut_app)) ?_ | exact sb_one (by repeat (first | exact cut_head | exact cut_all | apply cut_tail | apply cut_app)))) hp, fun p hp => hgo.keys H (by repeat (first | exact sb_refl | exact sb_nil | refine sb_cons (by repeat (first | exact pick_head | apply pick_tail | apply pick_app)) ?_ | refine sb_app (by repeat (first | exact cut_head | exact cut_all | apply cut_tail | apply cut_app)) ?_ | exact sb_one (by repeat (first | exact cut_head | exact cut_all | apply cut_tail | apply cut_app)))) hp, valsAt_own hop H (by repeat (first | exact cut_head | exact cut_all | apply cut_tail | apply cut_app)), valsAt_own hoa H (by repeat (first | exact cut_head | exact cut_all | apply cut_tail | apply cut_app))⟩
def sameF (F G F' G' : Nat → List K) (P A P' A' : List Int) : Bool := (((List.range 8).all fun p => decide (F p = F' p) && decide (G p = G' p)) && decide (P = P')) && decide (A = A')
theorem sameF_iff {F G F' G' : Nat → List K} {P A P' A' : List Int} : sameF F G F' G' P A P' A' = true ↔ (∀ p, p < 8 → F p = F' p ∧ G p = G' p) ∧ P = P' ∧ A = A' := by
  unfold sameF
  simp [and_assoc]
theorem sameF_self (F G : Nat → List K) (P A : List Int) : sameF F G F G P A P A = true := sameF_iff.2 ⟨fun _ _ => ⟨rfl, rfl⟩, rfl, rfl⟩
theorem sameF_no {F G F' G' : Nat → List K} {P A P' A' : List Int} (h : ¬ ((∀ p, p < 8 → F p = F' p ∧ G p = G' p) ∧ P = P' ∧ A = A')) : sameF F G F' G' P A P' A' = false := Bool.eq_false_iff.2 (fun q => h (sameF_iff.1 q))

section
variable {w : World} {l l' : List Value} {F G F' G' : Nat → List K} {P A P' A' : List Int}
theorem same_c (h : FootRd w l F G P A) (h' : FootRd w l' F' G' P' A') (hF : ∀ p, p < 8 → (F p).length < 9223372036854775807) (hG : ∀ p, p < 8 → (G p).length < 9223372036854775807) (hPl : P.length < 9223372036854775807) (hAl : A.length < 9223372036854775807) :
    Calls Try.prog 18 #[.agg ⟨l⟩, .agg ⟨l'⟩] w fun en w' => en = .returned (.bool (sameF F G F' G' P A P' A')) ∧ Fr [] w w' := by
  obtain ⟨f, g, o1, o2, c1, c2, rfl, hf, hg, hP, hA⟩ := h
  obtain ⟨f', g', q1, q2, d1, d2, rfl, hf', hg', hP', hA'⟩ := h'
  rw [foot_lits, foot_lits]
  apply c18
  refine h_new (Has.init w) fun n108 u H => h_new H fun n109 u H => ?_
  have H : Has w u (cl n109 45 (footL f' F' ++ footL g' G' ++ [.slice q1 P'.length d1, .slice q2 A'.length d2]) :: [cl n108 45 (footL f F ++ footL g G ++ [.slice o1 P.length c1, .slice o2 A.length c2])]) := by
    rw [foot_lits, foot_lits]
    exact H
  refine s_loop (fun vs W => ∃ i : Nat, vs = [.int .i64 i] ∧ i ≤ 8 ∧ (∀ p, p < i → F p = F' p ∧ G p = G' p) ∧ Has w W (cl n109 45 (footL f' F' ++ footL g' G' ++ [.slice q1 P'.length d1, .slice q2 A'.length d2]) :: [cl n108 45 (footL f F ++ footL g G ++ [.slice o1 P.length c1, .slice o2 A.length c2])])) (fun vs _ => 8 - (intOf (vs.getD 0 undef)).toNat) ⟨0, rfl, by omega, fun p hp => by omega, H⟩ ?_
  clear H
  rintro _ j W ⟨i, rfl, hi, hsame, H⟩
  have hget : ∀ (f g : Fs) (F G : Nat → List K) (va vb : Value) (i : Nat), i < 8 → (footL f F ++ footL g G ++ [va, vb])[0 + Int.toNat (i : Int) * 1]? = some (.slice (f.o i) (F i).length (f.c i)) := by
    intro f g F G va vb i hi
    rw [Int.toNat_natCast, Nat.zero_add, Nat.mul_one, List.append_assoc, List.getElem?_append_left (by rw [footL_len]; exact hi), footL_get hi]
  have hget8 : ∀ (f g : Fs) (F G : Nat → List K) (va vb : Value) (i : Nat), i < 8 → (footL f F ++ footL g G ++ [va, vb])[8 + Int.toNat (i : Int) * 1]? = some (.slice (g.o i) (G i).length (g.c i)) := by
    intro f g F G va vb i hi
    rw [Int.toNat_natCast, Nat.mul_one, List.append_assoc, List.getElem?_append_right (by rw [footL_len]; omega), footL_len, show 8 + i - 8 = i by omega, List.getElem?_append_left (by rw [footL_len]; exact hi), footL_get hi]
  refine s_asI (s_ite (fun g1 => ?_) (fun g1 => ?_))
  · have g1 : (i : Int) < 8 := by simpa using g1
    have hi8 : i < 8 := by omega
    have b1 := hF i hi8
    have b2 := hG i hi8
    refine h_drew H fun u H => s_req ⟨by omega, g1⟩ (h_ldS H (by repeat (first | exact pick_head | apply pick_tail | apply pick_app)) (hget _ _ _ _ _ _ _ hi8) (s_req ⟨by omega, g1⟩ (h_ldS H (by repeat (first | exact pick_head | apply pick_tail | apply pick_app)) (hget _ _ _ _ _ _ _ hi8) ?_)))
    refine s_call (same_keys_c ((hf i hi8).fr0 H.base) ((hf' i hi8).fr0 H.base) rfl rfl (by omega)) ?_
    rintro _ u ⟨rfl, f0⟩
    have H := H.fr0 f0
    refine ⟨_, rfl, s_asB (s_chk c_nil (s_ite (fun g2 => s_chk c_nil (s_ret ⟨?_, H.base⟩)) (fun g2 => ?_)))⟩
    · have g2 : ¬ F i = F' i := by simpa using g2
      rw [sameF_no (F := F) (G := G) (F' := F') (G' := G') (P := P) (A := A) (P' := P') (A' := A') (fun h => g2 (h.1 i hi8).1)]
    · have g2 : F i = F' i := by simpa using g2
      refine s_req ⟨by omega, g1⟩ (h_ldS H (by repeat (first | exact pick_head | apply pick_tail | apply pick_app)) (hget8 _ _ _ _ _ _ _ hi8) (s_req ⟨by omega, g1⟩ (h_ldS H (by repeat (first | exact pick_head | apply pick_tail | apply pick_app)) (hget8 _ _ _ _ _ _ _ hi8) ?_)))
      refine s_call (same_keys_c ((hg i hi8).fr0 H.base) ((hg' i hi8).fr0 H.base) rfl rfl (by omega)) ?_
      rintro _ u ⟨rfl, f0⟩
      have H := H.fr0 f0
      refine ⟨_, rfl, s_asB (s_chk c_nil (s_ite (fun g3 => s_ret ⟨?_, H.base⟩) (fun g3 => s_next (by first | exact ⟨rfl, rfl⟩ | trivial) ?_)))⟩
      · have g3 : ¬ G i = G' i := by simpa using g3
        rw [sameF_no (F := F) (G := G) (F' := F') (G' := G') (P := P) (A := A) (P' := P') (A' := A') (fun h => g3 (h.1 i hi8).2)]
      · have g3 : G i = G' i := by simpa using g3
        simp (config := { decide := true }) only [if_true, if_false]
        refine ⟨⟨i + 1, by rw [w_succ (by omega)], by omega, fun p hp => ?_, H⟩, by rw [w_succ (by omega)]; simp [intOf] <;> omega⟩
        rcases Nat.lt_or_ge p i with h | h
        · exact hsame p h
        · obtain rfl : p = i := by omega
          exact ⟨g2, g3⟩
  · have g1 : ¬ (i : Int) < 8 := by simpa using g1
    obtain rfl : i = 8 := by omega
    refine h_ldS H (by repeat (first | exact pick_head | apply pick_tail | apply pick_app)) rfl (h_ldS H (by repeat (first | exact pick_head | apply pick_tail | apply pick_app)) rfl ?_)
    refine s_call (samei_c (hP.fr0 H.base) (hP'.fr0 H.base) rfl rfl (by omega)) ?_
    rintro _ u ⟨rfl, f0⟩
    have H := H.fr0 f0
    refine ⟨_, rfl, s_asB (s_ite (fun g2 => ?_) (fun g2 => s_ret ⟨?_, H.base⟩))⟩
    · have g2 : P = P' := by simpa using g2
      refine h_ldS H (by repeat (first | exact pick_head | apply pick_tail | apply pick_app)) rfl (h_ldS H (by repeat (first | exact pick_head | apply pick_tail | apply pick_app)) rfl ?_)
      refine s_call (samei_c (hA.fr0 H.base) (hA'.fr0 H.base) rfl rfl (by omega)) ?_
      rintro _ u ⟨rfl, f0⟩
      have H := H.fr0 f0
      refine ⟨_, rfl, s_asB (s_ret ⟨?_, H.base⟩)⟩
      congr 2
      by_cases h : A = A'
      · rw [decide_eq_true h, sameF_iff.2 ⟨hsame, g2, h⟩]
      · rw [decide_eq_false h, sameF_no (fun q => h q.2.2)]
    · have g2 : ¬ P = P' := by simpa using g2
      rw [sameF_no (F := F) (G := G) (F' := F') (G' := G') (P := P) (A := A) (P' := P') (A' := A') (fun h => g2 h.2.1)]
theorem fsame_c (h : FootRd w l F G P A) (h' : FootRd w l' F' G' P' A') (hF : ∀ p, p < 8 → (F p).length < 9223372036854775807) (hG : ∀ p, p < 8 → (G p).length < 9223372036854775807) (hPl : P.length < 9223372036854775807) (hAl : A.length < 9223372036854775807) :
    Calls Try.prog 31 #[.agg ⟨l⟩, .agg ⟨l'⟩] w fun en w' => en = .returned (.bool (sameF F G F' G' P A P' A')) ∧ Fr [] w w' := by
  obtain ⟨f, g, o1, o2, c1, c2, rfl, hf, hg, hP, hA⟩ := h
  obtain ⟨f', g', q1, q2, d1, d2, rfl, hf', hg', hP', hA'⟩ := h'
  rw [foot_lits, foot_lits]
  apply c31
  refine h_new (Has.init w) fun n108 u H => h_new H fun n109 u H => ?_
  have H : Has w u (cl n109 45 (footL f' F' ++ footL g' G' ++ [.slice q1 P'.length d1, .slice q2 A'.length d2]) :: [cl n108 45 (footL f F ++ footL g G ++ [.slice o1 P.length c1, .slice o2 A.length c2])]) := by
    rw [foot_lits, foot_lits]
    exact H
  refine s_loop (fun vs W => ∃ i : Nat, vs = [.int .i64 i] ∧ i ≤ 8 ∧ (∀ p, p < i → F p = F' p ∧ G p = G' p) ∧ Has w W (cl n109 45 (footL f' F' ++ footL g' G' ++ [.slice q1 P'.length d1, .slice q2 A'.length d2]) :: [cl n108 45 (footL f F ++ footL g G ++ [.slice o1 P.length c1, .slice o2 A.length c2])])) (fun vs _ => 8 - (intOf (vs.getD 0 undef)).toNat) ⟨0, rfl, by omega, fun p hp => by omega, H⟩ ?_
  clear H
  rintro _ j W ⟨i, rfl, hi, hsame, H⟩
  have hget : ∀ (f g : Fs) (F G : Nat → List K) (va vb : Value) (i : Nat), i < 8 → (footL f F ++ footL g G ++ [va, vb])[0 + Int.toNat (i : Int) * 1]? = some (.slice (f.o i) (F i).length (f.c i)) := by
    intro f g F G va vb i hi
    rw [Int.toNat_natCast, Nat.zero_add, Nat.mul_one, List.append_assoc, List.getElem?_append_left (by rw [footL_len]; exact hi), footL_get hi]
  have hget8 : ∀ (f g : Fs) (F G : Nat → List K) (va vb : Value) (i : Nat), i < 8 → (footL f F ++ footL g G ++ [va, vb])[8 + Int.toNat (i : Int) * 1]? = some (.slice (g.o i) (G i).length (g.c i)) := by
    intro f g F G va vb i hi
    rw [Int.toNat_natCast, Nat.mul_one, List.append_assoc, List.getElem?_append_right (by rw [footL_len]; omega), footL_len, show 8 + i - 8 = i by omega, List.getElem?_append_left (by rw [footL_len]; exact hi), footL_get hi]
  refine s_asI (s_ite (fun g1 => ?_) (fun g1 => ?_))
  · have g1 : (i : Int) < 8 := by simpa using g1
    have hi8 : i < 8 := by omega
    have b1 := hF i hi8
    have b2 := hG i hi8
    refine h_drew H fun u H => s_req ⟨by omega, g1⟩ (h_ldS H (by repeat (first | exact pick_head | apply pick_tail | apply pick_app)) (hget _ _ _ _ _ _ _ hi8) (s_req ⟨by omega, g1⟩ (h_ldS H (by repeat (first | exact pick_head | apply pick_tail | apply pick_app)) (hget _ _ _ _ _ _ _ hi8) ?_)))
    refine s_call (eqK_c ((hf i hi8).fr0 H.base) ((hf' i hi8).fr0 H.base) rfl rfl (by omega)) ?_
    rintro _ u ⟨rfl, f0⟩
    have H := H.fr0 f0
    refine ⟨_, rfl, s_asB (s_chk c_nil (s_ite (fun g2 => s_chk c_nil (s_ret ⟨?_, H.base⟩)) (fun g2 => ?_)))⟩
    · have g2 : ¬ F i = F' i := by simpa using g2
      rw [sameF_no (F := F) (G := G) (F' := F') (G' := G') (P := P) (A := A) (P' := P') (A' := A') (fun h => g2 (h.1 i hi8).1)]
    · have g2 : F i = F' i := by simpa using g2
      refine s_req ⟨by omega, g1⟩ (h_ldS H (by repeat (first | exact pick_head | apply pick_tail | apply pick_app)) (hget8 _ _ _ _ _ _ _ hi8) (s_req ⟨by omega, g1⟩ (h_ldS H (by repeat (first | exact pick_head | apply pick_tail | apply pick_app)) (hget8 _ _ _ _ _ _ _ hi8) ?_)))
      refine s_call (eqK_c ((hg i hi8).fr0 H.base) ((hg' i hi8).fr0 H.base) rfl rfl (by omega)) ?_
      rintro _ u ⟨rfl, f0⟩
      have H := H.fr0 f0
      refine ⟨_, rfl, s_asB (s_chk c_nil (s_ite (fun g3 => s_ret ⟨?_, H.base⟩) (fun g3 => s_next (by first | exact ⟨rfl, rfl⟩ | trivial) ?_)))⟩
      · have g3 : ¬ G i = G' i := by simpa using g3
        rw [sameF_no (F := F) (G := G) (F' := F') (G' := G') (P := P) (A := A) (P' := P') (A' := A') (fun h => g3 (h.1 i hi8).2)]
      · have g3 : G i = G' i := by simpa using g3
        simp (config := { decide := true }) only [if_true, if_false]
        refine ⟨⟨i + 1, by rw [w_succ (by omega)], by omega, fun p hp => ?_, H⟩, by rw [w_succ (by omega)]; simp [intOf] <;> omega⟩
        rcases Nat.lt_or_ge p i with h | h
        · exact hsame p h
        · obtain rfl : p = i := by omega
          exact ⟨g2, g3⟩
  · have g1 : ¬ (i : Int) < 8 := by simpa using g1
    obtain rfl : i = 8 := by omega
    refine h_ldS H (by repeat (first | exact pick_head | apply pick_tail | apply pick_app)) rfl (h_ldS H (by repeat (first | exact pick_head | apply pick_tail | apply pick_app)) rfl ?_)
    refine s_call (eqI_c (hP.fr0 H.base) (hP'.fr0 H.base) rfl rfl (by omega)) ?_
    rintro _ u ⟨rfl, f0⟩
    have H := H.fr0 f0
    refine ⟨_, rfl, s_asB (s_ite (fun g2 => ?_) (fun g2 => s_ret ⟨?_, H.base⟩))⟩
    · have g2 : P = P' := by simpa using g2
      refine h_ldS H (by repeat (first | exact pick_head | apply pick_tail | apply pick_app)) rfl (h_ldS H (by repeat (first | exact pick_head | apply pick_tail | apply pick_app)) rfl ?_)
      refine s_call (eqI_c (hA.fr0 H.base) (hA'.fr0 H.base) rfl rfl (by omega)) ?_
      rintro _ u ⟨rfl, f0⟩
      have H := H.fr0 f0
      refine ⟨_, rfl, s_asB (s_ret ⟨?_, H.base⟩)⟩
      congr 2
      by_cases h : A = A'
      · rw [decide_eq_true h, sameF_iff.2 ⟨hsame, g2, h⟩]
      · rw [decide_eq_false h, sameF_no (fun q => h q.2.2)]
    · have g2 : ¬ P = P' := by simpa using g2
      rw [sameF_no (F := F) (G := G) (F' := F') (G' := G') (P := P) (A := A) (P' := P') (A' := A') (fun h => g2 h.2.1)]

def outU (vs : List Value) (i : Nat) : List Value := vs.take i ++ List.replicate (8 - i) nilS
theorem outU_len {vs : List Value} {i : Nat} (h : i ≤ vs.length) (h8 : vs.length ≤ 8) : (outU vs i).length = 8 := by unfold outU; rw [List.length_append, List.length_take, List.length_replicate]; omega
theorem outU_set {vs : List Value} {i : Nat} {v : Value} (h : vs[i]? = some v) (h8 : vs.length ≤ 8) : (outU vs i).set i v = outU vs (i + 1) := by
  obtain ⟨hi, he⟩ := List.getElem?_eq_some_iff.1 h
  unfold outU
  rw [List.set_append_right _ _ (by rw [List.length_take]; omega), List.length_take, show i - min i vs.length = 0 by omega, List.take_add_one, h, show 8 - i = (8 - (i + 1)) + 1 by omega, List.replicate_succ, List.set_cons_zero, List.append_assoc]
  rfl
theorem footL_lits (f : Fs) (F : Nat → List K) : footL f F = [.slice (f.o 0) (F 0).length (f.c 0), .slice (f.o 1) (F 1).length (f.c 1), .slice (f.o 2) (F 2).length (f.c 2), .slice (f.o 3) (F 3).length (f.c 3), .slice (f.o 4) (F 4).length (f.c 4), .slice (f.o 5) (F 5).length (f.c 5), .slice (f.o 6) (F 6).length (f.c 6), .slice (f.o 7) (F 7).length (f.c 7)] := rfl
theorem side_c {o : Option Addr} {l : List K} {n cap : Nat} (parts : Int) (h : KeysAt w o l) (hn : n = l.length) (hsz : l.length * 16 ≤ 140737488355328) : Calls Try.prog 40 #[.slice o n cap, .int .i64 parts] w fun en w' =>
    ∃ f cs, en = .returned (.agg ⟨footL f (FP parts (KS l))⟩) ∧ FsOk f (FP parts (KS l)) cs ∧ Has w w' cs.flatten := by
  have hm : 1 ≤ manyI parts ∧ manyI parts ≤ 8 := by unfold manyI; omega
  obtain ⟨M, hM⟩ := Int.eq_ofNat_of_zero_le (show 0 ≤ manyI parts by omega)
  have hMt : (manyI parts).toNat = M := by omega
  apply c40
  refine h_new (Has.init w) fun n4 u H => h_new H fun n5 u H => ?_
  refine s_call (rsplit_c parts (h.fr0 H.base) hn hsz) ?_
  rintro _ u ⟨g, vs, cs, rfl, hL, Hs⟩
  have H := H.join Hs
  rw [hMt] at hL ⊢
  obtain ⟨f, hf, hfo, hfc⟩ := lists_eight (by omega) hM.symm hL
  have hvl : vs.length = M := hL.1
  have H : Has w u (cl n5 43 (outU vs 0) :: cl n4 43 (List.replicate 8 nilS) :: cl g 37 vs :: cs.flatten) := H.sub (by repeat (first | exact sb_refl | exact sb_nil | refine sb_cons (by repeat (first | exact pick_head | apply pick_tail | apply pick_app)) ?_ | refine sb_app (by repeat (first | exact cut_head | exact cut_all | apply cut_tail | apply cut_app)) ?_ | exact sb_one (by repeat (first | exact cut_head | exact cut_all | apply cut_tail | apply cut_app))))
  refine ⟨_, rfl, s_asS ?_⟩
  refine s_loop (fun ws W => ∃ i : Nat, ws = [.int .i64 i] ∧ i ≤ M ∧ Has w W (cl n5 43 (outU vs i) :: cl n4 43 (List.replicate 8 nilS) :: cl g 37 vs :: cs.flatten)) (fun ws _ => M - (intOf (ws.getD 0 undef)).toNat) ⟨0, rfl, by omega, H⟩ ?_
  clear H
  rintro _ j W ⟨i, rfl, hi, H⟩
  refine s_asI (s_ite (fun g1 => ?_) (fun g1 => ?_))
  · simp only [decide_eq_true_eq] at g1
    obtain ⟨v, c, hv, hc, ho⟩ := hL.2.2 i (by omega)
    obtain ⟨ov, capv, rfl⟩ := ho.slice
    have hcell : vs[0 + Int.toNat (i : Int) * 1]? = some (.slice ov (FP parts (KS l) i).length capv) := by rw [Int.toNat_natCast, Nat.zero_add, Nat.mul_one]; exact hv
    refine s_req ⟨by omega, g1⟩ (s_sm (h_ldS H (by repeat (first | exact pick_head | apply pick_tail | apply pick_app)) hcell (s_req ⟨by omega, by omega⟩ ?_)))
    have hol := outU_len (vs := vs) (i := i) (by omega) (by omega)
    refine h_st H (by repeat (first | exact pick_head | apply pick_tail | apply pick_app)) (by rw [hol, Int.toNat_natCast]; omega) rfl fun u H => s_next (by first | exact ⟨rfl, rfl⟩ | trivial) ?_
    simp (config := { decide := true }) only [if_true, if_false]
    rw [Int.toNat_natCast, Nat.zero_add, Nat.mul_one, outU_set hv (by omega)] at H
    exact ⟨⟨i + 1, by rw [w_succ (by omega)], by omega, H⟩, by rw [w_succ (by omega)]; simp [intOf] <;> omega⟩
  · simp only [decide_eq_false_iff_not] at g1
    obtain rfl : i = M := by omega
    have hout : outU vs i = footL f (FP parts (KS l)) := by
      unfold outU
      rw [← hvl, List.take_length, hvl, hf]
    rw [hout, footL_lits, show List.replicate 8 nilS = [nilS, nilS, nilS, nilS, nilS, nilS, nilS, nilS] from rfl] at H
    iterate 8 refine h_ldS H (by repeat (first | exact pick_head | apply pick_tail | apply pick_app)) rfl ?_
    iterate 8 (refine h_st H (by repeat (first | exact pick_head | apply pick_tail | apply pick_app)) (bst _ _ rfl) rfl fun u H => ?_; simp only [List.set_cons_zero, List.set_cons_succ] at H)
    iterate 8 refine h_ldS H (by repeat (first | exact pick_head | apply pick_tail | apply pick_app)) rfl ?_
    refine s_ret ⟨f, _, by rw [footL_lits], hfo, ?_⟩
    rw [hfc]
    exact H.sub (by repeat (first | exact sb_refl | exact sb_nil | refine sb_cons (by repeat (first | exact pick_head | apply pick_tail | apply pick_app)) ?_ | refine sb_app (by repeat (first | exact cut_head | exact cut_all | apply cut_tail | apply cut_app)) ?_ | exact sb_one (by repeat (first | exact cut_head | exact cut_all | apply cut_tail | apply cut_app))))
end
end Go.Proofs.Ytndkffhlheaepaa
