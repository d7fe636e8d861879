/- One instruction at an address: the reference. -/
import Derived.Test.YtgoecmggbcaoiaaOneM
set_option linter.unusedVariables false
set_option linter.unusedSimpArgs false
set_option maxRecDepth 100000
set_option maxHeartbeats 4000000
namespace Go.Proofs.Ytgoecmggbcaoiaa
open Go hiding Expr
open Go.RowKit Tr

section
variable {w w' w0 : World} {m m' c : Hp} {bs : List Int} {o : Option Addr} {cap k r : Nat} {at_ : Int} {v : Value}

theorem byt_at {u : World} {g off : Nat} (h : BytAt u (some ⟨g, off, none⟩) bs) {i : Nat} (hi : i < bs.length) : u.cell? ⟨g, off + i * 1, none⟩ = some (.int .u8 (bs.getD i 0)) := by
  obtain ⟨g2, off2, he, p⟩ := h.get (i := i) (x := bs.getD i 0) (by rw [List.getD, List.getElem?_eq_getElem hi]; rfl)
  obtain ⟨rfl, rfl⟩ : g = g2 ∧ off = off2 := by simpa using he
  exact p

theorem rone_c (H : Has w0 w m) (hb : ∀ u, Has w0 u m → BytAt u o bs) (hu : ∀ x ∈ bs, 0 ≤ x ∧ x ≤ 255) (hl : bs.length ≤ 140737488355328) : Calls Try.prog 28 #[.slice o bs.length cap, .int .i64 at_] w fun e w' =>
    e = .returned (.tuple #[insV (oneP bs at_).1, .int .i64 (oneP bs at_).2.1, .int .i64 (oneP bs at_).2.2]) ∧ Has w0 w' m := by
  apply c28
  (refine h_new H fun n4 u H => ?_)
  refine h_blk (fun _ => ¬ (at_ < 0 ∨ (bs.length : Int) ≤ at_)) H ?_ ?_
  · refine s_ite (fun g => ?_) (fun g => s_ite (fun g1 => ?_) (fun g1 => s_next ⟨rfl, rfl⟩ ?_))
    · simp only [decide_eq_true_eq] at g
      rw [one_b1 (.inl g)]
      (repeat (first | refine s_asI ?_ | refine s_asS ?_ | refine s_asP ?_ | refine s_asB ?_ | refine s_asA ?_ | refine s_asT ?_ | refine s_asM ?_ | refine s_asU ?_ | refine s_asC ?_ | refine s_sm ?_ | refine s_req (by first | rfl | exact ⟨rfl, rfl⟩) ?_ | refine h_ldI H (by repeat (first | exact pick_head | apply pick_tail | apply pick_app)) (by first | rfl | (simp; done)) ?_ | refine h_ldB H (by repeat (first | exact pick_head | apply pick_tail | apply pick_app)) (by first | rfl | (simp; done)) ?_ | refine h_ldP H (by repeat (first | exact pick_head | apply pick_tail | apply pick_app)) (by first | rfl | (simp; done)) ?_ | refine h_ldS H (by repeat (first | exact pick_head | apply pick_tail | apply pick_app)) (by first | rfl | (simp; done)) ?_ | refine h_ldM H (by repeat (first | exact pick_head | apply pick_tail | apply pick_app)) (by first | rfl | (simp; done)) ?_ | refine h_ldT H (by repeat (first | exact pick_head | apply pick_tail | apply pick_app)) (by first | rfl | (simp; done)) ?_ | refine h_ldV H (by repeat (first | exact pick_head | apply pick_tail | apply pick_app)) (by first | rfl | (simp; done)) ?_ | (refine h_new H fun _ u H => ?_) | (refine h_st H (by repeat (first | exact pick_head | apply pick_tail | apply pick_app)) (by first | (simp; done) | exact Nat.le_of_ble_eq_true rfl) rfl fun u H => ?_) | (refine h_drew H fun u H => ?_) | refine s_chk c_nil ?_))
      exact s_ret ⟨rfl, H.drop⟩
    · simp only [decide_eq_true_eq] at g1
      rw [one_b1 (.inr g1)]
      (repeat (first | refine s_asI ?_ | refine s_asS ?_ | refine s_asP ?_ | refine s_asB ?_ | refine s_asA ?_ | refine s_asT ?_ | refine s_asM ?_ | refine s_asU ?_ | refine s_asC ?_ | refine s_sm ?_ | refine s_req (by first | rfl | exact ⟨rfl, rfl⟩) ?_ | refine h_ldI H (by repeat (first | exact pick_head | apply pick_tail | apply pick_app)) (by first | rfl | (simp; done)) ?_ | refine h_ldB H (by repeat (first | exact pick_head | apply pick_tail | apply pick_app)) (by first | rfl | (simp; done)) ?_ | refine h_ldP H (by repeat (first | exact pick_head | apply pick_tail | apply pick_app)) (by first | rfl | (simp; done)) ?_ | refine h_ldS H (by repeat (first | exact pick_head | apply pick_tail | apply pick_app)) (by first | rfl | (simp; done)) ?_ | refine h_ldM H (by repeat (first | exact pick_head | apply pick_tail | apply pick_app)) (by first | rfl | (simp; done)) ?_ | refine h_ldT H (by repeat (first | exact pick_head | apply pick_tail | apply pick_app)) (by first | rfl | (simp; done)) ?_ | refine h_ldV H (by repeat (first | exact pick_head | apply pick_tail | apply pick_app)) (by first | rfl | (simp; done)) ?_ | (refine h_new H fun _ u H => ?_) | (refine h_st H (by repeat (first | exact pick_head | apply pick_tail | apply pick_app)) (by first | (simp; done) | exact Nat.le_of_ble_eq_true rfl) rfl fun u H => ?_) | (refine h_drew H fun u H => ?_) | refine s_chk c_nil ?_))
      exact s_ret ⟨rfl, H.drop⟩
    · simp only [decide_eq_false_iff_not] at g g1
      simp only [if_true]
      exact ⟨H, by omega⟩
  rintro _ _ W H h0
  obtain ⟨gg, off, rfl, p⟩ := (hb W H.drop).get (i := at_.toNat) (x := bs.getD at_.toNat 0) (by rw [List.getD, List.getElem?_eq_getElem (by omega)]; rfl)
  refine s_req ⟨by omega, by omega⟩ (s_sm (s_loadI p ?_))
  have hop := byte_ok hu at_.toNat
  rw [wrapI (by omega) (by omega)]
  (refine s_call (rsize_c (op := bs.getD at_.toNat 0) H) ?_; rintro _ u ⟨rfl, H⟩; refine ⟨_, rfl, ?_⟩)
  refine s_asI (h_blk (fun _ => ¬ (szP (bs.getD at_.toNat 0) = 0 ∨ (bs.length : Int) - at_ < szP (bs.getD at_.toNat 0))) H ?_ ?_)
  · rw [wrapI (n := (bs.length : Int) - at_) (by omega) (by omega)]
    refine s_ite (fun g => ?_) (fun g => s_ite (fun g1 => ?_) (fun g1 => s_next ⟨rfl, rfl⟩ ?_))
    · rw [one_b2 h0 (.inl (by simpa using g))]
      (repeat (first | refine s_asI ?_ | refine s_asS ?_ | refine s_asP ?_ | refine s_asB ?_ | refine s_asA ?_ | refine s_asT ?_ | refine s_asM ?_ | refine s_asU ?_ | refine s_asC ?_ | refine s_sm ?_ | refine s_req (by first | rfl | exact ⟨rfl, rfl⟩) ?_ | refine h_ldI H (by repeat (first | exact pick_head | apply pick_tail | apply pick_app)) (by first | rfl | (simp; done)) ?_ | refine h_ldB H (by repeat (first | exact pick_head | apply pick_tail | apply pick_app)) (by first | rfl | (simp; done)) ?_ | refine h_ldP H (by repeat (first | exact pick_head | apply pick_tail | apply pick_app)) (by first | rfl | (simp; done)) ?_ | refine h_ldS H (by repeat (first | exact pick_head | apply pick_tail | apply pick_app)) (by first | rfl | (simp; done)) ?_ | refine h_ldM H (by repeat (first | exact pick_head | apply pick_tail | apply pick_app)) (by first | rfl | (simp; done)) ?_ | refine h_ldT H (by repeat (first | exact pick_head | apply pick_tail | apply pick_app)) (by first | rfl | (simp; done)) ?_ | refine h_ldV H (by repeat (first | exact pick_head | apply pick_tail | apply pick_app)) (by first | rfl | (simp; done)) ?_ | (refine h_new H fun _ u H => ?_) | (refine h_st H (by repeat (first | exact pick_head | apply pick_tail | apply pick_app)) (by first | (simp; done) | exact Nat.le_of_ble_eq_true rfl) rfl fun u H => ?_) | (refine h_drew H fun u H => ?_) | refine s_chk c_nil ?_))
      exact s_ret ⟨rfl, H.drop⟩
    · simp only [decide_eq_true_eq] at g1
      rw [one_b2 h0 (.inr (by omega))]
      (repeat (first | refine s_asI ?_ | refine s_asS ?_ | refine s_asP ?_ | refine s_asB ?_ | refine s_asA ?_ | refine s_asT ?_ | refine s_asM ?_ | refine s_asU ?_ | refine s_asC ?_ | refine s_sm ?_ | refine s_req (by first | rfl | exact ⟨rfl, rfl⟩) ?_ | refine h_ldI H (by repeat (first | exact pick_head | apply pick_tail | apply pick_app)) (by first | rfl | (simp; done)) ?_ | refine h_ldB H (by repeat (first | exact pick_head | apply pick_tail | apply pick_app)) (by first | rfl | (simp; done)) ?_ | refine h_ldP H (by repeat (first | exact pick_head | apply pick_tail | apply pick_app)) (by first | rfl | (simp; done)) ?_ | refine h_ldS H (by repeat (first | exact pick_head | apply pick_tail | apply pick_app)) (by first | rfl | (simp; done)) ?_ | refine h_ldM H (by repeat (first | exact pick_head | apply pick_tail | apply pick_app)) (by first | rfl | (simp; done)) ?_ | refine h_ldT H (by repeat (first | exact pick_head | apply pick_tail | apply pick_app)) (by first | rfl | (simp; done)) ?_ | refine h_ldV H (by repeat (first | exact pick_head | apply pick_tail | apply pick_app)) (by first | rfl | (simp; done)) ?_ | (refine h_new H fun _ u H => ?_) | (refine h_st H (by repeat (first | exact pick_head | apply pick_tail | apply pick_app)) (by first | (simp; done) | exact Nat.le_of_ble_eq_true rfl) rfl fun u H => ?_) | (refine h_drew H fun u H => ?_) | refine s_chk c_nil ?_))
      exact s_ret ⟨rfl, H.drop⟩
    · have g : szP (bs.getD at_.toNat 0) ≠ 0 := by simpa using g
      simp only [decide_eq_false_iff_not] at g1
      simp only [if_true]
      exact ⟨H, by omega⟩
  rintro _ _ W H h1
  have hsz : szP (bs.getD at_.toNat 0) ≠ 0 := fun h => h1 (.inl h)
  have hop2 := szP_pos.1 hsz
  have hs4 := szP_le (bs.getD at_.toNat 0)
  obtain ⟨hw, hz⟩ := wide_is hop2.1 hop2.2
  refine s_req ⟨by omega, by omega⟩ (s_sm (s_loadI (byt_at (hb W H.drop) (by omega)) ?_))
  rw [wrapI (n := bs.getD at_.toNat 0) (by omega) (by omega), wrapI (n := at_ + 1) (by omega) (by omega)]
  (refine h_new H fun n19 u H => ?_)
  iterate 5 refine h_st H (by repeat (first | exact pick_head | apply pick_tail | apply pick_app)) (by first | (simp; done) | exact Nat.le_of_ble_eq_true rfl) rfl fun u H => ?_
  have hk : (kA at_ : Int) = at_ + 1 := by unfold kA; omega
  have hins : insP bs at_ = ⟨at_, bs.getD at_.toNat 0, if fstP (bs.getD at_.toNat 0) = true then bs.getD (kA at_) 0 else 0, if twoP (bs.getD at_.toNat 0) = true then bs.getD (kB (bs.getD at_.toNat 0) at_) 0 else 0, immP bs (bs.getD at_.toNat 0) at_⟩ := rfl
  generalize hopg : bs.getD at_.toNat 0 = op at *
  have H : Has w0 u (cl n19 40 (insR ⟨at_, op, 0, 0, 0⟩) :: cl n4 40 (insR .zero) :: m) := H
  have hkB : (kB op at_ : Int) = at_ + 1 + (if fstP op = true then 1 else 0) := by unfold kB; split <;> omega
  have hkI : (kI_ op at_ : Int) = at_ + 1 + (if fstP op = true then 1 else 0) + (if twoP op = true then 1 else 0) := by unfold kI_; split <;> omega
  refine s_blk (fun vs W => vs = [.int .i64 (kB op at_ : Int)] ∧ Has w0 W (cl n19 40 (insR ⟨at_, op, if fstP op = true then bs.getD (kA at_) 0 else 0, 0, 0⟩) :: cl n4 40 (insR .zero) :: m)) ?_ ?_
  rotate_left
  · refine h_ldI H (by repeat (first | exact pick_head | apply pick_tail | apply pick_app)) rfl ?_
    (refine s_call (first_c (op := op) H) ?_; rintro _ u ⟨rfl, H⟩; refine ⟨_, rfl, ?_⟩)
    refine s_asB (s_ite (fun g => ?_) (fun g => s_next ⟨rfl, rfl⟩ ?_))
    · rw [g, if_pos rfl] at hz hkB
      refine s_req ⟨by omega, by omega⟩ (s_sm (s_loadI (byt_at (hb u H.drop.drop) (by omega)) ?_))
      have hy := byte_ok hu (at_ + 1).toNat
      rw [wrapI (by omega) (by omega), wrapI (n := at_ + 1 + 1) (by omega) (by omega)]
      refine h_st H (by repeat (first | exact pick_head | apply pick_tail | apply pick_app)) (by simp [insR]) rfl fun u H => s_next ⟨rfl, rfl⟩ ?_
      simp only [if_true]
      rw [g, if_pos rfl, show kA at_ = (at_ + 1).toNat by omega]
      exact ⟨by rw [hkB], H⟩
    · simp only [if_true]
      rw [g, if_neg (by simp : ¬ (false = true))] at hkB ⊢
      exact ⟨by rw [hkB, Int.add_zero], H⟩
  clear H
  rintro _ _ W ⟨rfl, H⟩
  generalize hA : (if fstP op = true then bs.getD (kA at_) 0 else 0) = A at *
  generalize hF : (if fstP op = true then (1 : Int) else 0) = F at *
  have hF1 : 0 ≤ F ∧ F ≤ 1 := by subst hF; split <;> omega
  generalize hG : (if twoP op = true then (1 : Int) else 0) = G at *
  have hG1 : 0 ≤ G ∧ G ≤ 1 := by subst hG; split <;> omega
  refine s_asI (s_blk (fun vs W => vs = [.int .i64 (kI_ op at_ : Int)] ∧ Has w0 W (cl n19 40 (insR ⟨at_, op, A, if twoP op = true then bs.getD (kB op at_) 0 else 0, 0⟩) :: cl n4 40 (insR .zero) :: m)) ?_ ?_)
  rotate_left
  · refine h_ldI H (by repeat (first | exact pick_head | apply pick_tail | apply pick_app)) rfl ?_
    (refine s_call (two_c (op := op) H) ?_; rintro _ u ⟨rfl, H⟩; refine ⟨_, rfl, ?_⟩)
    refine s_asB (s_ite (fun g => ?_) (fun g => s_next ⟨rfl, rfl⟩ ?_))
    · rw [g, if_pos rfl] at hG
      subst hG
      refine s_req ⟨by omega, by omega⟩ (s_sm (s_loadI (byt_at (hb u H.drop.drop) (by omega)) ?_))
      have hy := byte_ok hu ((kB op at_ : Int)).toNat
      rw [wrapI (by omega) (by omega), w_succ (by omega)]
      refine h_st H (by repeat (first | exact pick_head | apply pick_tail | apply pick_app)) (by simp [insR]) rfl fun u H => s_next ⟨rfl, rfl⟩ ?_
      simp only [if_true]
      rw [g, if_pos rfl]
      refine ⟨?_, H⟩
      rw [show kI_ op at_ = kB op at_ + 1 by omega]
    · simp only [if_true]
      rw [g, if_neg (by simp : ¬ (false = true))] at hG ⊢
      subst hG
      refine ⟨?_, H⟩
      rw [show kI_ op at_ = kB op at_ by omega]
  clear H
  rintro _ _ W ⟨rfl, H⟩
  generalize hB : (if twoP op = true then bs.getD (kB op at_) 0 else 0) = B at *
  refine s_asI (h_ldI H (by repeat (first | exact pick_head | apply pick_tail | apply pick_app)) rfl ?_)
  (refine s_call (wide_c (op := op) H) ?_; rintro _ u ⟨rfl, H⟩; refine ⟨_, rfl, ?_⟩)
  have hb0 := byte_ok hu (kI_ op at_ + 0)
  have hb1 := byte_ok hu (kI_ op at_ + 1)
  refine s_asI (s_blk (fun vs W => Has w0 W (cl n19 40 (insR ⟨at_, op, A, B, if 1 ≤ wideP op then bs.getD (kI_ op at_) 0 else 0⟩) :: cl n4 40 (insR .zero) :: m)) ?_ ?_)
  rotate_left
  · refine s_ite (fun g => ?_) (fun g => s_next ⟨rfl, rfl⟩ ?_)
    · have g : 1 ≤ wideP op := by simpa using g
      refine s_req ⟨by omega, by omega⟩ (s_sm (s_loadI (byt_at (hb u H.drop.drop) (by omega)) ?_))
      rw [show (kI_ op at_ : Int).toNat = kI_ op at_ + 0 by omega, wrapI (by omega) (by omega)]
      refine h_st H (by repeat (first | exact pick_head | apply pick_tail | apply pick_app)) (by simp [insR]) rfl fun u H => s_next ⟨rfl, rfl⟩ ?_
      simp only [if_true]
      rw [if_pos g]
      exact H
    · simp only [if_true]
      rw [if_neg (by simpa using g)]
      exact H
  clear H
  rintro _ _ W H
  refine s_blk (fun vs W => Has w0 W (cl n19 40 (insR (insP bs at_)) :: cl n4 40 (insR .zero) :: m)) ?_ ?_
  · rintro _ _ W H
    (repeat (first | refine s_asI ?_ | refine s_asS ?_ | refine s_asP ?_ | refine s_asB ?_ | refine s_asA ?_ | refine s_asT ?_ | refine s_asM ?_ | refine s_asU ?_ | refine s_asC ?_ | refine s_sm ?_ | refine s_req (by first | rfl | exact ⟨rfl, rfl⟩) ?_ | refine h_ldI H (by repeat (first | exact pick_head | apply pick_tail | apply pick_app)) (by first | rfl | (simp; done)) ?_ | refine h_ldB H (by repeat (first | exact pick_head | apply pick_tail | apply pick_app)) (by first | rfl | (simp; done)) ?_ | refine h_ldP H (by repeat (first | exact pick_head | apply pick_tail | apply pick_app)) (by first | rfl | (simp; done)) ?_ | refine h_ldS H (by repeat (first | exact pick_head | apply pick_tail | apply pick_app)) (by first | rfl | (simp; done)) ?_ | refine h_ldM H (by repeat (first | exact pick_head | apply pick_tail | apply pick_app)) (by first | rfl | (simp; done)) ?_ | refine h_ldT H (by repeat (first | exact pick_head | apply pick_tail | apply pick_app)) (by first | rfl | (simp; done)) ?_ | refine h_ldV H (by repeat (first | exact pick_head | apply pick_tail | apply pick_app)) (by first | rfl | (simp; done)) ?_ | (refine h_new H fun _ u H => ?_) | (refine h_st H (by repeat (first | exact pick_head | apply pick_tail | apply pick_app)) (by first | (simp; done) | exact Nat.le_of_ble_eq_true rfl) rfl fun u H => ?_) | (refine h_drew H fun u H => ?_) | refine s_chk c_nil ?_))
    (refine s_call (rindex_c (x := insP bs at_) H) ?_; rintro _ u ⟨rfl, H⟩; refine ⟨_, rfl, ?_⟩)
    refine s_asI (s_ite (fun g => ?_) (fun g => ?_))
    · have g : idxP (insP bs at_) ≠ 0 := by simpa using g
      have h132 := (idx_132 (insP bs at_)).elim (fun h => absurd h g) id
      rw [one_b3 h0 (by rw [hopg]; exact h1) g, h132]
      (repeat (first | refine s_asI ?_ | refine s_asS ?_ | refine s_asP ?_ | refine s_asB ?_ | refine s_asA ?_ | refine s_asT ?_ | refine s_asM ?_ | refine s_asU ?_ | refine s_asC ?_ | refine s_sm ?_ | refine s_req (by first | rfl | exact ⟨rfl, rfl⟩) ?_ | refine h_ldI H (by repeat (first | exact pick_head | apply pick_tail | apply pick_app)) (by first | rfl | (simp; done)) ?_ | refine h_ldB H (by repeat (first | exact pick_head | apply pick_tail | apply pick_app)) (by first | rfl | (simp; done)) ?_ | refine h_ldP H (by repeat (first | exact pick_head | apply pick_tail | apply pick_app)) (by first | rfl | (simp; done)) ?_ | refine h_ldS H (by repeat (first | exact pick_head | apply pick_tail | apply pick_app)) (by first | rfl | (simp; done)) ?_ | refine h_ldM H (by repeat (first | exact pick_head | apply pick_tail | apply pick_app)) (by first | rfl | (simp; done)) ?_ | refine h_ldT H (by repeat (first | exact pick_head | apply pick_tail | apply pick_app)) (by first | rfl | (simp; done)) ?_ | refine h_ldV H (by repeat (first | exact pick_head | apply pick_tail | apply pick_app)) (by first | rfl | (simp; done)) ?_ | (refine h_new H fun _ u H => ?_) | (refine h_st H (by repeat (first | exact pick_head | apply pick_tail | apply pick_app)) (by first | (simp; done) | exact Nat.le_of_ble_eq_true rfl) rfl fun u H => ?_) | (refine h_drew H fun u H => ?_) | refine s_chk c_nil ?_))
      exact s_ret ⟨rfl, H.drop.drop⟩
    · have g : idxP (insP bs at_) = 0 := by simpa using g
      rw [one_ok h0 (by rw [hopg]; exact h1) g, hopg, wrapI (n := at_ + szP op) (by omega) (by omega)]
      (repeat (first | refine s_asI ?_ | refine s_asS ?_ | refine s_asP ?_ | refine s_asB ?_ | refine s_asA ?_ | refine s_asT ?_ | refine s_asM ?_ | refine s_asU ?_ | refine s_asC ?_ | refine s_sm ?_ | refine s_req (by first | rfl | exact ⟨rfl, rfl⟩) ?_ | refine h_ldI H (by repeat (first | exact pick_head | apply pick_tail | apply pick_app)) (by first | rfl | (simp; done)) ?_ | refine h_ldB H (by repeat (first | exact pick_head | apply pick_tail | apply pick_app)) (by first | rfl | (simp; done)) ?_ | refine h_ldP H (by repeat (first | exact pick_head | apply pick_tail | apply pick_app)) (by first | rfl | (simp; done)) ?_ | refine h_ldS H (by repeat (first | exact pick_head | apply pick_tail | apply pick_app)) (by first | rfl | (simp; done)) ?_ | refine h_ldM H (by repeat (first | exact pick_head | apply pick_tail | apply pick_app)) (by first | rfl | (simp; done)) ?_ | refine h_ldT H (by repeat (first | exact pick_head | apply pick_tail | apply pick_app)) (by first | rfl | (simp; done)) ?_ | refine h_ldV H (by repeat (first | exact pick_head | apply pick_tail | apply pick_app)) (by first | rfl | (simp; done)) ?_ | (refine h_new H fun _ u H => ?_) | (refine h_st H (by repeat (first | exact pick_head | apply pick_tail | apply pick_app)) (by first | (simp; done) | exact Nat.le_of_ble_eq_true rfl) rfl fun u H => ?_) | (refine h_drew H fun u H => ?_) | refine s_chk c_nil ?_))
      exact s_ret ⟨rfl, H.drop.drop⟩
  refine s_ite (fun g => h_drew H fun u H => h_ldI H (by repeat (first | exact pick_head | apply pick_tail | apply pick_app)) rfl ?_) (fun g => s_next ⟨rfl, rfl⟩ ?_)
  · have g : wideP op = 2 := by simpa using g
    rw [w_succ (by omega)]
    refine s_req ⟨by omega, by omega⟩ (s_sm (s_loadI (byt_at (hb u H.drop.drop) (by omega)) ?_))
    rw [show ((kI_ op at_ + 1 : Nat) : Int).toNat = kI_ op at_ + 1 by omega, if_pos (by omega : 1 ≤ wideP op), wrapI (n := bs.getD (kI_ op at_ + 1) 0) (by omega) (by omega), wrapI (n := 256 * bs.getD (kI_ op at_ + 1) 0) (by omega) (by omega)]
    simp only [Nat.add_zero] at hb0
    rw [wrapI (n := bs.getD (kI_ op at_) 0 + 256 * bs.getD (kI_ op at_ + 1) 0) (by omega) (by omega)]
    refine h_st H (by repeat (first | exact pick_head | apply pick_tail | apply pick_app)) (by simp [insR]) rfl fun u H => s_chk c_nil (h_ldI H (by repeat (first | exact pick_head | apply pick_tail | apply pick_app)) rfl ?_)
    have hi := immP_2 (bs := bs) (at_ := at_) g
    simp only [Nat.add_zero] at hi
    refine s_ite (fun g2 => h_ldI H (by repeat (first | exact pick_head | apply pick_tail | apply pick_app)) rfl (s_ite (fun g3 => h_ldI H (by repeat (first | exact pick_head | apply pick_tail | apply pick_app)) rfl ?_) (fun g3 => s_next ⟨rfl, rfl⟩ ?_))) (fun g2 => s_next ⟨rfl, rfl⟩ ?_)
    · have g2 : op = 1 := by simpa using g2
      have g3 : 32768 ≤ bs.getD (kI_ op at_) 0 + 256 * bs.getD (kI_ op at_ + 1) 0 := by simpa using g3
      rw [wrapI (n := bs.getD (kI_ op at_) 0 + 256 * bs.getD (kI_ op at_ + 1) 0 - 65536) (by omega) (by omega)]
      refine h_st H (by repeat (first | exact pick_head | apply pick_tail | apply pick_app)) (by simp [insR]) rfl fun u H => s_next ⟨rfl, rfl⟩ ?_
      simp only [if_true]
      rw [hins, hi, if_pos ⟨g2, g3⟩]
      exact H
    · have g3 : ¬ 32768 ≤ bs.getD (kI_ op at_) 0 + 256 * bs.getD (kI_ op at_ + 1) 0 := by simpa using g3
      simp only [if_true]
      rw [hins, hi, if_neg (fun h => g3 h.2)]
      exact H
    · have g2 : op ≠ 1 := by simpa using g2
      simp only [if_true]
      rw [hins, hi, if_neg (fun h => g2 h.1)]
      exact H
  · have g : wideP op ≠ 2 := by simpa using g
    simp only [if_true]
    have : immP bs op at_ = if 1 ≤ wideP op then bs.getD (kI_ op at_) 0 else 0 := by
      rw [immP_eq (V := if 1 ≤ wideP op then bs.getD (kI_ op at_) 0 else 0) (by rw [if_neg g, Int.add_zero])]
      exact if_neg (by rintro ⟨rfl, _⟩; exact absurd g (by decide))
    rw [hins, this]
    exact H
end
end Go.Proofs.Ytgoecmggbcaoiaa
