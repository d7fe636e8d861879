/- Cut off, and one behind the other: plain facts. -/
import Derived.Test.YtgoecmggbcaoiaaTargM
set_option linter.unusedVariables false
set_option linter.unusedSimpArgs false
namespace Go.Proofs.Ytgoecmggbcaoiaa

section
variable {bs bs' b c : List Int} {a d : Int}
/-- The same bytes, d further on: the same instruction there. -/
theorem one_same (h : (oneP bs a).2.2 = 0) (hd : 0 ≤ d) (hag : ∀ j : Nat, j < bs.length → bs'.getD (j + d.toNat) 0 = bs.getD j 0) (hlen : a + szP (bs.getD a.toNat 0) + d ≤ bs'.length) :
    oneP bs' (a + d) = ({ insP bs a with at_ := a + d }, a + d + szP (bs.getD a.toNat 0), 0) := by
  obtain ⟨h0, h1, h2, h3, h4, h5⟩ := one_eq h
  have hop := szP_pos.1 h2
  obtain ⟨hw, hz⟩ := wide_is hop.1 hop.2
  have e0 : bs'.getD (a + d).toNat 0 = bs.getD a.toNat 0 := by
    rw [show (a + d).toNat = a.toNat + d.toNat by omega]
    exact hag _ (by omega)
  have hins : insP bs' (a + d) = { insP bs a with at_ := a + d } := by
    unfold insP
    simp only [e0]
    generalize bs.getD a.toNat 0 = op at *
    have hkA : kA (a + d) = kA a + d.toNat := by unfold kA; omega
    have hkB : kB op (a + d) = kB op a + d.toNat := by unfold kB; rw [hkA]; split <;> omega
    have hkI : kI_ op (a + d) = kI_ op a + d.toNat := by unfold kI_; rw [hkB]; split <;> omega
    have kA1 : kA a = a.toNat + 1 := rfl
    have kB1 : kB op a = a.toNat + 1 + (if fstP op = true then 1 else 0) := by unfold kB; rw [kA1]; split <;> omega
    have kI1 : kI_ op a = a.toNat + 1 + (if fstP op = true then 1 else 0) + (if twoP op = true then 1 else 0) := by unfold kI_; rw [kB1]; split <;> omega
    have hF : (if fstP op = true then (1 : Int) else 0) = ((if fstP op = true then 1 else 0 : Nat) : Int) := by split <;> rfl
    have hG : (if twoP op = true then (1 : Int) else 0) = ((if twoP op = true then 1 else 0 : Nat) : Int) := by split <;> rfl
    rw [hF, hG] at hz
    have f1 : (if fstP op = true then bs'.getD (kA (a + d)) 0 else 0) = (if fstP op = true then bs.getD (kA a) 0 else 0) := by
      split
      · rename_i hf
        rw [if_pos hf] at hz
        rw [hkA]
        exact hag _ (by omega)
      · rfl
    have f2 : (if twoP op = true then bs'.getD (kB op (a + d)) 0 else 0) = (if twoP op = true then bs.getD (kB op a) 0 else 0) := by
      split
      · rename_i hf
        rw [if_pos hf] at hz
        rw [hkB]
        exact hag _ (by omega)
      · rfl
    have f3 : immP bs' op (a + d) = immP bs op a := by
      rcases hw with hw | hw | hw
      · unfold immP
        simp only [hw]
        simp
      · rw [immP_1 hw, immP_1 hw, hkI, Nat.add_zero, Nat.add_zero]
        exact hag _ (by omega)
      · rw [immP_2 hw, immP_2 hw, hkI, Nat.add_zero, Nat.add_zero, show kI_ op a + d.toNat + 1 = kI_ op a + 1 + d.toNat by omega, hag _ (by omega), hag _ (by omega)]
        simp only [Nat.add_zero]
    rw [f1, f2, f3]
  have hidx : idxP (insP bs' (a + d)) = 0 := by rw [hins]; exact h4
  rw [one_ok (by omega) (by rw [e0]; omega) hidx, hins, e0]

theorem getD_take {k j : Nat} (h : j < (b.take k).length) : b.getD j 0 = (b.take k).getD j 0 := by
  rw [List.length_take] at h
  unfold List.getD
  rw [List.getElem?_take_of_lt (by omega)]
theorem walk_take (k : Nat) (h0 : 0 ≤ a) : (walkA (b.take k) a).1 <+: (walkA b a).1 := by
  refine walk_ind' (bs := b.take k) (fun a r => r.1 <+: (walkA b a).1) (fun _ _ _ => List.nil_prefix) (fun _ _ _ _ => List.nil_prefix) ?_ h0
  intro a ha hl h1 ih
  have hl : a < (b.take k).length := hl
  have h2 := one_eq h1
  have hk : (b.take k).length ≤ b.length := by rw [List.length_take]; omega
  have hs := one_same (bs' := b) (d := 0) h1 (by omega) (fun j hj => by rw [show (0 : Int).toNat = 0 from rfl, Nat.add_zero]; exact getD_take hj) (by omega)
  rw [Int.add_zero] at hs
  have hq : oneP b a = oneP (b.take k) a := by rw [hs, h2.2.2.2.2.2]; rfl
  rw [walkA_ok (bs := b) (by omega) ha (by rw [hq]; exact h1), hq]
  exact List.cons_prefix_cons.2 ⟨rfl, ih⟩
theorem walk_app (h0 : 0 ≤ a) (h1 : a ≤ b.length) : (walkA b a).2 = 0 → walkA (b ++ c) a = ((walkA b a).1 ++ (walkA (b ++ c) b.length).1, (walkA (b ++ c) b.length).2) := by
  refine walk_ind' (bs := b) (fun a r => a ≤ b.length → r.2 = 0 → walkA (b ++ c) a = (r.1 ++ (walkA (b ++ c) b.length).1, (walkA (b ++ c) b.length).2)) ?_ ?_ ?_ h0 h1
  · intro a _ h2 h3 _
    have : a = b.length := by omega
    subst this
    rfl
  · intro a _ _ h2 _ h3
    exact absurd h3 h2
  · intro a ha hl h1 ih _ hz
    have hnx := oneP_next h1
    have hs := one_same (bs' := b ++ c) (d := 0) h1 (by omega) (fun j hj => by rw [show (0 : Int).toNat = 0 from rfl, Nat.add_zero]; simp [List.getD, List.getElem?_append_left hj]) (by have := (one_eq h1).2.2.2.1; rw [List.length_append]; omega)
    rw [Int.add_zero] at hs
    have hq : oneP (b ++ c) a = oneP b a := by rw [hs, (one_eq h1).2.2.2.2.2]; rfl
    rw [walkA_ok (bs := b ++ c) (by rw [List.length_append]; omega) ha (by rw [hq]; exact h1), hq, ih hnx.2.1 hz]
    rfl
def shI (d : Int) (x : Ins) : Ins := { x with at_ := x.at_ + d }
theorem walk_shift (h0 : 0 ≤ a) : (walkA c a).2 = 0 → walkA (b ++ c) (a + b.length) = ((walkA c a).1.map (shI b.length), 0) := by
  refine walk_ind' (bs := c) (fun a r => r.2 = 0 → walkA (b ++ c) (a + b.length) = (r.1.map (shI b.length), 0)) ?_ ?_ ?_ h0
  · intro a _ h2 _
    rw [walkA_end (by rw [List.length_append]; omega)]
    rfl
  · intro a _ _ h2 h3
    exact absurd h3 h2
  · intro a ha hl h1 ih hz
    have hs := one_same (bs' := b ++ c) (d := b.length) h1 (by omega) (fun j hj => by
      rw [show ((b.length : Int)).toNat = b.length from by omega, Nat.add_comm]
      simp [List.getD, List.getElem?_append_right]) (by have := (one_eq h1).2.2.2.1; rw [List.length_append]; omega)
    rw [walkA_ok (bs := b ++ c) (by rw [List.length_append]; omega) (by omega) (by rw [hs]), hs]
    have hq := (one_eq h1).2.2.2.2.2
    rw [hq] at ih hz ⊢
    simp only at ih hz ⊢
    have ih := ih hz
    rw [show a + (b.length : Int) + szP (c.getD a.toNat 0) = a + szP (c.getD a.toNat 0) + b.length by omega, ih]
    rfl

theorem jmps_nil {l : List Ins} : jmps l = [] ↔ ∀ x ∈ l, jumpP x.op = false := by
  unfold jmps
  rw [List.map_eq_nil_iff, List.filter_eq_nil_iff]
  constructor
  · intro h x hx
    simpa using h x hx
  · intro h x hx
    rw [h x hx]
    simp
theorem ris_nil {l out : List Int} (h : IsRis l out) : out.length = 0 ↔ l = [] := by
  constructor
  · intro h0
    have : out = [] := List.eq_nil_of_length_eq_zero h0
    subst this
    cases l with
    | nil => rfl
    | cons x r => exact absurd ((h.2 x).2 (by simp)) (by simp)
  · rintro rfl
    cases out with
    | nil => rfl
    | cons x r => exact absurd ((h.2 x).1 (by simp)) (by simp)
theorem dec_both (hb : (decP b).2 = 0) (hc : (decP c).2 = 0) (hub : ∀ x ∈ b, 0 ≤ x ∧ x ≤ 255) (huc : ∀ x ∈ c, 0 ≤ x ∧ x ≤ 255) (hl : b.length + c.length ≤ 512) (jb : jmps (walkP b).1 = []) (jc : jmps (walkP c).1 = []) :
    (decP (b ++ c)).2 = 0 ∧ (decP (b ++ c)).1.length = (decP b).1.length + (decP c).1.length := by
  obtain ⟨_, _, _, _, _, wb, eb⟩ := dec_facts hub hb
  obtain ⟨_, _, _, _, _, wc, ec⟩ := dec_facts huc hc
  have h2 := walk_shift (b := b) (c := c) (a := 0) (by omega) wc
  rw [Int.zero_add] at h2
  have h1 : walkP (b ++ c) = ((walkP b).1 ++ (walkP c).1.map (shI b.length), 0) := by
    show walkA (b ++ c) 0 = _
    rw [walk_app (by omega) (by omega) wb, h2]
    rfl
  have hj : ((walkP b).1 ++ (walkP c).1.map (shI b.length)).any (badJ ((walkP b).1 ++ (walkP c).1.map (shI b.length))) = false := by
    rw [List.any_eq_false]
    intro x hx
    have : jumpP x.op = false := by
      rcases List.mem_append.1 hx with hx | hx
      · exact jmps_nil.1 jb x hx
      · obtain ⟨y, hy, rfl⟩ := List.mem_map.1 hx
        exact jmps_nil.1 jc y hy
    unfold badJ
    rw [this]
    simp
  have hd : decP (b ++ c) = ((walkP b).1 ++ (walkP c).1.map (shI b.length), 0) := by
    unfold decP
    rw [if_neg (by rw [List.length_append]; omega), h1]
    simp only
    rw [if_neg (by simp), hj, if_neg (by simp)]
  rw [hd, eb, ec]
  simp
end
end Go.Proofs.Ytgoecmggbcaoiaa
