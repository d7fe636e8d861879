/- Lines cut off, a line's words: strings.Cut and strings.Split. -/
import Derived.Test.YtihipcofjpnfbaaGreatDoorWrdB
import Derived.Lib.CountLaws
set_option linter.unusedVariables false
set_option linter.unusedSimpArgs false
set_option maxRecDepth 100000
set_option maxHeartbeats 4000000
namespace Go.Proofs.YtihipcofjpnfbaaGreatDoor
open Go hiding Expr
open Go.RowKit Tr

/-- Up to a byte, and behind it. -/
def cutC (c : UInt8) : List UInt8 → Option (List UInt8 × List UInt8)
  | [] => none
  | x :: r => if x = c then some ([], r) else (cutC c r).map fun q => (x :: q.1, q.2)
theorem cutC_some {c : UInt8} : ∀ {s a r : List UInt8}, cutC c s = some (a, r) → s = a ++ c :: r ∧ c ∉ a
  | [], a, r, h => by cases h
  | x :: t, a, r, h => by
    rw [cutC] at h
    split at h
    · rename_i hx
      cases h
      subst hx
      exact ⟨rfl, by simp⟩
    · rename_i hx
      obtain ⟨⟨a', r'⟩, h1, h2⟩ := Option.map_eq_some_iff.1 h
      cases h2
      obtain ⟨h3, h4⟩ := cutC_some h1
      refine ⟨by rw [h3]; rfl, ?_⟩
      simp only [List.mem_cons, not_or]
      exact ⟨fun e => hx e.symm, h4⟩
theorem cutC_none {c : UInt8} : ∀ {s : List UInt8}, cutC c s = none → c ∉ s
  | [], _ => by simp
  | x :: t, h => by
    rw [cutC] at h
    split at h
    · cases h
    · rename_i hx
      simp only [List.mem_cons, not_or]
      exact ⟨fun e => hx e.symm, cutC_none (Option.map_eq_none_iff.1 h)⟩
theorem cutC_app {c : UInt8} {a r : List UInt8} (h : c ∉ a) : cutC c (a ++ c :: r) = some (a, r) := by
  induction a with
  | nil => simp [cutC]
  | cons x a ih =>
    simp only [List.mem_cons, not_or] at h
    rw [List.cons_append, cutC, if_neg (fun e => h.1 e.symm), ih h.2]
    rfl
theorem index_cut (c : UInt8) : ∀ s : List UInt8, Lib.indexByte s c = match cutC c s with | some q => (q.1.length : Int) | none => -1
  | [] => rfl
  | x :: t => by
    rw [Lib.indexByte, cutC]
    by_cases hx : x = c
    · subst hx
      simp
    · have hb : (x == c) = false := by simpa using hx
      rw [hb, if_neg hx, index_cut c t]
      cases cutC c t with
      | none => simp
      | some q =>
        simp only [Option.map_some, Bool.false_eq_true, if_false, List.length_cons]
        have : ¬ ((q.1.length : Int) == -1) = true := by simp
        rw [if_neg this]
        simp
theorem spl_cut (s : List UInt8) : spl s = match cutC 32 s with | some q => q.1 :: spl q.2 | none => [s] := by
  cases h : cutC 32 s with
  | none => exact spl_word (cutC_none h)
  | some q =>
    obtain ⟨a, r⟩ := q
    obtain ⟨h1, h2⟩ := cutC_some h
    simp only
    conv => lhs; rw [h1]
    exact spl_app h2 r
theorem indexB_S (s : List UInt8) (c : UInt8) : Lib.indexB (S s) (S [c]) = match cutC c s with | some q => (q.1.length : Int) | none => -1 := by
  show Lib.index (S s).data.toList (S [c]).data.toList = _
  rw [S_list, S_list, Lib.index_one, index_cut]
theorem split_S (n : Nat) : ∀ s : List UInt8, s.length ≤ n → Lib.splitB (S [32]) 0 (Lib.countB (S s) (S [32])) (S s) = (spl s).map S := by
  induction n with
  | zero =>
    intro s hs
    have : s = [] := List.eq_nil_of_length_eq_zero (by omega)
    subst this
    rw [Lib.countB_miss _ _ (by rw [indexB_S]; rfl), Lib.splitB_zero]
    rfl
  | succ n ih =>
    intro s hs
    rw [spl_cut]
    cases h : cutC 32 s with
    | none =>
      rw [Lib.countB_miss _ _ (by rw [indexB_S, h]), Lib.splitB_zero]
      rfl
    | some q =>
      obtain ⟨a, r⟩ := q
      obtain ⟨h1, h2⟩ := cutC_some h
      have hi : Lib.indexB (S s) (S [32]) = (a.length : Int) := by rw [indexB_S, h]
      have hsz : (S [32]).size = 1 := S_size [32]
      have e1 : (S s).extract (a.length + (S [32]).size) (S s).size = S r := by
        rw [S_ext, hsz, S_size, List.take_of_length_le (Nat.le_refl _), h1]
        simp
      have e2 : (S s).extract 0 (a.length + 0) = S a := by
        rw [S_ext, h1]
        simp
      rw [Lib.countB_hit _ _ a.length (by rw [hsz]; omega) hi, Nat.add_comm, Lib.splitB_hit _ _ _ _ _ hi, e1, e2, ih r (by rw [h1] at hs; simp at hs; omega)]
      rfl
theorem count_S (s : List UInt8) : Lib.countB (S s) (S [32]) + 1 = (spl s).length := by
  have h := Lib.splitB_all (S [32]) (by rw [S_size]; decide) 0 _ (S s) rfl
  rw [split_S s.length s (Nat.le_refl _), List.length_map] at h
  exact h.symm
section
variable {w : World}
theorem Tr.Fr.drewN {w w' : World} (h : ∃ n, w' = w.drewN n) : Fr [] w w' := by
  obtain ⟨n, rfl⟩ := h
  exact ⟨rfl, rfl, rfl, Nat.le_refl _, fun k _ _ => rfl⟩
theorem cut_c (hE : ErrAt w) {s : List UInt8} (hsz : s.length ≤ 67108864) : Calls Tryz.prog 15 #[.string (S s), .string (S [10])] w fun e w' => Fr [] w w' ∧
    ((∃ a r, cutC 10 s = some (a, r) ∧ e = .returned (.tuple #[.string (S a), .string (S r), .bool true])) ∨ (cutC 10 s = none ∧ e = .returned (.tuple #[.string (S s), .string (S []), .bool false]))) := by
  obtain ⟨m, hm⟩ := hE.maxLen
  refine (Tryz.strings_Cut (S s) (S [10]) m w (by rw [S_size]; omega) hm).mono ?_
  rintro e u ⟨rfl, hu⟩
  refine ⟨Tr.Fr.drewN hu, ?_⟩
  have hi : Lib.index (S s).data.toList (S [10]).data.toList = match cutC 10 s with | some q => (q.1.length : Int) | none => -1 := indexB_S s 10
  rw [S_list, S_list] at hi
  rw [S_list, S_list]
  unfold Lib.cut
  cases h : cutC 10 s with
  | none =>
    rw [h] at hi
    simp only at hi
    rw [hi]
    exact .inr ⟨rfl, rfl⟩
  | some q =>
    obtain ⟨a, r⟩ := q
    obtain ⟨h1, h2⟩ := cutC_some h
    rw [h] at hi
    simp only at hi
    rw [hi, if_pos (by omega)]
    refine .inl ⟨a, r, rfl, ?_⟩
    have e1 : s.take (a.length : Int).toNat = a := by rw [h1]; simp
    have e2 : s.drop ((a.length : Int).toNat + [(10 : UInt8)].length) = r := by rw [h1]; simp
    rw [e1, e2]
theorem split_c (hE : ErrAt w) {s : List UInt8} (hsz : s.length ≤ 67108864) : Calls Tryz.prog 16 #[.string (S s), .string (S [32])] w fun e w' => ∃ g, e = .returned (.slice (some ⟨g, 0, none⟩) (spl s).length (spl s).length) ∧ Has w w' [cl g 9 (strs (spl s))] := by
  obtain ⟨m, hm⟩ := hE.maxLen
  refine (Tryz.strings_Split (S s) (S [32]) m w (by rw [S_size]; omega) hm (by rw [S_size]; decide)).mono ?_
  rintro e u ⟨rfl, rfl⟩
  refine ⟨w.heap.size, by rw [count_S], ?_⟩
  rw [split_S s.length s (Nat.le_refl _)]
  have f1 : Fr [] w (w.alloc (.cells ((spl s).map S |>.map Value.string).toArray 9)) := Fr.push _
  have e : strs (spl s) = ((spl s).map S).map Value.string := by
    unfold strs
    induction spl s with
    | nil => rfl
    | cons a r ih => simp only [List.map_cons, List.flatten_cons, ih]; rfl
  have H := (Has.init w).add f1 (Nat.le_refl _) (o := .cells ((spl s).map S |>.map Value.string).toArray 9) (by exact Array.getElem?_push_size)
  rw [e]
  exact H
end
end Go.Proofs.YtihipcofjpnfbaaGreatDoor
