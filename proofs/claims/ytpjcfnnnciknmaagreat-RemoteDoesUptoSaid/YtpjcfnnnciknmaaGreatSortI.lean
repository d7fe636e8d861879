/- slices.Sort of numbers: the library's contract, in the words of this walk. -/
import Derived.Test.YtpjcfnnnciknmaaGreatCompI
import Derived.Test.YtpjcfnnnciknmaaGreatLaid
import Derived.Sort.OwnSortedInts
import Derived.Shelf.Slices.In.SortNone
set_option linter.unusedVariables false
set_option linter.unusedSimpArgs false
set_option maxRecDepth 100000
set_option maxHeartbeats 4000000
namespace Go.Proofs.YtpjcfnnnciknmaaGreat
open Go hiding Expr
open Go.RowKit Tr

section
variable {w w' w0 : World} {m m' c : Hp} {o : Option Addr} {cap n g : Nat} {l : List Int} {sp : List Value}

theorem sortI_none : Calls Tryz.prog 31 #[.slice o 0 cap] w fun e w' => (∃ v, e = .returned v) ∧ w' = w :=
  (Any.slices_Sort_int_none YtpjcfnnnciknmaaGreat.lays189 o cap w).mono fun e w' h => ⟨⟨_, h.1⟩, h.2⟩

theorem sortI_c (h : Cells w g 3 (ints l ++ sp)) (hsz : l.length < 1152921504606846976) : Calls Tryz.prog 31 #[.slice (some ⟨g, 0, none⟩) l.length cap] w fun e w' =>
    (∃ v, e = .returned v) ∧ Fr [g] w w' ∧ ∃ s : List Int, s.Perm l ∧ s.Pairwise (· ≤ ·) ∧ Cells w' g 3 (ints s ++ sp) := by
  have hH : Go.Sort.Holds (Value.int .i64) w g 0 l.toArray := by
    intro j hj
    have hj' : j < l.length := by simpa using hj
    rw [Nat.zero_add]
    refine ⟨?_, h.frozen j⟩
    have hx : l[j]? = some l[j] := List.getElem?_eq_getElem hj'
    rw [h.cell (is_get hx)]
    simp [hj']
  refine (Any.slices_Sort_int YtpjcfnnnciknmaaGreat.lays189 g 0 cap l w hH h.lt (by omega)).mono ?_
  rintro e w' ⟨rfl, n, os, rfl⟩
  have hs : (l.mergeSort fun x y => decide (x ≤ y)).length = l.length := List.length_mergeSort l
  refine ⟨⟨_, rfl⟩, Fr.of_grown (grownBy_sortedI _), l.mergeSort fun x y => decide (x ≤ y), List.mergeSort_perm l _, ?_, ?_⟩
  · have := List.pairwise_mergeSort (le := fun x y : Int => decide (x ≤ y)) (by intro a b c h1 h2; simp at *; omega) (by intro a b; simp; omega) l
    exact this.imp (fun h => by simpa using h)
  · have hb : w.heap[g]? = some (.cells (⟨ints l ++ sp⟩ : Array Value) 3 (0, 0)) := h
    have := heap_sortedI (n := n) (os := os) (l.mergeSort fun x y => decide (x ≤ y)).toArray hb
    unfold Cells
    rw [this]
    congr 2
    apply Array.ext'
    apply List.ext_getElem?
    intro j
    rw [Array.getElem?_toList]
    simp only [Go.Sort.putCells, Array.getElem?_mapIdx, List.getElem?_toArray, Nat.zero_le, true_and, Nat.zero_add, Nat.sub_zero, List.size_toArray]
    by_cases hj : j < l.length
    · have hx : (l.mergeSort fun x y => decide (x ≤ y))[j]? = some (l.mergeSort fun x y => decide (x ≤ y))[j] := List.getElem?_eq_getElem (by omega)
      have hy : l[j]? = some l[j] := List.getElem?_eq_getElem hj
      rw [is_get hx, is_get hy]
      simp [hs, hj]
    · rw [List.getElem?_append_right (by rw [ints_len]; omega), List.getElem?_append_right (by rw [ints_len]; omega), ints_len, ints_len, hs]
      cases sp[j - l.length]? with
      | none => rfl
      | some v => simp [hs, hj]
end
end Go.Proofs.YtpjcfnnnciknmaaGreat
