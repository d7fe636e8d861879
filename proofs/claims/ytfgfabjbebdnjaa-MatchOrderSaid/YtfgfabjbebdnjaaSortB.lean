/- slices.Sort of few whole numbers. -/
import Derived.Test.YtfgfabjbebdnjaaSort
import Derived.Test.YtfgfabjbebdnjaaTreesB
set_option linter.unusedVariables false
set_option linter.unusedSimpArgs false
set_option maxRecDepth 100000

namespace Go.Proofs.Ytfgfabjbebdnjaa
open Go hiding Expr
open Go.RowKit Tr

theorem len64_c {w : World} (n : Nat) (h : n < 256) : Calls Try.prog 39 #[.int .u64 (n : Int)] w fun e w' => (∃ x, e = .returned (.int .i64 x)) ∧ w = w' := by
  apply c39
  have hw : IntKind.wrap .u8 (n : Int) = (n : Int) := by
    simp only [IntKind.wrap, IntKind.min, IntKind.max, IntKind.signed, IntKind.bits]; simp; omega
  refine s_false (by simp; omega) (s_false (by simp; omega) (s_false (by simp; omega) (s_req (by rw [hw]; omega) (s_ret ⟨⟨_, rfl⟩, rfl⟩))))

theorem len_c {w : World} (n : Nat) (h : n < 256) : Calls Try.prog 28 #[.int .u64 (n : Int)] w fun e w' => (∃ x, e = .returned (.int .i64 x)) ∧ w = w' := by
  apply c28
  refine s_call (len64_c n h) ?_
  rintro _ _ ⟨⟨x, rfl⟩, rfl⟩
  exact ⟨_, rfl, s_asI (s_ret ⟨⟨_, rfl⟩, rfl⟩)⟩

theorem sort_c {w : World} {g cap : Nat} {ty : TypeId} {xs : List Int} {rest : List Value} (h : Cells w g ty (ints xs ++ rest)) (hfew : xs.length ≤ 12) :
    Calls Try.prog 24 #[.slice (some ⟨g, 0, none⟩) xs.length cap] w fun e w' =>
      (∃ v, e = .returned v) ∧ Fr [g] w w' ∧ ∃ ys, ys.Perm xs ∧ Upto ys ys.length ∧ Cells w' g ty (ints ys ++ rest) := by
  apply c24
  have hw : IntKind.wrap .u64 (xs.length : Int) = ((xs.length : Nat) : Int) := by
    simp only [IntKind.wrap, IntKind.min, IntKind.max, IntKind.signed, IntKind.bits]; simp; omega
  unfold t24
  rw [hw]
  refine s_call (len_c xs.length (by omega)) ?_
  rintro _ _ ⟨⟨lim, rfl⟩, rfl⟩
  refine ⟨_, rfl, s_asI (s_call (R := fun e w' => (∃ v, e = .returned v) ∧ Fr [g] w w' ∧ ∃ ys, ys.Perm xs ∧ Upto ys ys.length ∧ Cells w' g ty (ints ys ++ rest)) ?_ ?_)⟩
  · apply c27
    refine s_loop (fun vs W => w = W ∧ vs = [.int .i64 0, .int .i64 xs.length, .int .i64 lim, .bool true, .bool true]) (fun _ _ => 0) ⟨rfl, rfl⟩ ?_
    rintro _ _ _ ⟨rfl, rfl⟩
    refine s_asI (s_asI (s_asI (s_asB (s_asB (s_true ?_ (s_call (insertion_c h (by omega)) ?_))))))
    · rw [wrap64 (by omega) (by omega)]; simp; omega
    · rintro _ w1 ⟨⟨v, rfl⟩, h1⟩
      exact ⟨_, rfl, s_ret ⟨⟨_, rfl⟩, h1⟩⟩
  · rintro _ w1 ⟨⟨v, rfl⟩, h1⟩
    exact ⟨_, rfl, s_ret ⟨⟨_, rfl⟩, h1⟩⟩
end Go.Proofs.Ytfgfabjbebdnjaa
