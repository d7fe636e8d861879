/- ShardSplits: a list of lists of pairs, handed in. -/
import Derived.Test.YteimilnigiagjaaSplits
import Derived.Test.YteimilnigiagjaaDeep
set_option linter.unusedVariables false
set_option linter.unusedSimpArgs false
set_option maxRecDepth 100000
namespace Go.Proofs.Yteimilnigiagjaa
open Go hiding Expr
open Go.RowKit Tr

theorem pls_of {H : Type} {enc : TypeId × Value → H} {w : World} {base : Nat} {spare : Nat → Bool} {held : Bool} {q : Nat} (rows : List (List Value)) : ∀ (el : List (DataW H)), el.length = rows.length →
    (∀ (j : Nat) (r : List Value), rows[j]? = some r → r.length = Try.prog.cellsOf 40 ∧ ∃ y, DataW.trod enc Try.prog w base spare held q 40 r = some y ∧ el[j]? = some y.1) →
    ∃ ls : List PL, rows = ls.map plr ∧ (∀ x ∈ ls, PairsAt w x.o x.l ∧ ∀ p ∈ x.l, InK p.k) ∧ ls.length = el.length ∧ ∀ (j : Nat) (x : PL), ls[j]? = some x → x.l.length = 0 ∨ ∃ el' sp', el[j]? = some (.slice el' sp') ∧ el'.length = x.l.length := by
  induction rows with
  | nil => exact fun el he _ => ⟨[], rfl, by simp, he.symm, by simp⟩
  | cons r rows ih =>
    intro el he h
    cases el with
    | nil => simp at he
    | cons d el =>
      obtain ⟨ls, h1, h2, h3, h4⟩ := ih el (by simpa using he) (fun j r hj => by
        obtain ⟨a, y, b, c⟩ := h (j + 1) r (by simpa using hj)
        exact ⟨a, y, b, by simpa using c⟩)
      obtain ⟨hl, y, hy, hd⟩ := h 0 r rfl
      simp only [List.getElem?_cons_zero, Option.some.injEq] at hd
      obtain ⟨o, len, cap, rows', hcs, hlen, hmax, hfits, hrows⟩ := open_rows (ls := [.int .i32, .int .i64, .int .i64]) (n := 9) Try.underlying40 (by kernel_rfl) (by kernel_rfl) hy (by decide)
      obtain ⟨l, rfl, hin⟩ := pairs_of rows' hfits
      have hsl := slice_len Try.underlying40 (show DataW.trod enc Try.prog w base spare held q 40 [.slice o len cap] = some y by rw [← hcs]; exact hy)
      rw [List.length_map] at hlen
      subst hlen
      refine ⟨⟨o, cap, l⟩ :: ls, by rw [h1, hcs]; rfl, ?_, by simp [h3], ?_⟩
      · intro x hx
        rcases List.mem_cons.1 hx with rfl | hx
        · exact ⟨hrows, hin⟩
        · exact h2 x hx
      · intro j x hx
        cases j with
        | zero =>
          simp only [List.getElem?_cons_zero, Option.some.injEq] at hx
          subst hx
          rcases hsl with h | ⟨el', sp', he1, he2⟩
          · exact .inl h
          · exact .inr ⟨el', sp', by rw [hd, List.getElem?_cons_zero, ← he1], he2⟩
        | succ j => exact h4 j x (by simpa using hx)
end Go.Proofs.Yteimilnigiagjaa
