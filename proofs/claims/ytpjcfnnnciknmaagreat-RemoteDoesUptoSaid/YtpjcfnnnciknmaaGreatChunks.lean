/- Chunks of blocks in a list. -/
import Derived.Test.YtpjcfnnnciknmaaGreatSep
namespace Go.Proofs.YtpjcfnnnciknmaaGreat
open Go hiding Expr
open Go.RowKit Tr

theorem cut_flat {cs : List Hp} {p : Nat} {c : Hp} (h : cs[p]? = some c) : Cut c cs.flatten (cs.set p []).flatten := by
  induction cs generalizing p with
  | nil => simp at h
  | cons a r ih =>
    cases p with
    | zero =>
      simp only [List.getElem?_cons_zero, Option.some.injEq] at h
      subst h
      simp only [List.set_cons_zero, List.flatten_cons, List.nil_append]
      exact cut_head
    | succ p =>
      simp only [List.set_cons_succ, List.flatten_cons]
      exact cut_app (ih (by simpa using h))
theorem flat_put {cs : List Hp} {p : Nat} (hp : p < cs.length) (c : Hp) : (c ++ (cs.set p []).flatten).Perm (cs.set p c).flatten := by
  have h1 : (cs.set p c)[p]? = some c := by simp [hp]
  have := cut_flat h1
  rw [List.set_set] at this
  exact this.symm

end Go.Proofs.YtpjcfnnnciknmaaGreat
