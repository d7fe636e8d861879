/- append of so many zeros (gc's append of a make). -/
import Derived.Test.YtpjcfnnnciknmaaGreatSep
import Derived.Lib.AppendZerosOnto
namespace Go.Proofs.YtpjcfnnnciknmaaGreat.Tr
open Go
set_option linter.unusedSimpArgs false
set_option linter.unusedVariables false
open Go.RowKit

section
variable {P : Program} {Q : Ending → World → Prop} {ρ : Lv} {w0 w w' : World} {e t tn : TypeId} {z : Value} {kn kq : IntKind} {sz bytes n N : Nat} {v : Value} {xs : List Value} {m m' c : Hp}

theorem Fr.alloc_drew (w : World) (o : Obj) : Fr [] w (w.drew.alloc o) := ⟨rfl, rfl, rfl, by simp, fun k hk _ => heap_alloc_old w.drew _ k hk⟩

/-- append of n zeros to nil. -/
theorem h_appNilZeros {ty : TypeId} {k : Value → T} (E : Elem P t e z sz bytes) (htn : P.underlying tn = some (.int kn)) (H : Has w0 w m) {j : Int} (hj : j = (n : Int)) (h0 : 0 < n) (hbytes : n * bytes ≤ 140737488355328) (hmax : n ≤ 140737488355328)
    (hk : ∀ r cap sp w', n ≤ cap → cap ≤ maxLen → sp.length = (cap - n) * sz → Has w0 w' (cl r e ((Builtin.zeroCells z.cells n).toList ++ sp) :: m) → (k (.slice (some ⟨r, 0, none⟩) n cap)).sem P Q ρ w') :
    (T.run (biV .append #[t, tn] ty #[.slice none 0 0, .int kq j]) k).sem P Q ρ w := by
  subst hj
  have hinfo := E.info
  cases hi : P.info? e with
  | none => rw [hi] at hinfo; simp at hinfo
  | some i =>
    rw [hi] at hinfo
    simp only [Option.map_some, Option.some.injEq, Prod.mk.injEq] at hinfo
    obtain ⟨hz, hs, hb⟩ := hinfo
    have hr := Go.Lib.run_append_nil_zeros (P := P) w t tn ty e i z kq kn E.under htn hi hz n h0 (by rw [hs]; exact E.pos) (by omega) (by rw [hb]; omega)
    have hc := heap_alloc_new w.drew (.cells (Builtin.zeroCells z.cells n ++ Builtin.zeroCells z.cells (grownCap w n 0 e - n)) e)
    refine ⟨_, _, hr, hk w.heap.size (grownCap w n 0 e) (Builtin.zeroCells z.cells (grownCap w n 0 e - n)).toList _ (grownCap_ge w n 0 e) (grownCap_le_maxLen w n 0 e (by simp only [maxLen]; omega)) ?_ ?_⟩
    · rw [Array.length_toList, size_zeroCells, E.zs]
    · rw [← Array.toList_append]
      exact H.addc (Fr.alloc_drew w _) (Nat.le_refl _) hc
end
end Go.Proofs.YtpjcfnnnciknmaaGreat.Tr
