/- append onto a part of a list of one's own that has room behind it. -/
import Derived.Test.YtdepohepogocgaaCopy
import Derived.ArgAppend
namespace Go.Proofs.Ytdepohepogocgaa.Tr
open Go
set_option linter.unusedSimpArgs false
set_option linter.unusedVariables false
open Go.RowKit

section
variable {P : Program} {Q : Ending → World → Prop} {ρ : Lv} {w0 w : World} {e t ty ty2 : TypeId} {z : Value} {sz bytes n cap q g j : Nat} {l : List Value} {m m' : Hp} {a : Addr} {news : List Value}
theorem h_appRoom {k : Value → T} (E : Elem P t e z sz bytes) (H : Has w0 w m) (hp : Pick (cl g ty l) m m') (hl : news.length = j * sz) (hnews : Reads w a news) (h1 : ∀ u ∈ news, u.oneCell' = true)
    (hroom : n + j ≤ cap) (hfit : n * sz + news.length ≤ l.length)
    (hk : ∀ w', Has w0 w' (cl g ty (setL l (n * sz) news) :: m') → (k (.slice (some ⟨g, 0, none⟩) (n + j) cap)).sem P Q ρ w') :
    (T.run (biV .append #[t, t] ty2 #[.slice (some ⟨g, 0, none⟩) n cap, .slice (some a) j q]) k).sem P Q ρ w := by
  have hinfo := E.info
  cases hi : P.info? e with
  | none => rw [hi] at hinfo; simp at hinfo
  | some i =>
    rw [hi] at hinfo
    simp only [Option.map_some, Option.some.injEq, Prod.mk.injEq] at hinfo
    obtain ⟨hz, hs, hb⟩ := hinfo
    have hc := H.cells hp
    have hr := run_append_room_cells (P := P) w t ty2 e i E.under hi g 0 n cap a j q news (by rw [hs]; exact hl) hnews h1 hroom
      (fun j hj => by rw [hs, Nat.zero_add, hc.cell (List.getElem?_eq_getElem (by omega))]; rfl) (fun j _ => hc.frozen _)
    rw [hs, Nat.zero_add] at hr
    obtain ⟨h2, h3, h4⟩ := Cells.setCells news l (n * sz) w hc
    exact ⟨_, _, hr, hk _ (H.updc hp h3 h2)⟩
end
end Go.Proofs.Ytdepohepogocgaa.Tr
