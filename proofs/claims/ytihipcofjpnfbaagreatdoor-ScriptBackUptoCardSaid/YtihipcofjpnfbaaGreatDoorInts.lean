/- Lists of numbers in memory. -/
import Derived.Test.YtihipcofjpnfbaaGreatDoorParts
import Derived.Test.YtihipcofjpnfbaaGreatDoorRanges
set_option linter.unusedVariables false
set_option linter.unusedSimpArgs false
namespace Go.Proofs.YtihipcofjpnfbaaGreatDoor
open Go hiding Expr
open Go.RowKit Tr

def ir (x : Int) : List Value := [.int .i64 x]
def ints (l : List Int) : List Value := (l.map ir).flatten
theorem ir1 (l : List Int) : ∀ r ∈ l.map ir, r.length = 1 := by
  intro r hr
  obtain ⟨x, _, rfl⟩ := List.mem_map.1 hr
  rfl
theorem ir_one (l : List Int) : ∀ r ∈ l.map ir, ∀ u ∈ r, u.oneCell' = true := by
  intro r hr u hu
  obtain ⟨x, _, rfl⟩ := List.mem_map.1 hr
  simp [ir] at hu
  subst hu
  rfl
theorem ints_eq (l : List Int) : ints l = l.map (.int .i64) := by
  unfold ints
  induction l with
  | nil => rfl
  | cons a l ih => rw [List.map_cons, List.flatten_cons, ih]; rfl
theorem ints_len (l : List Int) : (ints l).length = l.length := by rw [ints_eq, List.length_map]
theorem ints_append (a b : List Int) : ints (a ++ b) = ints a ++ ints b := by simp [ints]
theorem ints_get {l : List Int} {i : Nat} {x : Int} (h : l[i]? = some x) : (ints l)[i]? = some (.int .i64 x) := by rw [ints_eq, List.getElem?_map, h]; rfl
theorem ints_one (l : List Int) : ∀ u ∈ ints l, u.oneCell' = true := by
  intro u hu
  rw [ints_eq] at hu
  obtain ⟨x, _, rfl⟩ := List.mem_map.1 hu
  rfl
def ValsAt (w : World) (o : Option Addr) (l : List Int) : Prop := RowsAt w o 1 (l.map ir)

section
variable {w w' w0 : World} {o : Option Addr} {l : List Int} {m m' c : Hp} {n cap : Nat}
theorem ValsAt.fr0 (h : ValsAt w o l) (hf : Fr [] w w') : ValsAt w' o l := RowsAt.fr h hf
theorem ValsAt.get (h : ValsAt w o l) {i : Nat} {x : Int} (hi : l[i]? = some x) : ∃ g off, o = some ⟨g, off, none⟩ ∧ w.cell? ⟨g, off + i * 1, none⟩ = some (.int .i64 x) := by
  obtain ⟨g, off, rfl, _, hc⟩ := RowsAt.at h (j := i) (r := ir x) (by simp [hi])
  exact ⟨g, off, rfl, hc 0 _ rfl⟩
theorem valsAt_own {e : TypeId} (ho : OwnC e 1 (.slice o n cap) n (ints l) c) (H : Has w0 w m) (hp : Cut c m m') : ValsAt w o l := rowsAt_own (ir1 l) (by decide) ho H hp
theorem valsAt_nil : ValsAt w o [] := .inl rfl
end
end Go.Proofs.YtihipcofjpnfbaaGreatDoor
