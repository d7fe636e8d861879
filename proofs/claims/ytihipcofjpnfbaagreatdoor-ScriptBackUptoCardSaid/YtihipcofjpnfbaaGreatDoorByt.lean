/- Lists of bytes in memory. -/
import Derived.Test.YtihipcofjpnfbaaGreatDoorInts
import Derived.Test.YtihipcofjpnfbaaGreatDoorWrite
import Derived.Laws.BytesArg
set_option linter.unusedVariables false
set_option linter.unusedSimpArgs false
namespace Go.Proofs.YtihipcofjpnfbaaGreatDoor
open Go hiding Expr
open Go.RowKit Tr

def br (x : Int) : List Value := [.int .u8 x]
def byts (l : List Int) : List Value := (l.map br).flatten
theorem br1 (l : List Int) : ∀ r ∈ l.map br, r.length = 1 := by
  intro r hr
  obtain ⟨x, _, rfl⟩ := List.mem_map.1 hr
  rfl
theorem br_one (l : List Int) : ∀ r ∈ l.map br, ∀ u ∈ r, u.oneCell' = true := by
  intro r hr u hu
  obtain ⟨x, _, rfl⟩ := List.mem_map.1 hr
  simp [br] at hu
  subst hu
  rfl
theorem byts_eq (l : List Int) : byts l = l.map (.int .u8) := by
  unfold byts
  induction l with
  | nil => rfl
  | cons a l ih => rw [List.map_cons, List.flatten_cons, ih]; rfl
theorem byts_len (l : List Int) : (byts l).length = l.length := by rw [byts_eq, List.length_map]
theorem byts_append (a b : List Int) : byts (a ++ b) = byts a ++ byts b := by simp [byts]
theorem byts_one (l : List Int) : ∀ u ∈ byts l, u.oneCell' = true := by
  intro u hu
  rw [byts_eq] at hu
  obtain ⟨x, _, rfl⟩ := List.mem_map.1 hu
  rfl
def BytAt (w : World) (o : Option Addr) (l : List Int) : Prop := RowsAt w o 1 (l.map br)

section
variable {w w' w0 : World} {o : Option Addr} {l : List Int} {m m' c : Hp} {n cap : Nat}
theorem BytAt.fr0 (h : BytAt w o l) (hf : Fr [] w w') : BytAt w' o l := RowsAt.fr h hf
theorem BytAt.get (h : BytAt w o l) {i : Nat} {x : Int} (hi : l[i]? = some x) : ∃ g off, o = some ⟨g, off, none⟩ ∧ w.cell? ⟨g, off + i * 1, none⟩ = some (.int .u8 x) := by
  obtain ⟨g, off, rfl, _, hc⟩ := RowsAt.at h (j := i) (r := br x) (by simp [hi])
  exact ⟨g, off, rfl, hc 0 _ rfl⟩
theorem bytAt_own {e : TypeId} (ho : OwnC e 1 (.slice o n cap) n (byts l) c) (H : Has w0 w m) (hp : Cut c m m') : BytAt w o l := rowsAt_own (br1 l) (by decide) ho H hp
theorem bytAt_nil : BytAt w o [] := .inl rfl

/-- A part of a list, from k on. -/
theorem RowsAt.sub {sz k : Nat} {rows : List (List Value)} (h : RowsAt w o sz rows) (hl : rows.length ≤ cap) : RowsAt w (sliceBase o k cap sz) sz (rows.drop k) := by
  unfold sliceBase
  split
  · left
    exact List.drop_eq_nil_of_le (by omega)
  · rcases h with rfl | ⟨g, off, rfl, hg, h⟩
    · left; simp
    · refine .inr ⟨g, off + k * sz, ?_, hg, fun j r hr i v hv => ?_⟩
      · simp [Option.map, Addr.add]
      · rw [List.getElem?_drop] at hr
        have := h (k + j) r hr i v hv
        rw [show off + k * sz + j * sz + i = off + (k + j) * sz + i by rw [Nat.add_mul]; omega]
        exact this
theorem RowsAt.take {sz k : Nat} {rows : List (List Value)} (h : RowsAt w o sz rows) : RowsAt w o sz (rows.take k) := by
  rcases h with rfl | ⟨g, off, rfl, hg, h⟩
  · left; simp
  · refine .inr ⟨g, off, rfl, hg, fun j r hr i v hv => h j r ?_ i v hv⟩
    rw [List.getElem?_take] at hr
    split at hr
    · exact hr
    · cases hr
theorem BytAt.sub {k : Nat} (h : BytAt w o l) (hl : l.length ≤ cap) : BytAt w (sliceBase o k cap 1) (l.drop k) := by
  have := RowsAt.sub (k := k) h (cap := cap) (by simpa using hl)
  rwa [← List.map_drop] at this
theorem BytAt.take {k : Nat} (h : BytAt w o l) : BytAt w o (l.take k) := by
  have := RowsAt.take (k := k) h
  rwa [← List.map_take] at this

theorem s_str {P : Program} {Q : Ending → World → Prop} {ρ : Lv} {src dst e : TypeId} {k : Value → T} (hs : P.underlying src = some (.slice e)) (he : P.underlying e = some (.int .u8)) (hd : P.underlying dst = some .string)
    (h : BytAt w o l) (hn : n = l.length) (hk : (k (.string (strOfNums l))).sem P Q ρ w) : (T.run (convert src dst (.slice o n cap)) k).sem P Q ρ w := by
  subst hn
  cases o with
  | none =>
    have h0 : l = [] := by
      have := RowsAt.none h
      simpa using this
    subst h0
    exact ⟨_, w, run_convert_bytes_nil w src e hs he 0 cap dst hd, hk⟩
  | some a =>
    rcases h with h | ⟨g, off, he', hg, hc⟩
    · have h0 : l = [] := by simpa using h
      subst h0
      refine ⟨_, w, ?_, hk⟩
      have : (loadCells a 0).run P w = .ok #[] w := by
        have := run_loadCells_list (P := P) w a [] (by simp)
        simpa using this
      exact (run_convert_bytes_string w src dst e (some a) 0 cap hs he hd).trans ((run_bytesToString w a 0 cap [] (by simpa using this)).trans rfl)
    · simp only [Option.some.injEq] at he'
      subst he'
      refine ⟨_, w, run_convert_bytes_arg w src e hs he g off l.length cap l rfl (fun i hi => ?_) dst hd, hk⟩
      have := hc i (br (l.getD i 0)) (by simp [List.getD, List.getElem?_eq_getElem hi]) 0 _ rfl
      rw [Nat.mul_one, Nat.add_zero] at this
      exact this
end
end Go.Proofs.YtihipcofjpnfbaaGreatDoor
