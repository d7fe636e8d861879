/- Answers that the document fixes; the laws' walks: ScriptPrints. -/
import Derived.Test.YtihipcofjpnfbaaGreatDoorRPrint
set_option linter.unusedVariables false
set_option linter.unusedSimpArgs false
set_option maxRecDepth 100000
set_option maxHeartbeats 8000000
namespace Go.Proofs.YtihipcofjpnfbaaGreatDoor
open Go hiding Expr
open Go.RowKit Tr

theorem d0 : dI 0 = [48] := by simp [Lib.itoa, Lib.decDigits]
theorem d1 : dI 1 = [49] := by simp [Lib.itoa, Lib.decDigits]
theorem d2 : dI 2 = [50] := by simp [Lib.itoa, Lib.decDigits]
theorem d5 : dI 5 = [53] := by simp [Lib.itoa, Lib.decDigits]
theorem d9 : dI 9 = [57] := by simp [Lib.itoa, Lib.decDigits]
theorem dMax : dU 18446744073709551615 = [49, 56, 52, 52, 54, 55, 52, 52, 48, 55, 51, 55, 48, 57, 53, 53, 49, 54, 49, 53] := by simp [Lib.decDigits]
def xAll : ST := ⟨14, 0, 0, TX.none, [], 0, 0, 0, 0, 0, 0⟩
def xQuery : ST := ⟨4, 0, 1, TX.none, [⟨0, 5⟩], 0, 0, 0, 0, 0, 0⟩
theorem sAll : stepR xAll = ([97, 108, 108], 0) := by
  rw [stepR, if_neg (by decide)]
  show runF xAll [] [[97, 108, 108]] = _
  rw [runF, if_pos (by decide), joinL_one]
theorem sQuery : stepR xQuery = ([113, 117, 101, 114, 121, 32, 49, 32, 48, 32, 49, 32, 48, 32, 53], 0) := by
  rw [stepR, if_neg (by decide)]
  show runF xQuery [1, 0, 3] [[113, 117, 101, 114, 121]] = _
  have h1 : fieldR xQuery 1 = (dI 1, 0) := rfl
  have h2 : fieldR (zf xQuery 1) 0 = (dI 0, 0) := rfl
  have h3 : fieldR (zf (zf xQuery 1) 0) 3 = (keysL [⟨0, 5⟩], 0) := rfl
  have hk : keysL [⟨0, 5⟩] = [49, 32, 48, 32, 53] := by
    show dI 1 ++ jt [dI 0, dI 5] = _
    rw [d0, d1, d5]
    rfl
  rw [runF, h1, if_neg (by decide), runF, h2, if_neg (by decide), runF, h3, if_neg (by decide), runF, if_pos (by decide), hk, d0, d1]
  rfl
def cLive : CF := ⟨1, 2, 9, 0, 18446744073709551615⟩
theorem pLive : printR cLive [xAll, xQuery] = ([119, 111, 114, 108, 100, 32, 49, 32, 50, 32, 57, 32, 48, 32, 49, 56, 52, 52, 54, 55, 52, 52, 48, 55, 51, 55, 48, 57, 53, 53, 49, 54, 49, 53, 10, 97, 108, 108, 10, 113, 117, 101, 114, 121, 32, 49, 32, 48, 32, 49, 32, 48, 32, 53, 10], 0) := by
  have hw : worldL cLive = [119, 111, 114, 108, 100, 32, 49, 32, 50, 32, 57, 32, 48, 32, 49, 56, 52, 52, 54, 55, 52, 52, 48, 55, 51, 55, 48, 57, 53, 53, 49, 54, 49, 53] := by
    show joinL [[119, 111, 114, 108, 100], dI 1, dI 2, dI 9, dI 0, dU 18446744073709551615] = _
    rw [d0, d1, d2, d9, dMax]
    rfl
  rw [printR, if_neg (by decide), printF, sAll, if_neg (by decide), printF, sQuery, if_neg (by decide), printF, hw]
  rfl
theorem okAll : StOk xAll := by
  have z := zero64
  have zb : IsByte 0 := ⟨by decide, by decide⟩
  exact ⟨⟨by decide, by decide⟩, z, z, txNone, by simp [xAll], by simp [xAll], z, z, z, zb, z, z⟩
theorem okQuery : StOk xQuery := by
  have z := zero64
  have zb : IsByte 0 := ⟨by decide, by decide⟩
  exact ⟨⟨by decide, by decide⟩, z, ⟨by decide, by decide⟩, txNone, by intro k hk; simp [xQuery] at hk; subst hk; exact ⟨by decide, by decide, by decide, by decide⟩, by simp [xQuery], z, z, z, zb, z, z⟩
theorem live_c {w : World} (hT : Tab w) : Calls Tryz.prog 7 #[] w fun e w' => e = .returned (.bool true) ∧ Fr [] w w' := by
  apply c7
  refine h_new (Has.init w) fun n0 u H => h_new H fun n1 u H => ?_
  have hok : StepsOk [⟨xAll, ⟨TV.none, none, 0⟩⟩, ⟨xQuery, ⟨TV.none, some ⟨n0, 0, none⟩, 1⟩⟩] := by
    intro p hp
    simp at hp
    rcases hp with rfl | rfl
    · exact okAll
    · exact okQuery
  have hst : StepsAt u (some ⟨n1, 0, none⟩) [⟨xAll, ⟨TV.none, none, 0⟩⟩, ⟨xQuery, ⟨TV.none, some ⟨n0, 0, none⟩, 1⟩⟩] := by
    refine ⟨rowsAt_cells (ty := 56) (sp := []) (sxr16 _) (H.cells (by repeat (first | exact pick_head | apply pick_tail | apply pick_app))), ?_⟩
    have hnx : TxAt u TX.none TV.none := ⟨.inl rfl, .inl rfl, .inl rfl, .inl rfl⟩
    intro p hp
    simp at hp
    rcases hp with rfl | rfl
    · exact ⟨hnx, .inl rfl⟩
    · exact ⟨hnx, rowsAt_cells (ty := 63) (sp := []) (kr2 _) (H.cells (by repeat (first | exact pick_head | apply pick_tail | apply pick_app)))⟩
  refine s_call (print_c (c := cLive) (hT.fr H.base) ⟨by constructor <;> decide, by constructor <;> decide, by constructor <;> decide, by constructor <;> decide, by decide⟩ hst hok rfl (by simp)) ?_
  rintro _ u2 ⟨rfl, f⟩
  have H := H.fr0 f
  rw [show List.map (fun p : SX => p.x) [⟨xAll, ⟨TV.none, none, 0⟩⟩, ⟨xQuery, ⟨TV.none, some ⟨n0, 0, none⟩, 1⟩⟩] = [xAll, xQuery] from rfl, pLive]
  refine ⟨_, rfl, s_asU (s_req rfl (s_asT (s_asI (s_true rfl (s_true (beq_self_eq_true _) ?_)))))⟩
  (refine h_new H fun n6 u H => ?_)
  refine s_call (hex_c (l := [1, 255]) (rowsAt_cells (ty := 5) (sp := []) (br1 _) (H.cells (by repeat (first | exact pick_head | apply pick_tail | apply pick_app)))) rfl (by intro c hc; simp at hc; rcases hc with rfl | rfl <;> constructor <;> decide) (by simp)) ?_
  rintro _ u3 ⟨rfl, f3⟩
  refine ⟨_, rfl, s_asT (s_ret ⟨?_, H.base.trans f3⟩)⟩
  rw [show S (hexL [1, 255]) = S [48, 49, 102, 102] from rfl]
  rw [show ∀ (a : List UInt8), (a == a) = true from fun a => beq_self_eq_true a]

end Go.Proofs.YtihipcofjpnfbaaGreatDoor
