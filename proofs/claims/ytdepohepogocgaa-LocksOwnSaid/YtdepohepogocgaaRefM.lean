/- The document's queues as blocks of one's own: New, Request. -/
import Derived.Test.YtdepohepogocgaaRefA
import Derived.Test.YtdepohepogocgaaLkC
set_option linter.unusedVariables false
set_option linter.unusedSimpArgs false
set_option maxRecDepth 100000
set_option maxHeartbeats 4000000
namespace Go.Proofs.Ytdepohepogocgaa
open Go hiding Expr
open Go.RowKit Tr

def OwnA (x : AW) (c : Hp) : Prop := OwnC 63 3 (.slice x.o x.w.length x.cap) x.w.length (x.w.map lr).flatten c
def ValsA (X : List AW) (cs : List Hp) : Prop := cs.length = X.length ∧ ∀ (i : Nat) (x : AW) (c : Hp), X[i]? = some x → cs[i]? = some c → OwnA x c
def RefAt (p : Nat) (X : List AW) (c : Hp) : Prop := ∃ (o : Option Addr) (cap : Nat) (cr : Hp) (cs : List Hp), c = cl p 98 [.slice o X.length cap] :: (cr ++ cs.flatten) ∧ OwnC 101 3 (.slice o X.length cap) X.length (X.map ar).flatten cr ∧ ValsA X cs
theorem RefAt.rv {w0 w : World} {m m' c : Hp} {p : Nat} {X : List AW} (H : Has w0 w m) (hp : Cut c m m') (h : RefAt p X c) : RV w p X := by
  obtain ⟨o, cap, cr, cs, rfl, ho, hv⟩ := h
  have H := H.pullc hp
  simp only [List.cons_append, List.append_assoc] at H
  refine ⟨o, cap, H.cells pick_head, rowsAt_own (ar3 X) (by decide) ho H (cut_tail cut_head), fun x hx => ?_⟩
  obtain ⟨i, hi⟩ := List.mem_iff_getElem?.1 hx
  have hlt := (List.getElem?_eq_some_iff.1 hi).1
  have hci : i < cs.length := by rw [hv.1]; exact hlt
  exact rowsAt_own (lr3 x.w) (by decide) (hv.2 i x _ hi (List.getElem?_eq_getElem hci)) H (cut_tail (cut_app (cut_app' (cut_flat (List.getElem?_eq_getElem hci)))))
theorem elemA : Elem Try.prog 96 101 (.agg ⟨[.int .i64 0, .int .i64 0, .slice none 0 0]⟩) 3 40 := ⟨by kernel_rfl, by kernel_rfl, rfl, by decide⟩
theorem ValsA.nil : ValsA [] [] := ⟨rfl, by simp⟩
theorem ValsA.snoc {X : List AW} {cs : List Hp} {x : AW} {c : Hp} (hv : ValsA X cs) (hx : OwnA x c) : ValsA (X ++ [x]) (cs ++ [c]) := by
  refine ⟨by simp [hv.1], fun i y d hy hd => ?_⟩
  rcases Nat.lt_or_ge i X.length with h | h
  · rw [List.getElem?_append_left h] at hy
    rw [List.getElem?_append_left (by rw [hv.1]; exact h)] at hd
    exact hv.2 i y d hy hd
  · rw [List.getElem?_append_right h] at hy
    rw [List.getElem?_append_right (by rw [hv.1]; exact h), hv.1] at hd
    cases hk : i - X.length with
    | zero =>
      rw [hk] at hy hd
      simp at hy hd
      subst hy hd
      exact hx
    | succ k => rw [hk] at hy; simp at hy
section
variable {w : World}
theorem rnew_c : Calls Try.prog 24 #[] w fun e w' => ∃ r c, e = .returned (.pointer (some ⟨r, 0, none⟩)) ∧ RefAt r [] c ∧ Has w w' c := by
  apply c24
  refine h_new (Has.init w) fun n0 u H => s_ret ⟨n0, _, rfl, ⟨none, 0, [], [], rfl, OwnC.nil, ValsA.nil⟩, H⟩
theorem less_c (a b : K) : Calls Try.prog 44 #[.agg ⟨kr a⟩, .agg ⟨kr b⟩] w fun e w' => e = .returned (.bool (ltK a b)) ∧ Fr [] w w' := by
  apply c44
  refine h_new (Has.init w) fun n4 u H => ?_
  (refine h_new H fun n5 u H => ?_)
  have key : ∀ b1 : Bool, (b1 = true ↔ (a.t < b.t ∨ (a.t = b.t ∧ a.r < b.r))) → b1 = ltK a b := fun b1 h => by rw [Bool.eq_iff_iff, h, ltK_iff]
  refine h_ldI H (by repeat (first | exact pick_head | apply pick_tail | apply pick_app)) rfl (h_ldI H (by repeat (first | exact pick_head | apply pick_tail | apply pick_app)) rfl (s_ite (fun g => s_ret ⟨?_, H.base⟩) (fun g => h_ldI H (by repeat (first | exact pick_head | apply pick_tail | apply pick_app)) rfl (h_ldI H (by repeat (first | exact pick_head | apply pick_tail | apply pick_app)) rfl (s_ite (fun g2 => h_ldI H (by repeat (first | exact pick_head | apply pick_tail | apply pick_app)) rfl (h_ldI H (by repeat (first | exact pick_head | apply pick_tail | apply pick_app)) rfl (s_ret ⟨?_, H.base⟩))) (fun g2 => s_ret ⟨?_, H.base⟩))))))
  · rw [key true (by simp at g; simp; omega)]
  · rw [key (decide (a.r < b.r)) (by simp at g g2; simp; omega)]
  · rw [key false (by simp at g g2; simp; omega)]
end
end Go.Proofs.Ytdepohepogocgaa
