/- Any instructions' bytes: the walk. -/
import Derived.Test.YtgoecmggbcaoiaaArgs13
set_option linter.unusedVariables false
set_option linter.unusedSimpArgs false
set_option maxRecDepth 100000
set_option maxHeartbeats 4000000
namespace Go.Proofs.Ytgoecmggbcaoiaa
open Go hiding Expr
open Go.RowKit Tr

section
variable {w w' w0 : World} {o : Option Addr} {cap : Nat} {l : List Ins} {op : Int}
theorem writes_c (h : InsAt w o l) (hl : l.length * 40 ≤ 140737488355328) : Calls Try.prog 3 #[.slice o l.length cap, .int .i64 op] w fun e w' => e = .returned (.bool true) ∧ Fr [] w w' := by
  apply c3
  have H := Has.init w
  (refine s_call (enc_c (l := l) H (fun u hu => hu.rows h) rfl hl) ?_; rintro _ u ⟨v, c, rfl, ho, H⟩; refine ⟨_, rfl, ?_⟩)
  obtain ⟨oa, capa, rfl⟩ := ho.slice
  refine s_asU (s_req rfl (s_asS (s_asI ?_)))
  (refine s_call (renc_c (l := l) H (fun u hu => hu.rows h) rfl hl) ?_; rintro _ u ⟨v2, c2, rfl, ho2, H⟩; refine ⟨_, rfl, ?_⟩)
  obtain ⟨ob, capb, rfl⟩ := ho2.slice
  refine s_asU (s_req rfl (s_asS (s_asI ?_)))
  (refine s_call (size_c (op := op) H) ?_; rintro _ u ⟨rfl, H⟩; refine ⟨_, rfl, ?_⟩)
  refine s_asU (s_req rfl (s_asI (s_asB ?_)))
  (refine s_call (rsize_c (op := op) H) ?_; rintro _ u ⟨rfl, H⟩; refine ⟨_, rfl, ?_⟩)
  refine s_asI ?_
  (refine s_call (live_c H) ?_; rintro _ u ⟨rfl, H⟩; refine ⟨_, rfl, ?_⟩)
  refine s_asB (s_true rfl (s_true (by simp) ?_))
  (refine s_call (eqb_c H (bytAt_own ho H (by repeat (first | exact cut_head | exact cut_all | apply cut_tail | apply cut_app))) (bytAt_own ho2 H (by repeat (first | exact cut_head | exact cut_all | apply cut_tail | apply cut_app))) rfl rfl) ?_; rintro _ u ⟨rfl, H⟩; refine ⟨_, rfl, ?_⟩)
  refine s_asB (s_true rfl (s_true (by simp) (s_ret ⟨?_, H.base⟩)))
  have hs := szP_le op
  have : decide (0 ≤ op ∧ op < 28) = decide (szP op > 0) := by
    rw [Bool.eq_iff_iff]
    simp only [decide_eq_true_eq]
    rw [← szP_pos]
    omega
  rw [this]
  simp
end
end Go.Proofs.Ytgoecmggbcaoiaa
