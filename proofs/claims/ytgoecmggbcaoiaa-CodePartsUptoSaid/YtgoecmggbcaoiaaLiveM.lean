/- Equal bytes, equal numbers, and the beginning of each statement. -/
import Derived.Test.YtgoecmggbcaoiaaReachM
set_option linter.unusedVariables false
set_option linter.unusedSimpArgs false
set_option maxRecDepth 100000
set_option maxHeartbeats 4000000
namespace Go.Proofs.Ytgoecmggbcaoiaa
open Go hiding Expr
open Go.RowKit Tr

section
variable {w w' w0 : World} {m m' c : Hp} {o o2 : Option Addr} {cap cap2 n n2 : Nat} {l : List Int}

theorem eqb_c (H : Has w0 w m) (h1 : BytAt w o l) (h2 : BytAt w o2 l) (hn : n = l.length) (hn2 : n2 = l.length) : Calls Try.prog 15 #[.slice o n cap, .slice o2 n2 cap2] w fun e w' => e = .returned (.bool true) ∧ Has w0 w' m := by
  apply c15
  refine s_str Try.underlying23 Try.underlying5 Try.underlying9 h1 hn (s_asT (s_str Try.underlying23 Try.underlying5 Try.underlying9 h2 hn2 (s_asT (s_ret ⟨?_, H⟩))))
  simp
theorem eqi_c (H : Has w0 w m) (h1 : ∀ u, Has w0 u m → ValsAt u o l) (h2 : ∀ u, Has w0 u m → ValsAt u o2 l) (hn : n = l.length) (hn2 : n2 = l.length) (hl : l.length < 9223372036854775807) :
    Calls Try.prog 31 #[.slice o n cap, .slice o2 n2 cap2] w fun e w' => e = .returned (.bool true) ∧ Has w0 w' m := by
  subst hn hn2
  apply c31
  refine s_false (by simp) (s_loop (fun vs W => ∃ i : Nat, vs = [.int .i64 i] ∧ i ≤ l.length ∧ Has w0 W m) (fun vs _ => l.length - (intOf (vs.getD 0 undef)).toNat) ⟨0, rfl, by omega, H⟩ ?_)
  rintro _ j W ⟨i, rfl, hi, H⟩
  refine s_asI (s_ite (fun g => ?_) (fun g => s_ret ⟨rfl, H⟩))
  simp only [decide_eq_true_eq] at g
  obtain ⟨x, hx⟩ : ∃ x, l[i]? = some x := ⟨_, List.getElem?_eq_getElem (by omega)⟩
  refine h_drew H fun u H => ?_
  obtain ⟨g1, f1, rfl, p0⟩ := (h1 u H).get hx
  obtain ⟨g2, f2, rfl, q0⟩ := (h2 u H).get hx
  refine s_req ⟨by omega, by omega⟩ (s_sm (s_loadI p0 (s_req ⟨by omega, by omega⟩ (s_sm (s_loadI q0 (s_false (by simp) (s_next ⟨rfl, rfl⟩ ?_)))))))
  simp only [if_true]
  rw [w_succ (by omega)]
  exact ⟨⟨i + 1, rfl, by omega, H⟩, by simp [intOf]; omega⟩

def liveI : List Ins := [⟨0, 1, 2, 0, -1⟩, ⟨0, 24, 2, 0, 0⟩, ⟨0, 0, 0, 0, 0⟩]
def liveB : List Int := [1, 2, 255, 255, 24, 2, 0]
def liveD : List Ins := [⟨0, 1, 2, 0, -1⟩, ⟨4, 24, 2, 0, 0⟩, ⟨6, 0, 0, 0, 0⟩]
theorem live_enc : encP liveI = (liveB, 0) := by decide
theorem live_dec : decP liveB = (liveD, 0) := by decide
theorem live_reach : IsReach liveB [0, 4, 6] := by
  unfold IsReach
  rw [live_dec, if_neg (by decide)]
  have h0 : Re liveD 0 := .zero (by decide)
  have h1 : Re liveD 1 := h0.next (x := ⟨0, 1, 2, 0, -1⟩) rfl rfl (by decide)
  have h2 : Re liveD 2 := h1.next (x := ⟨4, 24, 2, 0, 0⟩) rfl rfl (by decide)
  refine ⟨[true, true, true], rfl, fun i => ?_, rfl⟩
  constructor
  · intro h
    have hlt := (List.getElem?_eq_some_iff.1 h).1
    have h3 : i = 0 ∨ i = 1 ∨ i = 2 := by simp at hlt; omega
    rcases h3 with rfl | rfl | rfl
    · exact h0
    · exact h1
    · exact h2
  · intro h
    have hlt := h.lt
    have h3 : i = 0 ∨ i = 1 ∨ i = 2 := by simp [liveD] at hlt; omega
    rcases h3 with rfl | rfl | rfl <;> rfl
theorem liveB_u : ∀ x ∈ liveB, 0 ≤ x ∧ x ≤ 255 := by decide
theorem own_cap {e : TypeId} {xs : List Value} (ho : OwnC e 1 (.slice o n cap) n xs c) : n ≤ cap := by
  rcases ho.2 with ⟨hv, h0, _⟩ | ⟨g, cap', sp, hv, _, h1, _⟩
  · cases hv; omega
  · cases hv; exact h1
theorem own_cap' {e : TypeId} {sz : Nat} {xs : List Value} (ho : OwnC e sz (.slice o n cap) n xs c) : n ≤ cap := by
  rcases ho.2 with ⟨hv, h0, _⟩ | ⟨g, cap', sp, hv, _, h1, _⟩
  · cases hv; omega
  · cases hv; exact h1

theorem live_c (H : Has w0 w m) : Calls Try.prog 14 #[] w fun e w' => e = .returned (.bool true) ∧ Has w0 w' m := by
  apply c14
  (refine h_new H fun n0 u H => ?_)
  (refine s_call (enc_c (l := liveI) (n := 3) H (fun u hu => rowsAt_cells (sp := []) (ins5 liveI) (by rw [List.append_nil]; exact hu.cells (b := n0) (ty := 40) (l := encI liveI) (by repeat (first | exact pick_head | apply pick_tail | apply pick_app)))) rfl (by decide)) ?_; rintro _ u ⟨v, c, rfl, ho, H⟩; refine ⟨_, rfl, ?_⟩)
  rw [live_enc] at ho ⊢
  obtain ⟨ob, capb, rfl⟩ := ho.slice
  refine s_asU (s_req rfl (s_asS (s_asI ?_)))
  have hbA : ∀ (u : World), Has w0 u (c ++ (cl n0 40 (encI liveI) :: m)) → BytAt u ob liveB := fun u hu => bytAt_own ho hu (by repeat (first | exact cut_head | exact cut_all | apply cut_tail | apply cut_app))
  have H : Has w0 u (c ++ (cl n0 40 (encI liveI) :: m)) := H
  (refine s_call (dec_c (bs := liveB) H hbA liveB_u (own_cap ho) rfl (by decide)) ?_; rintro _ u ⟨v2, c2, rfl, ho2, H⟩; refine ⟨_, rfl, ?_⟩)
  rw [live_dec] at ho2 ⊢
  obtain ⟨od, capd, rfl⟩ := ho2.slice
  refine s_asU (s_req rfl (s_asS (s_asI (s_true rfl ?_))))
  (refine h_new H fun n13 u H => ?_)
  (refine s_call (eqb_c (l := liveB) (n := 7) (n2 := 7) H (bytAt_own ho H (by repeat (first | exact cut_head | exact cut_all | apply cut_tail | apply cut_app))) (rowsAt_cells (sp := []) (br1 liveB) (by rw [List.append_nil]; exact H.cells (b := n13) (ty := 5) (l := byts liveB) (by repeat (first | exact pick_head | apply pick_tail | apply pick_app)))) rfl rfl) ?_; rintro _ u ⟨rfl, H⟩; refine ⟨_, rfl, ?_⟩)
  refine s_asB (s_true rfl (s_true rfl (s_true (by decide) (s_req (by decide) ?_))))
  obtain ⟨gg, off, rfl, p0, _⟩ := (insAt_own ho2 H (by repeat (first | exact cut_head | exact cut_all | apply cut_tail | apply cut_app))).get (i := 1) (x := ⟨4, 24, 2, 0, 0⟩) rfl
  refine s_sm (s_loadI (by simpa using p0) (s_true (by decide) ?_))
  have hbA2 : ∀ (u : World), Has w0 u (cl n13 5 (byts liveB) :: (c2 ++ (c ++ (cl n0 40 (encI liveI) :: m)))) → BytAt u ob liveB := fun u hu => bytAt_own ho hu (by repeat (first | exact cut_head | exact cut_all | apply cut_tail | apply cut_app))
  have H : Has w0 u (cl n13 5 (byts liveB) :: (c2 ++ (c ++ (cl n0 40 (encI liveI) :: m)))) := H
  (refine s_call (reach_c (bs := liveB) H hbA2 liveB_u (own_cap ho) rfl (by decide)) ?_; rintro _ u ⟨v3, c3, out, rfl, hr, ho3, H⟩; refine ⟨_, rfl, ?_⟩)
  obtain rfl := hr.uniq live_reach
  obtain ⟨or, capr, rfl⟩ := ho3.slice
  refine s_asS ?_
  (refine h_new H fun n23 u H => ?_)
  (refine s_call (eqi_c (l := [0, 4, 6]) H (fun u hu => valsAt_own ho3 hu (by repeat (first | exact cut_head | exact cut_all | apply cut_tail | apply cut_app))) (fun u hu => rowsAt_cells (sp := []) (ir1 [0, 4, 6]) (by rw [List.append_nil]; exact hu.cells (b := n23) (ty := 3) (l := ints [0, 4, 6]) (by repeat (first | exact pick_head | apply pick_tail | apply pick_app)))) rfl rfl (by decide)) ?_; rintro _ u ⟨rfl, H⟩; refine ⟨_, rfl, ?_⟩)
  exact s_asB (s_ret ⟨rfl, H.sub (by repeat (first | exact sb_refl | exact sb_nil | refine sb_cons (by repeat (first | exact pick_head | apply pick_tail | apply pick_app)) ?_ | refine sb_app (by repeat (first | exact cut_head | exact cut_all | apply cut_tail | apply cut_app)) ?_ | exact sb_one (by repeat (first | exact cut_head | exact cut_all | apply cut_tail | apply cut_app))))⟩)
end
end Go.Proofs.Ytgoecmggbcaoiaa
