/- The law's walk: ScriptWords. -/
import Derived.Test.YtihipcofjpnfbaaDoorUnhW
import Derived.Test.YtihipcofjpnfbaaDoorLiveW
set_option linter.unusedVariables false
set_option linter.unusedSimpArgs false
set_option maxRecDepth 100000
set_option maxHeartbeats 8000000
namespace Go.Proofs.YtihipcofjpnfbaaDoor
open Go hiding Expr
open Go.RowKit Tr

theorem lawWords_c {w : World} {x : ST} {v : SV27} {o : Option Addr} {n cap : Nat} {l : List Int} {s : List UInt8} (hT : Tab w) (hE : ErrAt w) (hx : StAt w x v) (ox : StOk x) (hl : BytAt w o l) (hn : n = l.length) (hb : ∀ c ∈ l, IsByte c) (hsz : l.length ≤ 1048576) (hs : s.length ≤ 1048576) :
    Calls Tryd.prog 5 #[.agg ⟨stv x v⟩, .slice o n cap, .string (S s)] w fun e w' => e = .returned (.bool true) ∧ Fr [] w w' := by
  apply c5
  refine h_new (Has.init w) fun n30 u H => ?_
  simp only [stv] at H
  iterate 5 refine h_ldI H (b := n30) (by repeat (first | exact pick_head | apply pick_tail | apply pick_app)) rfl ?_
  iterate 5 refine h_ldS H (b := n30) (by repeat (first | exact pick_head | apply pick_tail | apply pick_app)) rfl ?_
  iterate 6 refine h_ldI H (b := n30) (by repeat (first | exact pick_head | apply pick_tail | apply pick_app)) rfl ?_
  refine s_call (step_c (x := x) (v := v) (hT.fr H.base) (stFr hx H.base) ox) ?_
  rintro _ u ⟨rfl, f⟩
  have H := H.fr0 f
  refine ⟨_, rfl, s_asU (s_req rfl (s_asT (s_asI ?_)))⟩
  iterate 5 refine h_ldI H (b := n30) (by repeat (first | exact pick_head | apply pick_tail | apply pick_app)) rfl ?_
  iterate 5 refine h_ldS H (b := n30) (by repeat (first | exact pick_head | apply pick_tail | apply pick_app)) rfl ?_
  iterate 6 refine h_ldI H (b := n30) (by repeat (first | exact pick_head | apply pick_tail | apply pick_app)) rfl ?_
  refine s_call (rstep_c (x := x) (v := v) (hT.fr H.base) (stFr hx H.base) ox) ?_
  rintro _ u ⟨rfl, f⟩
  have H := H.fr0 f
  refine ⟨_, rfl, s_asU (s_req rfl (s_asT (s_asI ?_)))⟩
  rw [← step_eq]
  iterate 2 refine h_ldI H (b := n30) (by repeat (first | exact pick_head | apply pick_tail | apply pick_app)) rfl ?_
  iterate 4 refine h_ldS H (b := n30) (by repeat (first | exact pick_head | apply pick_tail | apply pick_app)) rfl ?_
  refine s_call (txn_c (x := x.tx) (v := v.v) (hT.fr H.base) (txFr hx.tx H.base) ox.tx) ?_
  rintro _ u ⟨rfl, f⟩
  have H := H.fr0 f
  refine ⟨_, rfl, s_asU (s_req rfl (s_asT (s_asI ?_)))⟩
  iterate 2 refine h_ldI H (b := n30) (by repeat (first | exact pick_head | apply pick_tail | apply pick_app)) rfl ?_
  iterate 4 refine h_ldS H (b := n30) (by repeat (first | exact pick_head | apply pick_tail | apply pick_app)) rfl ?_
  refine s_call (rtxn_c (x := x.tx) (v := v.v) (hT.fr H.base) (txFr hx.tx H.base) ox.tx) ?_
  rintro _ u ⟨rfl, f⟩
  have H := H.fr0 f
  refine ⟨_, rfl, s_asU (s_req rfl (s_asT (s_asI ?_)))⟩
  refine s_call (unhex_c (errFr hE H.base) hs) ?_
  rintro e u ⟨⟨o1, n1, c1, rfl, h1, hb1⟩, f⟩
  have H := H.fr0 f
  have B1 := H.base
  refine ⟨_, rfl, s_asU (s_req rfl (s_asS (s_asB ?_)))⟩
  refine s_call (runhex_c hs) ?_
  rintro e u2 ⟨⟨o2, n2, c2, rfl, h2, hb2⟩, f2⟩
  have H := H.fr0 f2
  have hb1 := hb1.fr0 f2
  refine ⟨_, rfl, s_asU (s_req rfl (s_asS (s_asB (s_drew fun u3 _ f => ?_))))⟩
  have H := H.fr0 f
  have hb1 := hb1.fr0 f
  have hb2 := hb2.fr0 f
  refine s_call (live_c (hT.fr H.base)) ?_
  rintro _ u ⟨rfl, f⟩
  have H := H.fr0 f
  have hb1 := hb1.fr0 f
  have hb2 := hb2.fr0 f
  refine ⟨_, rfl, s_asB (s_chk c_nil (s_true rfl (s_true (beq_self_eq_true _) (s_true (beq_self_eq_true _) (s_true (beq_self_eq_true _) (s_true (beq_self_eq_true _) (h_ldS H (by repeat (first | exact pick_head | apply pick_tail | apply pick_app)) rfl (h_ldS H (by repeat (first | exact pick_head | apply pick_tail | apply pick_app)) rfl ?_))))))))⟩
  refine s_call (keys_c (hT.fr H.base) (hx.keys.fr H.base) rfl ox.keys ox.szk) ?_
  rintro _ u ⟨rfl, f⟩
  have H := H.fr0 f
  have hb1 := hb1.fr0 f
  have hb2 := hb2.fr0 f
  refine ⟨_, rfl, s_asT (s_chk (hc_cons H (by repeat (first | exact pick_head | apply pick_tail | apply pick_app)) rfl c_nil) (s_call (rkeys_c (hT.fr H.base) (hx.keys.fr H.base) rfl ox.keys ox.szk) ?_))⟩
  rintro _ u ⟨rfl, f⟩
  have H := H.fr0 f
  have hb1 := hb1.fr0 f
  have hb2 := hb2.fr0 f
  refine ⟨_, rfl, s_asT (s_chk c_nil (s_true (beq_self_eq_true _) (s_call (hex_c (hl.fr H.base) hn hb hsz) ?_)))⟩
  rintro _ u ⟨rfl, f⟩
  have H := H.fr0 f
  have hb1 := hb1.fr0 f
  have hb2 := hb2.fr0 f
  refine ⟨_, rfl, s_asT (s_chk c_nil (s_call (rhex_c (hl.fr H.base) hn hb hsz) ?_))⟩
  rintro _ u ⟨rfl, f⟩
  have H := H.fr0 f
  have hb1 := hb1.fr0 f
  have hb2 := hb2.fr0 f
  refine ⟨_, rfl, s_asT (s_chk c_nil (s_true (beq_self_eq_true _) (s_call (equal_c hb1 hb2 h1 h2) ?_)))⟩
  rintro _ u ⟨rfl, f⟩
  have H := H.fr0 f
  have hb1 := hb1.fr0 f
  have hb2 := hb2.fr0 f
  refine ⟨_, rfl, s_asB (s_chk c_nil (s_true rfl (s_ret ⟨?_, H.base⟩)))⟩
  rw [beq_self_eq_true]
end Go.Proofs.YtihipcofjpnfbaaDoor
