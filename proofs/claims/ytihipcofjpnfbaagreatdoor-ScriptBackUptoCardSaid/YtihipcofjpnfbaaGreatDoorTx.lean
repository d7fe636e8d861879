/- Transactions as words, by the program and by the reference. -/
import Derived.Test.YtihipcofjpnfbaaGreatDoorKT
set_option linter.unusedVariables false
set_option linter.unusedSimpArgs false
set_option maxRecDepth 100000
set_option maxHeartbeats 4000000
namespace Go.Proofs.YtihipcofjpnfbaaGreatDoor
open Go hiding Expr
open Go.RowKit Tr

structure TX where
  s : Int
  q : Int
  code : List Int
  args : List Int
  rd : List K
  wr : List K
deriving DecidableEq
/-- Where a transaction's lists lie. -/
structure TV where
  oc : Option Addr
  cc : Nat
  oa : Option Addr
  ca : Nat
  od : Option Addr
  cd : Nat
  ow : Option Addr
  cw : Nat
def txv (x : TX) (v : TV) : List Value := [.int .i64 x.s, .int .i64 x.q, .slice v.oc x.code.length v.cc, .slice v.oa x.args.length v.ca, .slice v.od x.rd.length v.cd, .slice v.ow x.wr.length v.cw]
def ArgsAt (w : World) (o : Option Addr) (l : List Int) : Prop := RowsAt w o 1 (l.map ir)
theorem argsGet {w : World} {o : Option Addr} {l : List Int} (h : ArgsAt w o l) {i : Nat} {x : Int} (hi : l[i]? = some x) : ∃ g off, o = some ⟨g, off, none⟩ ∧ w.cell? ⟨g, off + i * 1, none⟩ = some (.int .i64 x) := by
  obtain ⟨g, off, rfl, _, hc⟩ := RowsAt.at h (j := i) (r := ir x) (by simp [hi])
  exact ⟨g, off, rfl, hc 0 _ rfl⟩
structure TxAt (w : World) (x : TX) (v : TV) : Prop where
  code : BytAt w v.oc x.code
  args : ArgsAt w v.oa x.args
  rd : KeysAt w v.od x.rd
  wr : KeysAt w v.ow x.wr
theorem txFr {w w' : World} {x : TX} {v : TV} (h : TxAt w x v) (hf : Fr [] w w') : TxAt w' x v := ⟨h.code.fr hf, h.args.fr hf, h.rd.fr hf, h.wr.fr hf⟩
structure TxOk (x : TX) : Prop where
  s : In64 x.s
  q : In64 x.q
  code : ∀ c ∈ x.code, IsByte c
  args : ∀ c ∈ x.args, In64 c
  rd : ∀ k ∈ x.rd, InK k
  wr : ∀ k ∈ x.wr, InK k
  szc : x.code.length ≤ 1048576
  sza : x.args.length ≤ 1048576
  szr : x.rd.length ≤ 1048576
  szw : x.wr.length ≤ 1048576

def wCode : List UInt8 := [99, 111, 100, 101]
def wArgs : List UInt8 := [97, 114, 103, 115]
def wReads : List UInt8 := [114, 101, 97, 100, 115]
def wWrites : List UInt8 := [119, 114, 105, 116, 101, 115]
def txnA (x : TX) (i : Nat) : List (List UInt8) := [wCode, hexL x.code, wArgs, dI x.args.length] ++ (x.args.take i).map dI
def txnW (x : TX) : List (List UInt8) := txnA x x.args.length ++ [wReads, keysL x.rd, wWrites, keysL x.wr]
def txnL (x : TX) : List UInt8 := joinL (txnW x)
/-- A transaction's words, or what is wrong. -/
def resT (x : TX) : List UInt8 × Int := if x.s ≠ 0 ∨ x.q ≠ 0 then ([], 1) else (txnL x, 0)

theorem args_le {x : TX} (h : TxOk x) (i : Nat) : ∀ y ∈ (x.args.take i).map dI, y.length ≤ 21 := by
  intro y hy
  obtain ⟨a, ha, rfl⟩ := List.mem_map.1 hy
  exact dI_len (h.args a (List.mem_of_mem_take ha))
theorem txnA_jt (x : TX) (i : Nat) : joinL (txnA x i) = wCode ++ (32 :: hexL x.code) ++ (32 :: wArgs) ++ (32 :: dI x.args.length) ++ jt ((x.args.take i).map dI) := by
  unfold txnA
  rw [List.cons_append, joinL_jt]
  simp [jt]
theorem txnA_len {x : TX} (h : TxOk x) (i : Nat) : (joinL (txnA x i)).length ≤ 26000000 := by
  have h1 := jt_len (args_le h i)
  have h2 := hexL_len x.code
  have h3 := dI_len (nat64 (n := x.args.length) (by have := h.sza; omega))
  have h4 := h.szc
  have h5 := h.sza
  rw [List.length_map, List.length_take] at h1
  rw [txnA_jt]
  simp only [List.length_append, List.length_cons, wCode, wArgs, List.length_nil]
  omega
theorem txnL_jt (x : TX) : txnL x = joinL (txnA x x.args.length) ++ (32 :: wReads) ++ (32 :: keysL x.rd) ++ (32 :: wWrites) ++ (32 :: keysL x.wr) := by
  unfold txnL txnW
  rw [joinL_append (by simp [txnA]) (by simp), joinL_jt]
  simp [jt]
theorem txnL_len {x : TX} (h : TxOk x) : (txnL x).length ≤ 134217728 := by
  have h1 := txnA_len h x.args.length
  have h2 := keysL_len h.rd h.szr
  have h3 := keysL_len h.wr h.szw
  rw [txnL_jt]
  simp only [List.length_append, List.length_cons, wReads, wWrites, List.length_nil]
  omega
theorem ownCap {e : TypeId} {sz n cap : Nat} {o : Option Addr} {xs : List Value} {c : Hp} (ho : OwnC e sz (.slice o n cap) n xs c) : n ≤ cap := by
  rcases ho.2 with ⟨he, h0, _⟩ | ⟨_, _, _, he, _, h1, _⟩
  · omega
  · simp only [Value.slice.injEq] at he; omega

section
variable {w : World} {x : TX} {v : TV}
theorem txn_c (hT : Tab w) (h : TxAt w x v) (hx : TxOk x) : Calls Tryz.prog 80 #[.agg ⟨txv x v⟩] w fun e w' => e = .returned (.tuple #[.string (S (resT x).1), .int .i64 (resT x).2]) ∧ Fr [] w w' := by
  have hml : (2097153 : Nat) ≤ maxLen := by decide
  have sz1 := hx.szc
  have sz2 := hx.sza
  have sz3 := hx.szr
  have sz4 := hx.szw
  apply c80
  refine h_new (Has.init w) fun n14 u H => ?_
  refine s_blk (fun vs W => vs = [] ∧ x.s = 0 ∧ x.q = 0 ∧ Has w W [cl n14 52 (txv x v)]) ?_ ?_
  · clear H
    rintro _ j W ⟨rfl, hs, hq, H⟩
    refine h_drew H fun u H => h_ldS H (by repeat (first | exact pick_head | apply pick_tail | apply pick_app)) rfl (h_ldS H (by repeat (first | exact pick_head | apply pick_tail | apply pick_app)) rfl ?_)
    refine s_call (hex_c (h.code.fr H.base) rfl hx.code hx.szc) ?_
    rintro _ u ⟨rfl, f⟩
    have H := H.fr0 f
    refine ⟨_, rfl, s_asT (s_chk (hc_cons H (by repeat (first | exact pick_head | apply pick_tail | apply pick_app)) rfl c_nil) ?_)⟩
    refine s_call (numI_c (hT.fr H.base) (nat64 (by omega))) ?_
    rintro _ u ⟨rfl, f⟩
    have H := H.fr0 f
    refine ⟨_, rfl, s_asT (s_chk (hc_cons H (by repeat (first | exact pick_head | apply pick_tail | apply pick_app)) rfl c_nil) ?_)⟩
    (refine h_new H fun n27 u H => ?_)
    refine s_chk (hc_cons H (by repeat (first | exact pick_head | apply pick_tail | apply pick_app)) rfl c_nil) (h_ldS H (by repeat (first | exact pick_head | apply pick_tail | apply pick_app)) rfl ?_)
    refine s_loop (fun vs W => ∃ (i : Nat) (v1 : Value) (c : Hp), vs = [v1, .int .i64 i] ∧ i ≤ x.args.length ∧ OwnC 9 1 v1 (4 + i) (strs (txnA x i)) c ∧ Has w W (c ++ [cl n14 52 (txv x v)])) (fun vs _ => x.args.length - (intOf (vs.getD 1 undef)).toNat)
      ⟨0, _, _, rfl, by omega, ownStrs n27 (txnA x 0) 4 rfl (by simp [txnA]; omega), H.sub (by repeat (first | exact sb_refl | exact sb_nil | refine sb_cons (by repeat (first | exact pick_head | apply pick_tail | apply pick_app)) ?_ | refine sb_app (by repeat (first | exact cut_head | exact cut_all | apply cut_tail | apply cut_app)) ?_ | exact sb_one (by repeat (first | exact cut_head | exact cut_all | apply cut_tail | apply cut_app))))⟩ ?_
    clear H f
    rintro _ j W ⟨i, v1, c, rfl, hi, ho, H⟩
    obtain ⟨ov, cv, rfl⟩ := ho.slice
    refine s_asS (s_asI (s_ite (fun g1 => ?_) (fun g1 => ?_)))
    · simp only [decide_eq_true_eq] at g1
      have hlt : i < x.args.length := by omega
      obtain ⟨a, ha⟩ : ∃ c, x.args[i]? = some c := ⟨_, List.getElem?_eq_getElem hlt⟩
      have hak := hx.args a (List.mem_of_getElem? ha)
      obtain ⟨g2, off, he, p1⟩ := argsGet (h.args.fr H.base) ha
      refine s_req ⟨by omega, by omega⟩ ⟨g2, off, he, s_loadI p1 ?_⟩
      refine s_call (num64_c (hT.fr H.base) hak) ?_
      rintro _ u ⟨rfl, f⟩
      have H := H.fr0 f
      refine ⟨_, rfl, s_asT ?_⟩
      (refine h_new H fun n42 u H => ?_)
      refine h_app1 elemS H (by repeat (first | exact cut_head | exact cut_all | apply cut_tail | apply cut_app)) ho (by repeat (first | exact pick_head | apply pick_tail | apply pick_app)) rfl (by intro u hu; simp at hu; subst hu; rfl) (by omega) (by omega) ?_
      intro v' c' u ho' H
      obtain ⟨o', cap', rfl⟩ := ho'.slice
      refine s_asS (s_next (by first | exact ⟨rfl, rfl⟩ | trivial) ?_)
      simp (config := { decide := true }) only [if_true, if_false]
      refine ⟨⟨i + 1, _, c', by rw [w_succ (by omega)], by omega, ?_, H.sub (by repeat (first | exact sb_refl | exact sb_nil | refine sb_cons (by repeat (first | exact pick_head | apply pick_tail | apply pick_app)) ?_ | refine sb_app (by repeat (first | exact cut_head | exact cut_all | apply cut_tail | apply cut_app)) ?_ | exact sb_one (by repeat (first | exact cut_head | exact cut_all | apply cut_tail | apply cut_app))))⟩, by rw [w_succ (by omega)]; simp [intOf] <;> omega⟩
      have : txnA x (i + 1) = txnA x i ++ [dI a] := by unfold txnA; rw [List.take_add_one, ha]; simp
      rw [this, strs_append]
      exact ho'
    · simp only [decide_eq_false_iff_not] at g1
      obtain rfl : i = x.args.length := by omega
      refine h_drew H fun u H => h_ldS H (by repeat (first | exact pick_head | apply pick_tail | apply pick_app)) rfl (h_ldS H (by repeat (first | exact pick_head | apply pick_tail | apply pick_app)) rfl ?_)
      refine s_call (keys_c (hT.fr H.base) (h.rd.fr H.base) rfl hx.rd hx.szr) ?_
      rintro _ u ⟨rfl, f⟩
      have H := H.fr0 f
      refine ⟨_, rfl, s_asT (s_chk (hc_cons H (b := n14) (by repeat (first | exact pick_head | apply pick_tail | apply pick_app)) rfl c_nil) ?_)⟩
      refine s_call (keys_c (hT.fr H.base) (h.wr.fr H.base) rfl hx.wr hx.szw) ?_
      rintro _ u ⟨rfl, f⟩
      have H := H.fr0 f
      refine ⟨_, rfl, s_asT (s_chk c_nil ?_)⟩
      (refine h_new H fun n57 u H => ?_)
      refine s_chk c_nil ?_
      have hrd : Reads u ⟨n57, 0, none⟩ (strs [wReads, keysL x.rd, wWrites, keysL x.wr]) := (H.cells (by repeat (first | exact pick_head | apply pick_tail | apply pick_app))).reads
      refine h_app (j := 4) (news := strs [wReads, keysL x.rd, wWrites, keysL x.wr]) elemS H (by repeat (first | exact cut_head | exact cut_all | apply cut_tail | apply cut_app)) ho rfl hrd (by intro u hu; simp [strs, sr] at hu; rcases hu with rfl | rfl | rfl | rfl <;> rfl) (by omega) (by omega) ?_
      intro v' c' u ho' H _
      obtain ⟨o', cap', rfl⟩ := ho'.slice
      refine s_asS (s_chk c_nil ?_)
      rw [← strs_append] at ho'
      have hl : (txnW x).length = 4 + x.args.length + 4 := by simp [txnW, txnA]; omega
      refine s_call (join_c (l := txnW x) (strsAt_own ho' H (by repeat (first | exact cut_head | exact cut_all | apply cut_tail | apply cut_app))) hl.symm (ownCap ho') (by simp [txnW, txnA]) (by omega) (by have := txnL_len hx; exact Nat.le_trans this (by decide))) ?_
      rintro _ u ⟨rfl, f⟩
      refine ⟨_, rfl, s_asT (s_chk c_nil (s_ret ⟨?_, H.base.trans f⟩))⟩
      rw [resT, if_neg (by simp [hs, hq])]
      rfl
  · refine h_ldI H (by repeat (first | exact pick_head | apply pick_tail | apply pick_app)) rfl (s_ite (fun g => ?_) (fun g => ?_))
    · have hs : x.s ≠ 0 := by simpa using g
      exact s_ret ⟨by rw [resT, if_pos (.inl hs)], H.base⟩
    · have hs : x.s = 0 := by simpa using g
      refine h_ldI H (by repeat (first | exact pick_head | apply pick_tail | apply pick_app)) rfl (s_ite (fun g => ?_) (fun g => ?_))
      · have hq : x.q ≠ 0 := by simpa using g
        exact s_ret ⟨by rw [resT, if_pos (.inr hq)], H.base⟩
      · have hq : x.q = 0 := by simpa using g
        exact s_next ⟨rfl, rfl⟩ ⟨rfl, hs, hq, H⟩

theorem rtxn_c (hT : Tab w) (h : TxAt w x v) (hx : TxOk x) : Calls Tryz.prog 56 #[.agg ⟨txv x v⟩] w fun e w' => e = .returned (.tuple #[.string (S (resT x).1), .int .i64 (resT x).2]) ∧ Fr [] w w' := by
  have sz1 := hx.szc
  have sz2 := hx.sza
  have sz3 := hx.szr
  have sz4 := hx.szw
  have b1 := hexL_len x.code
  have b2 := dI_len (nat64 (n := x.args.length) (by omega))
  have b3 := keysL_len hx.rd hx.szr
  have b4 := keysL_len hx.wr hx.szw
  apply c56
  refine h_new (Has.init w) fun n14 u H => ?_
  refine s_blk (fun vs W => vs = [] ∧ x.s = 0 ∧ x.q = 0 ∧ Has w W [cl n14 52 (txv x v)]) ?_ ?_
  · clear H
    rintro _ j W ⟨rfl, hs, hq, H⟩
    refine h_drew H fun u H => h_ldS H (by repeat (first | exact pick_head | apply pick_tail | apply pick_app)) rfl (h_ldS H (by repeat (first | exact pick_head | apply pick_tail | apply pick_app)) rfl ?_)
    refine s_call (rhex_c (h.code.fr H.base) rfl hx.code hx.szc) ?_
    rintro _ u ⟨rfl, f⟩
    have H := H.fr0 f
    refine ⟨_, rfl, s_asT (s_chk (hc_cons H (by repeat (first | exact pick_head | apply pick_tail | apply pick_app)) rfl c_nil) ?_)⟩
    simp only [S_app, S_size, List.length_append, List.length_cons, List.length_nil, List.cons_append, List.nil_append]
    refine s_req (by omega) (s_req (by omega) ?_)
    refine s_call (itoa_c (hT.fr H.base) (nat64 (by omega))) ?_
    rintro _ u ⟨rfl, f⟩
    have H := H.fr0 f
    refine ⟨_, rfl, s_asT (s_chk (hc_cons H (by repeat (first | exact pick_head | apply pick_tail | apply pick_app)) rfl c_nil) ?_)⟩
    simp only [S_app, S_size, List.length_append, List.length_cons, List.length_nil, List.cons_append, List.nil_append]
    refine s_req (by omega) ?_
    refine s_loop (fun vs W => ∃ (i : Nat), vs = [.string (S (joinL (txnA x i))), .int .i64 i] ∧ i ≤ x.args.length ∧ Has w W [cl n14 52 (txv x v)]) (fun vs _ => x.args.length - (intOf (vs.getD 1 undef)).toNat)
      ⟨0, ?_, by omega, H⟩ ?_
    · rw [txnA_jt]
      simp [jt, wCode, wArgs]
    clear H f
    rintro _ j W ⟨i, rfl, hi, H⟩
    have b5 := txnA_len hx i
    refine s_asT (s_asI (h_ldS H (by repeat (first | exact pick_head | apply pick_tail | apply pick_app)) rfl (s_ite (fun g1 => ?_) (fun g1 => ?_))))
    · simp only [decide_eq_true_eq] at g1
      have hlt : i < x.args.length := by omega
      obtain ⟨a, ha⟩ : ∃ c, x.args[i]? = some c := ⟨_, List.getElem?_eq_getElem hlt⟩
      have hak := hx.args a (List.mem_of_getElem? ha)
      obtain ⟨g2, off, he, p1⟩ := argsGet (h.args.fr H.base) ha
      refine h_ldS H (by repeat (first | exact pick_head | apply pick_tail | apply pick_app)) rfl (s_req ⟨by omega, by omega⟩ ⟨g2, off, he, s_loadI p1 ?_⟩)
      refine s_call (rnum_c (hT.fr H.base) hak) ?_
      rintro _ u ⟨rfl, f⟩
      have H := H.fr0 f
      have b6 := dI_len hak
      refine ⟨_, rfl, s_asT ?_⟩
      simp only [S_app, S_size, List.length_append, List.length_cons, List.length_nil, List.cons_append, List.nil_append]
      refine s_req (by omega) (s_req (by omega) (s_next (by first | exact ⟨rfl, rfl⟩ | trivial) ?_))
      simp (config := { decide := true }) only [if_true, if_false]
      refine ⟨⟨i + 1, ?_, by omega, H⟩, by rw [w_succ (by omega)]; simp [intOf] <;> omega⟩
      have : txnA x (i + 1) = txnA x i ++ [dI a] := by unfold txnA; rw [List.take_add_one, ha]; simp
      rw [w_succ (by omega), this, joinL_append (by simp [txnA]) (by simp), joinL_one]
    · simp only [decide_eq_false_iff_not] at g1
      obtain rfl : i = x.args.length := by omega
      refine h_drew H fun u H => ?_
      simp only [S_app, S_size, List.length_append, List.length_cons, List.length_nil]
      refine s_req (by omega) (h_ldS H (by repeat (first | exact pick_head | apply pick_tail | apply pick_app)) rfl (h_ldS H (by repeat (first | exact pick_head | apply pick_tail | apply pick_app)) rfl ?_))
      refine s_call (rkeys_c (hT.fr H.base) (h.rd.fr H.base) rfl hx.rd hx.szr) ?_
      rintro _ u ⟨rfl, f⟩
      have H := H.fr0 f
      refine ⟨_, rfl, s_asT (s_chk (hc_cons H (by repeat (first | exact pick_head | apply pick_tail | apply pick_app)) rfl c_nil) ?_)⟩
      simp only [S_app, S_size, List.length_append, List.length_cons, List.length_nil]
      refine s_req (by omega) (s_req (by omega) ?_)
      refine s_call (rkeys_c (hT.fr H.base) (h.wr.fr H.base) rfl hx.wr hx.szw) ?_
      rintro _ u ⟨rfl, f⟩
      refine ⟨_, rfl, s_asT (s_chk c_nil ?_)⟩
      simp only [S_app, S_size, List.length_append, List.length_cons, List.length_nil]
      refine s_req (by omega) (s_ret ⟨?_, H.base.trans f⟩)
      rw [resT, if_neg (by simp [hs, hq]), txnL_jt]
      simp [wReads, wWrites]
  · refine h_ldI H (by repeat (first | exact pick_head | apply pick_tail | apply pick_app)) rfl (s_ite (fun g => ?_) (fun g => ?_))
    · have hs : x.s ≠ 0 := by simpa using g
      exact s_ret ⟨by rw [resT, if_pos (.inl hs)], H.base⟩
    · have hs : x.s = 0 := by simpa using g
      refine h_ldI H (by repeat (first | exact pick_head | apply pick_tail | apply pick_app)) rfl (s_ite (fun g => ?_) (fun g => ?_))
      · have hq : x.q ≠ 0 := by simpa using g
        exact s_ret ⟨by rw [resT, if_pos (.inr hq)], H.base⟩
      · have hq : x.q = 0 := by simpa using g
        exact s_next ⟨rfl, rfl⟩ ⟨rfl, hs, hq, H⟩
end
end Go.Proofs.YtihipcofjpnfbaaGreatDoor
