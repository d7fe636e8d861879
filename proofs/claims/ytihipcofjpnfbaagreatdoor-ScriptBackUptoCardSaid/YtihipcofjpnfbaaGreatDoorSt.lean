/- Steps: their forms, and their fields as words. -/
import Derived.Test.YtihipcofjpnfbaaGreatDoorTx
import Derived.Test.YtihipcofjpnfbaaGreatDoorTreesB
set_option linter.unusedVariables false
set_option linter.unusedSimpArgs false
set_option maxRecDepth 100000
set_option maxHeartbeats 8000000
namespace Go.Proofs.YtihipcofjpnfbaaGreatDoor
open Go hiding Expr
open Go.RowKit Tr

structure ST where
  kind : Int
  at_ : Int
  client : Int
  tx : TX
  keys : List K
  frm : Int
  dst : Int
  place : Int
  wth : Int
  keep : Int
  count : Int
deriving DecidableEq
structure SV27 where
  v : TV
  o : Option Addr
  c : Nat
def stv (x : ST) (v : SV27) : List Value := [.int .i64 x.kind, .int .i64 x.at_, .int .i64 x.client, .int .i64 x.tx.s, .int .i64 x.tx.q, .slice v.v.oc x.tx.code.length v.v.cc, .slice v.v.oa x.tx.args.length v.v.ca, .slice v.v.od x.tx.rd.length v.v.cd, .slice v.v.ow x.tx.wr.length v.v.cw,
  .slice v.o x.keys.length v.c, .int .i64 x.frm, .int .i64 x.dst, .int .i64 x.place, .int .u8 x.wth, .int .i64 x.keep, .int .i64 x.count]
structure StAt (w : World) (x : ST) (v : SV27) : Prop where
  tx : TxAt w x.tx v.v
  keys : KeysAt w v.o x.keys
theorem stFr {w w' : World} {x : ST} {v : SV27} (h : StAt w x v) (hf : Fr [] w w') : StAt w' x v := ⟨txFr h.tx hf, h.keys.fr hf⟩
structure StOk (x : ST) : Prop where
  kind : In64 x.kind
  at_ : In64 x.at_
  client : In64 x.client
  tx : TxOk x.tx
  keys : ∀ k ∈ x.keys, InK k
  szk : x.keys.length ≤ 1048576
  frm : In64 x.frm
  dst : In64 x.dst
  place : In64 x.place
  wth : IsByte x.wth
  keep : In64 x.keep
  count : In64 x.count

/-! ### The forms of all kinds -/
def forms : List (List UInt8 × List Int) :=
  [([], []), ([116, 105, 99, 107], [0]), ([115, 117, 98, 109, 105, 116], [1, 0, 2]), ([114, 101, 116, 114, 121], [1]), ([113, 117, 101, 114, 121], [1, 0, 3]), ([119, 111, 114, 107], [0, 8]), ([100, 114, 97, 105, 110], [0]), ([100, 101, 108, 105, 118, 101, 114], [4]), ([100, 114, 111, 112], [4]),
   ([100, 111, 117, 98, 108, 101], [4]), ([115, 112, 111, 105, 108], [4, 5, 6]), ([99, 114, 97, 115, 104], [0]), ([102, 117, 115, 101], [0, 8, 7]), ([114, 101, 115, 116, 97, 114, 116], [0]), ([97, 108, 108], []), ([97, 114, 114, 105, 118, 101], []), ([100, 101, 97, 102], [1]), ([104, 101, 97, 114], [1]),
   ([116, 117, 114, 110], [4]), ([99, 117, 116], [4]), ([106, 111, 105, 110], [4])]
def formsV (fs : List (Option Addr)) : List Value := (List.zipWith (fun (p : List UInt8 × List Int) (o : Option Addr) => [Value.string (S p.1), .slice o p.2.length p.2.length]) forms fs).flatten
theorem formsV_at {fs : List (Option Addr)} (hl : fs.length = 21) {k : Nat} (hk : k < 21) : ∃ p o, forms[k]? = some p ∧ fs[k]? = some o ∧ (formsV fs).extract (k * 2) (k * 2 + 2) = [.string (S p.1), .slice o p.2.length p.2.length] := by
  have h1 : forms.length = 21 := rfl
  refine ⟨forms[k], fs[k], List.getElem?_eq_getElem (by omega), List.getElem?_eq_getElem (by omega), ?_⟩
  have hr : ∀ r ∈ List.zipWith (fun (p : List UInt8 × List Int) (o : Option Addr) => [Value.string (S p.1), .slice o p.2.length p.2.length]) forms fs, r.length = 2 := by
    intro r hr
    obtain ⟨i, hi, he⟩ := List.mem_iff_getElem.1 hr
    rw [List.getElem_zipWith] at he
    rw [← he]
    rfl
  have hg : (List.zipWith (fun (p : List UInt8 × List Int) (o : Option Addr) => [Value.string (S p.1), .slice o p.2.length p.2.length]) forms fs)[k]? = some [.string (S (forms[k]).1), .slice fs[k] (forms[k]).2.length (forms[k]).2.length] := by
    rw [List.getElem?_eq_getElem (by simp; omega), List.getElem_zipWith]
    rfl
  refine List.ext_getElem? fun i => ?_
  rw [List.extract_eq_take_drop, List.getElem?_take, List.getElem?_drop]
  by_cases hi : i < 2
  · rw [if_pos (by omega)]
    have hv : [Value.string (S (forms[k]).1), .slice fs[k] (forms[k]).2.length (forms[k]).2.length][i]? = some [Value.string (S (forms[k]).1), .slice fs[k] (forms[k]).2.length (forms[k]).2.length][i] := List.getElem?_eq_getElem (by simpa using hi)
    have := flat_get hr hg hv
    rw [hv]
    exact this
  · rw [if_neg (by omega), List.getElem?_eq_none (by simp; omega)]

theorem forms_c {w : World} : Calls Tryz.prog 37 #[] w fun e w' =>
    ∃ (fs : List (Option Addr)) (c : Hp), fs.length = 21 ∧ e = .returned (.agg ⟨formsV fs⟩) ∧ Has w w' c ∧ (∃ o1 o2 o3 o4 o5 o6 o7 o8 o9 o10 o11 o12 o13 o16 o17 o18 o19 o20 : Nat, fs = [none, some ⟨o1, 0, none⟩, some ⟨o2, 0, none⟩, some ⟨o3, 0, none⟩, some ⟨o4, 0, none⟩, some ⟨o5, 0, none⟩, some ⟨o6, 0, none⟩, some ⟨o7, 0, none⟩, some ⟨o8, 0, none⟩, some ⟨o9, 0, none⟩, some ⟨o10, 0, none⟩, some ⟨o11, 0, none⟩, some ⟨o12, 0, none⟩, some ⟨o13, 0, none⟩, none, none, some ⟨o16, 0, none⟩, some ⟨o17, 0, none⟩, some ⟨o18, 0, none⟩, some ⟨o19, 0, none⟩, some ⟨o20, 0, none⟩]) ∧
      ∀ w0 W m, Has w0 W (c ++ m) → ∀ (i : Nat) p o, forms[i]? = some p → fs[i]? = some o → ArgsAt W o p.2 := by
  apply c37
  refine h_new (Has.init w) fun n0 u H => h_new H fun n1 u H => h_new H fun n2 u H => h_new H fun n3 u H => h_new H fun n4 u H => h_new H fun n5 u H => h_new H fun n6 u H => h_new H fun n7 u H => h_new H fun n8 u H => h_new H fun n9 u H => h_new H fun n10 u H => h_new H fun n11 u H => h_new H fun n12 u H => h_new H fun n13 u H => h_new H fun n14 u H => h_new H fun n15 u H => h_new H fun n16 u H => h_new H fun n17 u H => h_new H fun n18 u H => ?_
  iterate 42 (refine h_st H (by repeat (first | exact pick_head | apply pick_tail | apply pick_app)) (by first | (simp; done) | exact Nat.le_of_ble_eq_true rfl) rfl fun u H => ?_; simp only [List.set_cons_zero, List.set_cons_succ] at H)
  iterate 21 refine h_ldT H (by repeat (first | exact pick_head | apply pick_tail | apply pick_app)) rfl (h_ldS H (by repeat (first | exact pick_head | apply pick_tail | apply pick_app)) rfl ?_)
  refine s_ret ⟨[none, some ⟨n1, 0, none⟩, some ⟨n2, 0, none⟩, some ⟨n3, 0, none⟩, some ⟨n4, 0, none⟩, some ⟨n5, 0, none⟩, some ⟨n6, 0, none⟩, some ⟨n7, 0, none⟩, some ⟨n8, 0, none⟩, some ⟨n9, 0, none⟩, some ⟨n10, 0, none⟩, some ⟨n11, 0, none⟩, some ⟨n12, 0, none⟩, some ⟨n13, 0, none⟩, none, none, some ⟨n14, 0, none⟩, some ⟨n15, 0, none⟩, some ⟨n16, 0, none⟩, some ⟨n17, 0, none⟩, some ⟨n18, 0, none⟩],
    [cl n1 3 (ints [0]), cl n2 3 (ints [1, 0, 2]), cl n3 3 (ints [1]), cl n4 3 (ints [1, 0, 3]), cl n5 3 (ints [0, 8]), cl n6 3 (ints [0]), cl n7 3 (ints [4]), cl n8 3 (ints [4]), cl n9 3 (ints [4]), cl n10 3 (ints [4, 5, 6]), cl n11 3 (ints [0]), cl n12 3 (ints [0, 8, 7]), cl n13 3 (ints [0]), cl n14 3 (ints [1]), cl n15 3 (ints [1]), cl n16 3 (ints [4]), cl n17 3 (ints [4]), cl n18 3 (ints [4])],
    rfl, rfl, H.sub (by repeat (first | exact sb_refl | exact sb_nil | refine sb_cons (by repeat (first | exact pick_head | apply pick_tail | apply pick_app)) ?_ | refine sb_app (by repeat (first | exact cut_head | exact cut_all | apply cut_tail | apply cut_app)) ?_ | exact sb_one (by repeat (first | exact cut_head | exact cut_all | apply cut_tail | apply cut_app)))), ⟨n1, n2, n3, n4, n5, n6, n7, n8, n9, n10, n11, n12, n13, n14, n15, n16, n17, n18, rfl⟩, ?_⟩
  clear H
  intro w0 W m H i p o h1 h2
  have hi : i < 21 := (List.getElem?_eq_some_iff.1 h1).1
  have key : ∀ (b : Nat) (l : List Int), Cells W b 3 (ints l) → ArgsAt W (some ⟨b, 0, none⟩) l := fun b l h => rowsAt_cells (ty := 3) (sp := []) (ir1 l) (by rw [List.append_nil]; exact h)
  match i, hi, h1, h2 with
  | 0, _, h1, h2 => cases h1; cases h2; exact .inl rfl
  | 1, _, h1, h2 => cases h1; cases h2; exact key _ _ (H.cells (by repeat (first | exact pick_head | apply pick_tail | apply pick_app)))
  | 2, _, h1, h2 => cases h1; cases h2; exact key _ _ (H.cells (by repeat (first | exact pick_head | apply pick_tail | apply pick_app)))
  | 3, _, h1, h2 => cases h1; cases h2; exact key _ _ (H.cells (by repeat (first | exact pick_head | apply pick_tail | apply pick_app)))
  | 4, _, h1, h2 => cases h1; cases h2; exact key _ _ (H.cells (by repeat (first | exact pick_head | apply pick_tail | apply pick_app)))
  | 5, _, h1, h2 => cases h1; cases h2; exact key _ _ (H.cells (by repeat (first | exact pick_head | apply pick_tail | apply pick_app)))
  | 6, _, h1, h2 => cases h1; cases h2; exact key _ _ (H.cells (by repeat (first | exact pick_head | apply pick_tail | apply pick_app)))
  | 7, _, h1, h2 => cases h1; cases h2; exact key _ _ (H.cells (by repeat (first | exact pick_head | apply pick_tail | apply pick_app)))
  | 8, _, h1, h2 => cases h1; cases h2; exact key _ _ (H.cells (by repeat (first | exact pick_head | apply pick_tail | apply pick_app)))
  | 9, _, h1, h2 => cases h1; cases h2; exact key _ _ (H.cells (by repeat (first | exact pick_head | apply pick_tail | apply pick_app)))
  | 10, _, h1, h2 => cases h1; cases h2; exact key _ _ (H.cells (by repeat (first | exact pick_head | apply pick_tail | apply pick_app)))
  | 11, _, h1, h2 => cases h1; cases h2; exact key _ _ (H.cells (by repeat (first | exact pick_head | apply pick_tail | apply pick_app)))
  | 12, _, h1, h2 => cases h1; cases h2; exact key _ _ (H.cells (by repeat (first | exact pick_head | apply pick_tail | apply pick_app)))
  | 13, _, h1, h2 => cases h1; cases h2; exact key _ _ (H.cells (by repeat (first | exact pick_head | apply pick_tail | apply pick_app)))
  | 14, _, h1, h2 => cases h1; cases h2; exact .inl rfl
  | 15, _, h1, h2 => cases h1; cases h2; exact .inl rfl
  | 16, _, h1, h2 => cases h1; cases h2; exact key _ _ (H.cells (by repeat (first | exact pick_head | apply pick_tail | apply pick_app)))
  | 17, _, h1, h2 => cases h1; cases h2; exact key _ _ (H.cells (by repeat (first | exact pick_head | apply pick_tail | apply pick_app)))
  | 18, _, h1, h2 => cases h1; cases h2; exact key _ _ (H.cells (by repeat (first | exact pick_head | apply pick_tail | apply pick_app)))
  | 19, _, h1, h2 => cases h1; cases h2; exact key _ _ (H.cells (by repeat (first | exact pick_head | apply pick_tail | apply pick_app)))
  | 20, _, h1, h2 => cases h1; cases h2; exact key _ _ (H.cells (by repeat (first | exact pick_head | apply pick_tail | apply pick_app)))
  | k + 21, hi, _, _ => omega
end Go.Proofs.YtihipcofjpnfbaaGreatDoor
