/- The walk of MatchNone: a book that no call made is asked. -/
import Derived.Test.YtfgfabjbebdnjaaBegun
import Derived.Test.YtfgfabjbebdnjaaTreesD
set_option linter.unusedVariables false
set_option linter.unusedSimpArgs false
set_option maxRecDepth 100000

namespace Go.Proofs.Ytfgfabjbebdnjaa
open Go hiding Expr
open Go.RowKit Tr

/-- No book, or one with nothing in it. -/
def NoBook (w : World) (p : Option Addr) : Prop := p = none ∨ ∃ b l, p = some ⟨b, 0, none⟩ ∧ Cells w b 46 (.int .i64 0 :: l)

section
variable {w w' : World} {p : Option Addr} {F : List Nat}
theorem NoBook.fr (h : NoBook w p) (hf : Fr [] w w') : NoBook w' p := by
  rcases h with rfl | ⟨b, l, rfl, h⟩
  · exact .inl rfl
  · exact .inr ⟨b, l, rfl, hf.cells h (by simp)⟩
theorem none_n (h : NoBook w p) : Calls Try.prog 22 #[.pointer p] w fun e w' => e = .returned (.bool true) ∧ w = w' := by
  apply c22o
  rcases h with rfl | ⟨b, l, rfl, h⟩
  · exact s_true rfl (s_ret ⟨rfl, rfl⟩)
  · exact s_false rfl (s_sm (s_ldI h rfl (s_ret ⟨rfl, rfl⟩)))
theorem other_n (h : NoBook w p) (i : Int) : Calls Try.prog 20 #[.pointer p, .int .i64 i] w fun e w' => e = .returned (.tuple ⟨[.pointer none, .int .i64 2]⟩) ∧ w = w' := by
  apply c20o
  refine s_call (none_n h) ?_
  rintro _ _ ⟨rfl, rfl⟩
  exact ⟨_, rfl, s_asB (s_true rfl (s_ret ⟨rfl, rfl⟩))⟩
theorem of_n (h : NoBook w p) (i : Int) : Calls Try.prog 21 #[.pointer p, .int .i64 i] w fun e w' => e = .returned (.agg ⟨[.int .i64 0, .int .i64 0]⟩) ∧ Fr [] w w' := by
  apply c21o
  refine h_new (Has.init w) fun r u H => s_call (none_n (h.fr H.base)) ?_
  rintro _ _ ⟨rfl, rfl⟩
  refine ⟨_, rfl, s_asB (s_true rfl ?_)⟩
  (repeat (first | refine s_asI ?_ | refine s_asS ?_ | refine s_asP ?_ | refine s_asB ?_ | refine s_asA ?_ | refine s_asT ?_ | refine s_asM ?_ | refine s_asU ?_ | refine s_asC ?_ | refine s_sm ?_ | refine s_req (by first | rfl | exact ⟨rfl, rfl⟩) ?_ | refine h_ldI H (by repeat (first | exact pick_head | apply pick_tail | apply pick_app)) (by first | rfl | (simp; done)) ?_ | refine h_ldB H (by repeat (first | exact pick_head | apply pick_tail | apply pick_app)) (by first | rfl | (simp; done)) ?_ | refine h_ldP H (by repeat (first | exact pick_head | apply pick_tail | apply pick_app)) (by first | rfl | (simp; done)) ?_ | refine h_ldS H (by repeat (first | exact pick_head | apply pick_tail | apply pick_app)) (by first | rfl | (simp; done)) ?_ | refine h_ldM H (by repeat (first | exact pick_head | apply pick_tail | apply pick_app)) (by first | rfl | (simp; done)) ?_ | refine h_ldT H (by repeat (first | exact pick_head | apply pick_tail | apply pick_app)) (by first | rfl | (simp; done)) ?_ | refine h_ldV H (by repeat (first | exact pick_head | apply pick_tail | apply pick_app)) (by first | rfl | (simp; done)) ?_ | (refine h_new H fun _ u H => ?_) | (refine h_st H (by repeat (first | exact pick_head | apply pick_tail | apply pick_app)) (by simp) rfl fun u H => ?_) | (refine h_drew H fun u H => ?_) | refine s_chk c_nil ?_))
  exact s_ret ⟨rfl, H.base⟩
theorem told_n (h : NoBook w p) (i : Int) (yes : Bool) (slot : Int) : Calls Try.prog 9 #[.pointer p, .int .i64 i, .bool yes, .int .i64 slot] w fun e w' => e = .returned (.tuple ⟨[.bool false, .int .i64 2]⟩) ∧ w = w' := by
  apply c9o
  refine s_call (other_n h i) ?_
  rintro _ _ ⟨rfl, rfl⟩
  exact ⟨_, rfl, s_asU (s_req rfl (s_asP (s_asI (s_true rfl (s_ret ⟨rfl, rfl⟩)))))⟩
theorem grow_n (h : NoBook w p) (i : Int) : Calls Try.prog 13 #[.pointer p, .int .i64 i] w fun e w' => e = .returned (.int .i64 2) ∧ w = w' := by
  apply c13o
  refine s_call (none_n h) ?_
  rintro _ _ ⟨rfl, rfl⟩
  exact ⟨_, rfl, s_asB (s_true rfl (s_ret ⟨rfl, rfl⟩))⟩
theorem sent_n (h : NoBook w p) (i j : Int) : Calls Try.prog 14 #[.pointer p, .int .i64 i, .int .i64 j] w fun e w' => e = .returned (.int .i64 2) ∧ w = w' := by
  apply c14o
  refine s_call (other_n h i) ?_
  rintro _ _ ⟨rfl, rfl⟩
  exact ⟨_, rfl, s_asU (s_req rfl (s_asP (s_asI (s_true rfl (s_ret ⟨rfl, rfl⟩)))))⟩
theorem next_n (h : NoBook w p) (i : Int) : Calls Try.prog 15 #[.pointer p, .int .i64 i] w fun e w' => e = .returned (.int .i64 0) ∧ Fr [] w w' := by
  apply c15o
  refine s_call (of_n h i) ?_
  rintro _ _ ⟨rfl, f⟩
  exact ⟨_, rfl, s_asA (s_req rfl (s_asI (s_asI (s_ret ⟨rfl, f⟩))))⟩
theorem like_n (h : NoBook w p) (i : Int) : Calls Try.prog 10 #[.pointer p, .int .i64 i] w fun e w' => e = .returned (.int .i64 0) ∧ Fr [] w w' := by
  apply c10o
  refine s_call (of_n h i) ?_
  rintro _ _ ⟨rfl, f⟩
  exact ⟨_, rfl, s_asA (s_req rfl (s_asI (s_asI (s_ret ⟨rfl, f⟩))))⟩
theorem length_n (h : NoBook w p) : Calls Try.prog 12 #[.pointer p] w fun e w' => e = .returned (.int .i64 0) ∧ w = w' := by
  apply c12o
  refine s_call (none_n h) ?_
  rintro _ _ ⟨rfl, rfl⟩
  exact ⟨_, rfl, s_asB (s_true rfl (s_ret ⟨rfl, rfl⟩))⟩
theorem agreed_n (h : NoBook w p) : Calls Try.prog 11 #[.pointer p] w fun e w' => e = .returned (.int .i64 0) ∧ w = w' := by
  apply c11o
  refine s_call (none_n h) ?_
  rintro _ _ ⟨rfl, rfl⟩
  exact ⟨_, rfl, s_asB (s_true rfl (s_ret ⟨rfl, rfl⟩))⟩
theorem clone_n (h : NoBook w p) : Calls Try.prog 18 #[.pointer p] w fun e w' => e = .returned (.pointer none) ∧ w = w' := by
  apply c18o
  refine s_call (none_n h) ?_
  rintro _ _ ⟨rfl, rfl⟩
  exact ⟨_, rfl, s_asB (s_true rfl (s_ret ⟨rfl, rfl⟩))⟩
theorem lagging_n (h : NoBook w p) : Calls Try.prog 17 #[.pointer p] w fun e w' => ∃ r, e = .returned (.func (.func 25) #[] ⟨[.pointer (some ⟨r, 0, none⟩)]⟩) ∧ w.heap.size ≤ r ∧ Fr [] w w' ∧ Cells w' r 64 [.slice none 0 0] := by
  apply c17o
  refine h_new (Has.init w) fun n2 u H => ?_
  (refine h_new H fun n3 u H => ?_)
  (repeat (first | refine s_asI ?_ | refine s_asS ?_ | refine s_asP ?_ | refine s_asB ?_ | refine s_asA ?_ | refine s_asT ?_ | refine s_asM ?_ | refine s_asU ?_ | refine s_asC ?_ | refine s_sm ?_ | refine s_req (by first | rfl | exact ⟨rfl, rfl⟩) ?_ | refine h_ldI H (by repeat (first | exact pick_head | apply pick_tail | apply pick_app)) (by first | rfl | (simp; done)) ?_ | refine h_ldB H (by repeat (first | exact pick_head | apply pick_tail | apply pick_app)) (by first | rfl | (simp; done)) ?_ | refine h_ldP H (by repeat (first | exact pick_head | apply pick_tail | apply pick_app)) (by first | rfl | (simp; done)) ?_ | refine h_ldS H (by repeat (first | exact pick_head | apply pick_tail | apply pick_app)) (by first | rfl | (simp; done)) ?_ | refine h_ldM H (by repeat (first | exact pick_head | apply pick_tail | apply pick_app)) (by first | rfl | (simp; done)) ?_ | refine h_ldT H (by repeat (first | exact pick_head | apply pick_tail | apply pick_app)) (by first | rfl | (simp; done)) ?_ | refine h_ldV H (by repeat (first | exact pick_head | apply pick_tail | apply pick_app)) (by first | rfl | (simp; done)) ?_ | (refine h_st H (by repeat (first | exact pick_head | apply pick_tail | apply pick_app)) (by simp) rfl fun u H => ?_) | (refine h_drew H fun u H => ?_) | refine s_chk c_nil ?_))
  refine s_call (none_n (h.fr H.base)) ?_
  rintro _ _ ⟨rfl, rfl⟩
  refine ⟨_, rfl, s_asB (s_false rfl (s_ret ⟨n3, rfl, H.new (cl n3 64 [.slice none 0 0]) (by simp [cl]), H.base, H.cells (by repeat (first | exact pick_head | apply pick_tail | apply pick_app))⟩))⟩
/-- The sequence over nothing. -/
theorem seqNone_c {r : Nat} : Seq Try.prog 25 [.pointer (some ⟨r, 0, none⟩)] (fun W => Cells W r 64 [.slice none 0 0]) [] := by
  intro l w I S hh hK h0 hY
  apply c25
  refine s_ldS (hK 0 w h0) rfl ?_
  refine s_loop (fun vs W => vs = [.int .i64 0] ∧ I 0 W) (fun vs _ => 0) ⟨rfl, h0⟩ ?_
  rintro _ j W ⟨rfl, hI⟩
  exact s_asI (s_false rfl (s_ret ⟨⟨_, rfl⟩, .inl hI⟩))
theorem told16_n {r : Nat} (h : Cells w r 64 [.slice none 0 0]) : Calls Try.prog 16 #[.func (.func 25) #[] ⟨[.pointer (some ⟨r, 0, none⟩)]⟩, .slice none 0 0] w fun e w' => e = .returned (.bool true) ∧ Fr [] w w' := by
  apply c16
  refine h_new (Has.init w) fun n5 u H => ?_
  (refine h_new H fun n6 u H => ?_)
  (refine h_new H fun n7 u H => ?_)
  (repeat (first | refine s_asI ?_ | refine s_asS ?_ | refine s_asP ?_ | refine s_asB ?_ | refine s_asA ?_ | refine s_asT ?_ | refine s_asM ?_ | refine s_asU ?_ | refine s_asC ?_ | refine s_sm ?_ | refine s_req (by first | rfl | exact ⟨rfl, rfl⟩) ?_ | refine h_ldI H (by repeat (first | exact pick_head | apply pick_tail | apply pick_app)) (by first | rfl | (simp; done)) ?_ | refine h_ldB H (by repeat (first | exact pick_head | apply pick_tail | apply pick_app)) (by first | rfl | (simp; done)) ?_ | refine h_ldP H (by repeat (first | exact pick_head | apply pick_tail | apply pick_app)) (by first | rfl | (simp; done)) ?_ | refine h_ldS H (by repeat (first | exact pick_head | apply pick_tail | apply pick_app)) (by first | rfl | (simp; done)) ?_ | refine h_ldM H (by repeat (first | exact pick_head | apply pick_tail | apply pick_app)) (by first | rfl | (simp; done)) ?_ | refine h_ldT H (by repeat (first | exact pick_head | apply pick_tail | apply pick_app)) (by first | rfl | (simp; done)) ?_ | refine h_ldV H (by repeat (first | exact pick_head | apply pick_tail | apply pick_app)) (by first | rfl | (simp; done)) ?_ | (refine h_st H (by repeat (first | exact pick_head | apply pick_tail | apply pick_app)) (by simp) rfl fun u H => ?_) | (refine h_drew H fun u H => ?_) | refine s_chk c_nil ?_))
  refine h_rf seqNone_c H (fun i mi => i = 0 ∧ mi = cl n7 3 [.int .i64 0] :: cl n6 4 [.bool false] :: cl n5 64 [.slice none 0 0] :: []) (fun _ => False) ⟨rfl, rfl⟩ ?_ (fun _ h => h.elim) ?_ ?_ ?_ (fun _ _ _ h => h.elim)
  · rintro i mi ⟨rfl, rfl⟩
    exact fit_cl (fit_cl (fit_cl fit_nil))
  · rintro i mi W ⟨rfl, rfl⟩ H
    exact H.base.cells h (by simp)
  · rintro l rec d i W av mi hrs hrp hi
    simp at hi
  · rintro D W mi ⟨_, rfl⟩ H
    (repeat (first | refine s_asI ?_ | refine s_asS ?_ | refine s_asP ?_ | refine s_asB ?_ | refine s_asA ?_ | refine s_asT ?_ | refine s_asM ?_ | refine s_asU ?_ | refine s_asC ?_ | refine s_sm ?_ | refine s_req (by first | rfl | exact ⟨rfl, rfl⟩) ?_ | refine h_ldI H (by repeat (first | exact pick_head | apply pick_tail | apply pick_app)) (by first | rfl | (simp; done)) ?_ | refine h_ldB H (by repeat (first | exact pick_head | apply pick_tail | apply pick_app)) (by first | rfl | (simp; done)) ?_ | refine h_ldP H (by repeat (first | exact pick_head | apply pick_tail | apply pick_app)) (by first | rfl | (simp; done)) ?_ | refine h_ldS H (by repeat (first | exact pick_head | apply pick_tail | apply pick_app)) (by first | rfl | (simp; done)) ?_ | refine h_ldM H (by repeat (first | exact pick_head | apply pick_tail | apply pick_app)) (by first | rfl | (simp; done)) ?_ | refine h_ldT H (by repeat (first | exact pick_head | apply pick_tail | apply pick_app)) (by first | rfl | (simp; done)) ?_ | refine h_ldV H (by repeat (first | exact pick_head | apply pick_tail | apply pick_app)) (by first | rfl | (simp; done)) ?_ | (refine h_st H (by repeat (first | exact pick_head | apply pick_tail | apply pick_app)) (by simp) rfl fun u H => ?_) | (refine h_drew H fun u H => ?_) | refine s_chk c_nil ?_))
    refine h_col H (by repeat (first | exact pick_head | apply pick_tail | apply pick_app)) fun u H => ?_
    (repeat (first | refine s_asI ?_ | refine s_asS ?_ | refine s_asP ?_ | refine s_asB ?_ | refine s_asA ?_ | refine s_asT ?_ | refine s_asM ?_ | refine s_asU ?_ | refine s_asC ?_ | refine s_sm ?_ | refine s_req (by first | rfl | exact ⟨rfl, rfl⟩) ?_ | refine h_ldI H (by repeat (first | exact pick_head | apply pick_tail | apply pick_app)) (by first | rfl | (simp; done)) ?_ | refine h_ldB H (by repeat (first | exact pick_head | apply pick_tail | apply pick_app)) (by first | rfl | (simp; done)) ?_ | refine h_ldP H (by repeat (first | exact pick_head | apply pick_tail | apply pick_app)) (by first | rfl | (simp; done)) ?_ | refine h_ldS H (by repeat (first | exact pick_head | apply pick_tail | apply pick_app)) (by first | rfl | (simp; done)) ?_ | refine h_ldM H (by repeat (first | exact pick_head | apply pick_tail | apply pick_app)) (by first | rfl | (simp; done)) ?_ | refine h_ldT H (by repeat (first | exact pick_head | apply pick_tail | apply pick_app)) (by first | rfl | (simp; done)) ?_ | refine h_ldV H (by repeat (first | exact pick_head | apply pick_tail | apply pick_app)) (by first | rfl | (simp; done)) ?_ | (refine h_st H (by repeat (first | exact pick_head | apply pick_tail | apply pick_app)) (by simp) rfl fun u H => ?_) | (refine h_drew H fun u H => ?_) | refine s_chk c_nil ?_))
    exact s_ret ⟨by simp, H.base⟩
end

theorem noneW_c {w : World} (a b c : Int) : Calls Try.prog 6 #[.agg #[.int .i64 a, .int .i64 b, .int .i64 c]] w fun e w' => e = .returned (.bool true) ∧ Fr [] w w' := by
  apply c6
  refine h_new (Has.init w) fun n3 u H => s_call begun_c ?_
  rintro _ u ⟨rfl, f⟩
  have H := H.fr0 f
  refine ⟨_, rfl, s_asB (s_false rfl ?_)⟩
  (refine h_new H fun n6 u H => ?_)
  (refine h_new H fun n7 u H => ?_)
  refine s_loop (fun vs W => ∃ i : Nat, vs = [.int .i64 i] ∧ i ≤ 2 ∧ Has w W (cl n7 25 [.pointer none, .pointer (some ⟨n6, 0, none⟩)] :: cl n6 46 [.int .i64 0, .int .i64 0, .int .i64 0, .int .i64 0, .int .i64 0, .int .i64 0, .int .i64 0, .int .i64 0, .int .i64 0, .int .i64 0, .int .i64 0, .int .i64 0, .int .i64 0] :: cl n3 31 [.int .i64 a, .int .i64 b, .int .i64 c] :: []))
    (fun vs _ => 2 - (intOf (vs.getD 0 undef)).toNat) ⟨0, rfl, by omega, H⟩ ?_
  rintro _ j W ⟨i, rfl, hi, H⟩
  refine s_asI (s_ite (fun g => ?_) (fun g => s_ret ⟨rfl, H.base⟩))
  simp only [decide_eq_true_eq] at g
  have hw : IntKind.wrap .i64 ((i : Int) + 1) = ((i + 1 : Nat) : Int) := by
    obtain rfl | rfl : i = 0 ∨ i = 1 := by omega
    · rfl
    · rfl
  have hp : ∃ p, ([.pointer none, .pointer (some ⟨n6, 0, none⟩)] : List Value)[0 + (i : Int).toNat * 1]? = some (.pointer p) ∧ NoBook W p := by
    obtain rfl | rfl : i = 0 ∨ i = 1 := by omega
    · exact ⟨_, rfl, .inl rfl⟩
    · exact ⟨_, rfl, .inr ⟨n6, _, rfl, H.cells (by repeat (first | exact pick_head | apply pick_tail | apply pick_app))⟩⟩
  obtain ⟨p, hp, hno⟩ := hp
  refine s_req (by omega) (s_sm (h_ldP H (by repeat (first | exact pick_head | apply pick_tail | apply pick_app)) hp ?_))
  (repeat (first | refine s_asI ?_ | refine s_asS ?_ | refine s_asP ?_ | refine s_asB ?_ | refine s_asA ?_ | refine s_asT ?_ | refine s_asM ?_ | refine s_asU ?_ | refine s_asC ?_ | refine s_sm ?_ | refine s_req (by first | rfl | exact ⟨rfl, rfl⟩) ?_ | refine h_ldI H (by repeat (first | exact pick_head | apply pick_tail | apply pick_app)) (by first | rfl | (simp; done)) ?_ | refine h_ldB H (by repeat (first | exact pick_head | apply pick_tail | apply pick_app)) (by first | rfl | (simp; done)) ?_ | refine h_ldP H (by repeat (first | exact pick_head | apply pick_tail | apply pick_app)) (by first | rfl | (simp; done)) ?_ | refine h_ldS H (by repeat (first | exact pick_head | apply pick_tail | apply pick_app)) (by first | rfl | (simp; done)) ?_ | refine h_ldM H (by repeat (first | exact pick_head | apply pick_tail | apply pick_app)) (by first | rfl | (simp; done)) ?_ | refine h_ldT H (by repeat (first | exact pick_head | apply pick_tail | apply pick_app)) (by first | rfl | (simp; done)) ?_ | refine h_ldV H (by repeat (first | exact pick_head | apply pick_tail | apply pick_app)) (by first | rfl | (simp; done)) ?_ | (refine h_st H (by repeat (first | exact pick_head | apply pick_tail | apply pick_app)) (by simp) rfl fun u H => ?_) | (refine h_drew H fun u H => ?_) | refine s_chk c_nil ?_))
  refine s_call (told_n hno _ _ _) ?_
  rintro _ _ ⟨rfl, rfl⟩
  refine ⟨_, rfl, ?_⟩
  (repeat (first | refine s_asI ?_ | refine s_asS ?_ | refine s_asP ?_ | refine s_asB ?_ | refine s_asA ?_ | refine s_asT ?_ | refine s_asM ?_ | refine s_asU ?_ | refine s_asC ?_ | refine s_sm ?_ | refine s_req (by first | rfl | exact ⟨rfl, rfl⟩) ?_ | refine h_ldI H (by repeat (first | exact pick_head | apply pick_tail | apply pick_app)) (by first | rfl | (simp; done)) ?_ | refine h_ldB H (by repeat (first | exact pick_head | apply pick_tail | apply pick_app)) (by first | rfl | (simp; done)) ?_ | refine h_ldP H (by repeat (first | exact pick_head | apply pick_tail | apply pick_app)) (by first | rfl | (simp; done)) ?_ | refine h_ldS H (by repeat (first | exact pick_head | apply pick_tail | apply pick_app)) (by first | rfl | (simp; done)) ?_ | refine h_ldM H (by repeat (first | exact pick_head | apply pick_tail | apply pick_app)) (by first | rfl | (simp; done)) ?_ | refine h_ldT H (by repeat (first | exact pick_head | apply pick_tail | apply pick_app)) (by first | rfl | (simp; done)) ?_ | refine h_ldV H (by repeat (first | exact pick_head | apply pick_tail | apply pick_app)) (by first | rfl | (simp; done)) ?_ | (refine h_st H (by repeat (first | exact pick_head | apply pick_tail | apply pick_app)) (by simp) rfl fun u H => ?_) | (refine h_drew H fun u H => ?_) | refine s_chk c_nil ?_))
  refine s_call (grow_n hno _) ?_
  rintro _ _ ⟨rfl, rfl⟩
  refine ⟨_, rfl, s_asI (s_false rfl ?_)⟩
  (repeat (first | refine s_asI ?_ | refine s_asS ?_ | refine s_asP ?_ | refine s_asB ?_ | refine s_asA ?_ | refine s_asT ?_ | refine s_asM ?_ | refine s_asU ?_ | refine s_asC ?_ | refine s_sm ?_ | refine s_req (by first | rfl | exact ⟨rfl, rfl⟩) ?_ | refine h_ldI H (by repeat (first | exact pick_head | apply pick_tail | apply pick_app)) (by first | rfl | (simp; done)) ?_ | refine h_ldB H (by repeat (first | exact pick_head | apply pick_tail | apply pick_app)) (by first | rfl | (simp; done)) ?_ | refine h_ldP H (by repeat (first | exact pick_head | apply pick_tail | apply pick_app)) (by first | rfl | (simp; done)) ?_ | refine h_ldS H (by repeat (first | exact pick_head | apply pick_tail | apply pick_app)) (by first | rfl | (simp; done)) ?_ | refine h_ldM H (by repeat (first | exact pick_head | apply pick_tail | apply pick_app)) (by first | rfl | (simp; done)) ?_ | refine h_ldT H (by repeat (first | exact pick_head | apply pick_tail | apply pick_app)) (by first | rfl | (simp; done)) ?_ | refine h_ldV H (by repeat (first | exact pick_head | apply pick_tail | apply pick_app)) (by first | rfl | (simp; done)) ?_ | (refine h_st H (by repeat (first | exact pick_head | apply pick_tail | apply pick_app)) (by simp) rfl fun u H => ?_) | (refine h_drew H fun u H => ?_) | refine s_chk c_nil ?_))
  refine s_call (sent_n hno _ _) ?_
  rintro _ _ ⟨rfl, rfl⟩
  refine ⟨_, rfl, s_asI (s_false rfl (s_false rfl (s_false rfl ?_)))⟩
  (repeat (first | refine s_asI ?_ | refine s_asS ?_ | refine s_asP ?_ | refine s_asB ?_ | refine s_asA ?_ | refine s_asT ?_ | refine s_asM ?_ | refine s_asU ?_ | refine s_asC ?_ | refine s_sm ?_ | refine s_req (by first | rfl | exact ⟨rfl, rfl⟩) ?_ | refine h_ldI H (by repeat (first | exact pick_head | apply pick_tail | apply pick_app)) (by first | rfl | (simp; done)) ?_ | refine h_ldB H (by repeat (first | exact pick_head | apply pick_tail | apply pick_app)) (by first | rfl | (simp; done)) ?_ | refine h_ldP H (by repeat (first | exact pick_head | apply pick_tail | apply pick_app)) (by first | rfl | (simp; done)) ?_ | refine h_ldS H (by repeat (first | exact pick_head | apply pick_tail | apply pick_app)) (by first | rfl | (simp; done)) ?_ | refine h_ldM H (by repeat (first | exact pick_head | apply pick_tail | apply pick_app)) (by first | rfl | (simp; done)) ?_ | refine h_ldT H (by repeat (first | exact pick_head | apply pick_tail | apply pick_app)) (by first | rfl | (simp; done)) ?_ | refine h_ldV H (by repeat (first | exact pick_head | apply pick_tail | apply pick_app)) (by first | rfl | (simp; done)) ?_ | (refine h_st H (by repeat (first | exact pick_head | apply pick_tail | apply pick_app)) (by simp) rfl fun u H => ?_) | (refine h_drew H fun u H => ?_) | refine s_chk c_nil ?_))
  refine s_call (next_n hno _) ?_
  rintro _ u ⟨rfl, f⟩
  have H := H.fr0 f
  have hno := hno.fr f
  refine ⟨_, rfl, s_asI (s_false rfl ?_)⟩
  (repeat (first | refine s_asI ?_ | refine s_asS ?_ | refine s_asP ?_ | refine s_asB ?_ | refine s_asA ?_ | refine s_asT ?_ | refine s_asM ?_ | refine s_asU ?_ | refine s_asC ?_ | refine s_sm ?_ | refine s_req (by first | rfl | exact ⟨rfl, rfl⟩) ?_ | refine h_ldI H (by repeat (first | exact pick_head | apply pick_tail | apply pick_app)) (by first | rfl | (simp; done)) ?_ | refine h_ldB H (by repeat (first | exact pick_head | apply pick_tail | apply pick_app)) (by first | rfl | (simp; done)) ?_ | refine h_ldP H (by repeat (first | exact pick_head | apply pick_tail | apply pick_app)) (by first | rfl | (simp; done)) ?_ | refine h_ldS H (by repeat (first | exact pick_head | apply pick_tail | apply pick_app)) (by first | rfl | (simp; done)) ?_ | refine h_ldM H (by repeat (first | exact pick_head | apply pick_tail | apply pick_app)) (by first | rfl | (simp; done)) ?_ | refine h_ldT H (by repeat (first | exact pick_head | apply pick_tail | apply pick_app)) (by first | rfl | (simp; done)) ?_ | refine h_ldV H (by repeat (first | exact pick_head | apply pick_tail | apply pick_app)) (by first | rfl | (simp; done)) ?_ | (refine h_st H (by repeat (first | exact pick_head | apply pick_tail | apply pick_app)) (by simp) rfl fun u H => ?_) | (refine h_drew H fun u H => ?_) | refine s_chk c_nil ?_))
  refine s_call (like_n hno _) ?_
  rintro _ u ⟨rfl, f⟩
  have H := H.fr0 f
  have hno := hno.fr f
  refine ⟨_, rfl, s_asI (s_false rfl (s_call (length_n hno) ?_))⟩
  rintro _ _ ⟨rfl, rfl⟩
  refine ⟨_, rfl, s_asI (s_false rfl (s_call (agreed_n hno) ?_))⟩
  rintro _ _ ⟨rfl, rfl⟩
  refine ⟨_, rfl, s_asI (s_false rfl (s_call (lagging_n hno) ?_))⟩
  rintro _ u ⟨r, rfl, hr, f, hc⟩
  have H := H.fr0 f
  have hno := hno.fr f
  refine ⟨_, rfl, s_asC (s_req rfl (s_asP (s_call (told16_n hc) ?_)))⟩
  rintro _ u ⟨rfl, f⟩
  have H := H.fr0 f
  have hno := hno.fr f
  refine ⟨_, rfl, s_asB (s_false rfl (s_call (clone_n hno) ?_))⟩
  rintro _ _ ⟨rfl, rfl⟩
  refine ⟨_, rfl, s_asP (s_false rfl (s_next (by first | exact ⟨rfl, rfl⟩ | trivial) ?_))⟩
  simp only [if_true]
  exact ⟨⟨i + 1, by rw [hw], by omega, H⟩, by rw [hw]; simp [intOf]; omega⟩
end Go.Proofs.Ytfgfabjbebdnjaa
