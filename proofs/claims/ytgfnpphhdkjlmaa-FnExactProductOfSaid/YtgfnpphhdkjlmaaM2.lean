/- Contracts: clauses on words. No conditions but those that each theorem names. -/
import Derived.Test.YtgfnpphhdkjlmaaTab
import Derived.Test.YtgfnpphhdkjlmaaKG
import Derived.Test.YtgfnpphhdkjlmaaM1
import Derived.Test.YtgfnpphhdkjlmaaHM
import Derived.Test.YtgfnpphhdkjlmaaChecked
set_option linter.unusedSimpArgs false
set_option linter.unusedVariables false
namespace Go.Proofs.Ytgfnpphhdkjlmaa
open Go.RowKit
open Shp
def lv_IndexFunc_Clause : Nat → List Nat
  | 0 => [0, 1]
  | 1 => [0, 1, 7, 8]
  | 2 => [0, 1, 7, 8, 9]
  | 3 => [0, 1, 5, 7, 8]
  | 4 => [0, 1, 5, 7, 8, 16]
  | 5 => [4]
  | 6 => [0, 1, 7, 8]
  | 7 => [4]
  | _ => []
theorem enter_IndexFunc_Clause (args : Array Value) (w : World) : (callFunc 165 args).run Try.prog w = .ok (.enter 165 args) w := callFunc_enter Try.func165 (by decide) rfl args w
set_option maxHeartbeats 1000000 in
theorem IndexFunc_Clause (xs : List (Int × List Int × List Int)) (f : FuncId) (caps : List GV) (p : Int × List Int × List Int → Bool) (hf : HY (∀ x : Int × List Int × List Int, Con Try.prog f (GV.clauseP x :: caps) (.bool (p x)))) : Con Try.prog 165 [.clauses xs, .fn f caps] (.i (firstN xs.length fun i => p (nth xs i))) := by
  have hf := hf.e
  refine Con.fit enter_IndexFunc_Clause fun hfit => ?_
  have hb_xs : xs.length ≤ 9223372036854775807 := GFits.lenm (show GFits (.clauses xs) from hfit 0 (Nat.le_of_ble_eq_true rfl))
  have hr_xs : ∀ r ∈ xs, r.2.1.length ≤ 9223372036854775807 ∧ r.2.2.length ≤ 9223372036854775807 := fun r hr => ⟨GFits.ints (GFits.cell (GFits.elm (show GFits (.clauses xs) from hfit 0 (Nat.le_of_ble_eq_true rfl)) r hr) (.tail _ (.head _))), GFits.ints (GFits.cell (GFits.elm (show GFits (.clauses xs) from hfit 0 (Nat.le_of_ble_eq_true rfl)) r hr) (.tail _ (.tail _ (.head _))))⟩
  clear hfit
  refine gCon lv_IndexFunc_Clause tab_ok (rs := [.tmp 4]) (sl := [(0, .g (.clauses xs)), (1, .g (.fn f caps))]) Try.func165 rfl Try.ntmps165 rfl enter_IndexFunc_Clause rfl (by repeat constructor) ?_
  (repeat' (first | ((with_reducible apply gLI.cagg); (. exact RF.mk ⟨rfl, rfl, rfl⟩)) | (with_reducible constructor) | exact NE.mk rfl | exact RF.mk rfl | exact NU.mk (by first | omega | (simp only [LNs]; omega)) | ((with_reducible apply SLT_mk); (. rfl); (. rfl); (. rfl); (. rfl)) | ((with_reducible apply CON_of); first | (exact hf _)) | (with_reducible intro hc; (try simp only [HCs] at hc)) | exact OB_f | (with_reducible first | apply gNK | apply TX_seq | apply QA_and_n | apply QA_and_e | apply QA_and_r | apply gTX_cond | apply CK_if | apply TX_skip | apply TX_ret | apply TX_exit | apply QA_in_eq | apply QA_in_n | apply QA_in_r | apply QA_lp_e | apply QA_lp_r | apply gEND_1) | apply gTX_rgW tab_ok | (apply TX_blk; exact RF.mk rfl) | (refine TX_loop (id := 0) (ι := Nat) (fun i => ⟨[(0, .g (.clauses xs)), (1, .g (.fn f caps)), (7, .g (.i xs.length)), (8, .g (.i i))], []⟩) (fun i => (i ≤ xs.length) ∧ (∀ z, z < i → (fun i => p (nth xs i)) z = false)) (fun i => xs.length - i) (0) ?_ ?_ ?_; (. ((first | apply gLX0 | apply gLX1 | apply gLX2 | apply gLX3 | apply gLX4 | apply gLX5 | apply gLX6 | apply gLX7 | apply gLX8 | apply gLX9 | apply gLX10) <;> (repeat' (first | (with_reducible constructor) | exact NE.mk rfl | exact RF.mk rfl | exact RF.mk ⟨rfl, rfl⟩ | exact RF.mk ⟨rfl, rfl, rfl⟩ | exact EQ.mk rfl | exact RF.mk (by decide) | (with_reducible apply EQ_int) | exact EQ.mk (by first | omega | (simp only [LNs]; omega)))))); (. (exact ⟨by omega, noneN_zero⟩)); (rintro i ⟨h1, h2⟩; (show TX _ _ _ _ _ [(0, .g (.clauses xs)), (1, .g (.fn f caps)), (7, .g (.i xs.length)), (8, .g (.i i))] [] _))) | apply gSel.ccons))
  (all_goals (first | (refine QA_lp (i + 1) ?_ ?_ ?_; (· ((first | apply gLX0 | apply gLX1 | apply gLX2 | apply gLX3 | apply gLX4 | apply gLX5 | apply gLX6 | apply gLX7 | apply gLX8 | apply gLX9 | apply gLX10) <;> (repeat' (first | (with_reducible constructor) | exact NE.mk rfl | exact RF.mk rfl | exact RF.mk ⟨rfl, rfl⟩ | exact RF.mk ⟨rfl, rfl, rfl⟩ | exact EQ.mk rfl | exact RF.mk (by decide) | (with_reducible apply EQ_int) | exact EQ.mk (by first | omega | (simp only [LNs]; omega)))))); (· ((refine ⟨by omega, noneN_step h2 ?_⟩; ((try simp only [Bool.and_eq_true, Bool.or_eq_true, Bool.and_eq_false_iff, Bool.or_eq_false_iff, decide_eq_true_eq, decide_eq_false_iff_not, Bool.not_eq_true', Bool.not_eq_false', beq_iff_eq, bne_iff_ne, ne_eq, beq_eq_false_iff_ne, bne_eq_false_iff_eq] at *); (first | omega | assumption | grind))))); (· (((try dsimp only); omega)))) | (((refine EQ_int (EQ.mk ?_); skip; first | exact Eq.symm (firstN_none fun j hj => h2 j (by omega)) | (refine Eq.symm (firstN_at i (by omega) ?_ h2); ((try simp only [Bool.and_eq_true, Bool.or_eq_true, Bool.and_eq_false_iff, Bool.or_eq_false_iff, decide_eq_true_eq, decide_eq_false_iff_not, Bool.not_eq_true', Bool.not_eq_false', beq_iff_eq, bne_iff_ne, ne_eq, beq_eq_false_iff_ne, bne_eq_false_iff_eq] at *); (first | omega | assumption | grind))))); done)))
def lv_ContainsFunc_Clause : Nat → List Nat
  | 0 => [0, 1]
  | 1 => [4]
  | _ => []
theorem enter_ContainsFunc_Clause (args : Array Value) (w : World) : (callFunc 144 args).run Try.prog w = .ok (.enter 144 args) w := callFunc_enter Try.func144 (by decide) rfl args w
set_option maxHeartbeats 1000000 in
theorem ContainsFunc_Clause (xs : List (Int × List Int × List Int)) (f : FuncId) (caps : List GV) (p : Int × List Int × List Int → Bool) (hf : HY (∀ x : Int × List Int × List Int, Con Try.prog f (GV.clauseP x :: caps) (.bool (p x)))) : Con Try.prog 144 [.clauses xs, .fn f caps] (.bool (!allN xs.length fun i => !p (nth xs i))) := by
  have hf := hf.e
  refine Con.fit enter_ContainsFunc_Clause fun hfit => ?_
  have hb_xs : xs.length ≤ 9223372036854775807 := GFits.lenm (show GFits (.clauses xs) from hfit 0 (Nat.le_of_ble_eq_true rfl))
  have hr_xs : ∀ r ∈ xs, r.2.1.length ≤ 9223372036854775807 ∧ r.2.2.length ≤ 9223372036854775807 := fun r hr => ⟨GFits.ints (GFits.cell (GFits.elm (show GFits (.clauses xs) from hfit 0 (Nat.le_of_ble_eq_true rfl)) r hr) (.tail _ (.head _))), GFits.ints (GFits.cell (GFits.elm (show GFits (.clauses xs) from hfit 0 (Nat.le_of_ble_eq_true rfl)) r hr) (.tail _ (.tail _ (.head _))))⟩
  clear hfit
  refine gCon lv_ContainsFunc_Clause tab_ok (rs := [.tmp 4]) (sl := [(0, .g (.clauses xs)), (1, .g (.fn f caps))]) Try.func144 rfl Try.ntmps144 rfl enter_ContainsFunc_Clause rfl (by repeat constructor) ?_
  (repeat' (first | (with_reducible constructor) | exact NE.mk rfl | exact RF.mk rfl | ((with_reducible apply CON_of); first | (exact IndexFunc_Clause xs f caps p (HY.mk hf))) | exact OB_f | (with_reducible first | apply gNK | apply TX_seq | apply QA_and_n | apply TX_ret | apply gEND_1) | apply gTX_rgW tab_ok | apply gSel.ccons))
  (all_goals (first | (((refine EQ_bool ?_; exact firstN_ge)); done)))
def lv_impl_areClauses_c1 : Nat → List Nat
  | 0 => [1, 2]
  | 1 => [3]
  | _ => []
theorem enter_impl_areClauses_c1 (args : Array Value) (w : World) : (callFunc 145 args).run Try.prog w = .ok (.enter 145 args) w := callFunc_enter Try.func145 (by decide) rfl args w
set_option maxHeartbeats 1000000 in
theorem impl_areClauses_c1 (i o k : Int) (a b : List Int) (hs : HY (sigB i o = true)) : Con Try.prog 145 [.clause k a b, .box [.i i, .i o]] (.bool (!clauseB (lettersB i o) k a b)) := by
  have hs := hs.e
  refine Con.fit enter_impl_areClauses_c1 fun hfit => ?_
  have hb_a : a.length ≤ 9223372036854775807 := GFits.ints (GFits.cell (show GFits (.clause k a b) from hfit 0 (Nat.le_of_ble_eq_true rfl)) (.tail _ (.head _)))
  have hb_b : b.length ≤ 9223372036854775807 := GFits.ints (GFits.cell (show GFits (.clause k a b) from hfit 0 (Nat.le_of_ble_eq_true rfl)) (.tail _ (.tail _ (.head _))))
  clear hfit
  refine gCon lv_impl_areClauses_c1 tab_ok (rs := [.tmp 3]) (sl := [(0, .g (.clause k a b)), (1, .g (.box [.i i, .i o]))]) Try.func145 rfl Try.ntmps145 rfl enter_impl_areClauses_c1 rfl (by repeat constructor) ?_
  (repeat' (first | ((with_reducible apply gLB.cagg); (. exact RF.mk ⟨rfl, rfl, rfl⟩)) | ((with_reducible apply gLI.cagg); (. exact RF.mk ⟨rfl, rfl, rfl⟩)) | (with_reducible constructor) | exact NE.mk rfl | exact RF.mk rfl | exact NU.mk (by first | omega | (simp only [LNs]; omega)) | ((with_reducible apply CON_of); first | apply impl_isClause) | exact OB_f | (with_reducible first | apply gNK | apply TX_seq | apply QA_and_n | apply TX_ret) | apply gTX_rgW tab_ok | apply gSel.ccons))
  (all_goals (first | (((exact EQ.mk rfl)); done)))
def lv_impl_areClauses : Nat → List Nat
  | 0 => [1, 2]
  | 1 => [4]
  | _ => []
theorem enter_impl_areClauses (args : Array Value) (w : World) : (callFunc 105 args).run Try.prog w = .ok (.enter 105 args) w := callFunc_enter Try.func105 (by decide) rfl args w
set_option maxHeartbeats 1000000 in
theorem impl_areClauses (i o : Int) (cs : List (Int × List Int × List Int)) (hs : HY (sigB i o = true)) : Con Try.prog 105 [.sig i o, .clauses cs] (.bool (decide (cs.length ≤ 3) && allN cs.length (clauseR (lettersB i o) cs))) := by
  have hs := hs.e
  refine Con.fit enter_impl_areClauses fun hfit => ?_
  have hb_cs : cs.length ≤ 9223372036854775807 := GFits.lenm (show GFits (.clauses cs) from hfit 1 (Nat.le_of_ble_eq_true rfl))
  have hr_cs : ∀ r ∈ cs, r.2.1.length ≤ 9223372036854775807 ∧ r.2.2.length ≤ 9223372036854775807 := fun r hr => ⟨GFits.ints (GFits.cell (GFits.elm (show GFits (.clauses cs) from hfit 1 (Nat.le_of_ble_eq_true rfl)) r hr) (.tail _ (.head _))), GFits.ints (GFits.cell (GFits.elm (show GFits (.clauses cs) from hfit 1 (Nat.le_of_ble_eq_true rfl)) r hr) (.tail _ (.tail _ (.head _))))⟩
  clear hfit
  refine gCon lv_impl_areClauses tab_ok (rs := [.tmp 4]) (sl := [(0, .g (.sig i o)), (1, .g (.clauses cs))]) Try.func105 rfl Try.ntmps105 rfl enter_impl_areClauses rfl (by repeat constructor) ?_
  (repeat' (first | (with_reducible constructor) | exact NE.mk rfl | exact RF.mk rfl | ((with_reducible apply SLT_mk); (. rfl); (. rfl); (. rfl); (. rfl)) | ((with_reducible apply CON_of); first | (exact ContainsFunc_Clause cs 145 [.box [.i i, .i o]] (fun x => !clauseB (lettersB i o) x.1 x.2.1 x.2.2) (HY.mk fun x => impl_areClauses_c1 i o x.1 x.2.1 x.2.2 (HY.mk hs)))) | (with_reducible intro hc; (try simp only [HCs] at hc)) | exact OB_f | (with_reducible first | apply gNK | apply TX_seq | apply QA_and_n | apply TX_ret | apply gEND_1) | apply gTX_rgW tab_ok | apply gSel.ccons))
  (all_goals (first | (((refine EQ_bool ?_; (try simp only [Bool.not_not]); first | (rw [decide_eq_true (by omega)]; rfl) | (rw [decide_eq_false (by omega)]; rfl))); done)))
def lv_spec_ClausesOk : Nat → List Nat
  | 0 => [1, 2]
  | 1 => [1, 2, 13]
  | 2 => [4]
  | 3 => [1, 2, 5]
  | 4 => [1, 2, 5, 17]
  | 5 => [1, 2, 5]
  | 6 => [1, 2, 5, 26]
  | 7 => [4]
  | 8 => [4]
  | _ => []
theorem enter_spec_ClausesOk (args : Array Value) (w : World) : (callFunc 104 args).run Try.prog w = .ok (.enter 104 args) w := callFunc_enter Try.func104 (by decide) rfl args w
set_option maxHeartbeats 1000000 in
theorem spec_ClausesOk (i o : Int) (cs : List (Int × List Int × List Int)) : Con Try.prog 104 [.sig i o, .clauses cs] (.bool (clausesB i o cs)) := by
  refine Con.fit enter_spec_ClausesOk fun hfit => ?_
  have hb_cs : cs.length ≤ 9223372036854775807 := GFits.lenm (show GFits (.clauses cs) from hfit 1 (Nat.le_of_ble_eq_true rfl))
  have hr_cs : ∀ r ∈ cs, r.2.1.length ≤ 9223372036854775807 ∧ r.2.2.length ≤ 9223372036854775807 := fun r hr => ⟨GFits.ints (GFits.cell (GFits.elm (show GFits (.clauses cs) from hfit 1 (Nat.le_of_ble_eq_true rfl)) r hr) (.tail _ (.head _))), GFits.ints (GFits.cell (GFits.elm (show GFits (.clauses cs) from hfit 1 (Nat.le_of_ble_eq_true rfl)) r hr) (.tail _ (.tail _ (.head _))))⟩
  clear hfit
  refine gCon lv_spec_ClausesOk tab_ok (rs := [.tmp 4]) (sl := [(0, .g (.sig i o)), (1, .g (.clauses cs))]) Try.func104 rfl Try.ntmps104 rfl enter_spec_ClausesOk rfl (by repeat constructor) ?_
  (repeat' (first | ((with_reducible apply gLB.cagg); (. exact RF.mk ⟨rfl, rfl, rfl⟩)) | ((with_reducible apply gLI.cagg); (. exact RF.mk ⟨rfl, rfl, rfl⟩)) | (with_reducible constructor) | exact NE.mk rfl | exact RF.mk rfl | exact NU.mk (by first | omega | (simp only [LNs]; omega)) | ((with_reducible apply SLT_mk); (. rfl); (. rfl); (. rfl); (. rfl)) | ((with_reducible apply CON_of); first | apply spec_SigOk | apply spec_ClauseOk) | (with_reducible intro hc; (try simp only [HCs] at hc)) | exact OB_f | ((with_reducible apply OB_t); kernel_rfl) | (with_reducible first | apply gNK | apply TX_seq | apply QA_and_n | apply QA_and_e | apply QA_and_r | apply gTX_cond | apply CK_t | apply CK_if | apply TX_skip | apply TX_ret | apply TX_exit | apply QA_in_eq | apply QA_in_n | apply QA_in_r | apply QA_lp_e | apply QA_lp_r | apply gEND_1) | apply gTX_rgW tab_ok | apply gTX_rgD tab_ok rfl | (apply TX_blk; exact RF.mk rfl) | (refine TX_loop (id := 0) (ι := Nat) (fun j => ⟨[(1, .g (.clauses cs)), (2, .ptr 0 0), (5, .g (.i j))], [(0, .box [.g (.i i), .g (.i o)])]⟩) (fun j => (j ≤ cs.length) ∧ (∀ z, z < j → (clauseR (lettersB i o) cs) z = true)) (fun j => cs.length - j) (0) ?_ ?_ ?_; (. ((first | apply gLX0 | apply gLX1 | apply gLX2 | apply gLX3 | apply gLX4 | apply gLX5 | apply gLX6 | apply gLX7 | apply gLX8 | apply gLX9 | apply gLX10) <;> (repeat' (first | (with_reducible constructor) | exact NE.mk rfl | exact RF.mk rfl | exact RF.mk ⟨rfl, rfl⟩ | exact RF.mk ⟨rfl, rfl, rfl⟩ | exact EQ.mk rfl | exact RF.mk (by decide) | (with_reducible apply EQ_int) | exact EQ.mk (by first | omega | (simp only [LNs]; omega)))))); (. (exact ⟨by omega, allN_zero⟩)); (rintro j ⟨h1, h2⟩; (show TX _ _ _ _ _ [(1, .g (.clauses cs)), (2, .ptr 0 0), (5, .g (.i j))] [(0, .box [.g (.i i), .g (.i o)])] _))) | apply gSel.ccons))
  (all_goals (first | (refine QA_lp (j + 1) ?_ ?_ ?_; (· ((first | apply gLX0 | apply gLX1 | apply gLX2 | apply gLX3 | apply gLX4 | apply gLX5 | apply gLX6 | apply gLX7 | apply gLX8 | apply gLX9 | apply gLX10) <;> (repeat' (first | (with_reducible constructor) | exact NE.mk rfl | exact RF.mk rfl | exact RF.mk ⟨rfl, rfl⟩ | exact RF.mk ⟨rfl, rfl, rfl⟩ | exact EQ.mk rfl | exact RF.mk (by decide) | (with_reducible apply EQ_int) | exact EQ.mk (by first | omega | (simp only [LNs]; omega)))))); (· ((refine ⟨by omega, allN_step h2 ?_⟩; unfold clauseR; simp_all))); (· (((try dsimp only); omega)))) | (((refine EQ_bool ?_; unfold clausesB; first | (rw [allN_true (fun j hj => h2 j (by omega))]; (rw [Bool.eq_iff_iff]; (try simp only [Bool.and_eq_true, Bool.or_eq_true, Bool.and_eq_false_iff, Bool.or_eq_false_iff, decide_eq_true_eq, decide_eq_false_iff_not, Bool.not_eq_true', Bool.not_eq_false', beq_iff_eq, bne_iff_ne, ne_eq, beq_eq_false_iff_ne, bne_eq_false_iff_eq, Int.natCast_eq_zero, List.length_eq_zero_iff, Bool.true_eq_false, Bool.false_eq_true, true_iff, false_iff, iff_true, iff_false, true_and, and_true, false_and, and_false, not_and, not_or, Bool.not_eq_true, Bool.not_eq_false, Int.not_lt, Int.not_le] at *); first | done | omega | (simp_all; done) | grind)) | (rw [allN_false j (by omega) (by unfold clauseR; simp_all)]; simp; done) | (rw [Bool.eq_iff_iff]; (try simp only [Bool.and_eq_true, Bool.or_eq_true, Bool.and_eq_false_iff, Bool.or_eq_false_iff, decide_eq_true_eq, decide_eq_false_iff_not, Bool.not_eq_true', Bool.not_eq_false', beq_iff_eq, bne_iff_ne, ne_eq, beq_eq_false_iff_ne, bne_eq_false_iff_eq, Int.natCast_eq_zero, List.length_eq_zero_iff, Bool.true_eq_false, Bool.false_eq_true, true_iff, false_iff, iff_true, iff_false, true_and, and_true, false_and, and_false, not_and, not_or, Bool.not_eq_true, Bool.not_eq_false, Int.not_lt, Int.not_le] at *); first | done | omega | (simp_all; done) | grind))); done)))
def lv_slices_Index : Nat → List Nat
  | 0 => [0, 1]
  | 1 => [0, 1, 7, 8]
  | 2 => [0, 1, 7, 8, 9]
  | 3 => [0, 1, 5, 7, 8]
  | 4 => [0, 1, 5, 7, 8, 16]
  | 5 => [4]
  | 6 => [0, 1, 7, 8]
  | 7 => [4]
  | _ => []
theorem enter_slices_Index (args : Array Value) (w : World) : (callFunc 124 args).run Try.prog w = .ok (.enter 124 args) w := callFunc_enter Try.func124 (by decide) rfl args w
set_option maxHeartbeats 1000000 in
theorem slices_Index (xs : List Int) (x : Int) : Con Try.prog 124 [.ints xs, .i x] (.i (place xs x)) := by
  refine Con.fit enter_slices_Index fun hfit => ?_
  have hb_xs : xs.length ≤ 9223372036854775807 := GFits.ints (show GFits (.ints xs) from hfit 0 (Nat.le_of_ble_eq_true rfl))
  clear hfit
  refine gCon lv_slices_Index tab_ok (rs := [.tmp 4]) (sl := [(0, .g (.ints xs)), (1, .g (.i x))]) Try.func124 rfl Try.ntmps124 rfl enter_slices_Index rfl (by repeat constructor) ?_
  (repeat' (first | ((with_reducible apply gLI.cone); (. exact RF.mk ⟨rfl, rfl⟩)) | (with_reducible constructor) | exact NE.mk rfl | exact RF.mk rfl | exact NU.mk (by first | omega | (simp only [LNs]; omega)) | ((with_reducible apply SLT_mk); (. rfl); (. rfl); (. rfl); (. rfl)) | (with_reducible intro hc; (try simp only [HCs] at hc)) | exact OB_f | (with_reducible first | apply gNK | apply TX_seq | apply QA_and_n | apply QA_and_e | apply QA_and_r | apply gTX_cond | apply CK_if | apply TX_skip | apply TX_ret | apply TX_exit | apply QA_in_eq | apply QA_in_n | apply QA_in_r | apply QA_lp_e | apply QA_lp_r | apply gEND_1) | apply gTX_rgW tab_ok | (apply TX_blk; exact RF.mk rfl) | (refine TX_loop (id := 0) (ι := Nat) (fun i => ⟨[(0, .g (.ints xs)), (1, .g (.i x)), (7, .g (.i xs.length)), (8, .g (.i i))], []⟩) (fun i => (i ≤ xs.length) ∧ (∀ z, z < i → (fun i => nth xs i == x) z = false)) (fun i => xs.length - i) (0) ?_ ?_ ?_; (. ((first | apply gLX0 | apply gLX1 | apply gLX2 | apply gLX3 | apply gLX4 | apply gLX5 | apply gLX6 | apply gLX7 | apply gLX8 | apply gLX9 | apply gLX10) <;> (repeat' (first | (with_reducible constructor) | exact NE.mk rfl | exact RF.mk rfl | exact RF.mk ⟨rfl, rfl⟩ | exact RF.mk ⟨rfl, rfl, rfl⟩ | exact EQ.mk rfl | exact RF.mk (by decide) | (with_reducible apply EQ_int) | exact EQ.mk (by first | omega | (simp only [LNs]; omega)))))); (. (exact ⟨by omega, noneN_zero⟩)); (rintro i ⟨h1, h2⟩; (show TX _ _ _ _ _ [(0, .g (.ints xs)), (1, .g (.i x)), (7, .g (.i xs.length)), (8, .g (.i i))] [] _))) | apply gSel.ccons))
  (all_goals (first | (refine QA_lp (i + 1) ?_ ?_ ?_; (· ((first | apply gLX0 | apply gLX1 | apply gLX2 | apply gLX3 | apply gLX4 | apply gLX5 | apply gLX6 | apply gLX7 | apply gLX8 | apply gLX9 | apply gLX10) <;> (repeat' (first | (with_reducible constructor) | exact NE.mk rfl | exact RF.mk rfl | exact RF.mk ⟨rfl, rfl⟩ | exact RF.mk ⟨rfl, rfl, rfl⟩ | exact EQ.mk rfl | exact RF.mk (by decide) | (with_reducible apply EQ_int) | exact EQ.mk (by first | omega | (simp only [LNs]; omega)))))); (· ((refine ⟨by omega, noneN_step h2 ?_⟩; ((try simp only [Bool.and_eq_true, Bool.or_eq_true, Bool.and_eq_false_iff, Bool.or_eq_false_iff, decide_eq_true_eq, decide_eq_false_iff_not, Bool.not_eq_true', Bool.not_eq_false', beq_iff_eq, bne_iff_ne, ne_eq, beq_eq_false_iff_ne, bne_eq_false_iff_eq] at *); (first | omega | assumption | grind))))); (· (((try dsimp only); omega)))) | (((refine EQ_int (EQ.mk ?_); (try unfold place); first | exact Eq.symm (firstN_none fun j hj => h2 j (by omega)) | (refine Eq.symm (firstN_at i (by omega) ?_ h2); ((try simp only [Bool.and_eq_true, Bool.or_eq_true, Bool.and_eq_false_iff, Bool.or_eq_false_iff, decide_eq_true_eq, decide_eq_false_iff_not, Bool.not_eq_true', Bool.not_eq_false', beq_iff_eq, bne_iff_ne, ne_eq, beq_eq_false_iff_ne, bne_eq_false_iff_eq] at *); (first | omega | assumption | grind))))); done)))
def lv_slices_Contains : Nat → List Nat
  | 0 => [0, 1]
  | 1 => [4]
  | _ => []
theorem enter_slices_Contains (args : Array Value) (w : World) : (callFunc 137 args).run Try.prog w = .ok (.enter 137 args) w := callFunc_enter Try.func137 (by decide) rfl args w
set_option maxHeartbeats 1000000 in
theorem slices_Contains (xs : List Int) (x : Int) : Con Try.prog 137 [.ints xs, .i x] (.bool (has xs x)) := by
  refine Con.fit enter_slices_Contains fun hfit => ?_
  have hb_xs : xs.length ≤ 9223372036854775807 := GFits.ints (show GFits (.ints xs) from hfit 0 (Nat.le_of_ble_eq_true rfl))
  clear hfit
  refine gCon lv_slices_Contains tab_ok (rs := [.tmp 4]) (sl := [(0, .g (.ints xs)), (1, .g (.i x))]) Try.func137 rfl Try.ntmps137 rfl enter_slices_Contains rfl (by repeat constructor) ?_
  (repeat' (first | (with_reducible constructor) | exact NE.mk rfl | exact RF.mk rfl | ((with_reducible apply CON_of); first | apply slices_Index) | exact OB_f | (with_reducible first | apply gNK | apply TX_seq | apply QA_and_n | apply TX_ret | apply gEND_1) | apply gTX_rgW tab_ok | apply gSel.ccons))
  (all_goals (first | (((refine EQ_bool ?_; exact firstN_ge)); done)))
end Go.Proofs.Ytgfnpphhdkjlmaa

