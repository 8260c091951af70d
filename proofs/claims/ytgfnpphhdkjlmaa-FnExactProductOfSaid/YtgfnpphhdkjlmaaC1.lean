/- Contracts: interfaces, words, clauses. No conditions but those that each theorem names. -/
import Derived.Test.YtgfnpphhdkjlmaaTab
import Derived.Test.YtgfnpphhdkjlmaaKG
import Derived.Test.YtgfnpphhdkjlmaaW1
import Derived.Test.YtgfnpphhdkjlmaaT2
import Derived.Test.YtgfnpphhdkjlmaaChecked
set_option linter.unusedSimpArgs false
set_option linter.unusedVariables false
namespace Go.Proofs.Ytgfnpphhdkjlmaa
open Go.RowKit
open Shp
def lv_spec_SigOk : Nat → List Nat
  | 0 => [1]
  | 1 => [2]
  | _ => []
theorem enter_spec_SigOk (args : Array Value) (w : World) : (callFunc 82 args).run Try.prog w = .ok (.enter 82 args) w := callFunc_enter Try.func82 (by decide) rfl args w
set_option maxHeartbeats 1000000 in
theorem spec_SigOk (i o : Int) : Con Try.prog 82 [.sig i o] (.bool (sigB i o)) := by
  refine gCon lv_spec_SigOk tab_ok (rs := [.tmp 2]) (sl := [(0, .g (.sig i o))]) Try.func82 rfl Try.ntmps82 rfl enter_spec_SigOk rfl (by repeat constructor) ?_
  (repeat' (first | ((with_reducible apply gLB.cone); (. exact RF.mk ⟨rfl, rfl⟩)) | (with_reducible constructor) | exact NE.mk rfl | exact RF.mk rfl | ((with_reducible apply FO_mk); (. rfl); (. rfl); (. rfl); (. rfl); (. rfl)) | ((with_reducible apply CON_of); first | apply spec_l1In) | (with_reducible intro hc; (try simp only [HCs] at hc)) | exact OB_f | (with_reducible first | apply gNK | apply TX_seq | apply QA_and_n | apply TX_ret | apply gEND_1) | apply gTX_rgW tab_ok | apply gSel.ccons))
  (all_goals (first | (((refine EQ_bool ?_; (try unfold sigB); (first | rfl | (simp_all; done) | (rw [Bool.eq_iff_iff]; (try simp only [Bool.and_eq_true, Bool.or_eq_true, Bool.and_eq_false_iff, Bool.or_eq_false_iff, decide_eq_true_eq, decide_eq_false_iff_not, Bool.not_eq_true', Bool.not_eq_false', beq_iff_eq, bne_iff_ne, ne_eq, beq_eq_false_iff_ne, bne_eq_false_iff_eq, Bool.true_eq_false, Bool.false_eq_true, true_iff, false_iff, iff_true, iff_false, not_and, not_or] at *); (first | omega | grind))))); done)))
def lv_impl_isSig : Nat → List Nat
  | 0 => [1]
  | 1 => [2]
  | _ => []
theorem enter_impl_isSig (args : Array Value) (w : World) : (callFunc 80 args).run Try.prog w = .ok (.enter 80 args) w := callFunc_enter Try.func80 (by decide) rfl args w
set_option maxHeartbeats 1000000 in
theorem impl_isSig (i o : Int) : Con Try.prog 80 [.sig i o] (.bool (sigB i o)) := by
  refine gCon lv_impl_isSig tab_ok (rs := [.tmp 2]) (sl := [(0, .g (.sig i o))]) Try.func80 rfl Try.ntmps80 rfl enter_impl_isSig rfl (by repeat constructor) ?_
  (repeat' (first | ((with_reducible apply gLB.cone); (. exact RF.mk ⟨rfl, rfl⟩)) | (with_reducible constructor) | exact NE.mk rfl | exact RF.mk rfl | ((with_reducible apply FO_mk); (. rfl); (. rfl); (. rfl); (. rfl); (. rfl)) | (with_reducible intro hc; (try simp only [HCs] at hc)) | exact OB_f | (with_reducible first | apply gNK | apply TX_seq | apply QA_and_n | apply TX_ret | apply gEND_1) | apply gTX_rgW tab_ok | apply gSel.ccons))
  (all_goals (first | (((refine EQ_bool ?_; (try unfold sigB); (first | rfl | (simp_all; done) | (rw [Bool.eq_iff_iff]; (try simp only [Bool.and_eq_true, Bool.or_eq_true, Bool.and_eq_false_iff, Bool.or_eq_false_iff, decide_eq_true_eq, decide_eq_false_iff_not, Bool.not_eq_true', Bool.not_eq_false', beq_iff_eq, bne_iff_ne, ne_eq, beq_eq_false_iff_ne, bne_eq_false_iff_eq, Bool.true_eq_false, Bool.false_eq_true, true_iff, false_iff, iff_true, iff_false, not_and, not_or] at *); (first | omega | grind))))); done)))
def lv_spec_l23Power : Nat → List Nat
  | 0 => [0]
  | 1 => [0, 3]
  | 2 => [0, 3, 5]
  | 3 => [0, 3]
  | 4 => [0, 3]
  | 5 => [2]
  | _ => []
theorem enter_spec_l23Power (args : Array Value) (w : World) : (callFunc 83 args).run Try.prog w = .ok (.enter 83 args) w := callFunc_enter Try.func83 (by decide) rfl args w
set_option maxHeartbeats 1000000 in
theorem spec_l23Power (n : Int) (hn : NU (-10 ≤ n ∧ n ≤ 10)) : Con Try.prog 83 [.i n] (.i (pw n)) := by
  have hn := hn.e
  refine gCon lv_spec_l23Power tab_ok (rs := [.tmp 2]) (sl := [(0, .g (.i n))]) Try.func83 rfl Try.ntmps83 rfl enter_spec_l23Power rfl (by repeat constructor) ?_
  (repeat' (first | (with_reducible constructor) | exact NE.mk rfl | exact RF.mk rfl | exact NU.mk (by first | omega | (simp only [LNs]; omega) | (first | omega | (have q := p2_le i (by omega); omega))) | (with_reducible intro hc; (try simp only [HCs] at hc)) | exact OB_f | (with_reducible first | apply gNK | apply TX_seq | apply QA_and_n | apply QA_and_e | apply gTX_cond | apply CK_if | apply TX_skip | apply TX_ret | apply TX_exit | apply QA_in_eq | apply QA_in_n | apply QA_lp_e | apply gEND_1) | apply gTX_rgW tab_ok | (apply TX_blk; exact RF.mk rfl) | (refine TX_loop (id := 0) (ι := Nat) (fun i => ⟨[(0, .g (.i (n - i))), (3, .g (.i (2 ^ i)))], []⟩) (fun i => (i ≤ n.toNat)) (fun i => n.toNat - i) (0) ?_ ?_ ?_; (. ((first | apply gLX0 | apply gLX1 | apply gLX2 | apply gLX3 | apply gLX4 | apply gLX5 | apply gLX6 | apply gLX7 | apply gLX8 | apply gLX9 | apply gLX10) <;> (repeat' (first | (with_reducible constructor) | exact NE.mk rfl | exact RF.mk rfl | exact RF.mk ⟨rfl, rfl⟩ | exact RF.mk ⟨rfl, rfl, rfl⟩ | exact EQ.mk rfl | exact RF.mk (by decide) | (with_reducible apply EQ_int) | exact EQ.mk (by first | omega | (simp only [LNs]; omega) | (first | omega | (have q := p2_le i (by omega); omega))))); (all_goals ((first | exact EQ.mk (by omega) | exact EQ.mk (by rw [Int.pow_succ])); done)))); (. (omega)); (rintro i h1; (show TX _ _ _ _ _ [(0, .g (.i (n - i))), (3, .g (.i (2 ^ i)))] [] _))) | apply gSel.ccons))
  (all_goals (first | (refine QA_lp (i + 1) ?_ ?_ ?_; (· ((first | apply gLX0 | apply gLX1 | apply gLX2 | apply gLX3 | apply gLX4 | apply gLX5 | apply gLX6 | apply gLX7 | apply gLX8 | apply gLX9 | apply gLX10) <;> (repeat' (first | (with_reducible constructor) | exact NE.mk rfl | exact RF.mk rfl | exact RF.mk ⟨rfl, rfl⟩ | exact RF.mk ⟨rfl, rfl, rfl⟩ | exact EQ.mk rfl | exact RF.mk (by decide) | (with_reducible apply EQ_int) | exact EQ.mk (by first | omega | (simp only [LNs]; omega) | (first | omega | (have q := p2_le i (by omega); omega))))); (all_goals ((first | exact EQ.mk (by omega) | exact EQ.mk (by rw [Int.pow_succ])); done)))); (· (omega)); (· (((try dsimp only); omega)))) | (((refine EQ_int (EQ.mk ?_); unfold pw; rw [show i = n.toNat by omega])); done)))
def lv_impl_lettersOf : Nat → List Nat
  | 0 => [1]
  | 1 => [2]
  | _ => []
theorem enter_impl_lettersOf (args : Array Value) (w : World) : (callFunc 84 args).run Try.prog w = .ok (.enter 84 args) w := callFunc_enter Try.func84 (by decide) rfl args w
set_option maxHeartbeats 1000000 in
theorem impl_lettersOf (i o : Int) (hn : NU (0 ≤ i ∧ i ≤ 4 ∧ 0 ≤ o ∧ o ≤ 4)) : Con Try.prog 84 [.sig i o] (.i (pw (i + o))) := by
  have hn := hn.e
  refine gCon lv_impl_lettersOf tab_ok (rs := [.tmp 2]) (sl := [(0, .g (.sig i o))]) Try.func84 rfl Try.ntmps84 rfl enter_impl_lettersOf rfl (by repeat constructor) ?_
  (repeat' (first | ((with_reducible apply gLB.cone); (. exact RF.mk ⟨rfl, rfl⟩)) | (with_reducible constructor) | exact NE.mk rfl | exact RF.mk rfl | exact NU.mk (by first | omega | (simp only [LNs]; omega) | (first | omega | exact ⟨by omega, by omega, by omega, by have := p2_le (i + o).toNat (by omega); omega⟩)) | ((with_reducible apply FO_mk); (. rfl); (. rfl); (. rfl); (. rfl); (. rfl)) | exact OB_f | (with_reducible first | apply gNK | apply TX_seq | apply QA_and_n | apply TX_ret | apply gEND_1) | apply gTX_rgW tab_ok | apply gSel.ccons))
  (all_goals (first | (((refine EQ_int (EQ.mk ?_); unfold pw; simp)); done)))
def lv_spec_LettersOf : Nat → List Nat
  | 0 => [1]
  | 1 => [1, 5]
  | 2 => [2]
  | 3 => [2]
  | _ => []
theorem enter_spec_LettersOf (args : Array Value) (w : World) : (callFunc 28 args).run Try.prog w = .ok (.enter 28 args) w := callFunc_enter Try.func28 (by decide) rfl args w
set_option maxHeartbeats 1000000 in
theorem spec_LettersOf (i o : Int) : Con Try.prog 28 [.sig i o] (.i (lettersB i o)) := by
  refine gCon lv_spec_LettersOf tab_ok (rs := [.tmp 2]) (sl := [(0, .g (.sig i o))]) Try.func28 rfl Try.ntmps28 rfl enter_spec_LettersOf rfl (by repeat constructor) ?_
  (repeat' (first | ((with_reducible apply gLB.cagg); (. exact RF.mk ⟨rfl, rfl, rfl⟩)) | ((with_reducible apply gLB.cone); (. exact RF.mk ⟨rfl, rfl⟩)) | (with_reducible constructor) | exact NE.mk rfl | exact RF.mk rfl | exact NU.mk (by first | omega | (simp only [LNs]; omega) | (first | omega | (have q := sigB_r (by assumption); omega))) | ((with_reducible apply FO_mk); (. rfl); (. rfl); (. rfl); (. rfl); (. rfl)) | ((with_reducible apply CON_of); first | apply spec_SigOk | apply spec_l23Power) | (with_reducible intro hc; (try simp only [HCs] at hc)) | exact OB_f | (with_reducible first | apply gNK | apply TX_seq | apply QA_and_n | apply QA_and_r | apply gTX_cond | apply CK_if | apply TX_skip | apply TX_ret | apply gEND_1) | apply gTX_rgW tab_ok | apply gSel.ccons))
  (all_goals (first | (((refine EQ_int (EQ.mk ?_); unfold lettersB; simp_all)); done)))
def lv_impl_isSet : Nat → List Nat
  | 0 => [0, 1]
  | 1 => [0, 1, 7, 8, 9]
  | 2 => [0, 1, 7, 8, 9, 10]
  | 3 => [0, 1, 5, 6, 7, 8, 9]
  | 4 => [0, 1, 7, 8, 9, 33]
  | 5 => [4]
  | 6 => [0, 1, 7, 8, 9]
  | 7 => [4]
  | _ => []
theorem enter_impl_isSet (args : Array Value) (w : World) : (callFunc 134 args).run Try.prog w = .ok (.enter 134 args) w := callFunc_enter Try.func134 (by decide) rfl args w
set_option maxHeartbeats 1000000 in
theorem impl_isSet (xs : List Int) (n : Int) : Con Try.prog 134 [.ints xs, .i n] (.bool (rises xs n)) := by
  refine Con.fit enter_impl_isSet fun hfit => ?_
  have hb_xs : xs.length ≤ 9223372036854775807 := GFits.ints (show GFits (.ints xs) from hfit 0 (Nat.le_of_ble_eq_true rfl))
  clear hfit
  refine gCon lv_impl_isSet tab_ok (rs := [.tmp 4]) (sl := [(0, .g (.ints xs)), (1, .g (.i n))]) Try.func134 rfl Try.ntmps134 rfl enter_impl_isSet rfl (by repeat constructor) ?_
  (repeat' (first | ((with_reducible apply gLI.cone); (. exact RF.mk ⟨rfl, rfl⟩)) | (with_reducible constructor) | exact NE.mk rfl | exact RF.mk rfl | exact NU.mk (by first | omega | (simp only [LNs]; omega)) | ((with_reducible apply SLT_mk); (. rfl); (. rfl); (. rfl); (. rfl)) | (with_reducible intro hc; (try simp only [HCs] at hc)) | exact OB_f | (with_reducible first | apply gNK | apply TX_seq | apply QA_and_n | apply QA_and_e | apply QA_and_r | apply gTX_cond | apply CK_t | apply CK_f | apply CK_if | apply TX_skip | apply TX_ret | apply TX_exit | apply QA_in_eq | apply QA_in_n | apply QA_in_r | apply QA_lp_e | apply QA_lp_r | apply gEND_1) | apply gTX_rgW tab_ok | (apply TX_blk; exact RF.mk rfl) | (refine TX_loop (id := 0) (ι := Nat) (fun i => ⟨[(0, .g (.ints xs)), (1, .g (.i n)), (7, .g (.ints xs)), (8, .g (.i xs.length)), (9, .g (.i i))], []⟩) (fun i => (i ≤ xs.length) ∧ (∀ z, z < i → (fun i => decide (0 ≤ nth xs i) && decide (nth xs i < n) && (decide (i = 0) || decide (nth xs (i - 1) < nth xs i))) z = true)) (fun i => xs.length - i) (0) ?_ ?_ ?_; (. ((first | apply gLX0 | apply gLX1 | apply gLX2 | apply gLX3 | apply gLX4 | apply gLX5 | apply gLX6 | apply gLX7 | apply gLX8 | apply gLX9 | apply gLX10) <;> (repeat' (first | (with_reducible constructor) | exact NE.mk rfl | exact RF.mk rfl | exact RF.mk ⟨rfl, rfl⟩ | exact RF.mk ⟨rfl, rfl, rfl⟩ | exact EQ.mk rfl | exact RF.mk (by decide) | (with_reducible apply EQ_int) | exact EQ.mk (by first | omega | (simp only [LNs]; omega)))))); (. (exact ⟨by omega, allN_zero⟩)); (rintro i ⟨h1, h2⟩; (show TX _ _ _ _ _ [(0, .g (.ints xs)), (1, .g (.i n)), (7, .g (.ints xs)), (8, .g (.i xs.length)), (9, .g (.i i))] [] _))) | apply gSel.ccons))
  (all_goals (first | (refine QA_lp (i + 1) ?_ ?_ ?_; (· ((first | apply gLX0 | apply gLX1 | apply gLX2 | apply gLX3 | apply gLX4 | apply gLX5 | apply gLX6 | apply gLX7 | apply gLX8 | apply gLX9 | apply gLX10) <;> (repeat' (first | (with_reducible constructor) | exact NE.mk rfl | exact RF.mk rfl | exact RF.mk ⟨rfl, rfl⟩ | exact RF.mk ⟨rfl, rfl, rfl⟩ | exact EQ.mk rfl | exact RF.mk (by decide) | (with_reducible apply EQ_int) | exact EQ.mk (by first | omega | (simp only [LNs]; omega)))))); (· ((refine ⟨by omega, allN_step h2 ?_⟩; ((try simp only [Bool.and_eq_true, Bool.or_eq_true, Bool.and_eq_false_iff, Bool.or_eq_false_iff, decide_eq_true_eq, decide_eq_false_iff_not, Bool.not_eq_true', Bool.not_eq_false', beq_iff_eq, bne_iff_ne, ne_eq, beq_eq_false_iff_ne, bne_eq_false_iff_eq] at *); (first | omega | assumption | grind))))); (· (((try dsimp only); omega)))) | (((first | (refine EQ_bool ?_; (try unfold rises); first | rfl | exact Eq.symm (allN_true fun j hj => h2 j (by omega)) | (refine Eq.symm (allN_false i (by omega) ?_); ((try simp only [Bool.and_eq_true, Bool.or_eq_true, Bool.and_eq_false_iff, Bool.or_eq_false_iff, decide_eq_true_eq, decide_eq_false_iff_not, Bool.not_eq_true', Bool.not_eq_false', beq_iff_eq, bne_iff_ne, ne_eq, beq_eq_false_iff_ne, bne_eq_false_iff_eq] at *); (first | omega | assumption | grind))) | exact Eq.symm (nallN_false fun j hj => h2 j (by omega)) | (refine Eq.symm (nallN_true i (by omega) ?_); ((try simp only [Bool.and_eq_true, Bool.or_eq_true, Bool.and_eq_false_iff, Bool.or_eq_false_iff, decide_eq_true_eq, decide_eq_false_iff_not, Bool.not_eq_true', Bool.not_eq_false', beq_iff_eq, bne_iff_ne, ne_eq, beq_eq_false_iff_ne, bne_eq_false_iff_eq] at *); (first | omega | assumption | grind))) | ((try simp only [Bool.and_eq_true, Bool.or_eq_true, Bool.and_eq_false_iff, Bool.or_eq_false_iff, decide_eq_true_eq, decide_eq_false_iff_not, Bool.not_eq_true', Bool.not_eq_false', beq_iff_eq, bne_iff_ne, ne_eq, beq_eq_false_iff_ne, bne_eq_false_iff_eq] at *); (first | omega | assumption | grind))))); done)))
def lv_impl_hasSecond : Nat → List Nat
  | 0 => [0]
  | 1 => [2]
  | _ => []
theorem enter_impl_hasSecond (args : Array Value) (w : World) : (callFunc 135 args).run Try.prog w = .ok (.enter 135 args) w := callFunc_enter Try.func135 (by decide) rfl args w
set_option maxHeartbeats 1000000 in
theorem impl_hasSecond (k : Int) : Con Try.prog 135 [.i k] (.bool (secondB k)) := by
  refine gCon lv_impl_hasSecond tab_ok (rs := [.tmp 2]) (sl := [(0, .g (.i k))]) Try.func135 rfl Try.ntmps135 rfl enter_impl_hasSecond rfl (by repeat constructor) ?_
  (repeat' (first | (with_reducible constructor) | exact NE.mk rfl | exact RF.mk rfl | (with_reducible intro hc; (try simp only [HCs] at hc)) | exact OB_f | (with_reducible first | apply gNK | apply TX_seq | apply QA_and_n | apply TX_ret | apply gEND_1) | apply gTX_rgW tab_ok | apply gSel.ccons))
  (all_goals (first | (((refine EQ_bool ?_; (try unfold secondB); (first | rfl | (simp_all; done) | (rw [Bool.eq_iff_iff]; (try simp only [Bool.and_eq_true, Bool.or_eq_true, Bool.and_eq_false_iff, Bool.or_eq_false_iff, decide_eq_true_eq, decide_eq_false_iff_not, Bool.not_eq_true', Bool.not_eq_false', beq_iff_eq, bne_iff_ne, ne_eq, beq_eq_false_iff_ne, bne_eq_false_iff_eq, Bool.true_eq_false, Bool.false_eq_true, true_iff, false_iff, iff_true, iff_false, not_and, not_or] at *); (first | omega | grind))))); done)))
def lv_spec_l24Both : Nat → List Nat
  | 0 => [0]
  | 1 => [2]
  | _ => []
theorem enter_spec_l24Both (args : Array Value) (w : World) : (callFunc 130 args).run Try.prog w = .ok (.enter 130 args) w := callFunc_enter Try.func130 (by decide) rfl args w
set_option maxHeartbeats 1000000 in
theorem spec_l24Both (k : Int) : Con Try.prog 130 [.i k] (.bool (secondB k)) := by
  refine gCon lv_spec_l24Both tab_ok (rs := [.tmp 2]) (sl := [(0, .g (.i k))]) Try.func130 rfl Try.ntmps130 rfl enter_spec_l24Both rfl (by repeat constructor) ?_
  (repeat' (first | (with_reducible constructor) | exact NE.mk rfl | exact RF.mk rfl | (with_reducible intro hc; (try simp only [HCs] at hc)) | exact OB_f | (with_reducible first | apply gNK | apply TX_seq | apply QA_and_n | apply TX_ret | apply gEND_1) | apply gTX_rgW tab_ok | apply gSel.ccons))
  (all_goals (first | (((refine EQ_bool ?_; (try unfold secondB); (first | rfl | (simp_all; done) | (rw [Bool.eq_iff_iff]; (try simp only [Bool.and_eq_true, Bool.or_eq_true, Bool.and_eq_false_iff, Bool.or_eq_false_iff, decide_eq_true_eq, decide_eq_false_iff_not, Bool.not_eq_true', Bool.not_eq_false', beq_iff_eq, bne_iff_ne, ne_eq, beq_eq_false_iff_ne, bne_eq_false_iff_eq, Bool.true_eq_false, Bool.false_eq_true, true_iff, false_iff, iff_true, iff_false, not_and, not_or] at *); (first | omega | grind))))); done)))
def lv_impl_isClause : Nat → List Nat
  | 0 => [2, 3]
  | 1 => [3, 28]
  | 2 => [4]
  | 3 => [4]
  | _ => []
theorem enter_impl_isClause (args : Array Value) (w : World) : (callFunc 89 args).run Try.prog w = .ok (.enter 89 args) w := callFunc_enter Try.func89 (by decide) rfl args w
set_option maxHeartbeats 1000000 in
theorem impl_isClause (i o k : Int) (a b : List Int) (hs : HY (sigB i o = true)) : Con Try.prog 89 [.sig i o, .clause k a b] (.bool (clauseB (lettersB i o) k a b)) := by
  have hs := hs.e
  refine Con.fit enter_impl_isClause fun hfit => ?_
  have hb_a : a.length ≤ 9223372036854775807 := GFits.ints (GFits.cell (show GFits (.clause k a b) from hfit 1 (Nat.le_of_ble_eq_true rfl)) (.tail _ (.head _)))
  have hb_b : b.length ≤ 9223372036854775807 := GFits.ints (GFits.cell (show GFits (.clause k a b) from hfit 1 (Nat.le_of_ble_eq_true rfl)) (.tail _ (.tail _ (.head _))))
  clear hfit
  refine gCon lv_impl_isClause tab_ok (rs := [.tmp 4]) (sl := [(0, .g (.sig i o)), (1, .g (.clause k a b))]) Try.func89 rfl Try.ntmps89 rfl enter_impl_isClause rfl (by repeat constructor) ?_
  (repeat' (first | ((with_reducible apply gLB.cagg); (. exact RF.mk ⟨rfl, rfl, rfl⟩)) | ((with_reducible apply gLB.cone); (. exact RF.mk ⟨rfl, rfl⟩)) | (with_reducible constructor) | exact NE.mk rfl | exact RF.mk rfl | exact NU.mk (by first | omega | (simp only [LNs]; omega) | (first | omega | (have q := sigB_r (by assumption); omega))) | ((with_reducible apply SLT_mk); (. rfl); (. rfl); (. rfl); (. rfl)) | ((with_reducible apply FO_mk); (. rfl); (. rfl); (. rfl); (. rfl); (. rfl)) | ((with_reducible apply CON_of); first | apply impl_lettersOf | apply impl_isSet | apply impl_hasSecond) | (with_reducible intro hc; (try simp only [HCs] at hc)) | exact OB_f | ((with_reducible apply OB_t); kernel_rfl) | (with_reducible first | apply gNK | apply TX_seq | apply QA_and_n | apply QA_and_r | apply gTX_cond | apply CK_t | apply CK_if | apply TX_skip | apply TX_ret | apply gEND_1) | apply gTX_rgW tab_ok | apply gTX_rgD tab_ok rfl | apply gSel.ccons))
  (all_goals (first | (((refine EQ_bool ?_; (rw [lettersB_pos (by assumption)] at *); (try simp only [clauseB] at *); rw [Bool.eq_iff_iff]; (try simp only [Bool.and_eq_true, Bool.or_eq_true, Bool.and_eq_false_iff, Bool.or_eq_false_iff, decide_eq_true_eq, decide_eq_false_iff_not, Bool.not_eq_true', Bool.not_eq_false', beq_iff_eq, bne_iff_ne, ne_eq, beq_eq_false_iff_ne, bne_eq_false_iff_eq, Int.natCast_eq_zero, List.length_eq_zero_iff, Bool.true_eq_false, Bool.false_eq_true, true_iff, false_iff, iff_true, iff_false, true_and, and_true, false_and, and_false, not_and, not_or, Bool.not_eq_true, Bool.not_eq_false, Int.not_lt, Int.not_le] at *); first | done | omega | (simp_all; done) | grind)); done)))
def lv_spec_ClauseOk : Nat → List Nat
  | 0 => [2, 3]
  | 1 => [2, 3, 14]
  | 2 => [4]
  | 3 => [3, 5]
  | 4 => [4]
  | _ => []
theorem enter_spec_ClauseOk (args : Array Value) (w : World) : (callFunc 85 args).run Try.prog w = .ok (.enter 85 args) w := callFunc_enter Try.func85 (by decide) rfl args w
set_option maxHeartbeats 1000000 in
theorem spec_ClauseOk (i o k : Int) (a b : List Int) : Con Try.prog 85 [.sig i o, .clause k a b] (.bool (sigB i o && clauseB (lettersB i o) k a b)) := by
  refine Con.fit enter_spec_ClauseOk fun hfit => ?_
  have hb_a : a.length ≤ 9223372036854775807 := GFits.ints (GFits.cell (show GFits (.clause k a b) from hfit 1 (Nat.le_of_ble_eq_true rfl)) (.tail _ (.head _)))
  have hb_b : b.length ≤ 9223372036854775807 := GFits.ints (GFits.cell (show GFits (.clause k a b) from hfit 1 (Nat.le_of_ble_eq_true rfl)) (.tail _ (.tail _ (.head _))))
  clear hfit
  refine gCon lv_spec_ClauseOk tab_ok (rs := [.tmp 4]) (sl := [(0, .g (.sig i o)), (1, .g (.clause k a b))]) Try.func85 rfl Try.ntmps85 rfl enter_spec_ClauseOk rfl (by repeat constructor) ?_
  (repeat' (first | ((with_reducible apply gLB.cagg); (. exact RF.mk ⟨rfl, rfl, rfl⟩)) | ((with_reducible apply gLB.cone); (. exact RF.mk ⟨rfl, rfl⟩)) | (with_reducible constructor) | exact NE.mk rfl | exact RF.mk rfl | exact NU.mk (by first | omega | (simp only [LNs]; omega) | (first | omega | (have q := lettersB_range i o; omega) | (have q := sigB_r (by assumption); omega))) | ((with_reducible apply SLT_mk); (. rfl); (. rfl); (. rfl); (. rfl)) | ((with_reducible apply FO_mk); (. rfl); (. rfl); (. rfl); (. rfl); (. rfl)) | ((with_reducible apply CON_of); first | apply spec_LettersOf | apply spec_l1In | apply spec_SigOk | apply spec_l1Set | apply spec_l24Both) | (with_reducible intro hc; (try simp only [HCs] at hc)) | exact OB_f | (with_reducible first | apply gNK | apply TX_seq | apply QA_and_n | apply QA_and_r | apply gTX_cond | apply CK_t | apply CK_if | apply TX_skip | apply TX_ret | apply gEND_1) | apply gTX_rgW tab_ok | apply gSel.ccons))
  (all_goals (first | (((refine EQ_bool ?_; (try rw [setB_rises (lettersB_range i o).1] at *); (try simp only [clauseB] at *); rw [Bool.eq_iff_iff]; (try simp only [Bool.and_eq_true, Bool.or_eq_true, Bool.and_eq_false_iff, Bool.or_eq_false_iff, decide_eq_true_eq, decide_eq_false_iff_not, Bool.not_eq_true', Bool.not_eq_false', beq_iff_eq, bne_iff_ne, ne_eq, beq_eq_false_iff_ne, bne_eq_false_iff_eq, Int.natCast_eq_zero, List.length_eq_zero_iff, Bool.true_eq_false, Bool.false_eq_true, true_iff, false_iff, iff_true, iff_false, true_and, and_true, false_and, and_false, not_and, not_or, Bool.not_eq_true, Bool.not_eq_false, Int.not_lt, Int.not_le] at *); first | done | omega | (simp_all; done) | grind)); done)))
end Go.Proofs.Ytgfnpphhdkjlmaa

