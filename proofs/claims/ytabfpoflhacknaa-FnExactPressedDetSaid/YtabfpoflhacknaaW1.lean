/- Contracts of small functions: numbers, lists, words. No conditions but those that each theorem names. -/
import Derived.Test.YtabfpoflhacknaaTab
import Derived.Test.YtabfpoflhacknaaKG
import Derived.Test.YtabfpoflhacknaaTM
import Derived.Test.YtabfpoflhacknaaChecked
set_option linter.unusedSimpArgs false
set_option linter.unusedVariables false
namespace Go.Proofs.Ytabfpoflhacknaa
open Go.RowKit
open Shp

def lv_spec_l1In : Nat → List Nat
  | 0 => [0, 1, 2]
  | 1 => [6]
  | _ => []
theorem enter_spec_l1In (args : Array Value) (w : World) : (callFunc 69 args).run Try.prog w = .ok (.enter 69 args) w := callFunc_enter Try.func69 (by decide) rfl args w
set_option maxHeartbeats 1000000 in
theorem spec_l1In (x lo hi : Int) : Con Try.prog 69 [.i x, .i lo, .i hi] (.bool (decide (lo ≤ x) && decide (x ≤ hi))) := by
  refine gCon lv_spec_l1In tab_ok (rs := [.tmp 6]) (sl := [(0, .g (.i x)), (1, .g (.i lo)), (2, .g (.i hi))]) Try.func69 rfl Try.ntmps69 rfl enter_spec_l1In rfl (by repeat constructor) ?_
  (repeat' (first | (with_reducible constructor) | exact NE.mk rfl | exact RF.mk rfl | (with_reducible intro hc; (try simp only [HCs] at hc)) | exact OB_f | (with_reducible first | apply gNK | apply TX_seq | apply QA_and_n | apply TX_ret | apply gEND_1) | apply gTX_rgW tab_ok | apply gSel.ccons))
  (all_goals (first | (((first | (refine EQ_bool ?_; first | (simp_all; done) | (rw [Bool.eq_iff_iff]; simp only [Bool.and_eq_true, Bool.or_eq_true, decide_eq_true_eq, Bool.false_eq_true, false_iff, true_iff, iff_false, iff_true, not_and, not_or, Bool.not_eq_true, decide_eq_false_iff_not, beq_iff_eq, bne_iff_ne, ne_eq, Bool.not_eq_true', Bool.not_eq_false', Int.not_le, Int.not_lt]; omega)) | ((repeat (first | apply EQ_tup | apply EQ_cons | apply EQ_agg | apply EQ_sl | apply EQ_map)); all_goals (first | exact EQ.mk rfl | exact EQ.mk (by first | (simp; done) | fail) | exact EQ.mk (by first | (simp_all; done) | fail))))); done)))

def lv_spec_l23Below : Nat → List Nat
  | 0 => [0, 1]
  | 1 => [0, 1, 5]
  | 2 => [0, 1, 5, 9]
  | 3 => [0, 1, 5]
  | 4 => [0, 1, 5, 19]
  | 5 => [4]
  | 6 => [4]
  | _ => []
theorem enter_spec_l23Below (args : Array Value) (w : World) : (callFunc 70 args).run Try.prog w = .ok (.enter 70 args) w := callFunc_enter Try.func70 (by decide) rfl args w
set_option maxHeartbeats 1000000 in
theorem spec_l23Below (xs : List Int) (n : Int) (hn : NU (-1000000 ≤ n ∧ n ≤ 1000000)) : Con Try.prog 70 [.ints xs, .i n] (.bool (below xs n)) := by
  have hn := hn.e
  refine Con.fit enter_spec_l23Below fun hfit => ?_
  have hb_xs : xs.length ≤ 9223372036854775807 := GFits.ints (show GFits (.ints xs) from hfit 0 (Nat.le_of_ble_eq_true rfl))
  clear hfit
  refine gCon lv_spec_l23Below tab_ok (rs := [.tmp 4]) (sl := [(0, .g (.ints xs)), (1, .g (.i n))]) Try.func70 rfl Try.ntmps70 rfl enter_spec_l23Below rfl (by repeat constructor) ?_
  (repeat' (first | ((with_reducible apply gLI.cone); (. exact RF.mk ⟨rfl, rfl⟩)) | (with_reducible constructor) | exact NE.mk rfl | exact RF.mk rfl | exact NU.mk (by first | omega | (simp only [LNs]; omega)) | ((with_reducible apply SLT_mk); (. rfl); (. rfl); (. rfl); (. rfl)) | ((with_reducible apply CON_of); first | apply spec_l1In) | (with_reducible intro hc; (try simp only [HCs] at hc)) | exact OB_f | (with_reducible first | apply gNK | apply TX_seq | apply QA_and_n | apply QA_and_e | apply QA_and_r | apply gTX_cond | apply CK_if | apply TX_skip | apply TX_ret | apply TX_exit | apply QA_in_eq | apply QA_in_n | apply QA_in_r | apply QA_lp_e | apply QA_lp_r | apply gEND_1) | apply gTX_rgW tab_ok | (apply TX_blk; exact RF.mk rfl) | (refine TX_loop (id := 0) (ι := Nat) (fun i => ⟨[(0, .g (.ints xs)), (1, .g (.i n)), (5, .g (.i i))], []⟩) (fun i => (i ≤ xs.length) ∧ (∀ z, z < i → (fun i => decide (0 ≤ nth xs i) && decide (nth xs i < n)) z = true)) (fun i => xs.length - i) (0) ?_ ?_ ?_; (. ((first | apply gLX0 | apply gLX1 | apply gLX2 | apply gLX3 | apply gLX4 | apply gLX5 | apply gLX6 | apply gLX7 | apply gLX8 | apply gLX9 | apply gLX10) <;> (repeat' (first | (with_reducible constructor) | exact NE.mk rfl | exact RF.mk rfl | exact RF.mk ⟨rfl, rfl⟩ | exact RF.mk ⟨rfl, rfl, rfl⟩ | exact EQ.mk rfl | exact RF.mk (by decide) | (with_reducible apply EQ_int) | exact EQ.mk (by first | omega | (simp only [LNs]; omega)))))); (. (exact ⟨by omega, allN_zero⟩)); (rintro i ⟨h1, h2⟩; (show TX _ _ _ _ _ [(0, .g (.ints xs)), (1, .g (.i n)), (5, .g (.i i))] [] _))) | apply gSel.ccons))
  (all_goals (first | (refine QA_lp (i + 1) ?_ ?_ ?_; (· ((first | apply gLX0 | apply gLX1 | apply gLX2 | apply gLX3 | apply gLX4 | apply gLX5 | apply gLX6 | apply gLX7 | apply gLX8 | apply gLX9 | apply gLX10) <;> (repeat' (first | (with_reducible constructor) | exact NE.mk rfl | exact RF.mk rfl | exact RF.mk ⟨rfl, rfl⟩ | exact RF.mk ⟨rfl, rfl, rfl⟩ | exact EQ.mk rfl | exact RF.mk (by decide) | (with_reducible apply EQ_int) | exact EQ.mk (by first | omega | (simp only [LNs]; omega)))))); (· ((refine ⟨by omega, allN_step h2 ?_⟩; ((try simp only [Bool.and_eq_true, Bool.or_eq_true, Bool.and_eq_false_iff, Bool.or_eq_false_iff, decide_eq_true_eq, decide_eq_false_iff_not, Bool.not_eq_true', Bool.not_eq_false', beq_iff_eq, bne_iff_ne, ne_eq, beq_eq_false_iff_ne, bne_eq_false_iff_eq] at *); (first | omega | assumption | grind))))); (· (((try dsimp only); omega)))) | (((first | (refine EQ_bool ?_; (try unfold below); first | rfl | exact Eq.symm (allN_true fun j hj => h2 j (by omega)) | (refine Eq.symm (allN_false i (by omega) ?_); ((try simp only [Bool.and_eq_true, Bool.or_eq_true, Bool.and_eq_false_iff, Bool.or_eq_false_iff, decide_eq_true_eq, decide_eq_false_iff_not, Bool.not_eq_true', Bool.not_eq_false', beq_iff_eq, bne_iff_ne, ne_eq, beq_eq_false_iff_ne, bne_eq_false_iff_eq] at *); (first | omega | assumption | grind))) | exact Eq.symm (nallN_false fun j hj => h2 j (by omega)) | (refine Eq.symm (nallN_true i (by omega) ?_); ((try simp only [Bool.and_eq_true, Bool.or_eq_true, Bool.and_eq_false_iff, Bool.or_eq_false_iff, decide_eq_true_eq, decide_eq_false_iff_not, Bool.not_eq_true', Bool.not_eq_false', beq_iff_eq, bne_iff_ne, ne_eq, beq_eq_false_iff_ne, bne_eq_false_iff_eq] at *); (first | omega | assumption | grind))) | ((try simp only [Bool.and_eq_true, Bool.or_eq_true, Bool.and_eq_false_iff, Bool.or_eq_false_iff, decide_eq_true_eq, decide_eq_false_iff_not, Bool.not_eq_true', Bool.not_eq_false', beq_iff_eq, bne_iff_ne, ne_eq, beq_eq_false_iff_ne, bne_eq_false_iff_eq] at *); (first | omega | assumption | grind))))); done)))

def lv_spec_l1Rises : Nat → List Nat
  | 0 => [0, 1]
  | 1 => [0, 1, 5]
  | 2 => [0, 1, 5, 9]
  | 3 => [0, 1, 5]
  | 4 => [0, 1, 5, 35]
  | 5 => [4]
  | 6 => [4]
  | _ => []
theorem enter_spec_l1Rises (args : Array Value) (w : World) : (callFunc 142 args).run Try.prog w = .ok (.enter 142 args) w := callFunc_enter Try.func142 (by decide) rfl args w
set_option maxHeartbeats 1000000 in
theorem spec_l1Rises (xs : List Int) (n : Int) (hn : NU (-1000000 ≤ n ∧ n ≤ 1000000)) : Con Try.prog 142 [.ints xs, .i n] (.bool (rises xs n)) := by
  have hn := hn.e
  refine Con.fit enter_spec_l1Rises fun hfit => ?_
  have hb_xs : xs.length ≤ 9223372036854775807 := GFits.ints (show GFits (.ints xs) from hfit 0 (Nat.le_of_ble_eq_true rfl))
  clear hfit
  refine gCon lv_spec_l1Rises tab_ok (rs := [.tmp 4]) (sl := [(0, .g (.ints xs)), (1, .g (.i n))]) Try.func142 rfl Try.ntmps142 rfl enter_spec_l1Rises rfl (by repeat constructor) ?_
  (repeat' (first | ((with_reducible apply gLI.cone); (. exact RF.mk ⟨rfl, rfl⟩)) | (with_reducible constructor) | exact NE.mk rfl | exact RF.mk rfl | exact NU.mk (by first | omega | (simp only [LNs]; omega)) | ((with_reducible apply SLT_mk); (. rfl); (. rfl); (. rfl); (. rfl)) | ((with_reducible apply CON_of); first | apply spec_l1In) | (with_reducible intro hc; (try simp only [HCs] at hc)) | exact OB_f | ((with_reducible apply OB_t); kernel_rfl) | (with_reducible first | apply gNK | apply TX_seq | apply QA_and_n | apply QA_and_e | apply QA_and_r | apply gTX_cond | apply CK_t | apply CK_f | apply CK_if | apply TX_skip | apply TX_ret | apply TX_exit | apply QA_in_eq | apply QA_in_n | apply QA_in_r | apply QA_lp_e | apply QA_lp_r | apply gEND_1) | apply gTX_rgW tab_ok | apply gTX_rgD tab_ok rfl | (apply TX_blk; exact RF.mk rfl) | (refine TX_loop (id := 0) (ι := Nat) (fun i => ⟨[(0, .g (.ints xs)), (1, .g (.i n)), (5, .g (.i i))], []⟩) (fun i => (i ≤ xs.length) ∧ (∀ z, z < i → (fun i => decide (0 ≤ nth xs i) && decide (nth xs i < n) && (decide (i = 0) || decide (nth xs (i - 1) < nth xs i))) z = true)) (fun i => xs.length - i) (0) ?_ ?_ ?_; (. ((first | apply gLX0 | apply gLX1 | apply gLX2 | apply gLX3 | apply gLX4 | apply gLX5 | apply gLX6 | apply gLX7 | apply gLX8 | apply gLX9 | apply gLX10) <;> (repeat' (first | (with_reducible constructor) | exact NE.mk rfl | exact RF.mk rfl | exact RF.mk ⟨rfl, rfl⟩ | exact RF.mk ⟨rfl, rfl, rfl⟩ | exact EQ.mk rfl | exact RF.mk (by decide) | (with_reducible apply EQ_int) | exact EQ.mk (by first | omega | (simp only [LNs]; omega)))))); (. (exact ⟨by omega, allN_zero⟩)); (rintro i ⟨h1, h2⟩; (show TX _ _ _ _ _ [(0, .g (.ints xs)), (1, .g (.i n)), (5, .g (.i i))] [] _))) | apply gSel.ccons))
  (all_goals (first | (refine QA_lp (i + 1) ?_ ?_ ?_; (· ((first | apply gLX0 | apply gLX1 | apply gLX2 | apply gLX3 | apply gLX4 | apply gLX5 | apply gLX6 | apply gLX7 | apply gLX8 | apply gLX9 | apply gLX10) <;> (repeat' (first | (with_reducible constructor) | exact NE.mk rfl | exact RF.mk rfl | exact RF.mk ⟨rfl, rfl⟩ | exact RF.mk ⟨rfl, rfl, rfl⟩ | exact EQ.mk rfl | exact RF.mk (by decide) | (with_reducible apply EQ_int) | exact EQ.mk (by first | omega | (simp only [LNs]; omega)))))); (· ((refine ⟨by omega, allN_step h2 ?_⟩; ((try simp only [Bool.and_eq_true, Bool.or_eq_true, Bool.and_eq_false_iff, Bool.or_eq_false_iff, decide_eq_true_eq, decide_eq_false_iff_not, Bool.not_eq_true', Bool.not_eq_false', beq_iff_eq, bne_iff_ne, ne_eq, beq_eq_false_iff_ne, bne_eq_false_iff_eq] at *); (first | omega | assumption | grind))))); (· (((try dsimp only); omega)))) | (((first | (refine EQ_bool ?_; (try unfold rises); first | rfl | exact Eq.symm (allN_true fun j hj => h2 j (by omega)) | (refine Eq.symm (allN_false i (by omega) ?_); ((try simp only [Bool.and_eq_true, Bool.or_eq_true, Bool.and_eq_false_iff, Bool.or_eq_false_iff, decide_eq_true_eq, decide_eq_false_iff_not, Bool.not_eq_true', Bool.not_eq_false', beq_iff_eq, bne_iff_ne, ne_eq, beq_eq_false_iff_ne, bne_eq_false_iff_eq] at *); (first | omega | assumption | grind))) | exact Eq.symm (nallN_false fun j hj => h2 j (by omega)) | (refine Eq.symm (nallN_true i (by omega) ?_); ((try simp only [Bool.and_eq_true, Bool.or_eq_true, Bool.and_eq_false_iff, Bool.or_eq_false_iff, decide_eq_true_eq, decide_eq_false_iff_not, Bool.not_eq_true', Bool.not_eq_false', beq_iff_eq, bne_iff_ne, ne_eq, beq_eq_false_iff_ne, bne_eq_false_iff_eq] at *); (first | omega | assumption | grind))) | ((try simp only [Bool.and_eq_true, Bool.or_eq_true, Bool.and_eq_false_iff, Bool.or_eq_false_iff, decide_eq_true_eq, decide_eq_false_iff_not, Bool.not_eq_true', Bool.not_eq_false', beq_iff_eq, bne_iff_ne, ne_eq, beq_eq_false_iff_ne, bne_eq_false_iff_eq] at *); (first | omega | assumption | grind))))); done)))

def lv_spec_l1Set : Nat → List Nat
  | 0 => [0, 1]
  | 1 => [4]
  | _ => []
theorem enter_spec_l1Set (args : Array Value) (w : World) : (callFunc 124 args).run Try.prog w = .ok (.enter 124 args) w := callFunc_enter Try.func124 (by decide) rfl args w
set_option maxHeartbeats 1000000 in
theorem spec_l1Set (xs : List Int) (n : Int) (hn : NU (-1000000 ≤ n ∧ n ≤ 1000000)) : Con Try.prog 124 [.ints xs, .i n] (.bool (setB xs n)) := by
  have hn := hn.e
  refine Con.fit enter_spec_l1Set fun hfit => ?_
  have hb_xs : xs.length ≤ 9223372036854775807 := GFits.ints (show GFits (.ints xs) from hfit 0 (Nat.le_of_ble_eq_true rfl))
  clear hfit
  refine gCon lv_spec_l1Set tab_ok (rs := [.tmp 4]) (sl := [(0, .g (.ints xs)), (1, .g (.i n))]) Try.func124 rfl Try.ntmps124 rfl enter_spec_l1Set rfl (by repeat constructor) ?_
  (repeat' (first | (with_reducible constructor) | exact NE.mk rfl | exact RF.mk rfl | exact NU.mk (by first | omega | (simp only [LNs]; omega)) | ((with_reducible apply SLT_mk); (. rfl); (. rfl); (. rfl); (. rfl)) | ((with_reducible apply CON_of); first | apply spec_l1Rises) | (with_reducible intro hc; (try simp only [HCs] at hc)) | exact OB_f | (with_reducible first | apply gNK | apply TX_seq | apply QA_and_n | apply TX_ret | apply gEND_1) | apply gTX_rgW tab_ok | apply gSel.ccons))
  (all_goals (first | (((refine EQ_bool ?_; (try unfold setB); (first | rfl | (simp_all; done) | (rw [Bool.eq_iff_iff]; (try simp only [Bool.and_eq_true, Bool.or_eq_true, Bool.and_eq_false_iff, Bool.or_eq_false_iff, decide_eq_true_eq, decide_eq_false_iff_not, Bool.not_eq_true', Bool.not_eq_false', beq_iff_eq, bne_iff_ne, ne_eq, beq_eq_false_iff_ne, bne_eq_false_iff_eq, Bool.true_eq_false, Bool.false_eq_true, true_iff, false_iff, iff_true, iff_false, not_and, not_or] at *); (first | omega | grind))))); done)))

def lv_spec_l1Has : Nat → List Nat
  | 0 => [0, 1]
  | 1 => [0, 1, 5]
  | 2 => [0, 1, 5, 9]
  | 3 => [0, 1, 5]
  | 4 => [0, 1, 5, 17]
  | 5 => [4]
  | 6 => [4]
  | _ => []
theorem enter_spec_l1Has (args : Array Value) (w : World) : (callFunc 97 args).run Try.prog w = .ok (.enter 97 args) w := callFunc_enter Try.func97 (by decide) rfl args w
set_option maxHeartbeats 1000000 in
theorem spec_l1Has (xs : List Int) (n : Int) : Con Try.prog 97 [.ints xs, .i n] (.bool (has xs n)) := by
  refine Con.fit enter_spec_l1Has fun hfit => ?_
  have hb_xs : xs.length ≤ 9223372036854775807 := GFits.ints (show GFits (.ints xs) from hfit 0 (Nat.le_of_ble_eq_true rfl))
  clear hfit
  refine gCon lv_spec_l1Has tab_ok (rs := [.tmp 4]) (sl := [(0, .g (.ints xs)), (1, .g (.i n))]) Try.func97 rfl Try.ntmps97 rfl enter_spec_l1Has rfl (by repeat constructor) ?_
  (repeat' (first | ((with_reducible apply gLI.cone); (. exact RF.mk ⟨rfl, rfl⟩)) | (with_reducible constructor) | exact NE.mk rfl | exact RF.mk rfl | exact NU.mk (by first | omega | (simp only [LNs]; omega)) | ((with_reducible apply SLT_mk); (. rfl); (. rfl); (. rfl); (. rfl)) | (with_reducible intro hc; (try simp only [HCs] at hc)) | exact OB_f | (with_reducible first | apply gNK | apply TX_seq | apply QA_and_n | apply QA_and_e | apply QA_and_r | apply gTX_cond | apply CK_if | apply TX_skip | apply TX_ret | apply TX_exit | apply QA_in_eq | apply QA_in_n | apply QA_in_r | apply QA_lp_e | apply QA_lp_r | apply gEND_1) | apply gTX_rgW tab_ok | (apply TX_blk; exact RF.mk rfl) | (refine TX_loop (id := 0) (ι := Nat) (fun i => ⟨[(0, .g (.ints xs)), (1, .g (.i n)), (5, .g (.i i))], []⟩) (fun i => (i ≤ xs.length) ∧ (∀ z, z < i → (fun i => !(nth xs i == n)) z = true)) (fun i => xs.length - i) (0) ?_ ?_ ?_; (. ((first | apply gLX0 | apply gLX1 | apply gLX2 | apply gLX3 | apply gLX4 | apply gLX5 | apply gLX6 | apply gLX7 | apply gLX8 | apply gLX9 | apply gLX10) <;> (repeat' (first | (with_reducible constructor) | exact NE.mk rfl | exact RF.mk rfl | exact RF.mk ⟨rfl, rfl⟩ | exact RF.mk ⟨rfl, rfl, rfl⟩ | exact EQ.mk rfl | exact RF.mk (by decide) | (with_reducible apply EQ_int) | exact EQ.mk (by first | omega | (simp only [LNs]; omega)))))); (. (exact ⟨by omega, allN_zero⟩)); (rintro i ⟨h1, h2⟩; (show TX _ _ _ _ _ [(0, .g (.ints xs)), (1, .g (.i n)), (5, .g (.i i))] [] _))) | apply gSel.ccons))
  (all_goals (first | (refine QA_lp (i + 1) ?_ ?_ ?_; (· ((first | apply gLX0 | apply gLX1 | apply gLX2 | apply gLX3 | apply gLX4 | apply gLX5 | apply gLX6 | apply gLX7 | apply gLX8 | apply gLX9 | apply gLX10) <;> (repeat' (first | (with_reducible constructor) | exact NE.mk rfl | exact RF.mk rfl | exact RF.mk ⟨rfl, rfl⟩ | exact RF.mk ⟨rfl, rfl, rfl⟩ | exact EQ.mk rfl | exact RF.mk (by decide) | (with_reducible apply EQ_int) | exact EQ.mk (by first | omega | (simp only [LNs]; omega)))))); (· ((refine ⟨by omega, allN_step h2 ?_⟩; ((try simp only [Bool.and_eq_true, Bool.or_eq_true, Bool.and_eq_false_iff, Bool.or_eq_false_iff, decide_eq_true_eq, decide_eq_false_iff_not, Bool.not_eq_true', Bool.not_eq_false', beq_iff_eq, bne_iff_ne, ne_eq, beq_eq_false_iff_ne, bne_eq_false_iff_eq] at *); (first | omega | assumption | grind))))); (· (((try dsimp only); omega)))) | (((first | (refine EQ_bool ?_; (try unfold has); first | rfl | exact Eq.symm (allN_true fun j hj => h2 j (by omega)) | (refine Eq.symm (allN_false i (by omega) ?_); ((try simp only [Bool.and_eq_true, Bool.or_eq_true, Bool.and_eq_false_iff, Bool.or_eq_false_iff, decide_eq_true_eq, decide_eq_false_iff_not, Bool.not_eq_true', Bool.not_eq_false', beq_iff_eq, bne_iff_ne, ne_eq, beq_eq_false_iff_ne, bne_eq_false_iff_eq] at *); (first | omega | assumption | grind))) | exact Eq.symm (nallN_false fun j hj => h2 j (by omega)) | (refine Eq.symm (nallN_true i (by omega) ?_); ((try simp only [Bool.and_eq_true, Bool.or_eq_true, Bool.and_eq_false_iff, Bool.or_eq_false_iff, decide_eq_true_eq, decide_eq_false_iff_not, Bool.not_eq_true', Bool.not_eq_false', beq_iff_eq, bne_iff_ne, ne_eq, beq_eq_false_iff_ne, bne_eq_false_iff_eq] at *); (first | omega | assumption | grind))) | ((try simp only [Bool.and_eq_true, Bool.or_eq_true, Bool.and_eq_false_iff, Bool.or_eq_false_iff, decide_eq_true_eq, decide_eq_false_iff_not, Bool.not_eq_true', Bool.not_eq_false', beq_iff_eq, bne_iff_ne, ne_eq, beq_eq_false_iff_ne, bne_eq_false_iff_eq] at *); (first | omega | assumption | grind))))); done)))

def lv_spec_l1Place : Nat → List Nat
  | 0 => [0, 1]
  | 1 => [0, 1, 5]
  | 2 => [0, 1, 5, 9]
  | 3 => [0, 1, 5]
  | 4 => [0, 1, 5, 17]
  | 5 => [4]
  | 6 => [4]
  | _ => []
theorem enter_spec_l1Place (args : Array Value) (w : World) : (callFunc 51 args).run Try.prog w = .ok (.enter 51 args) w := callFunc_enter Try.func51 (by decide) rfl args w
set_option maxHeartbeats 1000000 in
theorem spec_l1Place (xs : List Int) (n : Int) : Con Try.prog 51 [.ints xs, .i n] (.i (place xs n)) := by
  refine Con.fit enter_spec_l1Place fun hfit => ?_
  have hb_xs : xs.length ≤ 9223372036854775807 := GFits.ints (show GFits (.ints xs) from hfit 0 (Nat.le_of_ble_eq_true rfl))
  clear hfit
  refine gCon lv_spec_l1Place tab_ok (rs := [.tmp 4]) (sl := [(0, .g (.ints xs)), (1, .g (.i n))]) Try.func51 rfl Try.ntmps51 rfl enter_spec_l1Place rfl (by repeat constructor) ?_
  (repeat' (first | ((with_reducible apply gLI.cone); (. exact RF.mk ⟨rfl, rfl⟩)) | (with_reducible constructor) | exact NE.mk rfl | exact RF.mk rfl | exact NU.mk (by first | omega | (simp only [LNs]; omega)) | ((with_reducible apply SLT_mk); (. rfl); (. rfl); (. rfl); (. rfl)) | (with_reducible intro hc; (try simp only [HCs] at hc)) | exact OB_f | (with_reducible first | apply gNK | apply TX_seq | apply QA_and_n | apply QA_and_e | apply QA_and_r | apply gTX_cond | apply CK_if | apply TX_skip | apply TX_ret | apply TX_exit | apply QA_in_eq | apply QA_in_n | apply QA_in_r | apply QA_lp_e | apply QA_lp_r | apply gEND_1) | apply gTX_rgW tab_ok | (apply TX_blk; exact RF.mk rfl) | (refine TX_loop (id := 0) (ι := Nat) (fun i => ⟨[(0, .g (.ints xs)), (1, .g (.i n)), (5, .g (.i i))], []⟩) (fun i => (i ≤ xs.length) ∧ (∀ z, z < i → (fun i => nth xs i == n) z = false)) (fun i => xs.length - i) (0) ?_ ?_ ?_; (. ((first | apply gLX0 | apply gLX1 | apply gLX2 | apply gLX3 | apply gLX4 | apply gLX5 | apply gLX6 | apply gLX7 | apply gLX8 | apply gLX9 | apply gLX10) <;> (repeat' (first | (with_reducible constructor) | exact NE.mk rfl | exact RF.mk rfl | exact RF.mk ⟨rfl, rfl⟩ | exact RF.mk ⟨rfl, rfl, rfl⟩ | exact EQ.mk rfl | exact RF.mk (by decide) | (with_reducible apply EQ_int) | exact EQ.mk (by first | omega | (simp only [LNs]; omega)))))); (. (exact ⟨by omega, noneN_zero⟩)); (rintro i ⟨h1, h2⟩; (show TX _ _ _ _ _ [(0, .g (.ints xs)), (1, .g (.i n)), (5, .g (.i i))] [] _))) | apply gSel.ccons))
  (all_goals (first | (refine QA_lp (i + 1) ?_ ?_ ?_; (· ((first | apply gLX0 | apply gLX1 | apply gLX2 | apply gLX3 | apply gLX4 | apply gLX5 | apply gLX6 | apply gLX7 | apply gLX8 | apply gLX9 | apply gLX10) <;> (repeat' (first | (with_reducible constructor) | exact NE.mk rfl | exact RF.mk rfl | exact RF.mk ⟨rfl, rfl⟩ | exact RF.mk ⟨rfl, rfl, rfl⟩ | exact EQ.mk rfl | exact RF.mk (by decide) | (with_reducible apply EQ_int) | exact EQ.mk (by first | omega | (simp only [LNs]; omega)))))); (· ((refine ⟨by omega, noneN_step h2 ?_⟩; ((try simp only [Bool.and_eq_true, Bool.or_eq_true, Bool.and_eq_false_iff, Bool.or_eq_false_iff, decide_eq_true_eq, decide_eq_false_iff_not, Bool.not_eq_true', Bool.not_eq_false', beq_iff_eq, bne_iff_ne, ne_eq, beq_eq_false_iff_ne, bne_eq_false_iff_eq] at *); (first | omega | assumption | grind))))); (· (((try dsimp only); omega)))) | (((refine EQ_int (EQ.mk ?_); (try unfold place); first | exact Eq.symm (firstN_none fun j hj => h2 j (by omega)) | (refine Eq.symm (firstN_at i (by omega) ?_ h2); ((try simp only [Bool.and_eq_true, Bool.or_eq_true, Bool.and_eq_false_iff, Bool.or_eq_false_iff, decide_eq_true_eq, decide_eq_false_iff_not, Bool.not_eq_true', Bool.not_eq_false', beq_iff_eq, bne_iff_ne, ne_eq, beq_eq_false_iff_ne, bne_eq_false_iff_eq] at *); (first | omega | assumption | grind))))); done)))

def lv_spec_l1Same : Nat → List Nat
  | 0 => [0, 1]
  | 1 => [0, 1, 10]
  | 2 => [4]
  | 3 => [0, 1, 5]
  | 4 => [0, 1, 5, 14]
  | 5 => [0, 1, 5]
  | 6 => [0, 1, 5, 25]
  | 7 => [4]
  | 8 => [4]
  | _ => []
theorem enter_spec_l1Same (args : Array Value) (w : World) : (callFunc 90 args).run Try.prog w = .ok (.enter 90 args) w := callFunc_enter Try.func90 (by decide) rfl args w
set_option maxHeartbeats 1000000 in
theorem spec_l1Same (xs ys : List Int) : Con Try.prog 90 [.ints xs, .ints ys] (.bool (decide (xs = ys))) := by
  refine Con.fit enter_spec_l1Same fun hfit => ?_
  have hb_xs : xs.length ≤ 9223372036854775807 := GFits.ints (show GFits (.ints xs) from hfit 0 (Nat.le_of_ble_eq_true rfl))
  have hb_ys : ys.length ≤ 9223372036854775807 := GFits.ints (show GFits (.ints ys) from hfit 1 (Nat.le_of_ble_eq_true rfl))
  clear hfit
  refine gCon lv_spec_l1Same tab_ok (rs := [.tmp 4]) (sl := [(0, .g (.ints xs)), (1, .g (.ints ys))]) Try.func90 rfl Try.ntmps90 rfl enter_spec_l1Same rfl (by repeat constructor) ?_
  (repeat' (first | ((with_reducible apply gLI.cone); (. exact RF.mk ⟨rfl, rfl⟩)) | (with_reducible constructor) | exact NE.mk rfl | exact RF.mk rfl | exact NU.mk (by first | omega | (simp only [LNs]; omega)) | ((with_reducible apply SLT_mk); (. rfl); (. rfl); (. rfl); (. rfl)) | (with_reducible intro hc; (try simp only [HCs] at hc)) | exact OB_f | ((with_reducible apply OB_t); kernel_rfl) | (with_reducible first | apply gNK | apply TX_seq | apply QA_and_n | apply QA_and_e | apply QA_and_r | apply gTX_cond | apply CK_if | apply TX_skip | apply TX_ret | apply TX_exit | apply QA_in_eq | apply QA_in_n | apply QA_in_r | apply QA_lp_e | apply QA_lp_r | apply gEND_1) | apply gTX_rgW tab_ok | apply gTX_rgD tab_ok rfl | (apply TX_blk; exact RF.mk rfl) | (refine TX_loop (id := 0) (ι := Nat) (fun i => ⟨[(0, .g (.ints xs)), (1, .g (.ints ys)), (5, .g (.i i))], []⟩) (fun i => (i ≤ xs.length) ∧ (∀ z, z < i → (fun i => decide (nth xs i = nth ys i)) z = true) ∧ (xs.length = ys.length)) (fun i => xs.length - i) (0) ?_ ?_ ?_; (. ((first | apply gLX0 | apply gLX1 | apply gLX2 | apply gLX3 | apply gLX4 | apply gLX5 | apply gLX6 | apply gLX7 | apply gLX8 | apply gLX9 | apply gLX10) <;> (repeat' (first | (with_reducible constructor) | exact NE.mk rfl | exact RF.mk rfl | exact RF.mk ⟨rfl, rfl⟩ | exact RF.mk ⟨rfl, rfl, rfl⟩ | exact EQ.mk rfl | exact RF.mk (by decide) | (with_reducible apply EQ_int) | exact EQ.mk (by first | omega | (simp only [LNs]; omega)))))); (. (exact ⟨by omega, allN_zero, by omega⟩)); (rintro i ⟨h1, h2, h3⟩; (show TX _ _ _ _ _ [(0, .g (.ints xs)), (1, .g (.ints ys)), (5, .g (.i i))] [] _))) | apply gSel.ccons))
  (all_goals (first | (refine QA_lp (i + 1) ?_ ?_ ?_; (· ((first | apply gLX0 | apply gLX1 | apply gLX2 | apply gLX3 | apply gLX4 | apply gLX5 | apply gLX6 | apply gLX7 | apply gLX8 | apply gLX9 | apply gLX10) <;> (repeat' (first | (with_reducible constructor) | exact NE.mk rfl | exact RF.mk rfl | exact RF.mk ⟨rfl, rfl⟩ | exact RF.mk ⟨rfl, rfl, rfl⟩ | exact EQ.mk rfl | exact RF.mk (by decide) | (with_reducible apply EQ_int) | exact EQ.mk (by first | omega | (simp only [LNs]; omega)))))); (· ((refine ⟨by omega, allN_step h2 ?_, h3⟩; ((try simp only [Bool.and_eq_true, Bool.or_eq_true, Bool.and_eq_false_iff, Bool.or_eq_false_iff, decide_eq_true_eq, decide_eq_false_iff_not, Bool.not_eq_true', Bool.not_eq_false', beq_iff_eq, bne_iff_ne, ne_eq, beq_eq_false_iff_ne, bne_eq_false_iff_eq] at *); (first | omega | assumption | grind))))); (· (((try dsimp only); omega)))) | (((refine EQ_bool ?_; first | (rw [eq_comm, decide_eq_false_iff_not]; intro e; subst e; first | exact absurd rfl (by assumption) | simp_all | grind) | (rw [← decide_rows (by omega)]; refine (allN_true fun j hj => h2 j (by omega)).symm))); done)))

def lv_laws_eqInt64S : Nat → List Nat
  | 0 => [0, 1]
  | 1 => [0, 1, 10]
  | 2 => [4]
  | 3 => [0, 1, 5]
  | 4 => [0, 1, 5, 14]
  | 5 => [0, 1, 5]
  | 6 => [0, 1, 5, 25]
  | 7 => [4]
  | 8 => [4]
  | _ => []
theorem enter_laws_eqInt64S (args : Array Value) (w : World) : (callFunc 12 args).run Try.prog w = .ok (.enter 12 args) w := callFunc_enter Try.func12 (by decide) rfl args w
set_option maxHeartbeats 1000000 in
theorem laws_eqInt64S (xs ys : List Int) : Con Try.prog 12 [.ints xs, .ints ys] (.bool (decide (xs = ys))) := by
  refine Con.fit enter_laws_eqInt64S fun hfit => ?_
  have hb_xs : xs.length ≤ 9223372036854775807 := GFits.ints (show GFits (.ints xs) from hfit 0 (Nat.le_of_ble_eq_true rfl))
  have hb_ys : ys.length ≤ 9223372036854775807 := GFits.ints (show GFits (.ints ys) from hfit 1 (Nat.le_of_ble_eq_true rfl))
  clear hfit
  refine gCon lv_laws_eqInt64S tab_ok (rs := [.tmp 4]) (sl := [(0, .g (.ints xs)), (1, .g (.ints ys))]) Try.func12 rfl Try.ntmps12 rfl enter_laws_eqInt64S rfl (by repeat constructor) ?_
  (repeat' (first | ((with_reducible apply gLI.cone); (. exact RF.mk ⟨rfl, rfl⟩)) | (with_reducible constructor) | exact NE.mk rfl | exact RF.mk rfl | exact NU.mk (by first | omega | (simp only [LNs]; omega)) | ((with_reducible apply SLT_mk); (. rfl); (. rfl); (. rfl); (. rfl)) | (with_reducible intro hc; (try simp only [HCs] at hc)) | exact OB_f | ((with_reducible apply OB_t); kernel_rfl) | (with_reducible first | apply gNK | apply TX_seq | apply QA_and_n | apply QA_and_e | apply QA_and_r | apply gTX_cond | apply CK_if | apply TX_skip | apply TX_ret | apply TX_exit | apply QA_in_eq | apply QA_in_n | apply QA_in_r | apply QA_lp_e | apply QA_lp_r | apply gEND_1) | apply gTX_rgW tab_ok | apply gTX_rgD tab_ok rfl | (apply TX_blk; exact RF.mk rfl) | (refine TX_loop (id := 0) (ι := Nat) (fun i => ⟨[(0, .g (.ints xs)), (1, .g (.ints ys)), (5, .g (.i i))], []⟩) (fun i => (i ≤ xs.length) ∧ (∀ z, z < i → (fun i => decide (nth xs i = nth ys i)) z = true) ∧ (xs.length = ys.length)) (fun i => xs.length - i) (0) ?_ ?_ ?_; (. ((first | apply gLX0 | apply gLX1 | apply gLX2 | apply gLX3 | apply gLX4 | apply gLX5 | apply gLX6 | apply gLX7 | apply gLX8 | apply gLX9 | apply gLX10) <;> (repeat' (first | (with_reducible constructor) | exact NE.mk rfl | exact RF.mk rfl | exact RF.mk ⟨rfl, rfl⟩ | exact RF.mk ⟨rfl, rfl, rfl⟩ | exact EQ.mk rfl | exact RF.mk (by decide) | (with_reducible apply EQ_int) | exact EQ.mk (by first | omega | (simp only [LNs]; omega)))))); (. (exact ⟨by omega, allN_zero, by omega⟩)); (rintro i ⟨h1, h2, h3⟩; (show TX _ _ _ _ _ [(0, .g (.ints xs)), (1, .g (.ints ys)), (5, .g (.i i))] [] _))) | apply gSel.ccons))
  (all_goals (first | (refine QA_lp (i + 1) ?_ ?_ ?_; (· ((first | apply gLX0 | apply gLX1 | apply gLX2 | apply gLX3 | apply gLX4 | apply gLX5 | apply gLX6 | apply gLX7 | apply gLX8 | apply gLX9 | apply gLX10) <;> (repeat' (first | (with_reducible constructor) | exact NE.mk rfl | exact RF.mk rfl | exact RF.mk ⟨rfl, rfl⟩ | exact RF.mk ⟨rfl, rfl, rfl⟩ | exact EQ.mk rfl | exact RF.mk (by decide) | (with_reducible apply EQ_int) | exact EQ.mk (by first | omega | (simp only [LNs]; omega)))))); (· ((refine ⟨by omega, allN_step h2 ?_, h3⟩; ((try simp only [Bool.and_eq_true, Bool.or_eq_true, Bool.and_eq_false_iff, Bool.or_eq_false_iff, decide_eq_true_eq, decide_eq_false_iff_not, Bool.not_eq_true', Bool.not_eq_false', beq_iff_eq, bne_iff_ne, ne_eq, beq_eq_false_iff_ne, bne_eq_false_iff_eq] at *); (first | omega | assumption | grind))))); (· (((try dsimp only); omega)))) | (((refine EQ_bool ?_; first | (rw [eq_comm, decide_eq_false_iff_not]; intro e; subst e; first | exact absurd rfl (by assumption) | simp_all | grind) | (rw [← decide_rows (by omega)]; refine (allN_true fun j hj => h2 j (by omega)).symm))); done)))

end Go.Proofs.Ytabfpoflhacknaa

