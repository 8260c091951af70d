/- Contracts: interfaces, words, clauses. No conditions but those that each theorem names. -/
import Derived.Test.YtabfpoflhacknaaTab
import Derived.Test.YtabfpoflhacknaaKG
import Derived.Test.YtabfpoflhacknaaW1
import Derived.Test.YtabfpoflhacknaaT2
import Derived.Test.YtabfpoflhacknaaChecked
set_option linter.unusedSimpArgs false
set_option linter.unusedVariables false
namespace Go.Proofs.Ytabfpoflhacknaa
open Go.RowKit
open Shp

def lv_spec_SigOk : Nat → List Nat
  | 0 => [1]
  | 1 => [2]
  | _ => []
theorem enter_spec_SigOk (args : Array Value) (w : World) : (callFunc 68 args).run Try.prog w = .ok (.enter 68 args) w := callFunc_enter Try.func68 (by decide) rfl args w
set_option maxHeartbeats 1000000 in
theorem spec_SigOk (i o : Int) : Con Try.prog 68 [.sig i o] (.bool (sigB i o)) := by
  refine gCon lv_spec_SigOk tab_ok (rs := [.tmp 2]) (sl := [(0, .g (.sig i o))]) Try.func68 rfl Try.ntmps68 rfl enter_spec_SigOk rfl (by repeat constructor) ?_
  (repeat' (first | ((with_reducible apply gLB.cone); (. exact RF.mk ⟨rfl, rfl⟩)) | (with_reducible constructor) | exact NE.mk rfl | exact RF.mk rfl | ((with_reducible apply FO_mk); (. rfl); (. rfl); (. rfl); (. rfl); (. rfl)) | ((with_reducible apply CON_of); first | apply spec_l1In) | (with_reducible intro hc; (try simp only [HCs] at hc)) | exact OB_f | (with_reducible first | apply gNK | apply TX_seq | apply QA_and_n | apply TX_ret | apply gEND_1) | apply gTX_rgW tab_ok | apply gSel.ccons))
  (all_goals (first | (((refine EQ_bool ?_; (try unfold sigB); (first | rfl | (simp_all; done) | (rw [Bool.eq_iff_iff]; (try simp only [Bool.and_eq_true, Bool.or_eq_true, Bool.and_eq_false_iff, Bool.or_eq_false_iff, decide_eq_true_eq, decide_eq_false_iff_not, Bool.not_eq_true', Bool.not_eq_false', beq_iff_eq, bne_iff_ne, ne_eq, beq_eq_false_iff_ne, bne_eq_false_iff_eq, Bool.true_eq_false, Bool.false_eq_true, true_iff, false_iff, iff_true, iff_false, not_and, not_or] at *); (first | omega | grind))))); done)))

def lv_impl_isSig : Nat → List Nat
  | 0 => [1]
  | 1 => [2]
  | _ => []
theorem enter_impl_isSig (args : Array Value) (w : World) : (callFunc 44 args).run Try.prog w = .ok (.enter 44 args) w := callFunc_enter Try.func44 (by decide) rfl args w
set_option maxHeartbeats 1000000 in
theorem impl_isSig (i o : Int) : Con Try.prog 44 [.sig i o] (.bool (sigB i o)) := by
  refine gCon lv_impl_isSig tab_ok (rs := [.tmp 2]) (sl := [(0, .g (.sig i o))]) Try.func44 rfl Try.ntmps44 rfl enter_impl_isSig rfl (by repeat constructor) ?_
  (repeat' (first | ((with_reducible apply gLB.cone); (. exact RF.mk ⟨rfl, rfl⟩)) | (with_reducible constructor) | exact NE.mk rfl | exact RF.mk rfl | ((with_reducible apply FO_mk); (. rfl); (. rfl); (. rfl); (. rfl); (. rfl)) | (with_reducible intro hc; (try simp only [HCs] at hc)) | exact OB_f | (with_reducible first | apply gNK | apply TX_seq | apply QA_and_n | apply TX_ret | apply gEND_1) | apply gTX_rgW tab_ok | apply gSel.ccons))
  (all_goals (first | (((refine EQ_bool ?_; (try unfold sigB); (first | rfl | (simp_all; done) | (rw [Bool.eq_iff_iff]; (try simp only [Bool.and_eq_true, Bool.or_eq_true, Bool.and_eq_false_iff, Bool.or_eq_false_iff, decide_eq_true_eq, decide_eq_false_iff_not, Bool.not_eq_true', Bool.not_eq_false', beq_iff_eq, bne_iff_ne, ne_eq, beq_eq_false_iff_ne, bne_eq_false_iff_eq, Bool.true_eq_false, Bool.false_eq_true, true_iff, false_iff, iff_true, iff_false, not_and, not_or] at *); (first | omega | grind))))); done)))

def lv_spec_l23Power : Nat → List Nat
  | 0 => [0]
  | 1 => [0, 3]
  | 2 => [0, 3, 5]
  | 3 => [0, 3]
  | 4 => [0, 3]
  | 5 => [2]
  | _ => []
theorem enter_spec_l23Power (args : Array Value) (w : World) : (callFunc 82 args).run Try.prog w = .ok (.enter 82 args) w := callFunc_enter Try.func82 (by decide) rfl args w
set_option maxHeartbeats 1000000 in
theorem spec_l23Power (n : Int) (hn : NU (-10 ≤ n ∧ n ≤ 10)) : Con Try.prog 82 [.i n] (.i (pw n)) := by
  have hn := hn.e
  refine gCon lv_spec_l23Power tab_ok (rs := [.tmp 2]) (sl := [(0, .g (.i n))]) Try.func82 rfl Try.ntmps82 rfl enter_spec_l23Power rfl (by repeat constructor) ?_
  (repeat' (first | (with_reducible constructor) | exact NE.mk rfl | exact RF.mk rfl | exact NU.mk (by first | omega | (simp only [LNs]; omega) | (first | omega | (have q := p2_le i (by omega); omega))) | (with_reducible intro hc; (try simp only [HCs] at hc)) | exact OB_f | (with_reducible first | apply gNK | apply TX_seq | apply QA_and_n | apply QA_and_e | apply gTX_cond | apply CK_if | apply TX_skip | apply TX_ret | apply TX_exit | apply QA_in_eq | apply QA_in_n | apply QA_lp_e | apply gEND_1) | apply gTX_rgW tab_ok | (apply TX_blk; exact RF.mk rfl) | (refine TX_loop (id := 0) (ι := Nat) (fun i => ⟨[(0, .g (.i (n - i))), (3, .g (.i (2 ^ i)))], []⟩) (fun i => (i ≤ n.toNat)) (fun i => n.toNat - i) (0) ?_ ?_ ?_; (. ((first | apply gLX0 | apply gLX1 | apply gLX2 | apply gLX3 | apply gLX4 | apply gLX5 | apply gLX6 | apply gLX7 | apply gLX8 | apply gLX9 | apply gLX10) <;> (repeat' (first | (with_reducible constructor) | exact NE.mk rfl | exact RF.mk rfl | exact RF.mk ⟨rfl, rfl⟩ | exact RF.mk ⟨rfl, rfl, rfl⟩ | exact EQ.mk rfl | exact RF.mk (by decide) | (with_reducible apply EQ_int) | exact EQ.mk (by first | omega | (simp only [LNs]; omega) | (first | omega | (have q := p2_le i (by omega); omega))))); (all_goals ((first | exact EQ.mk (by omega) | exact EQ.mk (by rw [Int.pow_succ])); done)))); (. (omega)); (rintro i h1; (show TX _ _ _ _ _ [(0, .g (.i (n - i))), (3, .g (.i (2 ^ i)))] [] _))) | apply gSel.ccons))
  (all_goals (first | (refine QA_lp (i + 1) ?_ ?_ ?_; (· ((first | apply gLX0 | apply gLX1 | apply gLX2 | apply gLX3 | apply gLX4 | apply gLX5 | apply gLX6 | apply gLX7 | apply gLX8 | apply gLX9 | apply gLX10) <;> (repeat' (first | (with_reducible constructor) | exact NE.mk rfl | exact RF.mk rfl | exact RF.mk ⟨rfl, rfl⟩ | exact RF.mk ⟨rfl, rfl, rfl⟩ | exact EQ.mk rfl | exact RF.mk (by decide) | (with_reducible apply EQ_int) | exact EQ.mk (by first | omega | (simp only [LNs]; omega) | (first | omega | (have q := p2_le i (by omega); omega))))); (all_goals ((first | exact EQ.mk (by omega) | exact EQ.mk (by rw [Int.pow_succ])); done)))); (· (omega)); (· (((try dsimp only); omega)))) | (((refine EQ_int (EQ.mk ?_); unfold pw; rw [show i = n.toNat by omega])); done)))

def lv_impl_lettersOf : Nat → List Nat
  | 0 => [1]
  | 1 => [2]
  | _ => []
theorem enter_impl_lettersOf (args : Array Value) (w : World) : (callFunc 63 args).run Try.prog w = .ok (.enter 63 args) w := callFunc_enter Try.func63 (by decide) rfl args w
set_option maxHeartbeats 1000000 in
theorem impl_lettersOf (i o : Int) (hn : NU (0 ≤ i ∧ i ≤ 4 ∧ 0 ≤ o ∧ o ≤ 4)) : Con Try.prog 63 [.sig i o] (.i (pw (i + o))) := by
  have hn := hn.e
  refine gCon lv_impl_lettersOf tab_ok (rs := [.tmp 2]) (sl := [(0, .g (.sig i o))]) Try.func63 rfl Try.ntmps63 rfl enter_impl_lettersOf rfl (by repeat constructor) ?_
  (repeat' (first | ((with_reducible apply gLB.cone); (. exact RF.mk ⟨rfl, rfl⟩)) | (with_reducible constructor) | exact NE.mk rfl | exact RF.mk rfl | exact NU.mk (by first | omega | (simp only [LNs]; omega) | (first | omega | exact ⟨by omega, by omega, by omega, by have := p2_le (i + o).toNat (by omega); omega⟩)) | ((with_reducible apply FO_mk); (. rfl); (. rfl); (. rfl); (. rfl); (. rfl)) | exact OB_f | (with_reducible first | apply gNK | apply TX_seq | apply QA_and_n | apply TX_ret | apply gEND_1) | apply gTX_rgW tab_ok | apply gSel.ccons))
  (all_goals (first | (((refine EQ_int (EQ.mk ?_); unfold pw; simp)); done)))

def lv_spec_LettersOf : Nat → List Nat
  | 0 => [1]
  | 1 => [1, 5]
  | 2 => [2]
  | 3 => [2]
  | _ => []
theorem enter_spec_LettersOf (args : Array Value) (w : World) : (callFunc 61 args).run Try.prog w = .ok (.enter 61 args) w := callFunc_enter Try.func61 (by decide) rfl args w
set_option maxHeartbeats 1000000 in
theorem spec_LettersOf (i o : Int) : Con Try.prog 61 [.sig i o] (.i (lettersB i o)) := by
  refine gCon lv_spec_LettersOf tab_ok (rs := [.tmp 2]) (sl := [(0, .g (.sig i o))]) Try.func61 rfl Try.ntmps61 rfl enter_spec_LettersOf rfl (by repeat constructor) ?_
  (repeat' (first | ((with_reducible apply gLB.cagg); (. exact RF.mk ⟨rfl, rfl, rfl⟩)) | ((with_reducible apply gLB.cone); (. exact RF.mk ⟨rfl, rfl⟩)) | (with_reducible constructor) | exact NE.mk rfl | exact RF.mk rfl | exact NU.mk (by first | omega | (simp only [LNs]; omega) | (first | omega | (have q := sigB_r (by assumption); omega))) | ((with_reducible apply FO_mk); (. rfl); (. rfl); (. rfl); (. rfl); (. rfl)) | ((with_reducible apply CON_of); first | apply spec_SigOk | apply spec_l23Power) | (with_reducible intro hc; (try simp only [HCs] at hc)) | exact OB_f | (with_reducible first | apply gNK | apply TX_seq | apply QA_and_n | apply QA_and_r | apply gTX_cond | apply CK_if | apply TX_skip | apply TX_ret | apply gEND_1) | apply gTX_rgW tab_ok | apply gSel.ccons))
  (all_goals (first | (((refine EQ_int (EQ.mk ?_); unfold lettersB; simp_all)); done)))

def lv_IndexFunc_int64 : Nat → List Nat
  | 0 => [0, 1]
  | 1 => [0, 1, 7, 8]
  | 2 => [0, 1, 7, 8, 9]
  | 3 => [0, 1, 5, 7, 8]
  | 4 => [0, 1, 5, 7, 8, 16]
  | 5 => [4]
  | 6 => [0, 1, 7, 8]
  | 7 => [4]
  | _ => []
theorem enter_IndexFunc_int64 (args : Array Value) (w : World) : (callFunc 125 args).run Try.prog w = .ok (.enter 125 args) w := callFunc_enter Try.func125 (by decide) rfl args w
set_option maxHeartbeats 1000000 in
theorem IndexFunc_int64 (xs : List (Int)) (f : FuncId) (caps : List GV) (p : Int → Bool) (hf : HY (∀ x : Int, Con Try.prog f (.i x :: caps) (.bool (p x)))) : Con Try.prog 125 [.ints xs, .fn f caps] (.i (firstN xs.length fun i => p (nth xs i))) := by
  have hf := hf.e
  refine Con.fit enter_IndexFunc_int64 fun hfit => ?_
  have hb_xs : xs.length ≤ 9223372036854775807 := GFits.ints (show GFits (.ints xs) from hfit 0 (Nat.le_of_ble_eq_true rfl))
  clear hfit
  refine gCon lv_IndexFunc_int64 tab_ok (rs := [.tmp 4]) (sl := [(0, .g (.ints xs)), (1, .g (.fn f caps))]) Try.func125 rfl Try.ntmps125 rfl enter_IndexFunc_int64 rfl (by repeat constructor) ?_
  (repeat' (first | ((with_reducible apply gLI.cone); (. exact RF.mk ⟨rfl, rfl⟩)) | (with_reducible constructor) | exact NE.mk rfl | exact RF.mk rfl | exact NU.mk (by first | omega | (simp only [LNs]; omega)) | ((with_reducible apply SLT_mk); (. rfl); (. rfl); (. rfl); (. rfl)) | ((with_reducible apply CON_of); first | (exact hf _)) | (with_reducible intro hc; (try simp only [HCs] at hc)) | exact OB_f | (with_reducible first | apply gNK | apply TX_seq | apply QA_and_n | apply QA_and_e | apply QA_and_r | apply gTX_cond | apply CK_if | apply TX_skip | apply TX_ret | apply TX_exit | apply QA_in_eq | apply QA_in_n | apply QA_in_r | apply QA_lp_e | apply QA_lp_r | apply gEND_1) | apply gTX_rgW tab_ok | (apply TX_blk; exact RF.mk rfl) | (refine TX_loop (id := 0) (ι := Nat) (fun i => ⟨[(0, .g (.ints xs)), (1, .g (.fn f caps)), (7, .g (.i xs.length)), (8, .g (.i i))], []⟩) (fun i => (i ≤ xs.length) ∧ (∀ z, z < i → (fun i => p (nth xs i)) z = false)) (fun i => xs.length - i) (0) ?_ ?_ ?_; (. ((first | apply gLX0 | apply gLX1 | apply gLX2 | apply gLX3 | apply gLX4 | apply gLX5 | apply gLX6 | apply gLX7 | apply gLX8 | apply gLX9 | apply gLX10) <;> (repeat' (first | (with_reducible constructor) | exact NE.mk rfl | exact RF.mk rfl | exact RF.mk ⟨rfl, rfl⟩ | exact RF.mk ⟨rfl, rfl, rfl⟩ | exact EQ.mk rfl | exact RF.mk (by decide) | (with_reducible apply EQ_int) | exact EQ.mk (by first | omega | (simp only [LNs]; omega)))))); (. (exact ⟨by omega, noneN_zero⟩)); (rintro i ⟨h1, h2⟩; (show TX _ _ _ _ _ [(0, .g (.ints xs)), (1, .g (.fn f caps)), (7, .g (.i xs.length)), (8, .g (.i i))] [] _))) | apply gSel.ccons))
  (all_goals (first | (refine QA_lp (i + 1) ?_ ?_ ?_; (· ((first | apply gLX0 | apply gLX1 | apply gLX2 | apply gLX3 | apply gLX4 | apply gLX5 | apply gLX6 | apply gLX7 | apply gLX8 | apply gLX9 | apply gLX10) <;> (repeat' (first | (with_reducible constructor) | exact NE.mk rfl | exact RF.mk rfl | exact RF.mk ⟨rfl, rfl⟩ | exact RF.mk ⟨rfl, rfl, rfl⟩ | exact EQ.mk rfl | exact RF.mk (by decide) | (with_reducible apply EQ_int) | exact EQ.mk (by first | omega | (simp only [LNs]; omega)))))); (· ((refine ⟨by omega, noneN_step h2 ?_⟩; ((try simp only [Bool.and_eq_true, Bool.or_eq_true, Bool.and_eq_false_iff, Bool.or_eq_false_iff, decide_eq_true_eq, decide_eq_false_iff_not, Bool.not_eq_true', Bool.not_eq_false', beq_iff_eq, bne_iff_ne, ne_eq, beq_eq_false_iff_ne, bne_eq_false_iff_eq] at *); (first | omega | assumption | grind))))); (· (((try dsimp only); omega)))) | (((refine EQ_int (EQ.mk ?_); skip; first | exact Eq.symm (firstN_none fun j hj => h2 j (by omega)) | (refine Eq.symm (firstN_at i (by omega) ?_ h2); ((try simp only [Bool.and_eq_true, Bool.or_eq_true, Bool.and_eq_false_iff, Bool.or_eq_false_iff, decide_eq_true_eq, decide_eq_false_iff_not, Bool.not_eq_true', Bool.not_eq_false', beq_iff_eq, bne_iff_ne, ne_eq, beq_eq_false_iff_ne, bne_eq_false_iff_eq] at *); (first | omega | assumption | grind))))); done)))

def lv_ContainsFunc_int64 : Nat → List Nat
  | 0 => [0, 1]
  | 1 => [4]
  | _ => []
theorem enter_ContainsFunc_int64 (args : Array Value) (w : World) : (callFunc 112 args).run Try.prog w = .ok (.enter 112 args) w := callFunc_enter Try.func112 (by decide) rfl args w
set_option maxHeartbeats 1000000 in
theorem ContainsFunc_int64 (xs : List (Int)) (f : FuncId) (caps : List GV) (p : Int → Bool) (hf : HY (∀ x : Int, Con Try.prog f (.i x :: caps) (.bool (p x)))) : Con Try.prog 112 [.ints xs, .fn f caps] (.bool (!allN xs.length fun i => !p (nth xs i))) := by
  have hf := hf.e
  refine Con.fit enter_ContainsFunc_int64 fun hfit => ?_
  have hb_xs : xs.length ≤ 9223372036854775807 := GFits.ints (show GFits (.ints xs) from hfit 0 (Nat.le_of_ble_eq_true rfl))
  clear hfit
  refine gCon lv_ContainsFunc_int64 tab_ok (rs := [.tmp 4]) (sl := [(0, .g (.ints xs)), (1, .g (.fn f caps))]) Try.func112 rfl Try.ntmps112 rfl enter_ContainsFunc_int64 rfl (by repeat constructor) ?_
  (repeat' (first | (with_reducible constructor) | exact NE.mk rfl | exact RF.mk rfl | ((with_reducible apply CON_of); first | (exact IndexFunc_int64 xs f caps p (HY.mk hf))) | exact OB_f | (with_reducible first | apply gNK | apply TX_seq | apply QA_and_n | apply TX_ret | apply gEND_1) | apply gTX_rgW tab_ok | apply gSel.ccons))
  (all_goals (first | (((refine EQ_bool ?_; exact firstN_ge)); done)))

def lv_impl_areLetters_c1 : Nat → List Nat
  | 0 => [0, 1]
  | 1 => [3]
  | _ => []
theorem enter_impl_areLetters_c1 (args : Array Value) (w : World) : (callFunc 113 args).run Try.prog w = .ok (.enter 113 args) w := callFunc_enter Try.func113 (by decide) rfl args w
set_option maxHeartbeats 1000000 in
theorem impl_areLetters_c1 (x n : Int) : Con Try.prog 113 [.i x, .box [.i n]] (.bool (decide (x < 0) || decide (x ≥ n))) := by
  refine gCon lv_impl_areLetters_c1 tab_ok (rs := [.tmp 3]) (sl := [(0, .g (.i x)), (1, .g (.box [.i n]))]) Try.func113 rfl Try.ntmps113 rfl enter_impl_areLetters_c1 rfl (by repeat constructor) ?_
  (repeat' (first | ((with_reducible apply gLI.cone); (. exact RF.mk ⟨rfl, rfl⟩)) | (with_reducible constructor) | exact NE.mk rfl | exact RF.mk rfl | (with_reducible intro hc; (try simp only [HCs] at hc)) | exact OB_f | (with_reducible first | apply gNK | apply TX_seq | apply QA_and_n | apply TX_ret | apply gEND_1) | apply gTX_rgW tab_ok | apply gSel.ccons))
  (all_goals (first | (((refine EQ_bool ?_; skip; (first | rfl | (simp_all; done) | (rw [Bool.eq_iff_iff]; (try simp only [Bool.and_eq_true, Bool.or_eq_true, Bool.and_eq_false_iff, Bool.or_eq_false_iff, decide_eq_true_eq, decide_eq_false_iff_not, Bool.not_eq_true', Bool.not_eq_false', beq_iff_eq, bne_iff_ne, ne_eq, beq_eq_false_iff_ne, bne_eq_false_iff_eq, Bool.true_eq_false, Bool.false_eq_true, true_iff, false_iff, iff_true, iff_false, not_and, not_or] at *); (first | omega | grind))))); done)))

def lv_impl_areLetters : Nat → List Nat
  | 0 => [0, 3]
  | 1 => [4]
  | _ => []
theorem enter_impl_areLetters (args : Array Value) (w : World) : (callFunc 73 args).run Try.prog w = .ok (.enter 73 args) w := callFunc_enter Try.func73 (by decide) rfl args w
set_option maxHeartbeats 1000000 in
theorem impl_areLetters (xs : List Int) (n : Int) : Con Try.prog 73 [.ints xs, .i n] (.bool (below xs n)) := by
  refine Con.fit enter_impl_areLetters fun hfit => ?_
  have hb_xs : xs.length ≤ 9223372036854775807 := GFits.ints (show GFits (.ints xs) from hfit 0 (Nat.le_of_ble_eq_true rfl))
  clear hfit
  refine gCon lv_impl_areLetters tab_ok (rs := [.tmp 4]) (sl := [(0, .g (.ints xs)), (1, .g (.i n))]) Try.func73 rfl Try.ntmps73 rfl enter_impl_areLetters rfl (by repeat constructor) ?_
  (repeat' (first | (with_reducible constructor) | exact NE.mk rfl | exact RF.mk rfl | ((with_reducible apply CON_of); first | (exact ContainsFunc_int64 xs 113 [.box [.i n]] (fun x => decide (x < 0) || decide (x ≥ n)) (HY.mk fun x => impl_areLetters_c1 x n))) | exact OB_f | (with_reducible first | apply gNK | apply TX_seq | apply QA_and_n | apply TX_ret | apply gEND_1) | apply gTX_rgW tab_ok | apply gSel.ccons))
  (all_goals (first | (((refine EQ_bool ?_; rw [Bool.not_not]; unfold below; refine allN_congr fun j hj => ?_; rw [Bool.eq_iff_iff]; simp only [Bool.and_eq_true, Bool.or_eq_true, Bool.and_eq_false_iff, Bool.or_eq_false_iff, decide_eq_true_eq, decide_eq_false_iff_not, Bool.not_eq_true', Bool.not_eq_false', beq_iff_eq, bne_iff_ne, ne_eq, beq_eq_false_iff_ne, bne_eq_false_iff_eq]; first | omega | grind)); done)))

def lv_impl_isSet : Nat → List Nat
  | 0 => [0, 1]
  | 1 => [0, 1, 7, 8, 9]
  | 2 => [0, 1, 7, 8, 9, 10]
  | 3 => [0, 1, 5, 6, 7, 8, 9]
  | 4 => [0, 1, 7, 8, 9, 33]
  | 5 => [4]
  | 6 => [0, 1, 7, 8, 9]
  | 7 => [4]
  | _ => []
theorem enter_impl_isSet (args : Array Value) (w : World) : (callFunc 116 args).run Try.prog w = .ok (.enter 116 args) w := callFunc_enter Try.func116 (by decide) rfl args w
set_option maxHeartbeats 1000000 in
theorem impl_isSet (xs : List Int) (n : Int) : Con Try.prog 116 [.ints xs, .i n] (.bool (rises xs n)) := by
  refine Con.fit enter_impl_isSet fun hfit => ?_
  have hb_xs : xs.length ≤ 9223372036854775807 := GFits.ints (show GFits (.ints xs) from hfit 0 (Nat.le_of_ble_eq_true rfl))
  clear hfit
  refine gCon lv_impl_isSet tab_ok (rs := [.tmp 4]) (sl := [(0, .g (.ints xs)), (1, .g (.i n))]) Try.func116 rfl Try.ntmps116 rfl enter_impl_isSet rfl (by repeat constructor) ?_
  (repeat' (first | ((with_reducible apply gLI.cone); (. exact RF.mk ⟨rfl, rfl⟩)) | (with_reducible constructor) | exact NE.mk rfl | exact RF.mk rfl | exact NU.mk (by first | omega | (simp only [LNs]; omega)) | ((with_reducible apply SLT_mk); (. rfl); (. rfl); (. rfl); (. rfl)) | (with_reducible intro hc; (try simp only [HCs] at hc)) | exact OB_f | (with_reducible first | apply gNK | apply TX_seq | apply QA_and_n | apply QA_and_e | apply QA_and_r | apply gTX_cond | apply CK_t | apply CK_f | apply CK_if | apply TX_skip | apply TX_ret | apply TX_exit | apply QA_in_eq | apply QA_in_n | apply QA_in_r | apply QA_lp_e | apply QA_lp_r | apply gEND_1) | apply gTX_rgW tab_ok | (apply TX_blk; exact RF.mk rfl) | (refine TX_loop (id := 0) (ι := Nat) (fun i => ⟨[(0, .g (.ints xs)), (1, .g (.i n)), (7, .g (.ints xs)), (8, .g (.i xs.length)), (9, .g (.i i))], []⟩) (fun i => (i ≤ xs.length) ∧ (∀ z, z < i → (fun i => decide (0 ≤ nth xs i) && decide (nth xs i < n) && (decide (i = 0) || decide (nth xs (i - 1) < nth xs i))) z = true)) (fun i => xs.length - i) (0) ?_ ?_ ?_; (. ((first | apply gLX0 | apply gLX1 | apply gLX2 | apply gLX3 | apply gLX4 | apply gLX5 | apply gLX6 | apply gLX7 | apply gLX8 | apply gLX9 | apply gLX10) <;> (repeat' (first | (with_reducible constructor) | exact NE.mk rfl | exact RF.mk rfl | exact RF.mk ⟨rfl, rfl⟩ | exact RF.mk ⟨rfl, rfl, rfl⟩ | exact EQ.mk rfl | exact RF.mk (by decide) | (with_reducible apply EQ_int) | exact EQ.mk (by first | omega | (simp only [LNs]; omega)))))); (. (exact ⟨by omega, allN_zero⟩)); (rintro i ⟨h1, h2⟩; (show TX _ _ _ _ _ [(0, .g (.ints xs)), (1, .g (.i n)), (7, .g (.ints xs)), (8, .g (.i xs.length)), (9, .g (.i i))] [] _))) | apply gSel.ccons))
  (all_goals (first | (refine QA_lp (i + 1) ?_ ?_ ?_; (· ((first | apply gLX0 | apply gLX1 | apply gLX2 | apply gLX3 | apply gLX4 | apply gLX5 | apply gLX6 | apply gLX7 | apply gLX8 | apply gLX9 | apply gLX10) <;> (repeat' (first | (with_reducible constructor) | exact NE.mk rfl | exact RF.mk rfl | exact RF.mk ⟨rfl, rfl⟩ | exact RF.mk ⟨rfl, rfl, rfl⟩ | exact EQ.mk rfl | exact RF.mk (by decide) | (with_reducible apply EQ_int) | exact EQ.mk (by first | omega | (simp only [LNs]; omega)))))); (· ((refine ⟨by omega, allN_step h2 ?_⟩; ((try simp only [Bool.and_eq_true, Bool.or_eq_true, Bool.and_eq_false_iff, Bool.or_eq_false_iff, decide_eq_true_eq, decide_eq_false_iff_not, Bool.not_eq_true', Bool.not_eq_false', beq_iff_eq, bne_iff_ne, ne_eq, beq_eq_false_iff_ne, bne_eq_false_iff_eq] at *); (first | omega | assumption | grind))))); (· (((try dsimp only); omega)))) | (((first | (refine EQ_bool ?_; (try unfold rises); first | rfl | exact Eq.symm (allN_true fun j hj => h2 j (by omega)) | (refine Eq.symm (allN_false i (by omega) ?_); ((try simp only [Bool.and_eq_true, Bool.or_eq_true, Bool.and_eq_false_iff, Bool.or_eq_false_iff, decide_eq_true_eq, decide_eq_false_iff_not, Bool.not_eq_true', Bool.not_eq_false', beq_iff_eq, bne_iff_ne, ne_eq, beq_eq_false_iff_ne, bne_eq_false_iff_eq] at *); (first | omega | assumption | grind))) | exact Eq.symm (nallN_false fun j hj => h2 j (by omega)) | (refine Eq.symm (nallN_true i (by omega) ?_); ((try simp only [Bool.and_eq_true, Bool.or_eq_true, Bool.and_eq_false_iff, Bool.or_eq_false_iff, decide_eq_true_eq, decide_eq_false_iff_not, Bool.not_eq_true', Bool.not_eq_false', beq_iff_eq, bne_iff_ne, ne_eq, beq_eq_false_iff_ne, bne_eq_false_iff_eq] at *); (first | omega | assumption | grind))) | ((try simp only [Bool.and_eq_true, Bool.or_eq_true, Bool.and_eq_false_iff, Bool.or_eq_false_iff, decide_eq_true_eq, decide_eq_false_iff_not, Bool.not_eq_true', Bool.not_eq_false', beq_iff_eq, bne_iff_ne, ne_eq, beq_eq_false_iff_ne, bne_eq_false_iff_eq] at *); (first | omega | assumption | grind))))); done)))

end Go.Proofs.Ytabfpoflhacknaa

