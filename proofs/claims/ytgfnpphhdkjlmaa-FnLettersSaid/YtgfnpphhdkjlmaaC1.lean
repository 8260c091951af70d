/- Contracts: interfaces, words, clauses. No conditions but those that each theorem names. -/
import Derived.Test.YtgfnpphhdkjlmaaTab
import Derived.Test.YtgfnpphhdkjlmaaKG
import Derived.Test.YtgfnpphhdkjlmaaW1
import Derived.Test.YtgfnpphhdkjlmaaT2
import Derived.Test.YtgfnpphhdkjlmaaChecked
set_option linter.unusedSimpArgs false
set_option linter.unusedVariables false
namespace Go.Proofs.Ytgfnpphhdkjlmaa
open Go.RowKit
open Shp

def lv_spec_SigOk : Nat → List Nat
  | 0 => [1]
  | 1 => [2]
  | _ => []
theorem enter_spec_SigOk (args : Array Value) (w : World) : (callFunc 82 args).run Try.prog w = .ok (.enter 82 args) w := callFunc_enter Try.func82 (by decide) rfl args w
set_option maxHeartbeats 1000000 in
theorem spec_SigOk (i o : Int) : Con Try.prog 82 [.sig i o] (.bool (sigB i o)) := by
  refine gCon lv_spec_SigOk tab_ok (rs := [.tmp 2]) (sl := [(0, .g (.sig i o))]) Try.func82 rfl Try.ntmps82 rfl enter_spec_SigOk rfl (by repeat constructor) ?_
  (repeat' (first | ((with_reducible apply gLB.cone); (. exact RF.mk ⟨rfl, rfl⟩)) | (with_reducible constructor) | exact NE.mk rfl | exact RF.mk rfl | ((with_reducible apply FO_mk); (. rfl); (. rfl); (. rfl); (. rfl); (. rfl)) | ((with_reducible apply CON_of); first | apply spec_l1In) | (with_reducible intro hc; (try simp only [HCs] at hc)) | exact OB_f | (with_reducible first | apply gNK | apply TX_seq | apply QA_and_n | apply TX_ret | apply gEND_1) | apply gTX_rgW tab_ok | apply gSel.ccons))
  (all_goals (first | (((refine EQ_bool ?_; (try unfold sigB); (first | rfl | (simp_all; done) | (rw [Bool.eq_iff_iff]; (try simp only [Bool.and_eq_true, Bool.or_eq_true, Bool.and_eq_false_iff, Bool.or_eq_false_iff, decide_eq_true_eq, decide_eq_false_iff_not, Bool.not_eq_true', Bool.not_eq_false', beq_iff_eq, bne_iff_ne, ne_eq, beq_eq_false_iff_ne, bne_eq_false_iff_eq, Bool.true_eq_false, Bool.false_eq_true, true_iff, false_iff, iff_true, iff_false, not_and, not_or] at *); (first | omega | grind))))); done)))

def lv_impl_isSig : Nat → List Nat
  | 0 => [1]
  | 1 => [2]
  | _ => []
theorem enter_impl_isSig (args : Array Value) (w : World) : (callFunc 80 args).run Try.prog w = .ok (.enter 80 args) w := callFunc_enter Try.func80 (by decide) rfl args w
set_option maxHeartbeats 1000000 in
theorem impl_isSig (i o : Int) : Con Try.prog 80 [.sig i o] (.bool (sigB i o)) := by
  refine gCon lv_impl_isSig tab_ok (rs := [.tmp 2]) (sl := [(0, .g (.sig i o))]) Try.func80 rfl Try.ntmps80 rfl enter_impl_isSig rfl (by repeat constructor) ?_
  (repeat' (first | ((with_reducible apply gLB.cone); (. exact RF.mk ⟨rfl, rfl⟩)) | (with_reducible constructor) | exact NE.mk rfl | exact RF.mk rfl | ((with_reducible apply FO_mk); (. rfl); (. rfl); (. rfl); (. rfl); (. rfl)) | (with_reducible intro hc; (try simp only [HCs] at hc)) | exact OB_f | (with_reducible first | apply gNK | apply TX_seq | apply QA_and_n | apply TX_ret | apply gEND_1) | apply gTX_rgW tab_ok | apply gSel.ccons))
  (all_goals (first | (((refine EQ_bool ?_; (try unfold sigB); (first | rfl | (simp_all; done) | (rw [Bool.eq_iff_iff]; (try simp only [Bool.and_eq_true, Bool.or_eq_true, Bool.and_eq_false_iff, Bool.or_eq_false_iff, decide_eq_true_eq, decide_eq_false_iff_not, Bool.not_eq_true', Bool.not_eq_false', beq_iff_eq, bne_iff_ne, ne_eq, beq_eq_false_iff_ne, bne_eq_false_iff_eq, Bool.true_eq_false, Bool.false_eq_true, true_iff, false_iff, iff_true, iff_false, not_and, not_or] at *); (first | omega | grind))))); done)))

def lv_spec_l23Power : Nat → List Nat
  | 0 => [0]
  | 1 => [0, 3]
  | 2 => [0, 3, 5]
  | 3 => [0, 3]
  | 4 => [0, 3]
  | 5 => [2]
  | _ => []
theorem enter_spec_l23Power (args : Array Value) (w : World) : (callFunc 83 args).run Try.prog w = .ok (.enter 83 args) w := callFunc_enter Try.func83 (by decide) rfl args w
set_option maxHeartbeats 1000000 in
theorem spec_l23Power (n : Int) (hn : NU (-10 ≤ n ∧ n ≤ 10)) : Con Try.prog 83 [.i n] (.i (pw n)) := by
  have hn := hn.e
  refine gCon lv_spec_l23Power tab_ok (rs := [.tmp 2]) (sl := [(0, .g (.i n))]) Try.func83 rfl Try.ntmps83 rfl enter_spec_l23Power rfl (by repeat constructor) ?_
  (repeat' (first | (with_reducible constructor) | exact NE.mk rfl | exact RF.mk rfl | exact NU.mk (by first | omega | (simp only [LNs]; omega) | (first | omega | (have q := p2_le i (by omega); omega))) | (with_reducible intro hc; (try simp only [HCs] at hc)) | exact OB_f | (with_reducible first | apply gNK | apply TX_seq | apply QA_and_n | apply QA_and_e | apply gTX_cond | apply CK_if | apply TX_skip | apply TX_ret | apply TX_exit | apply QA_in_eq | apply QA_in_n | apply QA_lp_e | apply gEND_1) | apply gTX_rgW tab_ok | (apply TX_blk; exact RF.mk rfl) | (refine TX_loop (id := 0) (ι := Nat) (fun i => ⟨[(0, .g (.i (n - i))), (3, .g (.i (2 ^ i)))], []⟩) (fun i => (i ≤ n.toNat)) (fun i => n.toNat - i) (0) ?_ ?_ ?_; (. ((first | apply gLX0 | apply gLX1 | apply gLX2 | apply gLX3 | apply gLX4 | apply gLX5 | apply gLX6 | apply gLX7 | apply gLX8 | apply gLX9 | apply gLX10) <;> (repeat' (first | (with_reducible constructor) | exact NE.mk rfl | exact RF.mk rfl | exact RF.mk ⟨rfl, rfl⟩ | exact RF.mk ⟨rfl, rfl, rfl⟩ | exact EQ.mk rfl | exact RF.mk (by decide) | (with_reducible apply EQ_int) | exact EQ.mk (by first | omega | (simp only [LNs]; omega) | (first | omega | (have q := p2_le i (by omega); omega))))); (all_goals ((first | exact EQ.mk (by omega) | exact EQ.mk (by rw [Int.pow_succ])); done)))); (. (omega)); (rintro i h1; (show TX _ _ _ _ _ [(0, .g (.i (n - i))), (3, .g (.i (2 ^ i)))] [] _))) | apply gSel.ccons))
  (all_goals (first | (refine QA_lp (i + 1) ?_ ?_ ?_; (· ((first | apply gLX0 | apply gLX1 | apply gLX2 | apply gLX3 | apply gLX4 | apply gLX5 | apply gLX6 | apply gLX7 | apply gLX8 | apply gLX9 | apply gLX10) <;> (repeat' (first | (with_reducible constructor) | exact NE.mk rfl | exact RF.mk rfl | exact RF.mk ⟨rfl, rfl⟩ | exact RF.mk ⟨rfl, rfl, rfl⟩ | exact EQ.mk rfl | exact RF.mk (by decide) | (with_reducible apply EQ_int) | exact EQ.mk (by first | omega | (simp only [LNs]; omega) | (first | omega | (have q := p2_le i (by omega); omega))))); (all_goals ((first | exact EQ.mk (by omega) | exact EQ.mk (by rw [Int.pow_succ])); done)))); (· (omega)); (· (((try dsimp only); omega)))) | (((refine EQ_int (EQ.mk ?_); unfold pw; rw [show i = n.toNat by omega])); done)))

def lv_impl_inputsOf : Nat → List Nat
  | 0 => [1]
  | 1 => [2]
  | _ => []
theorem enter_impl_inputsOf (args : Array Value) (w : World) : (callFunc 81 args).run Try.prog w = .ok (.enter 81 args) w := callFunc_enter Try.func81 (by decide) rfl args w
set_option maxHeartbeats 1000000 in
theorem impl_inputsOf (i o : Int) (hn : NU (0 ≤ i ∧ i ≤ 10)) : Con Try.prog 81 [.sig i o] (.i (pw i)) := by
  have hn := hn.e
  refine gCon lv_impl_inputsOf tab_ok (rs := [.tmp 2]) (sl := [(0, .g (.sig i o))]) Try.func81 rfl Try.ntmps81 rfl enter_impl_inputsOf rfl (by repeat constructor) ?_
  (repeat' (first | ((with_reducible apply gLB.cone); (. exact RF.mk ⟨rfl, rfl⟩)) | (with_reducible constructor) | exact NE.mk rfl | exact RF.mk rfl | exact NU.mk (by first | omega | (simp only [LNs]; omega) | (first | omega | exact ⟨by omega, by omega, by omega, by have := p2_le i.toNat (by omega); omega⟩)) | ((with_reducible apply FO_mk); (. rfl); (. rfl); (. rfl); (. rfl); (. rfl)) | exact OB_f | (with_reducible first | apply gNK | apply TX_seq | apply QA_and_n | apply TX_ret | apply gEND_1) | apply gTX_rgW tab_ok | apply gSel.ccons))
  (all_goals (first | (((refine EQ_int (EQ.mk ?_); unfold pw; simp)); done)))

def lv_impl_lettersOf : Nat → List Nat
  | 0 => [1]
  | 1 => [2]
  | _ => []
theorem enter_impl_lettersOf (args : Array Value) (w : World) : (callFunc 84 args).run Try.prog w = .ok (.enter 84 args) w := callFunc_enter Try.func84 (by decide) rfl args w
set_option maxHeartbeats 1000000 in
theorem impl_lettersOf (i o : Int) (hn : NU (0 ≤ i ∧ i ≤ 4 ∧ 0 ≤ o ∧ o ≤ 4)) : Con Try.prog 84 [.sig i o] (.i (pw (i + o))) := by
  have hn := hn.e
  refine gCon lv_impl_lettersOf tab_ok (rs := [.tmp 2]) (sl := [(0, .g (.sig i o))]) Try.func84 rfl Try.ntmps84 rfl enter_impl_lettersOf rfl (by repeat constructor) ?_
  (repeat' (first | ((with_reducible apply gLB.cone); (. exact RF.mk ⟨rfl, rfl⟩)) | (with_reducible constructor) | exact NE.mk rfl | exact RF.mk rfl | exact NU.mk (by first | omega | (simp only [LNs]; omega) | (first | omega | exact ⟨by omega, by omega, by omega, by have := p2_le (i + o).toNat (by omega); omega⟩)) | ((with_reducible apply FO_mk); (. rfl); (. rfl); (. rfl); (. rfl); (. rfl)) | exact OB_f | (with_reducible first | apply gNK | apply TX_seq | apply QA_and_n | apply TX_ret | apply gEND_1) | apply gTX_rgW tab_ok | apply gSel.ccons))
  (all_goals (first | (((refine EQ_int (EQ.mk ?_); unfold pw; simp)); done)))

def lv_spec_LettersOf : Nat → List Nat
  | 0 => [1]
  | 1 => [1, 5]
  | 2 => [2]
  | 3 => [2]
  | _ => []
theorem enter_spec_LettersOf (args : Array Value) (w : World) : (callFunc 28 args).run Try.prog w = .ok (.enter 28 args) w := callFunc_enter Try.func28 (by decide) rfl args w
set_option maxHeartbeats 1000000 in
theorem spec_LettersOf (i o : Int) : Con Try.prog 28 [.sig i o] (.i (lettersB i o)) := by
  refine gCon lv_spec_LettersOf tab_ok (rs := [.tmp 2]) (sl := [(0, .g (.sig i o))]) Try.func28 rfl Try.ntmps28 rfl enter_spec_LettersOf rfl (by repeat constructor) ?_
  (repeat' (first | ((with_reducible apply gLB.cagg); (. exact RF.mk ⟨rfl, rfl, rfl⟩)) | ((with_reducible apply gLB.cone); (. exact RF.mk ⟨rfl, rfl⟩)) | (with_reducible constructor) | exact NE.mk rfl | exact RF.mk rfl | exact NU.mk (by first | omega | (simp only [LNs]; omega) | (first | omega | (have q := sigB_r (by assumption); omega))) | ((with_reducible apply FO_mk); (. rfl); (. rfl); (. rfl); (. rfl); (. rfl)) | ((with_reducible apply CON_of); first | apply spec_SigOk | apply spec_l23Power) | (with_reducible intro hc; (try simp only [HCs] at hc)) | exact OB_f | (with_reducible first | apply gNK | apply TX_seq | apply QA_and_n | apply QA_and_r | apply gTX_cond | apply CK_if | apply TX_skip | apply TX_ret | apply gEND_1) | apply gTX_rgW tab_ok | apply gSel.ccons))
  (all_goals (first | (((refine EQ_int (EQ.mk ?_); unfold lettersB; simp_all)); done)))

end Go.Proofs.Ytgfnpphhdkjlmaa

