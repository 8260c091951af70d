/- Contracts of small functions: numbers, lists, words. No conditions but those that each theorem names. -/
import Derived.Test.YtgfnpphhdkjlmaaTab
import Derived.Test.YtgfnpphhdkjlmaaKG
import Derived.Test.YtgfnpphhdkjlmaaTM
import Derived.Test.YtgfnpphhdkjlmaaChecked
set_option linter.unusedSimpArgs false
set_option linter.unusedVariables false
namespace Go.Proofs.Ytgfnpphhdkjlmaa
open Go.RowKit
open Shp

def lv_spec_l1In : Nat → List Nat
  | 0 => [0, 1, 2]
  | 1 => [6]
  | _ => []
theorem enter_spec_l1In (args : Array Value) (w : World) : (callFunc 70 args).run Try.prog w = .ok (.enter 70 args) w := callFunc_enter Try.func70 (by decide) rfl args w
set_option maxHeartbeats 1000000 in
theorem spec_l1In (x lo hi : Int) : Con Try.prog 70 [.i x, .i lo, .i hi] (.bool (decide (lo ≤ x) && decide (x ≤ hi))) := by
  refine gCon lv_spec_l1In tab_ok (rs := [.tmp 6]) (sl := [(0, .g (.i x)), (1, .g (.i lo)), (2, .g (.i hi))]) Try.func70 rfl Try.ntmps70 rfl enter_spec_l1In rfl (by repeat constructor) ?_
  (repeat' (first | (with_reducible constructor) | exact NE.mk rfl | exact RF.mk rfl | (with_reducible intro hc; (try simp only [HCs] at hc)) | exact OB_f | (with_reducible first | apply gNK | apply TX_seq | apply QA_and_n | apply TX_ret | apply gEND_1) | apply gTX_rgW tab_ok | apply gSel.ccons))
  (all_goals (first | (((first | (refine EQ_bool ?_; first | (simp_all; done) | (rw [Bool.eq_iff_iff]; simp only [Bool.and_eq_true, Bool.or_eq_true, decide_eq_true_eq, Bool.false_eq_true, false_iff, true_iff, iff_false, iff_true, not_and, not_or, Bool.not_eq_true, decide_eq_false_iff_not, beq_iff_eq, bne_iff_ne, ne_eq, Bool.not_eq_true', Bool.not_eq_false', Int.not_le, Int.not_lt]; omega)) | ((repeat (first | apply EQ_tup | apply EQ_cons | apply EQ_agg | apply EQ_sl | apply EQ_map)); all_goals (first | exact EQ.mk rfl | exact EQ.mk (by first | (simp; done) | fail) | exact EQ.mk (by first | (simp_all; done) | fail))))); done)))

end Go.Proofs.Ytgfnpphhdkjlmaa

