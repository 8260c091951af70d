/- Contracts: infinite words. No conditions but those that each theorem names. -/
import Derived.Test.YtgfnpphhdkjlmaaTab
import Derived.Test.YtgfnpphhdkjlmaaKG
import Derived.Test.YtgfnpphhdkjlmaaC1
import Derived.Test.YtgfnpphhdkjlmaaSW2M
import Derived.Test.YtgfnpphhdkjlmaaChecked
set_option linter.unusedSimpArgs false
set_option linter.unusedVariables false
namespace Go.Proofs.Ytgfnpphhdkjlmaa
open Go.RowKit
open Shp
def lv_impl_letterAt : Nat → List Nat
  | 0 => [1, 2]
  | 1 => [1, 2, 5]
  | 2 => [1, 2, 5, 11]
  | 3 => [4]
  | 4 => [4]
  | _ => []
theorem enter_impl_letterAt (args : Array Value) (w : World) : (callFunc 74 args).run Try.prog w = .ok (.enter 74 args) w := callFunc_enter Try.func74 (by decide) rfl args w
set_option maxHeartbeats 1000000 in
theorem impl_letterAt (s l : List Int) (i : Int) (hi : NU (0 ≤ i ∧ i ≤ 9223372036854775807)) (hl : HY (1 ≤ l.length)) : Con Try.prog 74 [.word s l, .i i] (.i (atW s l i)) := by
  have hi := hi.e
  have hl := hl.e
  refine Con.fit enter_impl_letterAt fun hfit => ?_
  have hb_s : s.length ≤ 9223372036854775807 := GFits.ints (GFits.cell (show GFits (.word s l) from hfit 0 (Nat.le_of_ble_eq_true rfl)) (.head _))
  have hb_l : l.length ≤ 9223372036854775807 := GFits.ints (GFits.cell (show GFits (.word s l) from hfit 0 (Nat.le_of_ble_eq_true rfl)) (.tail _ (.head _)))
  clear hfit
  have q1 : 0 ≤ (i - s.length) % (l.length : Int) := Int.emod_nonneg _ (by omega)
  have q2 : (i - s.length) % (l.length : Int) < l.length := Int.emod_lt_of_pos _ (by omega)
  refine gCon lv_impl_letterAt tab_ok (rs := [.tmp 4]) (sl := [(0, .g (.word s l)), (1, .g (.i i))]) Try.func74 rfl Try.ntmps74 rfl enter_impl_letterAt rfl (by repeat constructor) ?_
  (repeat' (first | ((with_reducible apply gLB.cagg); (· exact RF.mk ⟨rfl, rfl, rfl⟩)) | ((with_reducible apply gLB.cone); (· exact RF.mk ⟨rfl, rfl⟩)) | ((with_reducible apply gLI.cagg); (· exact RF.mk ⟨rfl, rfl, rfl⟩)) | ((with_reducible apply gLI.cone); (· exact RF.mk ⟨rfl, rfl⟩)) | ((with_reducible apply gAF.cbuildA); (· exact RF.mk rfl); (· exact RF.mk ⟨rfl, rfl, rfl, rfl⟩)) | (with_reducible constructor) | exact NE.mk rfl | exact RF.mk rfl | exact RF.mk ⟨rfl, rfl⟩ | exact RF.mk ⟨rfl, rfl, rfl⟩ | exact NU.mk (by first | omega | (simp only [List.length_take, List.length_drop, List.length_map, List.length_append, List.length_replicate, List.length_set, List.length_cons, List.length_nil]; omega)) | ((with_reducible apply NID_mk); (try simp only [Nat.reduceAdd, Nat.reduceMul]); exact rfl) | ((with_reducible apply SLT_mk); (· rfl); (· rfl); (· rfl); (· rfl)) | ((with_reducible apply FO_mk); (· rfl); (· rfl); (· rfl); (· rfl); (· rfl)) | ((with_reducible apply FO1_mk); (· rfl); (· rfl); (· rfl); (· rfl); (· rfl)) | ((with_reducible apply CUT_all); (· with_reducible first | exact LEN_map _ _ | exact LEN_nil | exact LEN_1 _ | exact LEN_2 _ _ | exact LEN_any _); (· first | rfl | omega); (· first | rfl | omega)) | ((with_reducible apply CUT_mapT); (· first | rfl | omega); (· exact NU.mk (by first | omega | (simp only [List.length_take, List.length_drop, List.length_map, List.length_append, List.length_replicate, List.length_set, List.length_cons, List.length_nil]; omega)))) | ((with_reducible apply CUT_mapD); (· first | rfl | omega)) | (with_reducible apply CUT_map) | (apply CUT_any) | (with_reducible apply CUG_mapT) | ((with_reducible apply CUG_mapD); (· exact NU.mk (by first | omega | (simp only [List.length_take, List.length_drop, List.length_map, List.length_append, List.length_replicate, List.length_set, List.length_cons, List.length_nil]; omega))); (· rfl)) | (with_reducible apply CUG_map) | (apply CUG_any) | (with_reducible intro hc; (try simp only [Bool.and_eq_true, Bool.or_eq_true, Bool.and_eq_false_iff, Bool.or_eq_false_iff, decide_eq_true_eq, decide_eq_false_iff_not, Bool.not_eq_true, Bool.not_eq_false, Bool.not_eq_eq_eq_not, Bool.not_true, Bool.not_false, bne_iff_ne, beq_iff_eq, ne_eq, beq_eq_false_iff_ne, bne_eq_false_iff_eq, Int.not_lt, Int.not_le, ge_iff_le, gt_iff_lt, Decidable.not_not, not_true_eq_false, not_false_eq_true] at hc)) | exact OB_f | exact DEC.mk (by decide) | ((with_reducible apply MZ_one); (· rfl); (· rfl); (· rfl)) | ((with_reducible apply MZ_st); (· rfl); (· rfl); (· rfl); (· rfl); (· rfl)) | ((with_reducible apply OB_t); kernel_rfl) | (with_reducible first | apply gNK | apply TX_seq | apply QA_and_n | apply QA_and_e | apply QA_and_r | apply gTX_cond | apply CK_t | apply CK_f | apply CK_if | apply TX_skip | apply TX_ret | apply TX_exit | apply TX_label | apply QA_in_eq | apply QA_in_ne | apply QA_in_n | apply QA_in_r | apply QA_lp_e | apply QA_lp_r | apply QA_ct_e | apply QA_ct_r | apply QA_nr | apply gEND_1 | apply gEND_N | apply END_0) | apply gTX_rgW tab_ok | apply gTX_rgD tab_ok rfl | (apply TX_blk; exact RF.mk rfl) | exact EQ.mk rfl | exact gSel.cnil _ | apply gSel.ccons | apply gCG.cagg))
  (all_goals (first | (((refine EQ_int (EQ.mk ?_); unfold atW; first | (rw [if_pos (by omega)]) | (rw [if_neg (by omega)]))); done)))
end Go.Proofs.Ytgfnpphhdkjlmaa
