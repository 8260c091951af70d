/- FnExactProductOf: whatever the input, the law returns true and changes nothing. No conditions but those that each theorem names. -/
import Derived.Test.YtgfnpphhdkjlmaaTab
import Derived.Test.YtgfnpphhdkjlmaaKG
import Derived.Test.YtgfnpphhdkjlmaaOG
import Derived.Test.YtgfnpphhdkjlmaaHL
import Derived.Test.YtgfnpphhdkjlmaaMK1
import Derived.Test.YtgfnpphhdkjlmaaMK2
import Derived.Test.YtgfnpphhdkjlmaaMR
import Derived.Test.YtgfnpphhdkjlmaaMP
import Derived.Test.YtgfnpphhdkjlmaaMKC
import Derived.Test.YtgfnpphhdkjlmaaChecked
set_option linter.unusedSimpArgs false
set_option linter.unusedVariables false
namespace Go.Proofs.Ytgfnpphhdkjlmaa
open Go.RowKit
open Shp
def lv_law_FnExactProductOf : Nat → List Nat
  | 0 => [1, 2]
  | 1 => [1, 2, 5]
  | 2 => [1, 2, 5]
  | 3 => [1, 2, 20]
  | 4 => [4]
  | 5 => [1, 2, 6, 7]
  | 6 => [1, 2, 6, 7, 8]
  | 7 => [1, 2, 6, 7, 8, 9, 10]
  | 8 => [1, 2, 6, 7, 8, 9, 10, 46]
  | 9 => [4]
  | 10 => [1, 2, 6, 7, 8, 9, 10, 51]
  | 11 => [4]
  | 12 => [1, 2, 6, 7, 8, 9, 10, 11]
  | 13 => [1, 2, 6, 7, 9, 10, 11]
  | 14 => [1, 2, 6, 7, 9, 67]
  | 15 => [4]
  | 16 => [1, 2, 6, 7, 9, 12]
  | 17 => [1, 2, 6, 7, 9, 12]
  | 18 => [1, 2, 6, 7, 9, 12, 13]
  | 19 => [1, 2, 6, 7, 9, 12, 13]
  | 20 => [1, 2, 6, 7, 9, 12, 13, 75]
  | 21 => [4]
  | 22 => [1, 2, 6, 7, 9, 12, 78]
  | 23 => [4]
  | 24 => [6, 7, 9, 12, 14, 15]
  | 25 => [9, 12, 95]
  | 26 => [4]
  | 27 => [9, 12, 13]
  | 28 => [12, 13]
  | 29 => [12, 13, 100]
  | 30 => [4]
  | 31 => [103]
  | 32 => [4]
  | 33 => [4]
  | _ => []
theorem enter_law_FnExactProductOf (args : Array Value) (w : World) : (callFunc 8 args).run Try.prog w = .ok (.enter 8 args) w := callFunc_enter Try.func8 (by decide) rfl args w
set_option maxHeartbeats 2000000 in
theorem law_FnExactProductOf (inp : Int) (out : Int) (xs : List (Int × List Int × List Int)) : Con Try.prog 8 [.sig inp out, .clauses xs] (.bool true) := by
  refine Con.fit enter_law_FnExactProductOf fun hfit => ?_
  have hb_xs : xs.length ≤ 9223372036854775807 := GFits.lenm (show GFits (.clauses xs) from hfit 1 (Nat.le_of_ble_eq_true rfl))
  have hr_xs : ∀ r ∈ xs, r.2.1.length ≤ 9223372036854775807 ∧ r.2.2.length ≤ 9223372036854775807 := fun r hr => ⟨GFits.ints (GFits.cell (GFits.elm (show GFits (.clauses xs) from hfit 1 (Nat.le_of_ble_eq_true rfl)) r hr) (.tail _ (.head _))), GFits.ints (GFits.cell (GFits.elm (show GFits (.clauses xs) from hfit 1 (Nat.le_of_ble_eq_true rfl)) r hr) (.tail _ (.tail _ (.head _))))⟩
  clear hfit
  have rb_p := prodB_cnt (i := inp) (o := out) (cs := xs)
  refine gConLaw lv_law_FnExactProductOf tab_ok (rs := [.tmp 4]) (sl := [(0, .g (.sig inp out)), (1, .g (.clauses xs))]) (sl2 := [(1, .g (.clauses xs)), (2, .g (.box [.i inp, .i out]))]) (n2 := 393320) Try.func8 rfl Try.ntmps8 rfl enter_law_FnExactProductOf rfl (by repeat constructor) ?_ ?_
  all_goals (repeat' (first | (with_reducible apply gAF.cmark (f := 50)) | (with_reducible apply gAF.cmark (f := 39)) | ((with_reducible apply RF_ok); kernel_rfl) | ((with_reducible apply MRK_of); first | exact mk_ClauseS _ _ (NU.mk (by first | omega | (first | omega | (have z0 := szClauseS_ok xs (1048576) (by assumption) (by omega); omega) | ((try simp only [List.drop_zero, markG_len, marks_tk, markG_tk, marks_len, cntR_mark, cntPs_mark, cntR, cntPs, cntR3, cntCls, Int.natCast_add] at *); omega) | (have z0 := szClauseS_ok xs (1048576) (by assumption) (by omega); have y0 := szClauseS_cn xs (1048576) (by assumption); (try dsimp only at *); (try simp only [List.drop_zero, markG_len, marks_tk, markG_tk, marks_len, cntR_mark, cntPs_mark, cntR, cntPs, cntR3, cntCls, Int.natCast_add] at *); omega)))) | exact mk_Det _ _ _ (NU.mk (by first | omega | (first | omega | (have z0 := szClauseS_ok xs (1048576) (by assumption) (by omega); omega) | ((try simp only [List.drop_zero, markG_len, marks_tk, markG_tk, marks_len, cntR_mark, cntPs_mark, cntR, cntPs, cntR3, cntCls, Int.natCast_add] at *); omega) | (have z0 := szClauseS_ok xs (1048576) (by assumption) (by omega); have y0 := szClauseS_cn xs (1048576) (by assumption); (try dsimp only at *); (try simp only [List.drop_zero, markG_len, marks_tk, markG_tk, marks_len, cntR_mark, cntPs_mark, cntR, cntPs, cntR3, cntCls, Int.natCast_add] at *); omega))))) | exact LENQ.mk (by simp only [List.length_map, markG_len, marks_len]) (by simp only [List.length_map, markG_len, marks_len]) | ((with_reducible apply gQA_law); (. exact RF.mk rfl)) | ((with_reducible apply gLB.cagg); (. exact RF.mk ⟨rfl, rfl, rfl⟩)) | ((with_reducible apply gLB.cone); (. exact RF.mk ⟨rfl, rfl⟩)) | ((with_reducible apply gLI.cagg); (. exact RF.mk ⟨rfl, rfl, rfl⟩)) | ((with_reducible apply gLI.cone); (. exact RF.mk ⟨rfl, rfl⟩)) | ((with_reducible apply gAF.cbuildA); (. exact RF.mk rfl); (. exact RF.mk ⟨rfl, rfl, rfl, rfl⟩)) | (with_reducible constructor) | exact NE.mk rfl | exact RF.mk rfl | exact RF.mk ⟨rfl, rfl⟩ | exact RF.mk ⟨rfl, rfl, rfl⟩ | exact NU.mk (by first | omega | (simp only [LNs]; omega) | (first | omega | (have z0 := szClauseS_ok xs (1048576) (by assumption) (by omega); omega) | ((try simp only [List.drop_zero, markG_len, marks_tk, markG_tk, marks_len, cntR_mark, cntPs_mark, cntR, cntPs, cntR3, cntCls, Int.natCast_add] at *); omega) | (have z0 := szClauseS_ok xs (1048576) (by assumption) (by omega); have y0 := szClauseS_cn xs (1048576) (by assumption); (try dsimp only at *); (try simp only [List.drop_zero, markG_len, marks_tk, markG_tk, marks_len, cntR_mark, cntPs_mark, cntR, cntPs, cntR3, cntCls, Int.natCast_add] at *); omega))) | ((with_reducible apply NID_mk); (try simp only [Nat.reduceAdd, Nat.reduceMul]); exact rfl) | ((with_reducible apply SLT_mk); (. rfl); (. rfl); (. rfl); (. rfl)) | ((with_reducible apply FO_mk); (. rfl); (. rfl); (. rfl); (. rfl); (. rfl)) | ((with_reducible apply FO1_mk); (. rfl); (. rfl); (. rfl); (. rfl); (. rfl)) | ((with_reducible apply CUT_all); (. with_reducible first | exact LEN_map _ _ | exact LEN_nil | exact LEN_1 _ | exact LEN_2 _ _ | exact LEN_any _); (. first | rfl | omega); (. first | rfl | omega)) | ((with_reducible apply CUT_mapT); (. first | rfl | omega); (. exact NU.mk (by first | omega | (simp only [LNs]; omega) | (first | omega | (have z0 := szClauseS_ok xs (1048576) (by assumption) (by omega); omega) | ((try simp only [List.drop_zero, markG_len, marks_tk, markG_tk, marks_len, cntR_mark, cntPs_mark, cntR, cntPs, cntR3, cntCls, Int.natCast_add] at *); omega) | (have z0 := szClauseS_ok xs (1048576) (by assumption) (by omega); have y0 := szClauseS_cn xs (1048576) (by assumption); (try dsimp only at *); (try simp only [List.drop_zero, markG_len, marks_tk, markG_tk, marks_len, cntR_mark, cntPs_mark, cntR, cntPs, cntR3, cntCls, Int.natCast_add] at *); omega))))) | ((with_reducible apply CUT_mapD); (. first | rfl | omega)) | (with_reducible apply CUT_map) | (apply CUT_any) | (with_reducible apply CUG_mapT) | ((with_reducible apply CUG_mapD); (. exact NU.mk (by first | omega | (simp only [LNs]; omega) | (first | omega | (have z0 := szClauseS_ok xs (1048576) (by assumption) (by omega); omega) | ((try simp only [List.drop_zero, markG_len, marks_tk, markG_tk, marks_len, cntR_mark, cntPs_mark, cntR, cntPs, cntR3, cntCls, Int.natCast_add] at *); omega) | (have z0 := szClauseS_ok xs (1048576) (by assumption) (by omega); have y0 := szClauseS_cn xs (1048576) (by assumption); (try dsimp only at *); (try simp only [List.drop_zero, markG_len, marks_tk, markG_tk, marks_len, cntR_mark, cntPs_mark, cntR, cntPs, cntR3, cntCls, Int.natCast_add] at *); omega)))); (. rfl)) | (with_reducible apply CUG_map) | (apply CUG_any) | ((with_reducible apply CON_of); first | apply laws_toSig | apply laws_eqDet | apply laws_heldDet | apply laws_szClauseS | apply spec_ProductOf | apply laws_toClauseS | apply impl_ProductOf | apply laws_eqClauseS) | (with_reducible intro hc; (try simp only [HCs] at hc)) | exact OB_f | exact DEC.mk (by decide) | ((with_reducible apply MZ_one); (. rfl); (. rfl); (. rfl)) | ((with_reducible apply MZ_st); (. rfl); (. rfl); (. rfl); (. rfl); (. rfl)) | ((with_reducible apply OB_t); kernel_rfl) | (with_reducible first | apply gNK | apply TX_seq | apply QA_and_n | apply QA_and_e | apply QA_and_r | apply gTX_cond | apply CK_t | apply CK_f | apply CK_if | apply TX_skip | apply TX_ret | apply TX_exit | apply TX_label | apply QA_in_eq | apply QA_in_ne | apply QA_in_n | apply QA_in_r | apply QA_lp_e | apply QA_lp_r | apply QA_ct_e | apply QA_ct_r | apply QA_nr | apply gEND_1 | apply gEND_N | apply END_0) | apply gTX_rgW tab_ok | apply gTX_rgD tab_ok rfl | (apply TX_blk; exact RF.mk rfl) | exact EQ.mk rfl | exact HY.mk (by have z0 := szClauseS_ok xs (1048576) (by assumption) (by omega); exact z0.1) | exact HY.mk (by (try simp only [List.drop_zero, marks_tk, markG_tk, cntR_mark, cntPs_mark, marks_len, markG_len]); first | done | exact markR_idem _ _ | exact markPs_idem _ _ | exact markPs_idem2 (by simp only [cntR, cntPs, Int.natCast_add]; omega) _ | exact markR_idem2 (by simp only [cntR, cntPs, Int.natCast_add]; omega) _) | exact gSel.cnil _ | apply gSel.ccons | apply gCG.cagg))
  (all_goals (first | (((refine EQ_bool ?_; first | rfl | (simp_all; done) | (exfalso; first | omega | ((try simp only [List.drop_zero, markG_len, marks_tk, markG_tk, marks_len, cntR_mark, cntPs_mark, cntR, cntPs, cntR3, cntCls, Int.natCast_add] at *); omega) | (simp_all; done) | ((try simp only [List.drop_zero, markG_len, marks_tk, markG_tk, marks_len, cntR_mark, cntPs_mark, cntR, cntPs, cntR3, cntCls, Int.natCast_add] at *); simp_all; done)))); done)))
end Go.Proofs.Ytgfnpphhdkjlmaa

