/- FnExactContestOf: whatever the input, the law returns true and changes nothing. No conditions but those that each theorem names. -/
import Derived.Test.YtbjonekgeidoiaaTab
import Derived.Test.YtbjonekgeidoiaaKG
import Derived.Test.YtbjonekgeidoiaaOG
import Derived.Test.YtbjonekgeidoiaaHL
import Derived.Test.YtbjonekgeidoiaaMK1
import Derived.Test.YtbjonekgeidoiaaMK2
import Derived.Test.YtbjonekgeidoiaaMR
import Derived.Test.YtbjonekgeidoiaaMB
import Derived.Test.YtbjonekgeidoiaaChecked
set_option linter.unusedSimpArgs false
set_option linter.unusedVariables false
namespace Go.Proofs.Ytbjonekgeidoiaa
open Go.RowKit
open Shp
def lv_law_FnExactContestOf : Nat → List Nat
  | 0 => [2, 3]
  | 1 => [2, 3, 5]
  | 2 => [2, 3, 5]
  | 3 => [2, 3, 23]
  | 4 => [4]
  | 5 => [2, 3, 6, 7, 8]
  | 6 => [2, 3, 6, 7, 8, 9]
  | 7 => [2, 3, 6, 7, 8, 9, 10, 11, 12]
  | 8 => [2, 3, 6, 7, 8, 9, 10, 11, 12, 57]
  | 9 => [4]
  | 10 => [2, 3, 6, 7, 8, 9, 10, 11, 12, 62]
  | 11 => [4]
  | 12 => [2, 3, 6, 7, 8, 9, 10, 11, 12, 13]
  | 13 => [2, 3, 6, 7, 8, 10, 11, 12, 13]
  | 14 => [2, 3, 6, 7, 8, 10, 11, 84]
  | 15 => [4]
  | 16 => [2, 3, 6, 7, 8, 10, 11, 14]
  | 17 => [2, 3, 6, 7, 8, 10, 11, 14]
  | 18 => [2, 3, 6, 7, 8, 10, 11, 14]
  | 19 => [2, 3, 6, 7, 8, 10, 11, 14, 15]
  | 20 => [2, 3, 6, 7, 8, 10, 11, 14, 15]
  | 21 => [2, 3, 6, 7, 8, 10, 11, 14, 15, 95]
  | 22 => [4]
  | 23 => [2, 3, 6, 7, 8, 10, 11, 14, 15]
  | 24 => [2, 3, 6, 7, 8, 10, 11, 14, 15, 100]
  | 25 => [4]
  | 26 => [2, 3, 6, 7, 8, 10, 11, 14, 103]
  | 27 => [4]
  | 28 => [6, 7, 8, 10, 11, 14, 16, 17, 18]
  | 29 => [10, 11, 14, 127]
  | 30 => [4]
  | 31 => [10, 11, 14, 15]
  | 32 => [11, 14, 15]
  | 33 => [11, 14, 15, 132]
  | 34 => [4]
  | 35 => [14, 15]
  | 36 => [14, 15, 137]
  | 37 => [4]
  | 38 => [140]
  | 39 => [4]
  | 40 => [4]
  | _ => []
theorem enter_law_FnExactContestOf (args : Array Value) (w : World) : (callFunc 3 args).run Try.prog w = .ok (.enter 3 args) w := callFunc_enter Try.func3 (by decide) rfl args w
set_option maxHeartbeats 2000000 in
theorem law_FnExactContestOf (inp : Int) (out : Int) (next1 : List (List Int)) (pairs1 : List (List Int × List Int)) : Con Try.prog 3 [.sig inp out, .det next1 pairs1] (.bool true) := by
  refine Con.fit enter_law_FnExactContestOf fun hfit => ?_
  have hb_next1 : next1.length ≤ 9223372036854775807 := GFits.lenm (GFits.cell (show GFits (.det next1 pairs1) from hfit 1 (Nat.le_of_ble_eq_true rfl)) (.head _))
  have hr_next1 : ∀ r ∈ next1, r.length ≤ 9223372036854775807 := fun r hr => GFits.ints (GFits.elm (GFits.cell (show GFits (.det next1 pairs1) from hfit 1 (Nat.le_of_ble_eq_true rfl)) (.head _)) r hr)
  have hb_pairs1 : pairs1.length ≤ 9223372036854775807 := GFits.lenm (GFits.cell (show GFits (.det next1 pairs1) from hfit 1 (Nat.le_of_ble_eq_true rfl)) (.tail _ (.head _)))
  have hr_pairs1 : ∀ r ∈ pairs1, r.1.length ≤ 9223372036854775807 ∧ r.2.length ≤ 9223372036854775807 := fun r hr => ⟨GFits.ints (GFits.cell (GFits.elm (GFits.cell (show GFits (.det next1 pairs1) from hfit 1 (Nat.le_of_ble_eq_true rfl)) (.tail _ (.head _))) r hr) (.head _)), GFits.ints (GFits.cell (GFits.elm (GFits.cell (show GFits (.det next1 pairs1) from hfit 1 (Nat.le_of_ble_eq_true rfl)) (.tail _ (.head _))) r hr) (.tail _ (.head _)))⟩
  clear hfit
  have rb_c := contB_cnt (i := inp) (o := out) (n := next1) (ps := pairs1)
  refine gConLaw lv_law_FnExactContestOf tab_ok (rs := [.tmp 4]) (sl := [(0, .g (.sig inp out)), (1, .g (.det next1 pairs1))]) (sl2 := [(2, .g (.box [.i inp, .i out])), (3, .g (.box [.rows next1, .pairs pairs1]))]) (n2 := 786573) Try.func3 rfl Try.ntmps3 rfl enter_law_FnExactContestOf rfl (by repeat constructor) ?_ ?_
  all_goals (repeat' (first | (with_reducible apply gAF.cmark (f := 20)) | (with_reducible apply gAF.cmark (f := 19)) | (with_reducible apply gAF.cmark (f := 21)) | ((with_reducible apply RF_ok); kernel_rfl) | ((with_reducible apply MRK_of); first | exact mk_Arena _ _ _ (NU.mk (by first | omega | (first | omega | (have z0 := szDet_ok (next1, pairs1) (1048576) (by assumption) (by omega); omega) | ((try simp only [List.drop_zero, markG_len, marks_tk, markG_tk, marks_len, cntR_mark, cntPs_mark, cntR, cntPs, cntR3, cntCls, Int.natCast_add] at *); omega) | (have z0 := szDet_ok (next1, pairs1) (1048576) (by assumption) (by omega); have y0 := szDet_cn (next1, pairs1) (1048576) (by assumption); (try dsimp only at *); (try simp only [List.drop_zero, markG_len, marks_tk, markG_tk, marks_len, cntR_mark, cntPs_mark, cntR, cntPs, cntR3, cntCls, Int.natCast_add] at *); omega)))) | exact mk_Det _ _ _ (NU.mk (by first | omega | (first | omega | (have z0 := szDet_ok (next1, pairs1) (1048576) (by assumption) (by omega); omega) | ((try simp only [List.drop_zero, markG_len, marks_tk, markG_tk, marks_len, cntR_mark, cntPs_mark, cntR, cntPs, cntR3, cntCls, Int.natCast_add] at *); omega) | (have z0 := szDet_ok (next1, pairs1) (1048576) (by assumption) (by omega); have y0 := szDet_cn (next1, pairs1) (1048576) (by assumption); (try dsimp only at *); (try simp only [List.drop_zero, markG_len, marks_tk, markG_tk, marks_len, cntR_mark, cntPs_mark, cntR, cntPs, cntR3, cntCls, Int.natCast_add] at *); omega)))) | exact mk_PairS _ _ (NU.mk (by first | omega | (first | omega | (have z0 := szDet_ok (next1, pairs1) (1048576) (by assumption) (by omega); omega) | ((try simp only [List.drop_zero, markG_len, marks_tk, markG_tk, marks_len, cntR_mark, cntPs_mark, cntR, cntPs, cntR3, cntCls, Int.natCast_add] at *); omega) | (have z0 := szDet_ok (next1, pairs1) (1048576) (by assumption) (by omega); have y0 := szDet_cn (next1, pairs1) (1048576) (by assumption); (try dsimp only at *); (try simp only [List.drop_zero, markG_len, marks_tk, markG_tk, marks_len, cntR_mark, cntPs_mark, cntR, cntPs, cntR3, cntCls, Int.natCast_add] at *); omega))))) | exact LENQ.mk (by simp only [List.length_map, markG_len, marks_len]) (by simp only [List.length_map, markG_len, marks_len]) | ((with_reducible apply gQA_law); (. exact RF.mk rfl)) | ((with_reducible apply gLB.cagg); (. exact RF.mk ⟨rfl, rfl, rfl⟩)) | ((with_reducible apply gLB.cone); (. exact RF.mk ⟨rfl, rfl⟩)) | ((with_reducible apply gLI.cagg); (. exact RF.mk ⟨rfl, rfl, rfl⟩)) | ((with_reducible apply gLI.cone); (. exact RF.mk ⟨rfl, rfl⟩)) | ((with_reducible apply gAF.cbuildA); (. exact RF.mk rfl); (. exact RF.mk ⟨rfl, rfl, rfl, rfl⟩)) | (with_reducible constructor) | exact NE.mk rfl | exact RF.mk rfl | exact RF.mk ⟨rfl, rfl⟩ | exact RF.mk ⟨rfl, rfl, rfl⟩ | exact NU.mk (by first | omega | (simp only [LNs]; omega) | (first | omega | (have z0 := szDet_ok (next1, pairs1) (1048576) (by assumption) (by omega); omega) | ((try simp only [List.drop_zero, markG_len, marks_tk, markG_tk, marks_len, cntR_mark, cntPs_mark, cntR, cntPs, cntR3, cntCls, Int.natCast_add] at *); omega) | (have z0 := szDet_ok (next1, pairs1) (1048576) (by assumption) (by omega); have y0 := szDet_cn (next1, pairs1) (1048576) (by assumption); (try dsimp only at *); (try simp only [List.drop_zero, markG_len, marks_tk, markG_tk, marks_len, cntR_mark, cntPs_mark, cntR, cntPs, cntR3, cntCls, Int.natCast_add] at *); omega))) | ((with_reducible apply NID_mk); (try simp only [Nat.reduceAdd, Nat.reduceMul]); exact rfl) | ((with_reducible apply SLT_mk); (. rfl); (. rfl); (. rfl); (. rfl)) | ((with_reducible apply FO_mk); (. rfl); (. rfl); (. rfl); (. rfl); (. rfl)) | ((with_reducible apply FO1_mk); (. rfl); (. rfl); (. rfl); (. rfl); (. rfl)) | ((with_reducible apply CUT_all); (. with_reducible first | exact LEN_map _ _ | exact LEN_nil | exact LEN_1 _ | exact LEN_2 _ _ | exact LEN_any _); (. first | rfl | omega); (. first | rfl | omega)) | ((with_reducible apply CUT_mapT); (. first | rfl | omega); (. exact NU.mk (by first | omega | (simp only [LNs]; omega) | (first | omega | (have z0 := szDet_ok (next1, pairs1) (1048576) (by assumption) (by omega); omega) | ((try simp only [List.drop_zero, markG_len, marks_tk, markG_tk, marks_len, cntR_mark, cntPs_mark, cntR, cntPs, cntR3, cntCls, Int.natCast_add] at *); omega) | (have z0 := szDet_ok (next1, pairs1) (1048576) (by assumption) (by omega); have y0 := szDet_cn (next1, pairs1) (1048576) (by assumption); (try dsimp only at *); (try simp only [List.drop_zero, markG_len, marks_tk, markG_tk, marks_len, cntR_mark, cntPs_mark, cntR, cntPs, cntR3, cntCls, Int.natCast_add] at *); omega))))) | ((with_reducible apply CUT_mapD); (. first | rfl | omega)) | (with_reducible apply CUT_map) | (apply CUT_any) | (with_reducible apply CUG_mapT) | ((with_reducible apply CUG_mapD); (. exact NU.mk (by first | omega | (simp only [LNs]; omega) | (first | omega | (have z0 := szDet_ok (next1, pairs1) (1048576) (by assumption) (by omega); omega) | ((try simp only [List.drop_zero, markG_len, marks_tk, markG_tk, marks_len, cntR_mark, cntPs_mark, cntR, cntPs, cntR3, cntCls, Int.natCast_add] at *); omega) | (have z0 := szDet_ok (next1, pairs1) (1048576) (by assumption) (by omega); have y0 := szDet_cn (next1, pairs1) (1048576) (by assumption); (try dsimp only at *); (try simp only [List.drop_zero, markG_len, marks_tk, markG_tk, marks_len, cntR_mark, cntPs_mark, cntR, cntPs, cntR3, cntCls, Int.natCast_add] at *); omega)))); (. rfl)) | (with_reducible apply CUG_map) | (apply CUG_any) | ((with_reducible apply CON_of); first | apply laws_szDet | apply spec_ContestOf | apply laws_toSig | apply laws_toDet | apply impl_ContestOf | apply laws_eqArena | apply laws_eqPairS | apply laws_eqDet | apply laws_heldArena | apply laws_heldPairS) | (with_reducible intro hc; (try simp only [HCs] at hc)) | exact OB_f | exact DEC.mk (by decide) | ((with_reducible apply MZ_one); (. rfl); (. rfl); (. rfl)) | ((with_reducible apply MZ_st); (. rfl); (. rfl); (. rfl); (. rfl); (. rfl)) | ((with_reducible apply OB_t); kernel_rfl) | (with_reducible first | apply gNK | apply TX_seq | apply QA_and_n | apply QA_and_e | apply QA_and_r | apply gTX_cond | apply CK_t | apply CK_f | apply CK_if | apply TX_skip | apply TX_ret | apply TX_exit | apply TX_label | apply QA_in_eq | apply QA_in_ne | apply QA_in_n | apply QA_in_r | apply QA_lp_e | apply QA_lp_r | apply QA_ct_e | apply QA_ct_r | apply QA_nr | apply gEND_1 | apply gEND_N | apply END_0) | apply gTX_rgW tab_ok | apply gTX_rgD tab_ok rfl | (apply TX_blk; exact RF.mk rfl) | exact EQ.mk rfl | exact HY.mk (by have z0 := szDet_ok (next1, pairs1) (1048576) (by assumption) (by omega); exact z0.1) | exact HY.mk (by (try simp only [List.drop_zero, marks_tk, markG_tk, cntR_mark, cntPs_mark, marks_len, markG_len]); first | done | exact markR_idem _ _ | exact markPs_idem _ _ | exact markPs_idem2 (by simp only [cntR, cntPs, Int.natCast_add]; omega) _ | exact markR_idem2 (by simp only [cntR, cntPs, Int.natCast_add]; omega) _) | exact gSel.cnil _ | apply gSel.ccons | apply gCG.cagg))
  (all_goals (first | (((refine EQ_bool ?_; first | rfl | (simp_all; done) | (exfalso; first | omega | ((try simp only [List.drop_zero, markG_len, marks_tk, markG_tk, marks_len, cntR_mark, cntPs_mark, cntR, cntPs, cntR3, cntCls, Int.natCast_add] at *); omega) | (simp_all; done) | ((try simp only [List.drop_zero, markG_len, marks_tk, markG_tk, marks_len, cntR_mark, cntPs_mark, cntR, cntPs, cntR3, cntCls, Int.natCast_add] at *); simp_all; done)))); done)))
end Go.Proofs.Ytbjonekgeidoiaa

