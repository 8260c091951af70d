/- Contracts of the laws' own functions over data: sizes, copies, equality. No conditions but those that each theorem names. -/
import Derived.Test.YtachnjinfdagjaaDoorTab
import Derived.Test.YtachnjinfdagjaaDoorKG
import Derived.Test.YtachnjinfdagjaaDoorTM
import Derived.Test.YtachnjinfdagjaaDoorW1
import Derived.Test.YtachnjinfdagjaaDoorChecked
set_option linter.unusedSimpArgs false
set_option linter.unusedVariables false
namespace Go.Proofs.YtachnjinfdagjaaDoor
open Go.RowKit
open Shp
def lv_laws_eqClause : Nat → List Nat
  | 0 => [2, 3]
  | 1 => [2, 3, 9]
  | 2 => [4]
  | 3 => [2, 3, 15]
  | 4 => [4]
  | 5 => [21]
  | 6 => [4]
  | 7 => [4]
  | _ => []
theorem enter_laws_eqClause (args : Array Value) (w : World) : (callFunc 10 args).run Tryd.prog w = .ok (.enter 10 args) w := callFunc_enter Tryd.func10 (by decide) rfl args w
set_option maxHeartbeats 1000000 in
theorem laws_eqClause (kind : Int) (a : List Int) (b : List Int) (kind' : Int) (a' : List Int) (b' : List Int) : Con Tryd.prog 10 [.clause kind a b, .clause kind' a' b'] (.bool (decide (kind = kind') && decide (a = a') && decide (b = b'))) := by
  refine Con.fit enter_laws_eqClause fun hfit => ?_
  have hb_a : a.length ≤ 9223372036854775807 := GFits.ints (GFits.cell (show GFits (.clause kind a b) from hfit 0 (Nat.le_of_ble_eq_true rfl)) (.tail _ (.head _)))
  have hb_b : b.length ≤ 9223372036854775807 := GFits.ints (GFits.cell (show GFits (.clause kind a b) from hfit 0 (Nat.le_of_ble_eq_true rfl)) (.tail _ (.tail _ (.head _))))
  have hb_a' : a'.length ≤ 9223372036854775807 := GFits.ints (GFits.cell (show GFits (.clause kind' a' b') from hfit 1 (Nat.le_of_ble_eq_true rfl)) (.tail _ (.head _)))
  have hb_b' : b'.length ≤ 9223372036854775807 := GFits.ints (GFits.cell (show GFits (.clause kind' a' b') from hfit 1 (Nat.le_of_ble_eq_true rfl)) (.tail _ (.tail _ (.head _))))
  clear hfit
  refine gCon lv_laws_eqClause tab_ok (rs := [.tmp 4]) (sl := [(0, .g (.clause kind a b)), (1, .g (.clause kind' a' b'))]) Tryd.func10 rfl Tryd.ntmps10 rfl enter_laws_eqClause rfl (by repeat constructor) ?_
  (repeat' (first | ((with_reducible apply gLB.cagg); (. exact RF.mk ⟨rfl, rfl, rfl⟩)) | ((with_reducible apply gLB.cone); (. exact RF.mk ⟨rfl, rfl⟩)) | ((with_reducible apply gLI.cagg); (. exact RF.mk ⟨rfl, rfl, rfl⟩)) | ((with_reducible apply gLI.cone); (. exact RF.mk ⟨rfl, rfl⟩)) | ((with_reducible apply gAF.cbuildA); (. exact RF.mk rfl); (. exact RF.mk ⟨rfl, rfl, rfl, rfl⟩)) | (with_reducible constructor) | exact NE.mk rfl | exact RF.mk rfl | exact RF.mk ⟨rfl, rfl⟩ | exact RF.mk ⟨rfl, rfl, rfl⟩ | exact NU.mk (by first | omega | (simp only [LNs]; omega)) | ((with_reducible apply NID_mk); (try simp only [Nat.reduceAdd, Nat.reduceMul]); exact rfl) | ((with_reducible apply SLT_mk); (. rfl); (. rfl); (. rfl); (. rfl)) | ((with_reducible apply FO_mk); (. rfl); (. rfl); (. rfl); (. rfl); (. rfl)) | ((with_reducible apply FO1_mk); (. rfl); (. rfl); (. rfl); (. rfl); (. rfl)) | ((with_reducible apply CUT_all); (. with_reducible first | exact LEN_map _ _ | exact LEN_nil | exact LEN_1 _ | exact LEN_2 _ _ | exact LEN_any _); (. first | rfl | omega); (. first | rfl | omega)) | ((with_reducible apply CUT_mapT); (. first | rfl | omega); (. exact NU.mk (by first | omega | (simp only [LNs]; omega)))) | ((with_reducible apply CUT_mapD); (. first | rfl | omega)) | (with_reducible apply CUT_map) | (apply CUT_any) | (with_reducible apply CUG_mapT) | ((with_reducible apply CUG_mapD); (. exact NU.mk (by first | omega | (simp only [LNs]; omega))); (. rfl)) | (with_reducible apply CUG_map) | (apply CUG_any) | ((with_reducible apply CON_of); first | apply laws_eqInt64S) | (with_reducible intro hc; (try simp only [HCs] at hc)) | exact OB_f | exact DEC.mk (by decide) | ((with_reducible apply MZ_one); (. rfl); (. rfl); (. rfl)) | ((with_reducible apply MZ_st); (. rfl); (. rfl); (. rfl); (. rfl); (. rfl)) | ((with_reducible apply OB_t); kernel_rfl) | (with_reducible first | apply gNK | apply TX_seq | apply QA_and_n | apply QA_and_e | apply QA_and_r | apply gTX_cond | apply CK_t | apply CK_f | apply CK_if | apply TX_skip | apply TX_ret | apply TX_exit | apply TX_label | apply QA_in_eq | apply QA_in_ne | apply QA_in_n | apply QA_in_r | apply QA_lp_e | apply QA_lp_r | apply QA_ct_e | apply QA_ct_r | apply QA_nr | apply gEND_1 | apply gEND_N | apply END_0) | apply gTX_rgW tab_ok | apply gTX_rgD tab_ok rfl | (apply TX_blk; exact RF.mk rfl) | exact EQ.mk rfl | exact gSel.cnil _ | apply gSel.ccons | apply gCG.cagg))
  (all_goals (first | (((refine EQ_bool ?_; simp_all; done)); done)))
end Go.Proofs.YtachnjinfdagjaaDoor

