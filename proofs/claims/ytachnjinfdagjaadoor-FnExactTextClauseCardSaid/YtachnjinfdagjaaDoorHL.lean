/- Contracts: what the laws ask of data that are numbered. No conditions but those that each theorem names. -/
import Derived.Test.YtachnjinfdagjaaDoorTab
import Derived.Test.YtachnjinfdagjaaDoorKG
import Derived.Test.YtachnjinfdagjaaDoorW1
import Derived.Test.YtachnjinfdagjaaDoorMK0
import Derived.Test.YtachnjinfdagjaaDoorChecked
set_option linter.unusedSimpArgs false
set_option linter.unusedVariables false
namespace Go.Proofs.YtachnjinfdagjaaDoor
open Go.RowKit
open Shp
def lv_laws_heldInt64S : Nat → List Nat
  | 0 => [0, 1]
  | 1 => [0, 1, 5]
  | 2 => [0, 1, 5, 9]
  | 3 => [0, 1, 5]
  | 4 => [0, 1, 5, 17]
  | 5 => [4]
  | 6 => [0, 1, 5]
  | 7 => [4]
  | _ => []
theorem enter_laws_heldInt64S (args : Array Value) (w : World) : (callFunc 34 args).run Tryd.prog w = .ok (.enter 34 args) w := callFunc_enter Tryd.func34 (by decide) rfl args w
set_option maxHeartbeats 1000000 in
theorem laws_heldInt64S (k : Int) (xs : List Int) (hk : NU (0 ≤ k ∧ k + xs.length ≤ 1099511627776)) (hx : HY (xs = marks k xs.length)) : Con Tryd.prog 34 [.ints xs, .i k] (.i (k + (xs.length : Nat))) := by
  have hk := hk.e
  have hx := hx.e
  refine Con.fit enter_laws_heldInt64S fun hfit => ?_
  have hb_xs : xs.length ≤ 9223372036854775807 := GFits.ints (show GFits (.ints xs) from hfit 0 (Nat.le_of_ble_eq_true rfl))
  clear hfit
  refine gCon lv_laws_heldInt64S tab_ok (rs := [.tmp 4]) (sl := [(0, .g (.ints xs)), (1, .g (.i k))]) Tryd.func34 rfl Tryd.ntmps34 rfl enter_laws_heldInt64S rfl (by repeat constructor) ?_
  (repeat' (first | ((with_reducible apply gLB.cagg); (. exact RF.mk ⟨rfl, rfl, rfl⟩)) | ((with_reducible apply gLB.cone); (. exact RF.mk ⟨rfl, rfl⟩)) | ((with_reducible apply gLI.cagg); (. exact RF.mk ⟨rfl, rfl, rfl⟩)) | ((with_reducible apply gLI.cone); (. exact RF.mk ⟨rfl, rfl⟩)) | ((with_reducible apply gAF.cbuildA); (. exact RF.mk rfl); (. exact RF.mk ⟨rfl, rfl, rfl, rfl⟩)) | (with_reducible constructor) | exact NE.mk rfl | exact RF.mk rfl | exact RF.mk ⟨rfl, rfl⟩ | exact RF.mk ⟨rfl, rfl, rfl⟩ | exact NU.mk (by first | omega | (simp only [LNs]; omega)) | ((with_reducible apply NID_mk); (try simp only [Nat.reduceAdd, Nat.reduceMul]); exact rfl) | ((with_reducible apply SLT_mk); (. rfl); (. rfl); (. rfl); (. rfl)) | ((with_reducible apply FO_mk); (. rfl); (. rfl); (. rfl); (. rfl); (. rfl)) | ((with_reducible apply FO1_mk); (. rfl); (. rfl); (. rfl); (. rfl); (. rfl)) | ((with_reducible apply CUT_all); (. with_reducible first | exact LEN_map _ _ | exact LEN_nil | exact LEN_1 _ | exact LEN_2 _ _ | exact LEN_any _); (. first | rfl | omega); (. first | rfl | omega)) | ((with_reducible apply CUT_mapT); (. first | rfl | omega); (. exact NU.mk (by first | omega | (simp only [LNs]; omega)))) | ((with_reducible apply CUT_mapD); (. first | rfl | omega)) | (with_reducible apply CUT_map) | (apply CUT_any) | (with_reducible apply CUG_mapT) | ((with_reducible apply CUG_mapD); (. exact NU.mk (by first | omega | (simp only [LNs]; omega))); (. rfl)) | (with_reducible apply CUG_map) | (apply CUG_any) | (with_reducible intro hc; (try simp only [HCs] at hc)) | exact OB_f | exact DEC.mk (by decide) | ((with_reducible apply MZ_one); (. rfl); (. rfl); (. rfl)) | ((with_reducible apply MZ_st); (. rfl); (. rfl); (. rfl); (. rfl); (. rfl)) | ((with_reducible apply OB_t); kernel_rfl) | (with_reducible first | apply gNK | apply TX_seq | apply QA_and_n | apply QA_and_e | apply QA_and_r | apply gTX_cond | apply CK_t | apply CK_f | apply CK_if | apply TX_skip | apply TX_ret | apply TX_exit | apply TX_label | apply QA_in_eq | apply QA_in_ne | apply QA_in_n | apply QA_in_r | apply QA_lp_e | apply QA_lp_r | apply QA_ct_e | apply QA_ct_r | apply QA_nr | apply gEND_1 | apply gEND_N | apply END_0) | apply gTX_rgW tab_ok | apply gTX_rgD tab_ok rfl | (apply TX_blk; exact RF.mk rfl) | exact EQ.mk rfl | (refine TX_loop (id := 0) (ι := Nat) (fun i => ⟨[(0, .g (.ints xs)), (1, .g (.i (k + (i : Nat)))), (5, .g (.i i))], []⟩) (fun i => (i ≤ xs.length)) (fun i => xs.length - i) (0) ?_ ?_ ?_; (. (apply gLX0 <;> (repeat' (first | (with_reducible constructor) | exact NE.mk rfl | exact RF.mk rfl | exact RF.mk ⟨rfl, rfl⟩ | exact RF.mk ⟨rfl, rfl, rfl⟩ | exact EQ.mk rfl | exact RF.mk (by decide) | (with_reducible apply EQ_int) | exact EQ.mk (by first | omega | (simp only [LNs]; omega)))); (all_goals ((first | exact EQ.mk (by omega) | exact EQ.mk (by first | (simp; done) | fail)); done)))); (. (omega)); (rintro i h1; (show TX _ _ _ _ _ [(0, .g (.ints xs)), (1, .g (.i (k + (i : Nat)))), (5, .g (.i i))] [] _))) | exact gSel.cnil _ | apply gSel.ccons | apply gCG.cagg))
  (all_goals (first | (refine QA_lp (i + 1) ?_ ?_ ?_; (· (apply gLX0 <;> (repeat' (first | (with_reducible constructor) | exact NE.mk rfl | exact RF.mk rfl | exact RF.mk ⟨rfl, rfl⟩ | exact RF.mk ⟨rfl, rfl, rfl⟩ | exact EQ.mk rfl | exact RF.mk (by decide) | (with_reducible apply EQ_int) | exact EQ.mk (by first | omega | (simp only [LNs]; omega)))); (all_goals ((first | exact EQ.mk (by omega) | exact EQ.mk (by first | (simp; done) | fail)); done)))); (· (omega)); (· (((try dsimp only); omega)))) | (((refine EQ_int (EQ.mk ?_); first | omega | (exfalso; have q := marks_nth k xs.length i (by omega); rw [← hx] at q; omega))); done)))
def lv_laws_heldClause : Nat → List Nat
  | 0 => [1, 2]
  | 1 => [1, 2]
  | 2 => [1, 2, 10]
  | 3 => [4]
  | 4 => [1]
  | 5 => [1, 16]
  | 6 => [4]
  | 7 => [4]
  | _ => []
theorem enter_laws_heldClause (args : Array Value) (w : World) : (callFunc 14 args).run Tryd.prog w = .ok (.enter 14 args) w := callFunc_enter Tryd.func14 (by decide) rfl args w
set_option maxHeartbeats 1000000 in
theorem laws_heldClause (k : Int) (kd : Int) (a : List Int) (b : List Int) (hk : NU (0 ≤ k ∧ k + ((a.length + b.length : Nat) : Int) ≤ 1099511627776)) (ha : HY (a = marks k a.length)) (hb : HY (b = marks (k + (a.length : Nat)) b.length)) : Con Tryd.prog 14 [.clause kd a b, .i k] (.i ((k + (a.length : Nat)) + (b.length : Nat))) := by
  have hk := hk.e
  have ha := ha.e
  have hb := hb.e
  refine Con.fit enter_laws_heldClause fun hfit => ?_
  have hb_a : a.length ≤ 9223372036854775807 := GFits.ints (GFits.cell (show GFits (.clause kd a b) from hfit 0 (Nat.le_of_ble_eq_true rfl)) (.tail _ (.head _)))
  have hb_b : b.length ≤ 9223372036854775807 := GFits.ints (GFits.cell (show GFits (.clause kd a b) from hfit 0 (Nat.le_of_ble_eq_true rfl)) (.tail _ (.tail _ (.head _))))
  clear hfit
  refine gCon lv_laws_heldClause tab_ok (rs := [.tmp 4]) (sl := [(0, .g (.clause kd a b)), (1, .g (.i k))]) Tryd.func14 rfl Tryd.ntmps14 rfl enter_laws_heldClause rfl (by repeat constructor) ?_
  (repeat' (first | ((with_reducible apply gLB.cagg); (. exact RF.mk ⟨rfl, rfl, rfl⟩)) | ((with_reducible apply gLB.cone); (. exact RF.mk ⟨rfl, rfl⟩)) | ((with_reducible apply gLI.cagg); (. exact RF.mk ⟨rfl, rfl, rfl⟩)) | ((with_reducible apply gLI.cone); (. exact RF.mk ⟨rfl, rfl⟩)) | ((with_reducible apply gAF.cbuildA); (. exact RF.mk rfl); (. exact RF.mk ⟨rfl, rfl, rfl, rfl⟩)) | (with_reducible constructor) | exact NE.mk rfl | exact RF.mk rfl | exact RF.mk ⟨rfl, rfl⟩ | exact RF.mk ⟨rfl, rfl, rfl⟩ | exact NU.mk (by first | omega | (simp only [LNs]; omega) | ((simp only [cntR, cntPs, Int.natCast_add] at *; omega))) | ((with_reducible apply NID_mk); (try simp only [Nat.reduceAdd, Nat.reduceMul]); exact rfl) | ((with_reducible apply SLT_mk); (. rfl); (. rfl); (. rfl); (. rfl)) | ((with_reducible apply FO_mk); (. rfl); (. rfl); (. rfl); (. rfl); (. rfl)) | ((with_reducible apply FO1_mk); (. rfl); (. rfl); (. rfl); (. rfl); (. rfl)) | ((with_reducible apply CUT_all); (. with_reducible first | exact LEN_map _ _ | exact LEN_nil | exact LEN_1 _ | exact LEN_2 _ _ | exact LEN_any _); (. first | rfl | omega); (. first | rfl | omega)) | ((with_reducible apply CUT_mapT); (. first | rfl | omega); (. exact NU.mk (by first | omega | (simp only [LNs]; omega) | ((simp only [cntR, cntPs, Int.natCast_add] at *; omega))))) | ((with_reducible apply CUT_mapD); (. first | rfl | omega)) | (with_reducible apply CUT_map) | (apply CUT_any) | (with_reducible apply CUG_mapT) | ((with_reducible apply CUG_mapD); (. exact NU.mk (by first | omega | (simp only [LNs]; omega) | ((simp only [cntR, cntPs, Int.natCast_add] at *; omega)))); (. rfl)) | (with_reducible apply CUG_map) | (apply CUG_any) | ((with_reducible apply CON_of); first | apply laws_heldInt64S) | (with_reducible intro hc; (try simp only [HCs] at hc)) | exact OB_f | exact DEC.mk (by decide) | ((with_reducible apply MZ_one); (. rfl); (. rfl); (. rfl)) | ((with_reducible apply MZ_st); (. rfl); (. rfl); (. rfl); (. rfl); (. rfl)) | ((with_reducible apply OB_t); kernel_rfl) | (with_reducible first | apply gNK | apply TX_seq | apply QA_and_n | apply QA_and_e | apply QA_and_r | apply gTX_cond | apply CK_t | apply CK_f | apply CK_if | apply TX_skip | apply TX_ret | apply TX_exit | apply TX_label | apply QA_in_eq | apply QA_in_ne | apply QA_in_n | apply QA_in_r | apply QA_lp_e | apply QA_lp_r | apply QA_ct_e | apply QA_ct_r | apply QA_nr | apply gEND_1 | apply gEND_N | apply END_0) | apply gTX_rgW tab_ok | apply gTX_rgD tab_ok rfl | (apply TX_blk; exact RF.mk rfl) | exact EQ.mk rfl | exact HY.mk ha | exact HY.mk hb | exact gSel.cnil _ | apply gSel.ccons | apply gCG.cagg))
  (all_goals (first | (((refine EQ_int (EQ.mk ?_); first | rfl | (exfalso; omega) | (exfalso; simp only [cntR, cntPs, Int.natCast_add] at *; omega))); done)))
end Go.Proofs.YtachnjinfdagjaaDoor

