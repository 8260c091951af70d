/- Contracts of the laws' own functions over data: sizes, copies, equality. No conditions but those that each theorem names. -/
import Derived.Test.YtachnjinfdagjaaDoorTab
import Derived.Test.YtachnjinfdagjaaDoorKG
import Derived.Test.YtachnjinfdagjaaDoorTM
import Derived.Test.YtachnjinfdagjaaDoorW1
import Derived.Test.YtachnjinfdagjaaDoorChecked
set_option linter.unusedSimpArgs false
set_option linter.unusedVariables false
namespace Go.Proofs.YtachnjinfdagjaaDoor
open Go.RowKit
open Shp
def lv_laws_szInt64S : Nat → List Nat
  | 0 => [0, 1]
  | 1 => [1]
  | 2 => [1, 10]
  | 3 => [4]
  | 4 => [4]
  | _ => []
theorem enter_laws_szInt64S (args : Array Value) (w : World) : (callFunc 19 args).run Tryd.prog w = .ok (.enter 19 args) w := callFunc_enter Tryd.func19 (by decide) rfl args w
set_option maxHeartbeats 1000000 in
theorem laws_szInt64S (xs : List Int) (l : Int) (hl : NU (0 ≤ l ∧ l ≤ 1048576)) : Con Tryd.prog 19 [.ints xs, .i l] (.i (szInt64S xs l)) := by
  have hl := hl.e
  refine Con.fit enter_laws_szInt64S fun hfit => ?_
  have hb_xs : xs.length ≤ 9223372036854775807 := GFits.ints (show GFits (.ints xs) from hfit 0 (Nat.le_of_ble_eq_true rfl))
  clear hfit
  refine gCon lv_laws_szInt64S tab_ok (rs := [.tmp 4]) (sl := [(0, .g (.ints xs)), (1, .g (.i l))]) Tryd.func19 rfl Tryd.ntmps19 rfl enter_laws_szInt64S rfl (by repeat constructor) ?_
  (repeat' (first | ((with_reducible apply gLB.cagg); (. exact RF.mk ⟨rfl, rfl, rfl⟩)) | ((with_reducible apply gLB.cone); (. exact RF.mk ⟨rfl, rfl⟩)) | ((with_reducible apply gLI.cagg); (. exact RF.mk ⟨rfl, rfl, rfl⟩)) | ((with_reducible apply gLI.cone); (. exact RF.mk ⟨rfl, rfl⟩)) | ((with_reducible apply gAF.cbuildA); (. exact RF.mk rfl); (. exact RF.mk ⟨rfl, rfl, rfl, rfl⟩)) | (with_reducible constructor) | exact NE.mk rfl | exact RF.mk rfl | exact RF.mk ⟨rfl, rfl⟩ | exact RF.mk ⟨rfl, rfl, rfl⟩ | exact NU.mk (by first | omega | (simp only [LNs]; omega)) | ((with_reducible apply NID_mk); (try simp only [Nat.reduceAdd, Nat.reduceMul]); exact rfl) | ((with_reducible apply SLT_mk); (. rfl); (. rfl); (. rfl); (. rfl)) | ((with_reducible apply FO_mk); (. rfl); (. rfl); (. rfl); (. rfl); (. rfl)) | ((with_reducible apply FO1_mk); (. rfl); (. rfl); (. rfl); (. rfl); (. rfl)) | ((with_reducible apply CUT_all); (. with_reducible first | exact LEN_map _ _ | exact LEN_nil | exact LEN_1 _ | exact LEN_2 _ _ | exact LEN_any _); (. first | rfl | omega); (. first | rfl | omega)) | ((with_reducible apply CUT_mapT); (. first | rfl | omega); (. exact NU.mk (by first | omega | (simp only [LNs]; omega)))) | ((with_reducible apply CUT_mapD); (. first | rfl | omega)) | (with_reducible apply CUT_map) | (apply CUT_any) | (with_reducible apply CUG_mapT) | ((with_reducible apply CUG_mapD); (. exact NU.mk (by first | omega | (simp only [LNs]; omega))); (. rfl)) | (with_reducible apply CUG_map) | (apply CUG_any) | (with_reducible intro hc; (try simp only [HCs] at hc)) | exact OB_f | exact DEC.mk (by decide) | ((with_reducible apply MZ_one); (. rfl); (. rfl); (. rfl)) | ((with_reducible apply MZ_st); (. rfl); (. rfl); (. rfl); (. rfl); (. rfl)) | ((with_reducible apply OB_t); kernel_rfl) | (with_reducible first | apply gNK | apply TX_seq | apply QA_and_n | apply QA_and_e | apply QA_and_r | apply gTX_cond | apply CK_t | apply CK_f | apply CK_if | apply TX_skip | apply TX_ret | apply TX_exit | apply TX_label | apply QA_in_eq | apply QA_in_ne | apply QA_in_n | apply QA_in_r | apply QA_lp_e | apply QA_lp_r | apply QA_ct_e | apply QA_ct_r | apply QA_nr | apply gEND_1 | apply gEND_N | apply END_0) | apply gTX_rgW tab_ok | apply gTX_rgD tab_ok rfl | (apply TX_blk; exact RF.mk rfl) | exact EQ.mk rfl | exact gSel.cnil _ | apply gSel.ccons | apply gCG.cagg))
  (all_goals (first | (((refine EQ_int (EQ.mk ?_); unfold szInt64S szThen; dsimp only; split <;> omega)); done)))
def lv_laws_toInt64S : Nat → List Nat
  | 0 => [0]
  | 1 => [0, 3]
  | 2 => [0, 3, 4]
  | 3 => [0, 3, 4, 11]
  | 4 => [0, 3, 4]
  | 5 => [0, 3, 4]
  | 6 => [2]
  | _ => []
theorem enter_laws_toInt64S (args : Array Value) (w : World) : (callFunc 24 args).run Tryd.prog w = .ok (.enter 24 args) w := callFunc_enter Tryd.func24 (by decide) rfl args w
set_option maxHeartbeats 1000000 in
theorem laws_toInt64S (xs : List Int) (hs : HY (smInt64S xs)) : Con Tryd.prog 24 [.ints xs] (.ints xs) := by
  have hs := hs.e
  refine Con.fit enter_laws_toInt64S fun hfit => ?_
  have hb_xs : xs.length ≤ 9223372036854775807 := GFits.ints (show GFits (.ints xs) from hfit 0 (Nat.le_of_ble_eq_true rfl))
  clear hfit
  have hs1 : xs.length ≤ 1048576 := hs
  refine gCon lv_laws_toInt64S tab_ok (rs := [.tmp 2]) (sl := [(0, .g (.ints xs))]) Tryd.func24 rfl Tryd.ntmps24 rfl enter_laws_toInt64S rfl (by repeat constructor) ?_
  (repeat' (first | ((with_reducible apply gLB.cagg); (. exact RF.mk ⟨rfl, rfl, rfl⟩)) | ((with_reducible apply gLB.cone); (. exact RF.mk ⟨rfl, rfl⟩)) | ((with_reducible apply gLI.cagg); (. exact RF.mk ⟨rfl, rfl, rfl⟩)) | ((with_reducible apply gLI.cone); (. exact RF.mk ⟨rfl, rfl⟩)) | ((with_reducible apply gAF.cbuildA); (. exact RF.mk rfl); (. exact RF.mk ⟨rfl, rfl, rfl, rfl⟩)) | (with_reducible constructor) | exact NE.mk rfl | exact RF.mk rfl | exact RF.mk ⟨rfl, rfl⟩ | exact RF.mk ⟨rfl, rfl, rfl⟩ | exact NU.mk (by first | omega | (simp only [LNs]; omega)) | ((with_reducible apply NID_mk); (try simp only [Nat.reduceAdd, Nat.reduceMul]); exact rfl) | ((with_reducible apply SLT_mk); (. rfl); (. rfl); (. rfl); (. rfl)) | ((with_reducible apply FO_mk); (. rfl); (. rfl); (. rfl); (. rfl); (. rfl)) | ((with_reducible apply FO1_mk); (. rfl); (. rfl); (. rfl); (. rfl); (. rfl)) | ((with_reducible apply CUT_all); (. with_reducible first | exact LEN_map _ _ | exact LEN_nil | exact LEN_1 _ | exact LEN_2 _ _ | exact LEN_any _); (. first | rfl | omega); (. first | rfl | omega)) | ((with_reducible apply CUT_mapT); (. first | rfl | omega); (. exact NU.mk (by first | omega | (simp only [LNs]; omega)))) | ((with_reducible apply CUT_mapD); (. first | rfl | omega)) | (with_reducible apply CUT_map) | (apply CUT_any) | (with_reducible apply CUG_mapT) | ((with_reducible apply CUG_mapD); (. exact NU.mk (by first | omega | (simp only [LNs]; omega))); (. rfl)) | (with_reducible apply CUG_map) | (apply CUG_any) | (with_reducible intro hc; (try simp only [HCs] at hc)) | exact OB_f | exact DEC.mk (by decide) | ((with_reducible apply MZ_one); (. rfl); (. rfl); (. rfl)) | ((with_reducible apply MZ_st); (. rfl); (. rfl); (. rfl); (. rfl); (. rfl)) | ((with_reducible apply OB_t); kernel_rfl) | (with_reducible first | apply gNK | apply TX_seq | apply QA_and_n | apply QA_and_e | apply QA_and_r | apply gTX_cond | apply CK_t | apply CK_f | apply CK_if | apply TX_skip | apply TX_ret | apply TX_exit | apply TX_label | apply QA_in_eq | apply QA_in_ne | apply QA_in_n | apply QA_in_r | apply QA_lp_e | apply QA_lp_r | apply QA_ct_e | apply QA_ct_r | apply QA_nr | apply gEND_1 | apply gEND_N | apply END_0) | apply gTX_rgW tab_ok | apply gTX_rgD tab_ok rfl | (apply TX_blk; exact RF.mk rfl) | exact EQ.mk rfl | (refine TX_loop (id := 0) (ι := Nat × (List Int)) (fun ⟨i, ys⟩ => ⟨[(0, .g (.ints xs)), (3, .own 0 0 xs.length), (4, .g (.i i))], [(0, .arr 1 true (ys.map GV.i))]⟩) (fun ⟨i, ys⟩ => (i ≤ xs.length) ∧ (ys.length = xs.length) ∧ (ys.take i = xs.take i)) (fun ⟨i, ys⟩ => xs.length - i) (0, List.replicate xs.length 0) ?_ ?_ ?_; (. (apply gLX1 <;> (repeat' (first | (with_reducible constructor) | exact NE.mk rfl | exact RF.mk rfl | exact RF.mk ⟨rfl, rfl⟩ | exact RF.mk ⟨rfl, rfl, rfl⟩ | exact EQ.mk rfl | exact RF.mk (by decide) | (with_reducible apply EQ_int) | exact EQ.mk (by first | omega | (simp only [LNs]; omega)))))); (. (exact ⟨by omega, by simp, by simp⟩)); (rintro ⟨i, ys⟩ ⟨h1, h2, h3⟩; (show TX _ _ _ _ _ [(0, .g (.ints xs)), (3, .own 0 0 xs.length), (4, .g (.i i))] [(0, .arr 1 true (ys.map GV.i))] _))) | exact gSel.cnil _ | apply gSel.ccons | apply gCG.cagg))
  (all_goals (first | (refine QA_lp (i + 1, ys.set i (nth xs i)) ?_ ?_ ?_; (· (apply gLX1 <;> (repeat' (first | (with_reducible constructor) | exact NE.mk rfl | exact RF.mk rfl | exact RF.mk ⟨rfl, rfl⟩ | exact RF.mk ⟨rfl, rfl, rfl⟩ | exact EQ.mk rfl | exact RF.mk (by decide) | (with_reducible apply EQ_int) | exact EQ.mk (by first | omega | (simp only [LNs]; omega)))))); (· ((refine ⟨by omega, by simp [h2], ?_⟩; rw [take_set (by omega), h3, take_nth (by omega)]))); (· (((try dsimp only); omega)))) | (((refine EQ_sl (EQ_map (EQ.mk ?_)); rw [← List.take_length (l := xs), ← List.take_length (l := ys), show ys.length = i by omega, h3, show xs.length = i by omega])); done)))
def lv_laws_szClause : Nat → List Nat
  | 0 => [1, 2]
  | 1 => [1, 2]
  | 2 => [1, 2, 10]
  | 3 => [4]
  | 4 => [1]
  | 5 => [1, 16]
  | 6 => [4]
  | 7 => [4]
  | _ => []
theorem enter_laws_szClause (args : Array Value) (w : World) : (callFunc 6 args).run Tryd.prog w = .ok (.enter 6 args) w := callFunc_enter Tryd.func6 (by decide) rfl args w
set_option maxHeartbeats 1000000 in
theorem laws_szClause (kind : Int) (a : List Int) (b : List Int) (l : Int) (hl : NU (0 ≤ l ∧ l ≤ 1048576)) : Con Tryd.prog 6 [.clause kind a b, .i l] (.i (szClause (kind, a, b) l)) := by
  have hl := hl.e
  refine Con.fit enter_laws_szClause fun hfit => ?_
  have hb_a : a.length ≤ 9223372036854775807 := GFits.ints (GFits.cell (show GFits (.clause kind a b) from hfit 0 (Nat.le_of_ble_eq_true rfl)) (.tail _ (.head _)))
  have hb_b : b.length ≤ 9223372036854775807 := GFits.ints (GFits.cell (show GFits (.clause kind a b) from hfit 0 (Nat.le_of_ble_eq_true rfl)) (.tail _ (.tail _ (.head _))))
  clear hfit
  refine gCon lv_laws_szClause tab_ok (rs := [.tmp 4]) (sl := [(0, .g (.clause kind a b)), (1, .g (.i l))]) Tryd.func6 rfl Tryd.ntmps6 rfl enter_laws_szClause rfl (by repeat constructor) ?_
  (repeat' (first | ((with_reducible apply gLB.cagg); (. exact RF.mk ⟨rfl, rfl, rfl⟩)) | ((with_reducible apply gLB.cone); (. exact RF.mk ⟨rfl, rfl⟩)) | ((with_reducible apply gLI.cagg); (. exact RF.mk ⟨rfl, rfl, rfl⟩)) | ((with_reducible apply gLI.cone); (. exact RF.mk ⟨rfl, rfl⟩)) | ((with_reducible apply gAF.cbuildA); (. exact RF.mk rfl); (. exact RF.mk ⟨rfl, rfl, rfl, rfl⟩)) | (with_reducible constructor) | exact NE.mk rfl | exact RF.mk rfl | exact RF.mk ⟨rfl, rfl⟩ | exact RF.mk ⟨rfl, rfl, rfl⟩ | exact NU.mk (by first | omega | (simp only [LNs]; omega) | (first | omega | (have q0 := szInt64S_ok a (l) (by assumption) (by omega); first | omega | (have q1 := szInt64S_ok b (szInt64S a (l)) (by assumption) (by omega); omega)))) | ((with_reducible apply NID_mk); (try simp only [Nat.reduceAdd, Nat.reduceMul]); exact rfl) | ((with_reducible apply SLT_mk); (. rfl); (. rfl); (. rfl); (. rfl)) | ((with_reducible apply FO_mk); (. rfl); (. rfl); (. rfl); (. rfl); (. rfl)) | ((with_reducible apply FO1_mk); (. rfl); (. rfl); (. rfl); (. rfl); (. rfl)) | ((with_reducible apply CUT_all); (. with_reducible first | exact LEN_map _ _ | exact LEN_nil | exact LEN_1 _ | exact LEN_2 _ _ | exact LEN_any _); (. first | rfl | omega); (. first | rfl | omega)) | ((with_reducible apply CUT_mapT); (. first | rfl | omega); (. exact NU.mk (by first | omega | (simp only [LNs]; omega) | (first | omega | (have q0 := szInt64S_ok a (l) (by assumption) (by omega); first | omega | (have q1 := szInt64S_ok b (szInt64S a (l)) (by assumption) (by omega); omega)))))) | ((with_reducible apply CUT_mapD); (. first | rfl | omega)) | (with_reducible apply CUT_map) | (apply CUT_any) | (with_reducible apply CUG_mapT) | ((with_reducible apply CUG_mapD); (. exact NU.mk (by first | omega | (simp only [LNs]; omega) | (first | omega | (have q0 := szInt64S_ok a (l) (by assumption) (by omega); first | omega | (have q1 := szInt64S_ok b (szInt64S a (l)) (by assumption) (by omega); omega))))); (. rfl)) | (with_reducible apply CUG_map) | (apply CUG_any) | ((with_reducible apply CON_of); first | apply laws_szInt64S) | (with_reducible intro hc; (try simp only [HCs] at hc)) | exact OB_f | exact DEC.mk (by decide) | ((with_reducible apply MZ_one); (. rfl); (. rfl); (. rfl)) | ((with_reducible apply MZ_st); (. rfl); (. rfl); (. rfl); (. rfl); (. rfl)) | ((with_reducible apply OB_t); kernel_rfl) | (with_reducible first | apply gNK | apply TX_seq | apply QA_and_n | apply QA_and_e | apply QA_and_r | apply gTX_cond | apply CK_t | apply CK_f | apply CK_if | apply TX_skip | apply TX_ret | apply TX_exit | apply TX_label | apply QA_in_eq | apply QA_in_ne | apply QA_in_n | apply QA_in_r | apply QA_lp_e | apply QA_lp_r | apply QA_ct_e | apply QA_ct_r | apply QA_nr | apply gEND_1 | apply gEND_N | apply END_0) | apply gTX_rgW tab_ok | apply gTX_rgD tab_ok rfl | (apply TX_blk; exact RF.mk rfl) | exact EQ.mk rfl | exact gSel.cnil _ | apply gSel.ccons | apply gCG.cagg))
  (all_goals (first | (((refine EQ_int (EQ.mk ?_); unfold szClause szThen; dsimp only; repeat' split; all_goals omega)); done)))
def lv_laws_toClause : Nat → List Nat
  | 0 => [1, 2]
  | 1 => [1, 2, 3]
  | 2 => [1, 2, 3]
  | 3 => [1, 2, 3]
  | 4 => [2, 3]
  | 5 => [2]
  | _ => []
theorem enter_laws_toClause (args : Array Value) (w : World) : (callFunc 8 args).run Tryd.prog w = .ok (.enter 8 args) w := callFunc_enter Tryd.func8 (by decide) rfl args w
set_option maxHeartbeats 1000000 in
theorem laws_toClause (kind : Int) (a : List Int) (b : List Int) (hs : HY (smClause (kind, a, b))) : Con Tryd.prog 8 [.clause kind a b] (.clause kind a b) := by
  have hs := hs.e
  refine Con.fit enter_laws_toClause fun hfit => ?_
  have hb_a : a.length ≤ 9223372036854775807 := GFits.ints (GFits.cell (show GFits (.clause kind a b) from hfit 0 (Nat.le_of_ble_eq_true rfl)) (.tail _ (.head _)))
  have hb_b : b.length ≤ 9223372036854775807 := GFits.ints (GFits.cell (show GFits (.clause kind a b) from hfit 0 (Nat.le_of_ble_eq_true rfl)) (.tail _ (.tail _ (.head _))))
  clear hfit
  refine gCon lv_laws_toClause tab_ok (rs := [.cell 2 27]) (sl := [(0, .g (.clause kind a b))]) Tryd.func8 rfl Tryd.ntmps8 rfl enter_laws_toClause rfl (by repeat constructor) ?_
  (repeat' (first | ((with_reducible apply gLB.cagg); (. exact RF.mk ⟨rfl, rfl, rfl⟩)) | ((with_reducible apply gLB.cone); (. exact RF.mk ⟨rfl, rfl⟩)) | ((with_reducible apply gLI.cagg); (. exact RF.mk ⟨rfl, rfl, rfl⟩)) | ((with_reducible apply gLI.cone); (. exact RF.mk ⟨rfl, rfl⟩)) | ((with_reducible apply gAF.cbuildA); (. exact RF.mk rfl); (. exact RF.mk ⟨rfl, rfl, rfl, rfl⟩)) | (with_reducible constructor) | exact NE.mk rfl | exact RF.mk rfl | exact RF.mk ⟨rfl, rfl⟩ | exact RF.mk ⟨rfl, rfl, rfl⟩ | exact NU.mk (by first | omega | (simp only [LNs]; omega)) | ((with_reducible apply NID_mk); (try simp only [Nat.reduceAdd, Nat.reduceMul]); exact rfl) | ((with_reducible apply SLT_mk); (. rfl); (. rfl); (. rfl); (. rfl)) | ((with_reducible apply FO_mk); (. rfl); (. rfl); (. rfl); (. rfl); (. rfl)) | ((with_reducible apply FO1_mk); (. rfl); (. rfl); (. rfl); (. rfl); (. rfl)) | ((with_reducible apply CUT_all); (. with_reducible first | exact LEN_map _ _ | exact LEN_nil | exact LEN_1 _ | exact LEN_2 _ _ | exact LEN_any _); (. first | rfl | omega); (. first | rfl | omega)) | ((with_reducible apply CUT_mapT); (. first | rfl | omega); (. exact NU.mk (by first | omega | (simp only [LNs]; omega)))) | ((with_reducible apply CUT_mapD); (. first | rfl | omega)) | (with_reducible apply CUT_map) | (apply CUT_any) | (with_reducible apply CUG_mapT) | ((with_reducible apply CUG_mapD); (. exact NU.mk (by first | omega | (simp only [LNs]; omega))); (. rfl)) | (with_reducible apply CUG_map) | (apply CUG_any) | ((with_reducible apply CON_of); first | apply laws_toInt64S) | (with_reducible intro hc; (try simp only [HCs] at hc)) | exact OB_f | exact DEC.mk (by decide) | ((with_reducible apply MZ_one); (. rfl); (. rfl); (. rfl)) | ((with_reducible apply MZ_st); (. rfl); (. rfl); (. rfl); (. rfl); (. rfl)) | ((with_reducible apply OB_t); kernel_rfl) | (with_reducible first | apply gNK | apply TX_seq | apply QA_and_n | apply QA_and_e | apply QA_and_r | apply gTX_cond | apply CK_t | apply CK_f | apply CK_if | apply TX_skip | apply TX_ret | apply TX_exit | apply TX_label | apply QA_in_eq | apply QA_in_ne | apply QA_in_n | apply QA_in_r | apply QA_lp_e | apply QA_lp_r | apply QA_ct_e | apply QA_ct_r | apply QA_nr | apply gEND_1 | apply gEND_N | apply END_0) | apply gTX_rgW tab_ok | apply gTX_rgD tab_ok rfl | (apply TX_blk; exact RF.mk rfl) | exact EQ.mk rfl | exact HY.mk hs.1 | exact HY.mk hs.2 | exact gSel.cnil _ | apply gSel.ccons | apply gCG.cagg))
  (all_goals (first | (((first | (refine EQ_bool ?_; first | (simp_all; done) | (rw [Bool.eq_iff_iff]; simp only [Bool.and_eq_true, Bool.or_eq_true, decide_eq_true_eq, Bool.false_eq_true, false_iff, true_iff, iff_false, iff_true, not_and, not_or, Bool.not_eq_true, decide_eq_false_iff_not, beq_iff_eq, bne_iff_ne, ne_eq, Bool.not_eq_true', Bool.not_eq_false', Int.not_le, Int.not_lt]; omega)) | ((repeat (first | apply EQ_tup | apply EQ_cons | apply EQ_agg | apply EQ_sl | apply EQ_map)); all_goals (first | exact EQ.mk rfl | exact EQ.mk (by first | (simp; done) | fail) | exact EQ.mk (by first | (simp_all; done) | fail))))); done)))
def lv_laws_eqClause : Nat → List Nat
  | 0 => [2, 3]
  | 1 => [2, 3, 9]
  | 2 => [4]
  | 3 => [2, 3, 15]
  | 4 => [4]
  | 5 => [21]
  | 6 => [4]
  | 7 => [4]
  | _ => []
theorem enter_laws_eqClause (args : Array Value) (w : World) : (callFunc 10 args).run Tryd.prog w = .ok (.enter 10 args) w := callFunc_enter Tryd.func10 (by decide) rfl args w
set_option maxHeartbeats 1000000 in
theorem laws_eqClause (kind : Int) (a : List Int) (b : List Int) (kind' : Int) (a' : List Int) (b' : List Int) : Con Tryd.prog 10 [.clause kind a b, .clause kind' a' b'] (.bool (decide (kind = kind') && decide (a = a') && decide (b = b'))) := by
  refine Con.fit enter_laws_eqClause fun hfit => ?_
  have hb_a : a.length ≤ 9223372036854775807 := GFits.ints (GFits.cell (show GFits (.clause kind a b) from hfit 0 (Nat.le_of_ble_eq_true rfl)) (.tail _ (.head _)))
  have hb_b : b.length ≤ 9223372036854775807 := GFits.ints (GFits.cell (show GFits (.clause kind a b) from hfit 0 (Nat.le_of_ble_eq_true rfl)) (.tail _ (.tail _ (.head _))))
  have hb_a' : a'.length ≤ 9223372036854775807 := GFits.ints (GFits.cell (show GFits (.clause kind' a' b') from hfit 1 (Nat.le_of_ble_eq_true rfl)) (.tail _ (.head _)))
  have hb_b' : b'.length ≤ 9223372036854775807 := GFits.ints (GFits.cell (show GFits (.clause kind' a' b') from hfit 1 (Nat.le_of_ble_eq_true rfl)) (.tail _ (.tail _ (.head _))))
  clear hfit
  refine gCon lv_laws_eqClause tab_ok (rs := [.tmp 4]) (sl := [(0, .g (.clause kind a b)), (1, .g (.clause kind' a' b'))]) Tryd.func10 rfl Tryd.ntmps10 rfl enter_laws_eqClause rfl (by repeat constructor) ?_
  (repeat' (first | ((with_reducible apply gLB.cagg); (. exact RF.mk ⟨rfl, rfl, rfl⟩)) | ((with_reducible apply gLB.cone); (. exact RF.mk ⟨rfl, rfl⟩)) | ((with_reducible apply gLI.cagg); (. exact RF.mk ⟨rfl, rfl, rfl⟩)) | ((with_reducible apply gLI.cone); (. exact RF.mk ⟨rfl, rfl⟩)) | ((with_reducible apply gAF.cbuildA); (. exact RF.mk rfl); (. exact RF.mk ⟨rfl, rfl, rfl, rfl⟩)) | (with_reducible constructor) | exact NE.mk rfl | exact RF.mk rfl | exact RF.mk ⟨rfl, rfl⟩ | exact RF.mk ⟨rfl, rfl, rfl⟩ | exact NU.mk (by first | omega | (simp only [LNs]; omega)) | ((with_reducible apply NID_mk); (try simp only [Nat.reduceAdd, Nat.reduceMul]); exact rfl) | ((with_reducible apply SLT_mk); (. rfl); (. rfl); (. rfl); (. rfl)) | ((with_reducible apply FO_mk); (. rfl); (. rfl); (. rfl); (. rfl); (. rfl)) | ((with_reducible apply FO1_mk); (. rfl); (. rfl); (. rfl); (. rfl); (. rfl)) | ((with_reducible apply CUT_all); (. with_reducible first | exact LEN_map _ _ | exact LEN_nil | exact LEN_1 _ | exact LEN_2 _ _ | exact LEN_any _); (. first | rfl | omega); (. first | rfl | omega)) | ((with_reducible apply CUT_mapT); (. first | rfl | omega); (. exact NU.mk (by first | omega | (simp only [LNs]; omega)))) | ((with_reducible apply CUT_mapD); (. first | rfl | omega)) | (with_reducible apply CUT_map) | (apply CUT_any) | (with_reducible apply CUG_mapT) | ((with_reducible apply CUG_mapD); (. exact NU.mk (by first | omega | (simp only [LNs]; omega))); (. rfl)) | (with_reducible apply CUG_map) | (apply CUG_any) | ((with_reducible apply CON_of); first | apply laws_eqInt64S) | (with_reducible intro hc; (try simp only [HCs] at hc)) | exact OB_f | exact DEC.mk (by decide) | ((with_reducible apply MZ_one); (. rfl); (. rfl); (. rfl)) | ((with_reducible apply MZ_st); (. rfl); (. rfl); (. rfl); (. rfl); (. rfl)) | ((with_reducible apply OB_t); kernel_rfl) | (with_reducible first | apply gNK | apply TX_seq | apply QA_and_n | apply QA_and_e | apply QA_and_r | apply gTX_cond | apply CK_t | apply CK_f | apply CK_if | apply TX_skip | apply TX_ret | apply TX_exit | apply TX_label | apply QA_in_eq | apply QA_in_ne | apply QA_in_n | apply QA_in_r | apply QA_lp_e | apply QA_lp_r | apply QA_ct_e | apply QA_ct_r | apply QA_nr | apply gEND_1 | apply gEND_N | apply END_0) | apply gTX_rgW tab_ok | apply gTX_rgD tab_ok rfl | (apply TX_blk; exact RF.mk rfl) | exact EQ.mk rfl | exact gSel.cnil _ | apply gSel.ccons | apply gCG.cagg))
  (all_goals (first | (((refine EQ_bool ?_; simp_all; done)); done)))
end Go.Proofs.YtachnjinfdagjaaDoor

