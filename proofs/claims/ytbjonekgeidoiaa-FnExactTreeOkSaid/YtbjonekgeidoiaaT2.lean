/- Contracts of the laws' own functions over data: sizes, copies, equality. No conditions but those that each theorem names. -/
import Derived.Test.YtbjonekgeidoiaaTab
import Derived.Test.YtbjonekgeidoiaaKG
import Derived.Test.YtbjonekgeidoiaaT1
import Derived.Test.YtbjonekgeidoiaaChecked
set_option linter.unusedSimpArgs false
set_option linter.unusedVariables false
namespace Go.Proofs.Ytbjonekgeidoiaa
open Go.RowKit
open Shp

def lv_laws_szGuess : Nat → List Nat
  | 0 => [1, 2]
  | 1 => [1, 2]
  | 2 => [1, 2, 10]
  | 3 => [4]
  | 4 => [1]
  | 5 => [1, 16]
  | 6 => [4]
  | 7 => [4]
  | _ => []
theorem enter_laws_szGuess (args : Array Value) (w : World) : (callFunc 32 args).run Try.prog w = .ok (.enter 32 args) w := callFunc_enter Try.func32 (by decide) rfl args w
set_option maxHeartbeats 1000000 in
theorem laws_szGuess (next : List (List (List Int))) (final : List Int) (l : Int) (hl : NU (0 ≤ l ∧ l ≤ 1048576)) : Con Try.prog 32 [.guess next final, .i l] (.i (szGuess (next, final) l)) := by
  have hl := hl.e
  refine Con.fit enter_laws_szGuess fun hfit => ?_
  have hb_next : next.length ≤ 9223372036854775807 := GFits.lenm (GFits.cell (show GFits (.guess next final) from hfit 0 (Nat.le_of_ble_eq_true rfl)) (.head _))
  have hr_next : ∀ r ∈ next, r.length ≤ 9223372036854775807 ∧ ∀ q ∈ r, q.length ≤ 9223372036854775807 := fun r hr => ⟨GFits.lenm (GFits.elm (GFits.cell (show GFits (.guess next final) from hfit 0 (Nat.le_of_ble_eq_true rfl)) (.head _)) r hr), fun q hq => GFits.ints (GFits.elm (GFits.elm (GFits.cell (show GFits (.guess next final) from hfit 0 (Nat.le_of_ble_eq_true rfl)) (.head _)) r hr) q hq)⟩
  have hb_final : final.length ≤ 9223372036854775807 := GFits.ints (GFits.cell (show GFits (.guess next final) from hfit 0 (Nat.le_of_ble_eq_true rfl)) (.tail _ (.head _)))
  clear hfit
  refine gCon lv_laws_szGuess tab_ok (rs := [.tmp 4]) (sl := [(0, .g (.guess next final)), (1, .g (.i l))]) Try.func32 rfl Try.ntmps32 rfl enter_laws_szGuess rfl (by repeat constructor) ?_
  (repeat' (first | ((with_reducible apply gLB.cagg); (. exact RF.mk ⟨rfl, rfl, rfl⟩)) | ((with_reducible apply gLB.cone); (. exact RF.mk ⟨rfl, rfl⟩)) | ((with_reducible apply gLI.cagg); (. exact RF.mk ⟨rfl, rfl, rfl⟩)) | ((with_reducible apply gLI.cone); (. exact RF.mk ⟨rfl, rfl⟩)) | ((with_reducible apply gAF.cbuildA); (. exact RF.mk rfl); (. exact RF.mk ⟨rfl, rfl, rfl, rfl⟩)) | (with_reducible constructor) | exact NE.mk rfl | exact RF.mk rfl | exact RF.mk ⟨rfl, rfl⟩ | exact RF.mk ⟨rfl, rfl, rfl⟩ | exact NU.mk (by first | omega | (simp only [LNs]; omega) | (first | omega | (have q0 := szInt64SSS_ok next (l) (by assumption) (by omega); first | omega | (have q1 := szInt64S_ok final (szInt64SSS next (l)) (by assumption) (by omega); omega)))) | ((with_reducible apply NID_mk); (try simp only [Nat.reduceAdd, Nat.reduceMul]); exact rfl) | ((with_reducible apply SLT_mk); (. rfl); (. rfl); (. rfl); (. rfl)) | ((with_reducible apply FO_mk); (. rfl); (. rfl); (. rfl); (. rfl); (. rfl)) | ((with_reducible apply FO1_mk); (. rfl); (. rfl); (. rfl); (. rfl); (. rfl)) | ((with_reducible apply CUT_all); (. with_reducible first | exact LEN_map _ _ | exact LEN_nil | exact LEN_1 _ | exact LEN_2 _ _ | exact LEN_any _); (. first | rfl | omega); (. first | rfl | omega)) | ((with_reducible apply CUT_mapT); (. first | rfl | omega); (. exact NU.mk (by first | omega | (simp only [LNs]; omega) | (first | omega | (have q0 := szInt64SSS_ok next (l) (by assumption) (by omega); first | omega | (have q1 := szInt64S_ok final (szInt64SSS next (l)) (by assumption) (by omega); omega)))))) | ((with_reducible apply CUT_mapD); (. first | rfl | omega)) | (with_reducible apply CUT_map) | (apply CUT_any) | (with_reducible apply CUG_mapT) | ((with_reducible apply CUG_mapD); (. exact NU.mk (by first | omega | (simp only [LNs]; omega) | (first | omega | (have q0 := szInt64SSS_ok next (l) (by assumption) (by omega); first | omega | (have q1 := szInt64S_ok final (szInt64SSS next (l)) (by assumption) (by omega); omega))))); (. rfl)) | (with_reducible apply CUG_map) | (apply CUG_any) | ((with_reducible apply CON_of); first | apply laws_szInt64S | apply laws_szInt64SSS) | (with_reducible intro hc; (try simp only [HCs] at hc)) | exact OB_f | exact DEC.mk (by decide) | ((with_reducible apply MZ_one); (. rfl); (. rfl); (. rfl)) | ((with_reducible apply MZ_st); (. rfl); (. rfl); (. rfl); (. rfl); (. rfl)) | ((with_reducible apply OB_t); kernel_rfl) | (with_reducible first | apply gNK | apply TX_seq | apply QA_and_n | apply QA_and_e | apply QA_and_r | apply gTX_cond | apply CK_t | apply CK_f | apply CK_if | apply TX_skip | apply TX_ret | apply TX_exit | apply TX_label | apply QA_in_eq | apply QA_in_ne | apply QA_in_n | apply QA_in_r | apply QA_lp_e | apply QA_lp_r | apply QA_ct_e | apply QA_ct_r | apply QA_nr | apply gEND_1 | apply gEND_N | apply END_0) | apply gTX_rgW tab_ok | apply gTX_rgD tab_ok rfl | (apply TX_blk; exact RF.mk rfl) | exact EQ.mk rfl | exact gSel.cnil _ | apply gSel.ccons | apply gCG.cagg))
  (all_goals (first | (((refine EQ_int (EQ.mk ?_); unfold szGuess szThen; dsimp only; repeat' split; all_goals omega)); done)))

def lv_laws_toGuess : Nat → List Nat
  | 0 => [1, 2]
  | 1 => [1, 2, 3]
  | 2 => [1, 2, 3]
  | 3 => [2, 3]
  | 4 => [2]
  | _ => []
theorem enter_laws_toGuess (args : Array Value) (w : World) : (callFunc 35 args).run Try.prog w = .ok (.enter 35 args) w := callFunc_enter Try.func35 (by decide) rfl args w
set_option maxHeartbeats 1000000 in
theorem laws_toGuess (next : List (List (List Int))) (final : List Int) (hs : HY (smGuess (next, final))) : Con Try.prog 35 [.guess next final] (.guess next final) := by
  have hs := hs.e
  refine Con.fit enter_laws_toGuess fun hfit => ?_
  have hb_next : next.length ≤ 9223372036854775807 := GFits.lenm (GFits.cell (show GFits (.guess next final) from hfit 0 (Nat.le_of_ble_eq_true rfl)) (.head _))
  have hr_next : ∀ r ∈ next, r.length ≤ 9223372036854775807 ∧ ∀ q ∈ r, q.length ≤ 9223372036854775807 := fun r hr => ⟨GFits.lenm (GFits.elm (GFits.cell (show GFits (.guess next final) from hfit 0 (Nat.le_of_ble_eq_true rfl)) (.head _)) r hr), fun q hq => GFits.ints (GFits.elm (GFits.elm (GFits.cell (show GFits (.guess next final) from hfit 0 (Nat.le_of_ble_eq_true rfl)) (.head _)) r hr) q hq)⟩
  have hb_final : final.length ≤ 9223372036854775807 := GFits.ints (GFits.cell (show GFits (.guess next final) from hfit 0 (Nat.le_of_ble_eq_true rfl)) (.tail _ (.head _)))
  clear hfit
  refine gCon lv_laws_toGuess tab_ok (rs := [.cell 2 69]) (sl := [(0, .g (.guess next final))]) Try.func35 rfl Try.ntmps35 rfl enter_laws_toGuess rfl (by repeat constructor) ?_
  (repeat' (first | ((with_reducible apply gLB.cagg); (. exact RF.mk ⟨rfl, rfl, rfl⟩)) | ((with_reducible apply gLB.cone); (. exact RF.mk ⟨rfl, rfl⟩)) | ((with_reducible apply gLI.cagg); (. exact RF.mk ⟨rfl, rfl, rfl⟩)) | ((with_reducible apply gLI.cone); (. exact RF.mk ⟨rfl, rfl⟩)) | ((with_reducible apply gAF.cbuildA); (. exact RF.mk rfl); (. exact RF.mk ⟨rfl, rfl, rfl, rfl⟩)) | (with_reducible constructor) | exact NE.mk rfl | exact RF.mk rfl | exact RF.mk ⟨rfl, rfl⟩ | exact RF.mk ⟨rfl, rfl, rfl⟩ | exact NU.mk (by first | omega | (simp only [LNs]; omega)) | ((with_reducible apply NID_mk); (try simp only [Nat.reduceAdd, Nat.reduceMul]); exact rfl) | ((with_reducible apply SLT_mk); (. rfl); (. rfl); (. rfl); (. rfl)) | ((with_reducible apply FO_mk); (. rfl); (. rfl); (. rfl); (. rfl); (. rfl)) | ((with_reducible apply FO1_mk); (. rfl); (. rfl); (. rfl); (. rfl); (. rfl)) | ((with_reducible apply CUT_all); (. with_reducible first | exact LEN_map _ _ | exact LEN_nil | exact LEN_1 _ | exact LEN_2 _ _ | exact LEN_any _); (. first | rfl | omega); (. first | rfl | omega)) | ((with_reducible apply CUT_mapT); (. first | rfl | omega); (. exact NU.mk (by first | omega | (simp only [LNs]; omega)))) | ((with_reducible apply CUT_mapD); (. first | rfl | omega)) | (with_reducible apply CUT_map) | (apply CUT_any) | (with_reducible apply CUG_mapT) | ((with_reducible apply CUG_mapD); (. exact NU.mk (by first | omega | (simp only [LNs]; omega))); (. rfl)) | (with_reducible apply CUG_map) | (apply CUG_any) | ((with_reducible apply CON_of); first | apply laws_toInt64S | apply laws_toInt64SSS) | (with_reducible intro hc; (try simp only [HCs] at hc)) | exact OB_f | exact DEC.mk (by decide) | ((with_reducible apply MZ_one); (. rfl); (. rfl); (. rfl)) | ((with_reducible apply MZ_st); (. rfl); (. rfl); (. rfl); (. rfl); (. rfl)) | ((with_reducible apply OB_t); kernel_rfl) | (with_reducible first | apply gNK | apply TX_seq | apply QA_and_n | apply QA_and_e | apply QA_and_r | apply gTX_cond | apply CK_t | apply CK_f | apply CK_if | apply TX_skip | apply TX_ret | apply TX_exit | apply TX_label | apply QA_in_eq | apply QA_in_ne | apply QA_in_n | apply QA_in_r | apply QA_lp_e | apply QA_lp_r | apply QA_ct_e | apply QA_ct_r | apply QA_nr | apply gEND_1 | apply gEND_N | apply END_0) | apply gTX_rgW tab_ok | apply gTX_rgD tab_ok rfl | (apply TX_blk; exact RF.mk rfl) | exact EQ.mk rfl | exact HY.mk hs.1 | exact HY.mk hs.2 | exact gSel.cnil _ | apply gSel.ccons | apply gCG.cagg))
  (all_goals (first | (((first | (refine EQ_bool ?_; first | (simp_all; done) | (rw [Bool.eq_iff_iff]; simp only [Bool.and_eq_true, Bool.or_eq_true, decide_eq_true_eq, Bool.false_eq_true, false_iff, true_iff, iff_false, iff_true, not_and, not_or, Bool.not_eq_true, decide_eq_false_iff_not, beq_iff_eq, bne_iff_ne, ne_eq, Bool.not_eq_true', Bool.not_eq_false', Int.not_le, Int.not_lt]; omega)) | ((repeat (first | apply EQ_tup | apply EQ_cons | apply EQ_agg | apply EQ_sl | apply EQ_map)); all_goals (first | exact EQ.mk rfl | exact EQ.mk (by first | (simp; done) | fail) | exact EQ.mk (by first | (simp_all; done) | fail))))); done)))

def lv_laws_eqGuess : Nat → List Nat
  | 0 => [2, 3]
  | 1 => [2, 3, 10]
  | 2 => [4]
  | 3 => [16]
  | 4 => [4]
  | 5 => [4]
  | _ => []
theorem enter_laws_eqGuess (args : Array Value) (w : World) : (callFunc 38 args).run Try.prog w = .ok (.enter 38 args) w := callFunc_enter Try.func38 (by decide) rfl args w
set_option maxHeartbeats 1000000 in
theorem laws_eqGuess (next : List (List (List Int))) (final : List Int) (next' : List (List (List Int))) (final' : List Int) : Con Try.prog 38 [.guess next final, .guess next' final'] (.bool (decide (next = next') && decide (final = final'))) := by
  refine Con.fit enter_laws_eqGuess fun hfit => ?_
  have hb_next : next.length ≤ 9223372036854775807 := GFits.lenm (GFits.cell (show GFits (.guess next final) from hfit 0 (Nat.le_of_ble_eq_true rfl)) (.head _))
  have hr_next : ∀ r ∈ next, r.length ≤ 9223372036854775807 ∧ ∀ q ∈ r, q.length ≤ 9223372036854775807 := fun r hr => ⟨GFits.lenm (GFits.elm (GFits.cell (show GFits (.guess next final) from hfit 0 (Nat.le_of_ble_eq_true rfl)) (.head _)) r hr), fun q hq => GFits.ints (GFits.elm (GFits.elm (GFits.cell (show GFits (.guess next final) from hfit 0 (Nat.le_of_ble_eq_true rfl)) (.head _)) r hr) q hq)⟩
  have hb_final : final.length ≤ 9223372036854775807 := GFits.ints (GFits.cell (show GFits (.guess next final) from hfit 0 (Nat.le_of_ble_eq_true rfl)) (.tail _ (.head _)))
  have hb_next' : next'.length ≤ 9223372036854775807 := GFits.lenm (GFits.cell (show GFits (.guess next' final') from hfit 1 (Nat.le_of_ble_eq_true rfl)) (.head _))
  have hr_next' : ∀ r ∈ next', r.length ≤ 9223372036854775807 ∧ ∀ q ∈ r, q.length ≤ 9223372036854775807 := fun r hr => ⟨GFits.lenm (GFits.elm (GFits.cell (show GFits (.guess next' final') from hfit 1 (Nat.le_of_ble_eq_true rfl)) (.head _)) r hr), fun q hq => GFits.ints (GFits.elm (GFits.elm (GFits.cell (show GFits (.guess next' final') from hfit 1 (Nat.le_of_ble_eq_true rfl)) (.head _)) r hr) q hq)⟩
  have hb_final' : final'.length ≤ 9223372036854775807 := GFits.ints (GFits.cell (show GFits (.guess next' final') from hfit 1 (Nat.le_of_ble_eq_true rfl)) (.tail _ (.head _)))
  clear hfit
  refine gCon lv_laws_eqGuess tab_ok (rs := [.tmp 4]) (sl := [(0, .g (.guess next final)), (1, .g (.guess next' final'))]) Try.func38 rfl Try.ntmps38 rfl enter_laws_eqGuess rfl (by repeat constructor) ?_
  (repeat' (first | ((with_reducible apply gLB.cagg); (. exact RF.mk ⟨rfl, rfl, rfl⟩)) | ((with_reducible apply gLB.cone); (. exact RF.mk ⟨rfl, rfl⟩)) | ((with_reducible apply gLI.cagg); (. exact RF.mk ⟨rfl, rfl, rfl⟩)) | ((with_reducible apply gLI.cone); (. exact RF.mk ⟨rfl, rfl⟩)) | ((with_reducible apply gAF.cbuildA); (. exact RF.mk rfl); (. exact RF.mk ⟨rfl, rfl, rfl, rfl⟩)) | (with_reducible constructor) | exact NE.mk rfl | exact RF.mk rfl | exact RF.mk ⟨rfl, rfl⟩ | exact RF.mk ⟨rfl, rfl, rfl⟩ | exact NU.mk (by first | omega | (simp only [LNs]; omega)) | ((with_reducible apply NID_mk); (try simp only [Nat.reduceAdd, Nat.reduceMul]); exact rfl) | ((with_reducible apply SLT_mk); (. rfl); (. rfl); (. rfl); (. rfl)) | ((with_reducible apply FO_mk); (. rfl); (. rfl); (. rfl); (. rfl); (. rfl)) | ((with_reducible apply FO1_mk); (. rfl); (. rfl); (. rfl); (. rfl); (. rfl)) | ((with_reducible apply CUT_all); (. with_reducible first | exact LEN_map _ _ | exact LEN_nil | exact LEN_1 _ | exact LEN_2 _ _ | exact LEN_any _); (. first | rfl | omega); (. first | rfl | omega)) | ((with_reducible apply CUT_mapT); (. first | rfl | omega); (. exact NU.mk (by first | omega | (simp only [LNs]; omega)))) | ((with_reducible apply CUT_mapD); (. first | rfl | omega)) | (with_reducible apply CUT_map) | (apply CUT_any) | (with_reducible apply CUG_mapT) | ((with_reducible apply CUG_mapD); (. exact NU.mk (by first | omega | (simp only [LNs]; omega))); (. rfl)) | (with_reducible apply CUG_map) | (apply CUG_any) | ((with_reducible apply CON_of); first | apply laws_eqInt64S | apply laws_eqInt64SSS) | (with_reducible intro hc; (try simp only [HCs] at hc)) | exact OB_f | exact DEC.mk (by decide) | ((with_reducible apply MZ_one); (. rfl); (. rfl); (. rfl)) | ((with_reducible apply MZ_st); (. rfl); (. rfl); (. rfl); (. rfl); (. rfl)) | ((with_reducible apply OB_t); kernel_rfl) | (with_reducible first | apply gNK | apply TX_seq | apply QA_and_n | apply QA_and_e | apply QA_and_r | apply gTX_cond | apply CK_t | apply CK_f | apply CK_if | apply TX_skip | apply TX_ret | apply TX_exit | apply TX_label | apply QA_in_eq | apply QA_in_ne | apply QA_in_n | apply QA_in_r | apply QA_lp_e | apply QA_lp_r | apply QA_ct_e | apply QA_ct_r | apply QA_nr | apply gEND_1 | apply gEND_N | apply END_0) | apply gTX_rgW tab_ok | apply gTX_rgD tab_ok rfl | (apply TX_blk; exact RF.mk rfl) | exact EQ.mk rfl | exact gSel.cnil _ | apply gSel.ccons | apply gCG.cagg))
  (all_goals (first | (((refine EQ_bool ?_; simp_all; done)); done)))

def lv_laws_szTree : Nat → List Nat
  | 0 => [1, 2]
  | 1 => [1, 2]
  | 2 => [1, 2, 10]
  | 3 => [4]
  | 4 => [1, 2]
  | 5 => [1, 2, 16]
  | 6 => [4]
  | 7 => [1, 2]
  | 8 => [1, 2, 22]
  | 9 => [4]
  | 10 => [1]
  | 11 => [1, 28]
  | 12 => [4]
  | 13 => [4]
  | _ => []
theorem enter_laws_szTree (args : Array Value) (w : World) : (callFunc 33 args).run Try.prog w = .ok (.enter 33 args) w := callFunc_enter Try.func33 (by decide) rfl args w
set_option maxHeartbeats 1000000 in
theorem laws_szTree (names : List Int) (parents : List Int) (labels : List (List Int)) (marks : List Int) (l : Int) (hl : NU (0 ≤ l ∧ l ≤ 1048576)) : Con Try.prog 33 [.tree names parents labels marks, .i l] (.i (szTree (names, parents, labels, marks) l)) := by
  have hl := hl.e
  refine Con.fit enter_laws_szTree fun hfit => ?_
  have hb_names : names.length ≤ 9223372036854775807 := GFits.ints (GFits.cell (show GFits (.tree names parents labels marks) from hfit 0 (Nat.le_of_ble_eq_true rfl)) (.head _))
  have hb_parents : parents.length ≤ 9223372036854775807 := GFits.ints (GFits.cell (show GFits (.tree names parents labels marks) from hfit 0 (Nat.le_of_ble_eq_true rfl)) (.tail _ (.head _)))
  have hb_labels : labels.length ≤ 9223372036854775807 := GFits.lenm (GFits.cell (show GFits (.tree names parents labels marks) from hfit 0 (Nat.le_of_ble_eq_true rfl)) (.tail _ (.tail _ (.head _))))
  have hr_labels : ∀ r ∈ labels, r.length ≤ 9223372036854775807 := fun r hr => GFits.ints (GFits.elm (GFits.cell (show GFits (.tree names parents labels marks) from hfit 0 (Nat.le_of_ble_eq_true rfl)) (.tail _ (.tail _ (.head _)))) r hr)
  have hb_marks : marks.length ≤ 9223372036854775807 := GFits.ints (GFits.cell (show GFits (.tree names parents labels marks) from hfit 0 (Nat.le_of_ble_eq_true rfl)) (.tail _ (.tail _ (.tail _ (.head _)))))
  clear hfit
  refine gCon lv_laws_szTree tab_ok (rs := [.tmp 4]) (sl := [(0, .g (.tree names parents labels marks)), (1, .g (.i l))]) Try.func33 rfl Try.ntmps33 rfl enter_laws_szTree rfl (by repeat constructor) ?_
  (repeat' (first | ((with_reducible apply gLB.cagg); (. exact RF.mk ⟨rfl, rfl, rfl⟩)) | ((with_reducible apply gLB.cone); (. exact RF.mk ⟨rfl, rfl⟩)) | ((with_reducible apply gLI.cagg); (. exact RF.mk ⟨rfl, rfl, rfl⟩)) | ((with_reducible apply gLI.cone); (. exact RF.mk ⟨rfl, rfl⟩)) | ((with_reducible apply gAF.cbuildA); (. exact RF.mk rfl); (. exact RF.mk ⟨rfl, rfl, rfl, rfl⟩)) | (with_reducible constructor) | exact NE.mk rfl | exact RF.mk rfl | exact RF.mk ⟨rfl, rfl⟩ | exact RF.mk ⟨rfl, rfl, rfl⟩ | exact NU.mk (by first | omega | (simp only [LNs]; omega) | (first | omega | (have q0 := szInt64S_ok names (l) (by assumption) (by omega); first | omega | (have q1 := szInt64S_ok parents (szInt64S names (l)) (by assumption) (by omega); first | omega | (have q2 := szInt64SS_ok labels (szInt64S parents (szInt64S names (l))) (by assumption) (by omega); first | omega | (have q3 := szInt64S_ok marks (szInt64SS labels (szInt64S parents (szInt64S names (l)))) (by assumption) (by omega); omega)))))) | ((with_reducible apply NID_mk); (try simp only [Nat.reduceAdd, Nat.reduceMul]); exact rfl) | ((with_reducible apply SLT_mk); (. rfl); (. rfl); (. rfl); (. rfl)) | ((with_reducible apply FO_mk); (. rfl); (. rfl); (. rfl); (. rfl); (. rfl)) | ((with_reducible apply FO1_mk); (. rfl); (. rfl); (. rfl); (. rfl); (. rfl)) | ((with_reducible apply CUT_all); (. with_reducible first | exact LEN_map _ _ | exact LEN_nil | exact LEN_1 _ | exact LEN_2 _ _ | exact LEN_any _); (. first | rfl | omega); (. first | rfl | omega)) | ((with_reducible apply CUT_mapT); (. first | rfl | omega); (. exact NU.mk (by first | omega | (simp only [LNs]; omega) | (first | omega | (have q0 := szInt64S_ok names (l) (by assumption) (by omega); first | omega | (have q1 := szInt64S_ok parents (szInt64S names (l)) (by assumption) (by omega); first | omega | (have q2 := szInt64SS_ok labels (szInt64S parents (szInt64S names (l))) (by assumption) (by omega); first | omega | (have q3 := szInt64S_ok marks (szInt64SS labels (szInt64S parents (szInt64S names (l)))) (by assumption) (by omega); omega)))))))) | ((with_reducible apply CUT_mapD); (. first | rfl | omega)) | (with_reducible apply CUT_map) | (apply CUT_any) | (with_reducible apply CUG_mapT) | ((with_reducible apply CUG_mapD); (. exact NU.mk (by first | omega | (simp only [LNs]; omega) | (first | omega | (have q0 := szInt64S_ok names (l) (by assumption) (by omega); first | omega | (have q1 := szInt64S_ok parents (szInt64S names (l)) (by assumption) (by omega); first | omega | (have q2 := szInt64SS_ok labels (szInt64S parents (szInt64S names (l))) (by assumption) (by omega); first | omega | (have q3 := szInt64S_ok marks (szInt64SS labels (szInt64S parents (szInt64S names (l)))) (by assumption) (by omega); omega))))))); (. rfl)) | (with_reducible apply CUG_map) | (apply CUG_any) | ((with_reducible apply CON_of); first | apply laws_szInt64SS | apply laws_szInt64S) | (with_reducible intro hc; (try simp only [HCs] at hc)) | exact OB_f | exact DEC.mk (by decide) | ((with_reducible apply MZ_one); (. rfl); (. rfl); (. rfl)) | ((with_reducible apply MZ_st); (. rfl); (. rfl); (. rfl); (. rfl); (. rfl)) | ((with_reducible apply OB_t); kernel_rfl) | (with_reducible first | apply gNK | apply TX_seq | apply QA_and_n | apply QA_and_e | apply QA_and_r | apply gTX_cond | apply CK_t | apply CK_f | apply CK_if | apply TX_skip | apply TX_ret | apply TX_exit | apply TX_label | apply QA_in_eq | apply QA_in_ne | apply QA_in_n | apply QA_in_r | apply QA_lp_e | apply QA_lp_r | apply QA_ct_e | apply QA_ct_r | apply QA_nr | apply gEND_1 | apply gEND_N | apply END_0) | apply gTX_rgW tab_ok | apply gTX_rgD tab_ok rfl | (apply TX_blk; exact RF.mk rfl) | exact EQ.mk rfl | exact gSel.cnil _ | apply gSel.ccons | apply gCG.cagg))
  (all_goals (first | (((refine EQ_int (EQ.mk ?_); unfold szTree szThen; dsimp only; repeat' split; all_goals omega)); done)))

def lv_laws_toTree : Nat → List Nat
  | 0 => [1, 2]
  | 1 => [1, 2, 3]
  | 2 => [1, 2, 3]
  | 3 => [1, 2, 3]
  | 4 => [1, 2, 3]
  | 5 => [2, 3]
  | 6 => [2]
  | _ => []
theorem enter_laws_toTree (args : Array Value) (w : World) : (callFunc 36 args).run Try.prog w = .ok (.enter 36 args) w := callFunc_enter Try.func36 (by decide) rfl args w
set_option maxHeartbeats 1000000 in
theorem laws_toTree (names : List Int) (parents : List Int) (labels : List (List Int)) (marks : List Int) (hs : HY (smTree (names, parents, labels, marks))) : Con Try.prog 36 [.tree names parents labels marks] (.tree names parents labels marks) := by
  have hs := hs.e
  refine Con.fit enter_laws_toTree fun hfit => ?_
  have hb_names : names.length ≤ 9223372036854775807 := GFits.ints (GFits.cell (show GFits (.tree names parents labels marks) from hfit 0 (Nat.le_of_ble_eq_true rfl)) (.head _))
  have hb_parents : parents.length ≤ 9223372036854775807 := GFits.ints (GFits.cell (show GFits (.tree names parents labels marks) from hfit 0 (Nat.le_of_ble_eq_true rfl)) (.tail _ (.head _)))
  have hb_labels : labels.length ≤ 9223372036854775807 := GFits.lenm (GFits.cell (show GFits (.tree names parents labels marks) from hfit 0 (Nat.le_of_ble_eq_true rfl)) (.tail _ (.tail _ (.head _))))
  have hr_labels : ∀ r ∈ labels, r.length ≤ 9223372036854775807 := fun r hr => GFits.ints (GFits.elm (GFits.cell (show GFits (.tree names parents labels marks) from hfit 0 (Nat.le_of_ble_eq_true rfl)) (.tail _ (.tail _ (.head _)))) r hr)
  have hb_marks : marks.length ≤ 9223372036854775807 := GFits.ints (GFits.cell (show GFits (.tree names parents labels marks) from hfit 0 (Nat.le_of_ble_eq_true rfl)) (.tail _ (.tail _ (.tail _ (.head _)))))
  clear hfit
  refine gCon lv_laws_toTree tab_ok (rs := [.cell 2 71]) (sl := [(0, .g (.tree names parents labels marks))]) Try.func36 rfl Try.ntmps36 rfl enter_laws_toTree rfl (by repeat constructor) ?_
  (repeat' (first | ((with_reducible apply gLB.cagg); (. exact RF.mk ⟨rfl, rfl, rfl⟩)) | ((with_reducible apply gLB.cone); (. exact RF.mk ⟨rfl, rfl⟩)) | ((with_reducible apply gLI.cagg); (. exact RF.mk ⟨rfl, rfl, rfl⟩)) | ((with_reducible apply gLI.cone); (. exact RF.mk ⟨rfl, rfl⟩)) | ((with_reducible apply gAF.cbuildA); (. exact RF.mk rfl); (. exact RF.mk ⟨rfl, rfl, rfl, rfl⟩)) | (with_reducible constructor) | exact NE.mk rfl | exact RF.mk rfl | exact RF.mk ⟨rfl, rfl⟩ | exact RF.mk ⟨rfl, rfl, rfl⟩ | exact NU.mk (by first | omega | (simp only [LNs]; omega)) | ((with_reducible apply NID_mk); (try simp only [Nat.reduceAdd, Nat.reduceMul]); exact rfl) | ((with_reducible apply SLT_mk); (. rfl); (. rfl); (. rfl); (. rfl)) | ((with_reducible apply FO_mk); (. rfl); (. rfl); (. rfl); (. rfl); (. rfl)) | ((with_reducible apply FO1_mk); (. rfl); (. rfl); (. rfl); (. rfl); (. rfl)) | ((with_reducible apply CUT_all); (. with_reducible first | exact LEN_map _ _ | exact LEN_nil | exact LEN_1 _ | exact LEN_2 _ _ | exact LEN_any _); (. first | rfl | omega); (. first | rfl | omega)) | ((with_reducible apply CUT_mapT); (. first | rfl | omega); (. exact NU.mk (by first | omega | (simp only [LNs]; omega)))) | ((with_reducible apply CUT_mapD); (. first | rfl | omega)) | (with_reducible apply CUT_map) | (apply CUT_any) | (with_reducible apply CUG_mapT) | ((with_reducible apply CUG_mapD); (. exact NU.mk (by first | omega | (simp only [LNs]; omega))); (. rfl)) | (with_reducible apply CUG_map) | (apply CUG_any) | ((with_reducible apply CON_of); first | apply laws_toInt64SS | apply laws_toInt64S) | (with_reducible intro hc; (try simp only [HCs] at hc)) | exact OB_f | exact DEC.mk (by decide) | ((with_reducible apply MZ_one); (. rfl); (. rfl); (. rfl)) | ((with_reducible apply MZ_st); (. rfl); (. rfl); (. rfl); (. rfl); (. rfl)) | ((with_reducible apply OB_t); kernel_rfl) | (with_reducible first | apply gNK | apply TX_seq | apply QA_and_n | apply QA_and_e | apply QA_and_r | apply gTX_cond | apply CK_t | apply CK_f | apply CK_if | apply TX_skip | apply TX_ret | apply TX_exit | apply TX_label | apply QA_in_eq | apply QA_in_ne | apply QA_in_n | apply QA_in_r | apply QA_lp_e | apply QA_lp_r | apply QA_ct_e | apply QA_ct_r | apply QA_nr | apply gEND_1 | apply gEND_N | apply END_0) | apply gTX_rgW tab_ok | apply gTX_rgD tab_ok rfl | (apply TX_blk; exact RF.mk rfl) | exact EQ.mk rfl | exact HY.mk hs.1 | exact HY.mk hs.2.1 | exact HY.mk hs.2.2.1 | exact HY.mk hs.2.2.2 | exact gSel.cnil _ | apply gSel.ccons | apply gCG.cagg))
  (all_goals (first | (((first | (refine EQ_bool ?_; first | (simp_all; done) | (rw [Bool.eq_iff_iff]; simp only [Bool.and_eq_true, Bool.or_eq_true, decide_eq_true_eq, Bool.false_eq_true, false_iff, true_iff, iff_false, iff_true, not_and, not_or, Bool.not_eq_true, decide_eq_false_iff_not, beq_iff_eq, bne_iff_ne, ne_eq, Bool.not_eq_true', Bool.not_eq_false', Int.not_le, Int.not_lt]; omega)) | ((repeat (first | apply EQ_tup | apply EQ_cons | apply EQ_agg | apply EQ_sl | apply EQ_map)); all_goals (first | exact EQ.mk rfl | exact EQ.mk (by first | (simp; done) | fail) | exact EQ.mk (by first | (simp_all; done) | fail))))); done)))

def lv_laws_eqTree : Nat → List Nat
  | 0 => [2, 3]
  | 1 => [2, 3, 10]
  | 2 => [4]
  | 3 => [2, 3, 16]
  | 4 => [4]
  | 5 => [2, 3, 22]
  | 6 => [4]
  | 7 => [28]
  | 8 => [4]
  | 9 => [4]
  | _ => []
theorem enter_laws_eqTree (args : Array Value) (w : World) : (callFunc 39 args).run Try.prog w = .ok (.enter 39 args) w := callFunc_enter Try.func39 (by decide) rfl args w
set_option maxHeartbeats 1000000 in
theorem laws_eqTree (names : List Int) (parents : List Int) (labels : List (List Int)) (marks : List Int) (names' : List Int) (parents' : List Int) (labels' : List (List Int)) (marks' : List Int) : Con Try.prog 39 [.tree names parents labels marks, .tree names' parents' labels' marks'] (.bool (decide (names = names') && decide (parents = parents') && decide (labels = labels') && decide (marks = marks'))) := by
  refine Con.fit enter_laws_eqTree fun hfit => ?_
  have hb_names : names.length ≤ 9223372036854775807 := GFits.ints (GFits.cell (show GFits (.tree names parents labels marks) from hfit 0 (Nat.le_of_ble_eq_true rfl)) (.head _))
  have hb_parents : parents.length ≤ 9223372036854775807 := GFits.ints (GFits.cell (show GFits (.tree names parents labels marks) from hfit 0 (Nat.le_of_ble_eq_true rfl)) (.tail _ (.head _)))
  have hb_labels : labels.length ≤ 9223372036854775807 := GFits.lenm (GFits.cell (show GFits (.tree names parents labels marks) from hfit 0 (Nat.le_of_ble_eq_true rfl)) (.tail _ (.tail _ (.head _))))
  have hr_labels : ∀ r ∈ labels, r.length ≤ 9223372036854775807 := fun r hr => GFits.ints (GFits.elm (GFits.cell (show GFits (.tree names parents labels marks) from hfit 0 (Nat.le_of_ble_eq_true rfl)) (.tail _ (.tail _ (.head _)))) r hr)
  have hb_marks : marks.length ≤ 9223372036854775807 := GFits.ints (GFits.cell (show GFits (.tree names parents labels marks) from hfit 0 (Nat.le_of_ble_eq_true rfl)) (.tail _ (.tail _ (.tail _ (.head _)))))
  have hb_names' : names'.length ≤ 9223372036854775807 := GFits.ints (GFits.cell (show GFits (.tree names' parents' labels' marks') from hfit 1 (Nat.le_of_ble_eq_true rfl)) (.head _))
  have hb_parents' : parents'.length ≤ 9223372036854775807 := GFits.ints (GFits.cell (show GFits (.tree names' parents' labels' marks') from hfit 1 (Nat.le_of_ble_eq_true rfl)) (.tail _ (.head _)))
  have hb_labels' : labels'.length ≤ 9223372036854775807 := GFits.lenm (GFits.cell (show GFits (.tree names' parents' labels' marks') from hfit 1 (Nat.le_of_ble_eq_true rfl)) (.tail _ (.tail _ (.head _))))
  have hr_labels' : ∀ r ∈ labels', r.length ≤ 9223372036854775807 := fun r hr => GFits.ints (GFits.elm (GFits.cell (show GFits (.tree names' parents' labels' marks') from hfit 1 (Nat.le_of_ble_eq_true rfl)) (.tail _ (.tail _ (.head _)))) r hr)
  have hb_marks' : marks'.length ≤ 9223372036854775807 := GFits.ints (GFits.cell (show GFits (.tree names' parents' labels' marks') from hfit 1 (Nat.le_of_ble_eq_true rfl)) (.tail _ (.tail _ (.tail _ (.head _)))))
  clear hfit
  refine gCon lv_laws_eqTree tab_ok (rs := [.tmp 4]) (sl := [(0, .g (.tree names parents labels marks)), (1, .g (.tree names' parents' labels' marks'))]) Try.func39 rfl Try.ntmps39 rfl enter_laws_eqTree rfl (by repeat constructor) ?_
  (repeat' (first | ((with_reducible apply gLB.cagg); (. exact RF.mk ⟨rfl, rfl, rfl⟩)) | ((with_reducible apply gLB.cone); (. exact RF.mk ⟨rfl, rfl⟩)) | ((with_reducible apply gLI.cagg); (. exact RF.mk ⟨rfl, rfl, rfl⟩)) | ((with_reducible apply gLI.cone); (. exact RF.mk ⟨rfl, rfl⟩)) | ((with_reducible apply gAF.cbuildA); (. exact RF.mk rfl); (. exact RF.mk ⟨rfl, rfl, rfl, rfl⟩)) | (with_reducible constructor) | exact NE.mk rfl | exact RF.mk rfl | exact RF.mk ⟨rfl, rfl⟩ | exact RF.mk ⟨rfl, rfl, rfl⟩ | exact NU.mk (by first | omega | (simp only [LNs]; omega)) | ((with_reducible apply NID_mk); (try simp only [Nat.reduceAdd, Nat.reduceMul]); exact rfl) | ((with_reducible apply SLT_mk); (. rfl); (. rfl); (. rfl); (. rfl)) | ((with_reducible apply FO_mk); (. rfl); (. rfl); (. rfl); (. rfl); (. rfl)) | ((with_reducible apply FO1_mk); (. rfl); (. rfl); (. rfl); (. rfl); (. rfl)) | ((with_reducible apply CUT_all); (. with_reducible first | exact LEN_map _ _ | exact LEN_nil | exact LEN_1 _ | exact LEN_2 _ _ | exact LEN_any _); (. first | rfl | omega); (. first | rfl | omega)) | ((with_reducible apply CUT_mapT); (. first | rfl | omega); (. exact NU.mk (by first | omega | (simp only [LNs]; omega)))) | ((with_reducible apply CUT_mapD); (. first | rfl | omega)) | (with_reducible apply CUT_map) | (apply CUT_any) | (with_reducible apply CUG_mapT) | ((with_reducible apply CUG_mapD); (. exact NU.mk (by first | omega | (simp only [LNs]; omega))); (. rfl)) | (with_reducible apply CUG_map) | (apply CUG_any) | ((with_reducible apply CON_of); first | apply laws_eqInt64S | apply laws_eqInt64SS) | (with_reducible intro hc; (try simp only [HCs] at hc)) | exact OB_f | exact DEC.mk (by decide) | ((with_reducible apply MZ_one); (. rfl); (. rfl); (. rfl)) | ((with_reducible apply MZ_st); (. rfl); (. rfl); (. rfl); (. rfl); (. rfl)) | ((with_reducible apply OB_t); kernel_rfl) | (with_reducible first | apply gNK | apply TX_seq | apply QA_and_n | apply QA_and_e | apply QA_and_r | apply gTX_cond | apply CK_t | apply CK_f | apply CK_if | apply TX_skip | apply TX_ret | apply TX_exit | apply TX_label | apply QA_in_eq | apply QA_in_ne | apply QA_in_n | apply QA_in_r | apply QA_lp_e | apply QA_lp_r | apply QA_ct_e | apply QA_ct_r | apply QA_nr | apply gEND_1 | apply gEND_N | apply END_0) | apply gTX_rgW tab_ok | apply gTX_rgD tab_ok rfl | (apply TX_blk; exact RF.mk rfl) | exact EQ.mk rfl | exact gSel.cnil _ | apply gSel.ccons | apply gCG.cagg))
  (all_goals (first | (((refine EQ_bool ?_; simp_all; done)); done)))

end Go.Proofs.Ytbjonekgeidoiaa

