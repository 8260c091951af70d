/- Contracts: suffixes of infinite words. No conditions but those that each theorem names. -/
import Derived.Test.YtbjonekgeidoiaaTab
import Derived.Test.YtbjonekgeidoiaaKG
import Derived.Test.YtbjonekgeidoiaaC2
import Derived.Test.YtbjonekgeidoiaaTO
import Derived.Test.YtbjonekgeidoiaaChecked
set_option linter.unusedSimpArgs false
set_option linter.unusedVariables false
namespace Go.Proofs.Ytbjonekgeidoiaa
open Go.RowKit
open Shp

def lv_spec_TailOf : Nat → List Nat
  | 0 => [1, 2, 4]
  | 1 => [1, 2, 4, 14]
  | 2 => [4]
  | 3 => [1, 2, 4, 5]
  | 4 => [1, 2, 4, 5, 21]
  | 5 => [4]
  | 6 => [2, 4, 6]
  | 7 => [4]
  | _ => []
theorem enter_spec_TailOf (args : Array Value) (w : World) : (callFunc 50 args).run Try.prog w = .ok (.enter 50 args) w := callFunc_enter Try.func50 (by decide) rfl args w
set_option maxHeartbeats 1000000 in
theorem spec_TailOf (s l : List Int) (k : Int) (hk : NU (-9223372036854775808 ≤ k ∧ k ≤ 9223372036854775807)) : Con Try.prog 50 [.word s l, .i k] (.word (tailO s l k).1 (tailO s l k).2) := by
  have hk := hk.e
  refine Con.fit enter_spec_TailOf fun hfit => ?_
  have hb_s : s.length ≤ 9223372036854775807 := GFits.ints (GFits.cell (show GFits (.word s l) from hfit 0 (Nat.le_of_ble_eq_true rfl)) (.head _))
  have hb_l : l.length ≤ 9223372036854775807 := GFits.ints (GFits.cell (show GFits (.word s l) from hfit 0 (Nat.le_of_ble_eq_true rfl)) (.tail _ (.head _)))
  clear hfit
  have hw : wordB s l 16 = true → 1 ≤ l.length ∧ l.length ≤ 600 ∧ s.length ≤ 600 := wordB_r
  refine gCon lv_spec_TailOf tab_ok (rs := [.cell 4 56]) (sl := [(0, .g (.word s l)), (1, .g (.i k))]) Try.func50 rfl Try.ntmps50 rfl enter_spec_TailOf rfl (by repeat constructor) ?_
  (repeat' (first | ((with_reducible apply gLB.cagg); (. exact RF.mk ⟨rfl, rfl, rfl⟩)) | ((with_reducible apply gLB.cone); (. exact RF.mk ⟨rfl, rfl⟩)) | ((with_reducible apply gLI.cagg); (. exact RF.mk ⟨rfl, rfl, rfl⟩)) | ((with_reducible apply gLI.cone); (. exact RF.mk ⟨rfl, rfl⟩)) | ((with_reducible apply gAF.cbuildA); (. exact RF.mk rfl); (. exact RF.mk ⟨rfl, rfl, rfl, rfl⟩)) | (with_reducible constructor) | exact NE.mk rfl | exact RF.mk rfl | exact RF.mk ⟨rfl, rfl⟩ | exact RF.mk ⟨rfl, rfl, rfl⟩ | exact NU.mk (by first | omega | (simp only [LNs]; omega) | (first | omega | (have q := hw (by assumption); omega) | (have q := hw (by assumption); have q1 : 0 ≤ (k - s.length) % (l.length : Int) := Int.emod_nonneg _ (by omega); have q2 : (k - s.length) % (l.length : Int) < l.length := Int.emod_lt_of_pos _ (by omega); first | omega | (simp only [List.length_drop]; omega) | (simp only [List.length_drop, List.length_take]; omega)))) | ((with_reducible apply NID_mk); (try simp only [Nat.reduceAdd, Nat.reduceMul]); exact rfl) | ((with_reducible apply SLT_mk); (. rfl); (. rfl); (. rfl); (. rfl)) | ((with_reducible apply FO_mk); (. rfl); (. rfl); (. rfl); (. rfl); (. rfl)) | ((with_reducible apply FO1_mk); (. rfl); (. rfl); (. rfl); (. rfl); (. rfl)) | ((with_reducible apply CUT_all); (. with_reducible first | exact LEN_map _ _ | exact LEN_nil | exact LEN_1 _ | exact LEN_2 _ _ | exact LEN_any _); (. first | rfl | omega); (. first | rfl | omega)) | ((with_reducible apply CUT_mapT); (. first | rfl | omega); (. exact NU.mk (by first | omega | (simp only [LNs]; omega) | (first | omega | (have q := hw (by assumption); omega) | (have q := hw (by assumption); have q1 : 0 ≤ (k - s.length) % (l.length : Int) := Int.emod_nonneg _ (by omega); have q2 : (k - s.length) % (l.length : Int) < l.length := Int.emod_lt_of_pos _ (by omega); first | omega | (simp only [List.length_drop]; omega) | (simp only [List.length_drop, List.length_take]; omega)))))) | ((with_reducible apply CUT_mapD); (. first | rfl | omega)) | (with_reducible apply CUT_map) | (apply CUT_any) | (with_reducible apply CUG_mapT) | ((with_reducible apply CUG_mapD); (. exact NU.mk (by first | omega | (simp only [LNs]; omega) | (first | omega | (have q := hw (by assumption); omega) | (have q := hw (by assumption); have q1 : 0 ≤ (k - s.length) % (l.length : Int) := Int.emod_nonneg _ (by omega); have q2 : (k - s.length) % (l.length : Int) < l.length := Int.emod_lt_of_pos _ (by omega); first | omega | (simp only [List.length_drop]; omega) | (simp only [List.length_drop, List.length_take]; omega))))); (. rfl)) | (with_reducible apply CUG_map) | (apply CUG_any) | ((with_reducible apply CON_of); first | apply spec_l1Copy | apply spec_l23Fine | apply spec_l1In) | (with_reducible intro hc; (try simp only [HCs] at hc)) | exact OB_f | exact DEC.mk (by decide) | ((with_reducible apply MZ_one); (. rfl); (. rfl); (. rfl)) | ((with_reducible apply MZ_st); (. rfl); (. rfl); (. rfl); (. rfl); (. rfl)) | ((with_reducible apply OB_t); kernel_rfl) | (with_reducible first | apply gNK | apply TX_seq | apply QA_and_n | apply QA_and_e | apply QA_and_r | apply gTX_cond | apply CK_t | apply CK_f | apply CK_if | apply TX_skip | apply TX_ret | apply TX_exit | apply TX_label | apply QA_in_eq | apply QA_in_ne | apply QA_in_n | apply QA_in_r | apply QA_lp_e | apply QA_lp_r | apply QA_ct_e | apply QA_ct_r | apply QA_nr | apply gEND_1 | apply gEND_N | apply END_0) | apply gTX_rgW tab_ok | apply gTX_rgD tab_ok rfl | (apply TX_blk; exact RF.mk rfl) | exact EQ.mk rfl | exact HY.mk (by have q := hw (by assumption); omega) | exact gSel.cnil _ | apply gSel.ccons | apply gCG.cagg))
  (all_goals (first | (((first | (rw [tailO_no (by rintro ⟨w1, w2, w3⟩; first | omega | (simp_all; done) | (simp_all; omega))]; exact EQ.mk rfl) | (rw [tailO_stem (by assumption) (by omega) (by omega) (by omega)]; refine EQ_agg (EQ_cons (EQ_sl (EQ_map (EQ.mk ?_))) (EQ_cons (EQ_sl (EQ_map (EQ.mk ?_))) (EQ.mk rfl))); all_goals (first | rfl | (simp; done))) | (have q0 := hw (by assumption); rw [tailO_loop (by assumption) (by omega) (by omega) (by omega)]; refine EQ_agg (EQ_cons (EQ.mk rfl) (EQ_cons (EQ_sl (EQ_map (EQ.mk ?_))) (EQ.mk rfl))); first | rfl | ((try rw [List.take_take, Nat.min_self]); rw [List.take_of_length_le (by rw [rot_len (by have := tailI_lt (s := s) (k := k) (l := l) (by omega); omega)]; omega)]; done) | (simp; done)))); done)))

end Go.Proofs.Ytbjonekgeidoiaa

