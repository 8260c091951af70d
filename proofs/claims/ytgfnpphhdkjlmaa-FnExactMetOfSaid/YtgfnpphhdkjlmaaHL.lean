/- Contracts: what the laws ask of data that are numbered. No conditions but those that each theorem names. -/
import Derived.Test.YtgfnpphhdkjlmaaTab
import Derived.Test.YtgfnpphhdkjlmaaKG
import Derived.Test.YtgfnpphhdkjlmaaW1
import Derived.Test.YtgfnpphhdkjlmaaMK0
import Derived.Test.YtgfnpphhdkjlmaaChecked
set_option linter.unusedSimpArgs false
set_option linter.unusedVariables false
namespace Go.Proofs.Ytgfnpphhdkjlmaa
open Go.RowKit
open Shp
def lv_laws_heldInt64S : Nat → List Nat
  | 0 => [0, 1]
  | 1 => [0, 1, 5]
  | 2 => [0, 1, 5, 9]
  | 3 => [0, 1, 5]
  | 4 => [0, 1, 5, 17]
  | 5 => [4]
  | 6 => [0, 1, 5]
  | 7 => [4]
  | _ => []
theorem enter_laws_heldInt64S (args : Array Value) (w : World) : (callFunc 55 args).run Try.prog w = .ok (.enter 55 args) w := callFunc_enter Try.func55 (by decide) rfl args w
set_option maxHeartbeats 1000000 in
theorem laws_heldInt64S (k : Int) (xs : List Int) (hk : NU (0 ≤ k ∧ k + xs.length ≤ 1099511627776)) (hx : HY (xs = marks k xs.length)) : Con Try.prog 55 [.ints xs, .i k] (.i (k + (xs.length : Nat))) := by
  have hk := hk.e
  have hx := hx.e
  refine Con.fit enter_laws_heldInt64S fun hfit => ?_
  have hb_xs : xs.length ≤ 9223372036854775807 := GFits.ints (show GFits (.ints xs) from hfit 0 (Nat.le_of_ble_eq_true rfl))
  clear hfit
  refine gCon lv_laws_heldInt64S tab_ok (rs := [.tmp 4]) (sl := [(0, .g (.ints xs)), (1, .g (.i k))]) Try.func55 rfl Try.ntmps55 rfl enter_laws_heldInt64S rfl (by repeat constructor) ?_
  (repeat' (first | ((with_reducible apply gLB.cagg); (· exact RF.mk ⟨rfl, rfl, rfl⟩)) | ((with_reducible apply gLB.cone); (· exact RF.mk ⟨rfl, rfl⟩)) | ((with_reducible apply gLI.cagg); (· exact RF.mk ⟨rfl, rfl, rfl⟩)) | ((with_reducible apply gLI.cone); (· exact RF.mk ⟨rfl, rfl⟩)) | ((with_reducible apply gAF.cbuildA); (· exact RF.mk rfl); (· exact RF.mk ⟨rfl, rfl, rfl, rfl⟩)) | (with_reducible constructor) | exact NE.mk rfl | exact RF.mk rfl | exact RF.mk ⟨rfl, rfl⟩ | exact RF.mk ⟨rfl, rfl, rfl⟩ | exact NU.mk (by first | omega | (simp only [List.length_take, List.length_drop, List.length_map, List.length_append, List.length_replicate, List.length_set, List.length_cons, List.length_nil]; omega)) | ((with_reducible apply NID_mk); (try simp only [Nat.reduceAdd, Nat.reduceMul]); exact rfl) | ((with_reducible apply SLT_mk); (· rfl); (· rfl); (· rfl); (· rfl)) | ((with_reducible apply FO_mk); (· rfl); (· rfl); (· rfl); (· rfl); (· rfl)) | ((with_reducible apply FO1_mk); (· rfl); (· rfl); (· rfl); (· rfl); (· rfl)) | ((with_reducible apply CUT_all); (· with_reducible first | exact LEN_map _ _ | exact LEN_nil | exact LEN_1 _ | exact LEN_2 _ _ | exact LEN_any _); (· first | rfl | omega); (· first | rfl | omega)) | ((with_reducible apply CUT_mapT); (· first | rfl | omega); (· exact NU.mk (by first | omega | (simp only [List.length_take, List.length_drop, List.length_map, List.length_append, List.length_replicate, List.length_set, List.length_cons, List.length_nil]; omega)))) | ((with_reducible apply CUT_mapD); (· first | rfl | omega)) | (with_reducible apply CUT_map) | (apply CUT_any) | (with_reducible apply CUG_mapT) | ((with_reducible apply CUG_mapD); (· exact NU.mk (by first | omega | (simp only [List.length_take, List.length_drop, List.length_map, List.length_append, List.length_replicate, List.length_set, List.length_cons, List.length_nil]; omega))); (· rfl)) | (with_reducible apply CUG_map) | (apply CUG_any) | (with_reducible intro hc; (try simp only [Bool.and_eq_true, Bool.or_eq_true, Bool.and_eq_false_iff, Bool.or_eq_false_iff, decide_eq_true_eq, decide_eq_false_iff_not, Bool.not_eq_true, Bool.not_eq_false, Bool.not_eq_eq_eq_not, Bool.not_true, Bool.not_false, bne_iff_ne, beq_iff_eq, ne_eq, beq_eq_false_iff_ne, bne_eq_false_iff_eq, Int.not_lt, Int.not_le, ge_iff_le, gt_iff_lt, Decidable.not_not, not_true_eq_false, not_false_eq_true] at hc)) | exact OB_f | exact DEC.mk (by decide) | ((with_reducible apply MZ_one); (· rfl); (· rfl); (· rfl)) | ((with_reducible apply MZ_st); (· rfl); (· rfl); (· rfl); (· rfl); (· rfl)) | ((with_reducible apply OB_t); kernel_rfl) | (with_reducible first | apply gNK | apply TX_seq | apply QA_and_n | apply QA_and_e | apply QA_and_r | apply gTX_cond | apply CK_t | apply CK_f | apply CK_if | apply TX_skip | apply TX_ret | apply TX_exit | apply TX_label | apply QA_in_eq | apply QA_in_ne | apply QA_in_n | apply QA_in_r | apply QA_lp_e | apply QA_lp_r | apply QA_ct_e | apply QA_ct_r | apply QA_nr | apply gEND_1 | apply gEND_N | apply END_0) | apply gTX_rgW tab_ok | apply gTX_rgD tab_ok rfl | (apply TX_blk; exact RF.mk rfl) | exact EQ.mk rfl | (refine TX_loop (id := 0) (ι := Nat) (fun i => ⟨[(0, .g (.ints xs)), (1, .g (.i (k + (i : Nat)))), (5, .g (.i i))], []⟩) (fun i => (i ≤ xs.length)) (fun i => xs.length - i) (0) ?_ ?_ ?_; (· ((first | apply gLX0 | apply gLX1 | apply gLX2 | apply gLX3 | apply gLX4 | apply gLX5 | apply gLX6 | apply gLX7 | apply gLX8 | apply gLX9 | apply gLX10) <;> (repeat' (first | (with_reducible constructor) | exact NE.mk rfl | exact RF.mk rfl | exact RF.mk ⟨rfl, rfl⟩ | exact RF.mk ⟨rfl, rfl, rfl⟩ | exact EQ.mk rfl | exact RF.mk (by decide) | (with_reducible apply EQ_int) | exact EQ.mk (by first | omega | (simp only [List.length_take, List.length_drop, List.length_map, List.length_append, List.length_replicate, List.length_set, List.length_cons, List.length_nil]; omega)))); (all_goals ((first | exact EQ.mk (by omega) | exact EQ.mk (by first | (simp; done) | fail)); done)))); (· (omega)); (rintro i h1; (show TX _ _ _ _ _ [(0, .g (.ints xs)), (1, .g (.i (k + (i : Nat)))), (5, .g (.i i))] [] _))) | exact gSel.cnil _ | apply gSel.ccons | apply gCG.cagg))
  (all_goals (first | (refine QA_lp (i + 1) ?_ ?_ ?_; (· ((first | apply gLX0 | apply gLX1 | apply gLX2 | apply gLX3 | apply gLX4 | apply gLX5 | apply gLX6 | apply gLX7 | apply gLX8 | apply gLX9 | apply gLX10) <;> (repeat' (first | (with_reducible constructor) | exact NE.mk rfl | exact RF.mk rfl | exact RF.mk ⟨rfl, rfl⟩ | exact RF.mk ⟨rfl, rfl, rfl⟩ | exact EQ.mk rfl | exact RF.mk (by decide) | (with_reducible apply EQ_int) | exact EQ.mk (by first | omega | (simp only [List.length_take, List.length_drop, List.length_map, List.length_append, List.length_replicate, List.length_set, List.length_cons, List.length_nil]; omega)))); (all_goals ((first | exact EQ.mk (by omega) | exact EQ.mk (by first | (simp; done) | fail)); done)))); (· (omega)); (· (((try dsimp only); omega)))) | (((refine EQ_int (EQ.mk ?_); first | omega | (exfalso; have q := marks_nth k xs.length i (by omega); rw [← hx] at q; omega))); done)))
end Go.Proofs.Ytgfnpphhdkjlmaa

