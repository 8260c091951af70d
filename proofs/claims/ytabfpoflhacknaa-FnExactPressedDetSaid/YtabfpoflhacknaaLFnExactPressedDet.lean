/- FnExactPressedDet: whatever the input, the law returns true and changes nothing. No conditions but those that each theorem names. -/
import Derived.Test.YtabfpoflhacknaaTab
import Derived.Test.YtabfpoflhacknaaKG
import Derived.Test.YtabfpoflhacknaaOG
import Derived.Test.YtabfpoflhacknaaHL
import Derived.Test.YtabfpoflhacknaaMK1
import Derived.Test.YtabfpoflhacknaaMK2
import Derived.Test.YtabfpoflhacknaaMR
import Derived.Test.YtabfpoflhacknaaAP
import Derived.Test.YtabfpoflhacknaaChecked
set_option linter.unusedSimpArgs false
set_option linter.unusedVariables false
namespace Go.Proofs.Ytabfpoflhacknaa
open Go.RowKit
open Shp

def lv_law_FnExactPressedDet : Nat → List Nat
  | 0 => [2, 3]
  | 1 => [2, 3, 5]
  | 2 => [2, 3, 5]
  | 3 => [2, 3, 17]
  | 4 => [4]
  | 5 => [2, 3, 6]
  | 6 => [2, 3, 6, 7]
  | 7 => [2, 3, 6, 7, 8]
  | 8 => [2, 3, 6, 7, 8, 32]
  | 9 => [4]
  | 10 => [2, 3, 6, 7, 8, 37]
  | 11 => [4]
  | 12 => [2, 3, 6, 7, 8, 9]
  | 13 => [2, 3, 6, 8, 9]
  | 14 => [2, 3, 6, 8, 48]
  | 15 => [4]
  | 16 => [2, 3, 6, 8, 10]
  | 17 => [2, 3, 6, 8, 10]
  | 18 => [2, 3, 6, 8, 10, 11]
  | 19 => [2, 3, 6, 8, 10, 11]
  | 20 => [2, 3, 6, 8, 10, 11, 56]
  | 21 => [4]
  | 22 => [2, 3, 6, 8, 10, 59]
  | 23 => [4]
  | 24 => [6, 8, 10, 12]
  | 25 => [8, 10, 68]
  | 26 => [4]
  | 27 => [8, 10, 11]
  | 28 => [10, 11]
  | 29 => [10, 11, 73]
  | 30 => [4]
  | 31 => [76]
  | 32 => [4]
  | 33 => [4]
  | _ => []
theorem enter_law_FnExactPressedDet (args : Array Value) (w : World) : (callFunc 4 args).run Try.prog w = .ok (.enter 4 args) w := callFunc_enter Try.func4 (by decide) rfl args w
set_option maxHeartbeats 2000000 in
theorem law_FnExactPressedDet (inp : Int) (out : Int) (next1 : List (List Int)) (pairs1 : List (List Int × List Int)) : Con Try.prog 4 [.sig inp out, .det next1 pairs1] (.bool true) := by
  refine Con.fit enter_law_FnExactPressedDet fun hfit => ?_
  have hb_next1 : next1.length ≤ 9223372036854775807 := GFits.lenm (GFits.cell (show GFits (.det next1 pairs1) from hfit 1 (Nat.le_of_ble_eq_true rfl)) (.head _))
  have hr_next1 : ∀ r ∈ next1, r.length ≤ 9223372036854775807 := fun r hr => GFits.ints (GFits.elm (GFits.cell (show GFits (.det next1 pairs1) from hfit 1 (Nat.le_of_ble_eq_true rfl)) (.head _)) r hr)
  have hb_pairs1 : pairs1.length ≤ 9223372036854775807 := GFits.lenm (GFits.cell (show GFits (.det next1 pairs1) from hfit 1 (Nat.le_of_ble_eq_true rfl)) (.tail _ (.head _)))
  have hr_pairs1 : ∀ r ∈ pairs1, r.1.length ≤ 9223372036854775807 ∧ r.2.length ≤ 9223372036854775807 := fun r hr => ⟨GFits.ints (GFits.cell (GFits.elm (GFits.cell (show GFits (.det next1 pairs1) from hfit 1 (Nat.le_of_ble_eq_true rfl)) (.tail _ (.head _))) r hr) (.head _)), GFits.ints (GFits.cell (GFits.elm (GFits.cell (show GFits (.det next1 pairs1) from hfit 1 (Nat.le_of_ble_eq_true rfl)) (.tail _ (.head _))) r hr) (.tail _ (.head _)))⟩
  clear hfit
  have rb_p := pressB_cnt (i := inp) (o := out) (n := next1) (ps := pairs1)
  refine gConLaw lv_law_FnExactPressedDet tab_ok (rs := [.tmp 4]) (sl := [(0, .g (.sig inp out)), (1, .g (.det next1 pairs1))]) (sl2 := [(2, .g (.box [.i inp, .i out])), (3, .g (.box [.rows next1, .pairs pairs1]))]) (n2 := 786509) Try.func4 rfl Try.ntmps4 rfl enter_law_FnExactPressedDet rfl (by repeat constructor) ?_ ?_
  all_goals (repeat' (first | (with_reducible apply gAF.cmark (f := 14)) | ((with_reducible apply RF_ok); kernel_rfl) | ((with_reducible apply MRK_of); first | exact mk_Det _ _ _ (NU.mk (by first | omega | (first | omega | (have z0 := szDet_ok (next1, pairs1) (1048576) (by assumption) (by omega); omega) | ((try simp only [List.drop_zero, markG_len, marks_tk, markG_tk, marks_len, cntR_mark, cntPs_mark, cntR, cntPs, cntR3, cntCls, Int.natCast_add] at *); omega) | (have z0 := szDet_ok (next1, pairs1) (1048576) (by assumption) (by omega); have y0 := szDet_cn (next1, pairs1) (1048576) (by assumption); (try dsimp only at *); (try simp only [List.drop_zero, markG_len, marks_tk, markG_tk, marks_len, cntR_mark, cntPs_mark, cntR, cntPs, cntR3, cntCls, Int.natCast_add] at *); omega))))) | exact LENQ.mk (by simp only [List.length_map, markG_len, marks_len]) (by simp only [List.length_map, markG_len, marks_len]) | ((with_reducible apply gQA_law); (. exact RF.mk rfl)) | ((with_reducible apply gLB.cagg); (. exact RF.mk ⟨rfl, rfl, rfl⟩)) | ((with_reducible apply gLB.cone); (. exact RF.mk ⟨rfl, rfl⟩)) | ((with_reducible apply gLI.cagg); (. exact RF.mk ⟨rfl, rfl, rfl⟩)) | ((with_reducible apply gLI.cone); (. exact RF.mk ⟨rfl, rfl⟩)) | ((with_reducible apply gAF.cbuildA); (. exact RF.mk rfl); (. exact RF.mk ⟨rfl, rfl, rfl, rfl⟩)) | (with_reducible constructor) | exact NE.mk rfl | exact RF.mk rfl | exact RF.mk ⟨rfl, rfl⟩ | exact RF.mk ⟨rfl, rfl, rfl⟩ | exact NU.mk (by first | omega | (simp only [LNs]; omega) | (first | omega | (have z0 := szDet_ok (next1, pairs1) (1048576) (by assumption) (by omega); omega) | ((try simp only [List.drop_zero, markG_len, marks_tk, markG_tk, marks_len, cntR_mark, cntPs_mark, cntR, cntPs, cntR3, cntCls, Int.natCast_add] at *); omega) | (have z0 := szDet_ok (next1, pairs1) (1048576) (by assumption) (by omega); have y0 := szDet_cn (next1, pairs1) (1048576) (by assumption); (try dsimp only at *); (try simp only [List.drop_zero, markG_len, marks_tk, markG_tk, marks_len, cntR_mark, cntPs_mark, cntR, cntPs, cntR3, cntCls, Int.natCast_add] at *); omega))) | ((with_reducible apply NID_mk); (try simp only [Nat.reduceAdd, Nat.reduceMul]); exact rfl) | ((with_reducible apply SLT_mk); (. rfl); (. rfl); (. rfl); (. rfl)) | ((with_reducible apply FO_mk); (. rfl); (. rfl); (. rfl); (. rfl); (. rfl)) | ((with_reducible apply FO1_mk); (. rfl); (. rfl); (. rfl); (. rfl); (. rfl)) | ((with_reducible apply CUT_all); (. with_reducible first | exact LEN_map _ _ | exact LEN_nil | exact LEN_1 _ | exact LEN_2 _ _ | exact LEN_any _); (. first | rfl | omega); (. first | rfl | omega)) | ((with_reducible apply CUT_mapT); (. first | rfl | omega); (. exact NU.mk (by first | omega | (simp only [LNs]; omega) | (first | omega | (have z0 := szDet_ok (next1, pairs1) (1048576) (by assumption) (by omega); omega) | ((try simp only [List.drop_zero, markG_len, marks_tk, markG_tk, marks_len, cntR_mark, cntPs_mark, cntR, cntPs, cntR3, cntCls, Int.natCast_add] at *); omega) | (have z0 := szDet_ok (next1, pairs1) (1048576) (by assumption) (by omega); have y0 := szDet_cn (next1, pairs1) (1048576) (by assumption); (try dsimp only at *); (try simp only [List.drop_zero, markG_len, marks_tk, markG_tk, marks_len, cntR_mark, cntPs_mark, cntR, cntPs, cntR3, cntCls, Int.natCast_add] at *); omega))))) | ((with_reducible apply CUT_mapD); (. first | rfl | omega)) | (with_reducible apply CUT_map) | (apply CUT_any) | (with_reducible apply CUG_mapT) | ((with_reducible apply CUG_mapD); (. exact NU.mk (by first | omega | (simp only [LNs]; omega) | (first | omega | (have z0 := szDet_ok (next1, pairs1) (1048576) (by assumption) (by omega); omega) | ((try simp only [List.drop_zero, markG_len, marks_tk, markG_tk, marks_len, cntR_mark, cntPs_mark, cntR, cntPs, cntR3, cntCls, Int.natCast_add] at *); omega) | (have z0 := szDet_ok (next1, pairs1) (1048576) (by assumption) (by omega); have y0 := szDet_cn (next1, pairs1) (1048576) (by assumption); (try dsimp only at *); (try simp only [List.drop_zero, markG_len, marks_tk, markG_tk, marks_len, cntR_mark, cntPs_mark, cntR, cntPs, cntR3, cntCls, Int.natCast_add] at *); omega)))); (. rfl)) | (with_reducible apply CUG_map) | (apply CUG_any) | ((with_reducible apply CON_of); first | apply laws_szDet | apply laws_toSig | apply laws_toDet | apply laws_eqDet | apply spec_PressedDet | apply impl_PressedDet | apply laws_heldDet) | (with_reducible intro hc; (try simp only [HCs] at hc)) | exact OB_f | exact DEC.mk (by decide) | ((with_reducible apply MZ_one); (. rfl); (. rfl); (. rfl)) | ((with_reducible apply MZ_st); (. rfl); (. rfl); (. rfl); (. rfl); (. rfl)) | ((with_reducible apply OB_t); kernel_rfl) | (with_reducible first | apply gNK | apply TX_seq | apply QA_and_n | apply QA_and_e | apply QA_and_r | apply gTX_cond | apply CK_t | apply CK_f | apply CK_if | apply TX_skip | apply TX_ret | apply TX_exit | apply TX_label | apply QA_in_eq | apply QA_in_ne | apply QA_in_n | apply QA_in_r | apply QA_lp_e | apply QA_lp_r | apply QA_ct_e | apply QA_ct_r | apply QA_nr | apply gEND_1 | apply gEND_N | apply END_0) | apply gTX_rgW tab_ok | apply gTX_rgD tab_ok rfl | (apply TX_blk; exact RF.mk rfl) | exact EQ.mk rfl | exact HY.mk (by have z0 := szDet_ok (next1, pairs1) (1048576) (by assumption) (by omega); exact z0.1) | exact HY.mk (by (try simp only [List.drop_zero, marks_tk, markG_tk, cntR_mark, cntPs_mark, marks_len, markG_len]); first | done | exact markR_idem _ _ | exact markPs_idem _ _ | exact markPs_idem2 (by simp only [cntR, cntPs, Int.natCast_add]; omega) _ | exact markR_idem2 (by simp only [cntR, cntPs, Int.natCast_add]; omega) _) | exact gSel.cnil _ | apply gSel.ccons | apply gCG.cagg))
  (all_goals (first | (((refine EQ_bool ?_; first | rfl | (simp_all; done) | (exfalso; first | omega | ((try simp only [List.drop_zero, markG_len, marks_tk, markG_tk, marks_len, cntR_mark, cntPs_mark, cntR, cntPs, cntR3, cntCls, Int.natCast_add] at *); omega) | (simp_all; done) | ((try simp only [List.drop_zero, markG_len, marks_tk, markG_tk, marks_len, cntR_mark, cntPs_mark, cntR, cntPs, cntR3, cntCls, Int.natCast_add] at *); simp_all; done)))); done)))

end Go.Proofs.Ytabfpoflhacknaa
namespace Go.Proofs.Ytabfpoflhacknaa.FnExactPressedDet
open Go.ChangeShapes Go.WideShapes Go.ChangeAt Go.RowKit
open Shp
set_option linter.unusedVariables false

set_option maxRecDepth 100000 in
theorem lifted (os : Os) (started : os.Started) (H : Type) (enc : TypeId × Value → H) :
    ReturnsInHanded {} Try.checked os 4 .any (Rows.fnExactPressedDetSpec.pre6 enc Try.prog Try.f4 Rows.fnExactPressedDetRow.domain false) (Rows.fnExactPressedDetSpec.post enc Try.prog Try.f4 false true false false) := by
  refine law_lift (C := Try.checked) started isOwn isLaid (by kernel_rfl) Try.func4 rfl (by kernel_rfl) Try.underlying4
    (of_decide_eq_true (by kernel_rfl)) ?_
    (ChangeSpec.witness6 (enc := enc) (C := Try.checked) false ⟨#[], #[.agg #[.int .i64 0, .int .i64 0], .agg #[.slice none 0 0, .slice none 0 0]], []⟩ 8 (by kernel_rfl) (by kernel_rfl) (by kernel_rfl) (by kernel_rfl)) ?_
  · intro H ds h
    have h' : ds.length = 2 := h
    match ds, h' with
    | [_, _], _ => rfl
  · intro W base args ds ps hval0 hA0 hz
    have hval : ∀ (j : Nat) t v, Try.f4.params[j]? = some t → args[j]? = some v → Value.okWide Try.prog W .any base t v := hval0
    have hA : DataW.TrodAll enc Try.prog W 0 (fun _ => true) true Try.f4.params.toList args.toList ds ps := hA0
    rw [Try.params4] at hA hval
    obtain ⟨v0, vs0, d0, ds0, p0, q0, hargs0, rfl, rfl, h0, r0⟩ := trodAll_cons hA
    obtain ⟨v1, vs1, d1, ds1, p1, q1, hargs1, rfl, rfl, h1, r1⟩ := trodAll_cons r0
    obtain ⟨hv, rfl, rfl⟩ := trodAll_nil r1
    obtain rfl : args = #[v0, v1] := by cases args; simp_all
    obtain ⟨x0, V0, F0, e0⟩ := (og_Sig).argS Try.underlying23 (hval 0 23 v0 rfl rfl) h0 (noneFrozen_sub hz fun p hp => List.mem_append.2 (.inl hp))
    obtain ⟨x1, V1, F1, e1⟩ := (og_Det).argS Try.underlying27 (hval 1 27 v1 rfl rfl) h1 (noneFrozen_sub hz fun p hp => List.mem_append.2 (.inr (List.mem_append.2 (.inl hp))))
    exact (law_FnExactPressedDet (x0.1) (x0.2) (x1.1) (x1.2)).law rfl (fun i hi => by
      match i, hi with
      | 0, _ => exact ⟨F0, e0⟩
      | 1, _ => exact ⟨F1, e1⟩)

theorem over : Rows.fnExactPressedDetRow.holds Try.pinned (OpenSpec.ofChange Rows.fnExactPressedDetSpec) :=
  OpenClaim.holds_of_wide 4 Try.f4 rfl rfl rfl rfl rfl rfl rfl ⟨rfl, rfl, rfl, rfl, rfl⟩ rfl rfl rfl rfl rfl (by kernel_rfl) Try.func4 (joined_of mayEnter_ok make_ok lifts_ok rfl rfl (by kernel_rfl))
    (of_decide_eq_true (by kernel_rfl)) (by unfold Func.isWrapper; first | (rw [if_pos (by decide +kernel)]; kernel_rfl) | (rw [if_neg (by decide +kernel)]; exact ⟨rfl, rfl⟩))
    (fun os started H enc _ => lifted os started H enc)

/-- The statement. -/
theorem proved : Rows.FnExactPressedDetSaid := over
#print axioms proved
end Go.Proofs.Ytabfpoflhacknaa.FnExactPressedDet

