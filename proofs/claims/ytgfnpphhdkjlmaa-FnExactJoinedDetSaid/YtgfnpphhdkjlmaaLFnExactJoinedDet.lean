/- FnExactJoinedDet: whatever the input, the law returns true and changes nothing. No conditions but those that each theorem names. -/
import Derived.Test.YtgfnpphhdkjlmaaTab
import Derived.Test.YtgfnpphhdkjlmaaKG
import Derived.Test.YtgfnpphhdkjlmaaOG
import Derived.Test.YtgfnpphhdkjlmaaHL
import Derived.Test.YtgfnpphhdkjlmaaMK1
import Derived.Test.YtgfnpphhdkjlmaaMK2
import Derived.Test.YtgfnpphhdkjlmaaMR
import Derived.Test.YtgfnpphhdkjlmaaM8
import Derived.Test.YtgfnpphhdkjlmaaChecked
set_option linter.unusedSimpArgs false
set_option linter.unusedVariables false
namespace Go.Proofs.Ytgfnpphhdkjlmaa
open Go.RowKit
open Shp
def lv_law_FnExactJoinedDet : Nat → List Nat
  | 0 => [3, 4, 5]
  | 1 => [3, 4, 5, 7]
  | 2 => [3, 4, 5, 7]
  | 3 => [3, 4, 5, 7, 23]
  | 4 => [6]
  | 5 => [3, 4, 5, 7]
  | 6 => [3, 4, 5, 28]
  | 7 => [6]
  | 8 => [3, 4, 5, 8, 9]
  | 9 => [3, 4, 5, 8, 9, 10]
  | 10 => [3, 4, 5, 8, 9, 10, 11]
  | 11 => [3, 4, 5, 8, 9, 10, 11, 12, 13]
  | 12 => [3, 4, 5, 8, 9, 10, 11, 12, 13, 59]
  | 13 => [6]
  | 14 => [3, 4, 5, 8, 9, 10, 11, 12, 13, 64]
  | 15 => [6]
  | 16 => [3, 4, 5, 8, 9, 10, 11, 12, 13, 69]
  | 17 => [6]
  | 18 => [3, 4, 5, 8, 9, 10, 11, 12, 13, 14]
  | 19 => [3, 4, 5, 8, 9, 11, 12, 13, 14]
  | 20 => [3, 4, 5, 8, 9, 12, 13, 14]
  | 21 => [3, 4, 5, 8, 9, 12, 88]
  | 22 => [6]
  | 23 => [3, 4, 5, 8, 9, 12, 15]
  | 24 => [3, 4, 5, 8, 9, 12, 15]
  | 25 => [3, 4, 5, 8, 9, 12, 15, 16]
  | 26 => [3, 4, 5, 8, 9, 12, 15, 16]
  | 27 => [3, 4, 5, 8, 9, 12, 15, 16, 96]
  | 28 => [6]
  | 29 => [3, 4, 5, 8, 9, 12, 15, 99]
  | 30 => [6]
  | 31 => [8, 9, 12, 15, 17, 18]
  | 32 => [12, 15, 118]
  | 33 => [6]
  | 34 => [12, 15, 16]
  | 35 => [15, 16]
  | 36 => [15, 16, 123]
  | 37 => [6]
  | 38 => [126]
  | 39 => [6]
  | 40 => [6]
  | _ => []
theorem enter_law_FnExactJoinedDet (args : Array Value) (w : World) : (callFunc 7 args).run Try.prog w = .ok (.enter 7 args) w := callFunc_enter Try.func7 (by decide) rfl args w
set_option maxHeartbeats 16000000 in
theorem law_FnExactJoinedDet (inp : Int) (out : Int) (next1 : List (List Int)) (pairs1 : List (List Int × List Int)) (next2 : List (List Int)) (pairs2 : List (List Int × List Int)) : Con Try.prog 7 [.sig inp out, .det next1 pairs1, .det next2 pairs2] (.bool true) := by
  refine Con.fit enter_law_FnExactJoinedDet fun hfit => ?_
  have hb_next1 : next1.length ≤ 9223372036854775807 := GFits.lenm (GFits.cell (show GFits (.det next1 pairs1) from hfit 1 (Nat.le_of_ble_eq_true rfl)) (.head _))
  have hr_next1 : ∀ r ∈ next1, r.length ≤ 9223372036854775807 := fun r hr => GFits.ints (GFits.elm (GFits.cell (show GFits (.det next1 pairs1) from hfit 1 (Nat.le_of_ble_eq_true rfl)) (.head _)) r hr)
  have hb_pairs1 : pairs1.length ≤ 9223372036854775807 := GFits.lenm (GFits.cell (show GFits (.det next1 pairs1) from hfit 1 (Nat.le_of_ble_eq_true rfl)) (.tail _ (.head _)))
  have hr_pairs1 : ∀ r ∈ pairs1, r.1.length ≤ 9223372036854775807 ∧ r.2.length ≤ 9223372036854775807 := fun r hr => ⟨GFits.ints (GFits.cell (GFits.elm (GFits.cell (show GFits (.det next1 pairs1) from hfit 1 (Nat.le_of_ble_eq_true rfl)) (.tail _ (.head _))) r hr) (.head _)), GFits.ints (GFits.cell (GFits.elm (GFits.cell (show GFits (.det next1 pairs1) from hfit 1 (Nat.le_of_ble_eq_true rfl)) (.tail _ (.head _))) r hr) (.tail _ (.head _)))⟩
  have hb_next2 : next2.length ≤ 9223372036854775807 := GFits.lenm (GFits.cell (show GFits (.det next2 pairs2) from hfit 2 (Nat.le_of_ble_eq_true rfl)) (.head _))
  have hr_next2 : ∀ r ∈ next2, r.length ≤ 9223372036854775807 := fun r hr => GFits.ints (GFits.elm (GFits.cell (show GFits (.det next2 pairs2) from hfit 2 (Nat.le_of_ble_eq_true rfl)) (.head _)) r hr)
  have hb_pairs2 : pairs2.length ≤ 9223372036854775807 := GFits.lenm (GFits.cell (show GFits (.det next2 pairs2) from hfit 2 (Nat.le_of_ble_eq_true rfl)) (.tail _ (.head _)))
  have hr_pairs2 : ∀ r ∈ pairs2, r.1.length ≤ 9223372036854775807 ∧ r.2.length ≤ 9223372036854775807 := fun r hr => ⟨GFits.ints (GFits.cell (GFits.elm (GFits.cell (show GFits (.det next2 pairs2) from hfit 2 (Nat.le_of_ble_eq_true rfl)) (.tail _ (.head _))) r hr) (.head _)), GFits.ints (GFits.cell (GFits.elm (GFits.cell (show GFits (.det next2 pairs2) from hfit 2 (Nat.le_of_ble_eq_true rfl)) (.tail _ (.head _))) r hr) (.tail _ (.head _)))⟩
  clear hfit
  have rb_j := joinD_cnt (i := inp) (o := out) (n := next1) (ps := pairs1) (n2 := next2) (ps2 := pairs2)
  refine gConLaw lv_law_FnExactJoinedDet tab_ok (rs := [.tmp 6]) (sl := [(0, .g (.sig inp out)), (1, .g (.det next1 pairs1)), (2, .g (.det next2 pairs2))]) (sl2 := [(3, .g (.box [.i inp, .i out])), (4, .g (.box [.rows next1, .pairs pairs1])), (5, .g (.box [.rows next2, .pairs pairs2]))]) (n2 := 3670143) Try.func7 rfl Try.ntmps7 rfl enter_law_FnExactJoinedDet rfl (by repeat constructor) ?_ ?_
  all_goals (repeat' (first | (with_reducible apply gAF.cmark (f := 39)) | ((with_reducible apply RF_ok); kernel_rfl) | ((with_reducible apply MRK_of); first | exact mk_Det _ _ _ (NU.mk (by first | omega | (first | omega | (have z0 := szDet_ok (next1, pairs1) (1048576) (by assumption) (by omega); omega) | (have z0 := szDet_ok (next1, pairs1) (1048576) (by assumption) (by omega); have z1 := szDet_ok (next2, pairs2) (szDet (next1, pairs1) (1048576)) (by assumption) (by omega); omega) | ((try simp only [List.drop_zero, markG_len, marks_tk, markG_tk, marks_len, cntR_mark, cntPs_mark, cntR, cntPs, cntR3, cntCls, Int.natCast_add] at *); omega) | (have z0 := szDet_ok (next1, pairs1) (1048576) (by assumption) (by omega); have z1 := szDet_ok (next2, pairs2) (szDet (next1, pairs1) (1048576)) (by assumption) (by omega); have y0 := szDet_cn (next1, pairs1) (1048576) (by assumption); have y1 := szDet_cn (next2, pairs2) (szDet (next1, pairs1) (1048576)) (by assumption); (try dsimp only at *); (try simp only [List.drop_zero, markG_len, marks_tk, markG_tk, marks_len, cntR_mark, cntPs_mark, cntR, cntPs, cntR3, cntCls, Int.natCast_add] at *); omega))))) | exact LENQ.mk (by simp only [List.length_map, markG_len, marks_len]) (by simp only [List.length_map, markG_len, marks_len]) | ((with_reducible apply gQA_law); (· exact RF.mk rfl)) | ((with_reducible apply gLB.cagg); (· exact RF.mk ⟨rfl, rfl, rfl⟩)) | ((with_reducible apply gLB.cone); (· exact RF.mk ⟨rfl, rfl⟩)) | ((with_reducible apply gLI.cagg); (· exact RF.mk ⟨rfl, rfl, rfl⟩)) | ((with_reducible apply gLI.cone); (· exact RF.mk ⟨rfl, rfl⟩)) | ((with_reducible apply gAF.cbuildA); (· exact RF.mk rfl); (· exact RF.mk ⟨rfl, rfl, rfl, rfl⟩)) | (with_reducible constructor) | exact NE.mk rfl | exact RF.mk rfl | exact RF.mk ⟨rfl, rfl⟩ | exact RF.mk ⟨rfl, rfl, rfl⟩ | exact NU.mk (by first | omega | (simp only [List.length_take, List.length_drop, List.length_map, List.length_append, List.length_replicate, List.length_set, List.length_cons, List.length_nil]; omega) | (first | omega | (have z0 := szDet_ok (next1, pairs1) (1048576) (by assumption) (by omega); omega) | (have z0 := szDet_ok (next1, pairs1) (1048576) (by assumption) (by omega); have z1 := szDet_ok (next2, pairs2) (szDet (next1, pairs1) (1048576)) (by assumption) (by omega); omega) | ((try simp only [List.drop_zero, markG_len, marks_tk, markG_tk, marks_len, cntR_mark, cntPs_mark, cntR, cntPs, cntR3, cntCls, Int.natCast_add] at *); omega) | (have z0 := szDet_ok (next1, pairs1) (1048576) (by assumption) (by omega); have z1 := szDet_ok (next2, pairs2) (szDet (next1, pairs1) (1048576)) (by assumption) (by omega); have y0 := szDet_cn (next1, pairs1) (1048576) (by assumption); have y1 := szDet_cn (next2, pairs2) (szDet (next1, pairs1) (1048576)) (by assumption); (try dsimp only at *); (try simp only [List.drop_zero, markG_len, marks_tk, markG_tk, marks_len, cntR_mark, cntPs_mark, cntR, cntPs, cntR3, cntCls, Int.natCast_add] at *); omega))) | ((with_reducible apply NID_mk); (try simp only [Nat.reduceAdd, Nat.reduceMul]); exact rfl) | ((with_reducible apply SLT_mk); (· rfl); (· rfl); (· rfl); (· rfl)) | ((with_reducible apply FO_mk); (· rfl); (· rfl); (· rfl); (· rfl); (· rfl)) | ((with_reducible apply FO1_mk); (· rfl); (· rfl); (· rfl); (· rfl); (· rfl)) | ((with_reducible apply CUT_all); (· with_reducible first | exact LEN_map _ _ | exact LEN_nil | exact LEN_1 _ | exact LEN_2 _ _ | exact LEN_any _); (· first | rfl | omega); (· first | rfl | omega)) | ((with_reducible apply CUT_mapT); (· first | rfl | omega); (· exact NU.mk (by first | omega | (simp only [List.length_take, List.length_drop, List.length_map, List.length_append, List.length_replicate, List.length_set, List.length_cons, List.length_nil]; omega) | (first | omega | (have z0 := szDet_ok (next1, pairs1) (1048576) (by assumption) (by omega); omega) | (have z0 := szDet_ok (next1, pairs1) (1048576) (by assumption) (by omega); have z1 := szDet_ok (next2, pairs2) (szDet (next1, pairs1) (1048576)) (by assumption) (by omega); omega) | ((try simp only [List.drop_zero, markG_len, marks_tk, markG_tk, marks_len, cntR_mark, cntPs_mark, cntR, cntPs, cntR3, cntCls, Int.natCast_add] at *); omega) | (have z0 := szDet_ok (next1, pairs1) (1048576) (by assumption) (by omega); have z1 := szDet_ok (next2, pairs2) (szDet (next1, pairs1) (1048576)) (by assumption) (by omega); have y0 := szDet_cn (next1, pairs1) (1048576) (by assumption); have y1 := szDet_cn (next2, pairs2) (szDet (next1, pairs1) (1048576)) (by assumption); (try dsimp only at *); (try simp only [List.drop_zero, markG_len, marks_tk, markG_tk, marks_len, cntR_mark, cntPs_mark, cntR, cntPs, cntR3, cntCls, Int.natCast_add] at *); omega))))) | ((with_reducible apply CUT_mapD); (· first | rfl | omega)) | (with_reducible apply CUT_map) | (apply CUT_any) | (with_reducible apply CUG_mapT) | ((with_reducible apply CUG_mapD); (· exact NU.mk (by first | omega | (simp only [List.length_take, List.length_drop, List.length_map, List.length_append, List.length_replicate, List.length_set, List.length_cons, List.length_nil]; omega) | (first | omega | (have z0 := szDet_ok (next1, pairs1) (1048576) (by assumption) (by omega); omega) | (have z0 := szDet_ok (next1, pairs1) (1048576) (by assumption) (by omega); have z1 := szDet_ok (next2, pairs2) (szDet (next1, pairs1) (1048576)) (by assumption) (by omega); omega) | ((try simp only [List.drop_zero, markG_len, marks_tk, markG_tk, marks_len, cntR_mark, cntPs_mark, cntR, cntPs, cntR3, cntCls, Int.natCast_add] at *); omega) | (have z0 := szDet_ok (next1, pairs1) (1048576) (by assumption) (by omega); have z1 := szDet_ok (next2, pairs2) (szDet (next1, pairs1) (1048576)) (by assumption) (by omega); have y0 := szDet_cn (next1, pairs1) (1048576) (by assumption); have y1 := szDet_cn (next2, pairs2) (szDet (next1, pairs1) (1048576)) (by assumption); (try dsimp only at *); (try simp only [List.drop_zero, markG_len, marks_tk, markG_tk, marks_len, cntR_mark, cntPs_mark, cntR, cntPs, cntR3, cntCls, Int.natCast_add] at *); omega)))); (· rfl)) | (with_reducible apply CUG_map) | (apply CUG_any) | ((with_reducible apply CON_of); first | apply laws_toSig | apply laws_eqDet | apply laws_heldDet | apply laws_szDet | apply spec_JoinedDet | apply laws_toDet | apply impl_JoinedDet) | (with_reducible intro hc; (try simp only [Bool.and_eq_true, Bool.or_eq_true, Bool.and_eq_false_iff, Bool.or_eq_false_iff, decide_eq_true_eq, decide_eq_false_iff_not, Bool.not_eq_true, Bool.not_eq_false, Bool.not_eq_eq_eq_not, Bool.not_true, Bool.not_false, bne_iff_ne, beq_iff_eq, ne_eq, beq_eq_false_iff_ne, bne_eq_false_iff_eq, Int.not_lt, Int.not_le, ge_iff_le, gt_iff_lt, Decidable.not_not, not_true_eq_false, not_false_eq_true] at hc)) | exact OB_f | exact DEC.mk (by decide) | ((with_reducible apply MZ_one); (· rfl); (· rfl); (· rfl)) | ((with_reducible apply MZ_st); (· rfl); (· rfl); (· rfl); (· rfl); (· rfl)) | ((with_reducible apply OB_t); kernel_rfl) | (with_reducible first | apply gNK | apply TX_seq | apply QA_and_n | apply QA_and_e | apply QA_and_r | apply gTX_cond | apply CK_t | apply CK_f | apply CK_if | apply TX_skip | apply TX_ret | apply TX_exit | apply TX_label | apply QA_in_eq | apply QA_in_ne | apply QA_in_n | apply QA_in_r | apply QA_lp_e | apply QA_lp_r | apply QA_ct_e | apply QA_ct_r | apply QA_nr | apply gEND_1 | apply gEND_N | apply END_0) | apply gTX_rgW tab_ok | apply gTX_rgD tab_ok rfl | (apply TX_blk; exact RF.mk rfl) | exact EQ.mk rfl | exact HY.mk (by have z0 := szDet_ok (next1, pairs1) (1048576) (by assumption) (by omega); exact z0.1) | exact HY.mk (by have z0 := szDet_ok (next1, pairs1) (1048576) (by assumption) (by omega); have z1 := szDet_ok (next2, pairs2) (szDet (next1, pairs1) (1048576)) (by assumption) (by omega); exact z1.1) | exact HY.mk (by (try simp only [List.drop_zero, marks_tk, markG_tk, cntR_mark, cntPs_mark, marks_len, markG_len]); first | done | exact markR_idem _ _ | exact markPs_idem _ _ | exact markPs_idem2 (by simp only [cntR, cntPs, Int.natCast_add]; omega) _ | exact markR_idem2 (by simp only [cntR, cntPs, Int.natCast_add]; omega) _) | exact gSel.cnil _ | apply gSel.ccons | apply gCG.cagg))
  (all_goals (first | (((refine EQ_bool ?_; first | rfl | (simp_all; done) | (exfalso; first | omega | ((try simp only [List.drop_zero, markG_len, marks_tk, markG_tk, marks_len, cntR_mark, cntPs_mark, cntR, cntPs, cntR3, cntCls, Int.natCast_add] at *); omega) | (simp_all; done) | ((try simp only [List.drop_zero, markG_len, marks_tk, markG_tk, marks_len, cntR_mark, cntPs_mark, cntR, cntPs, cntR3, cntCls, Int.natCast_add] at *); simp_all; done)))); done)))
end Go.Proofs.Ytgfnpphhdkjlmaa
namespace Go.Proofs.Ytgfnpphhdkjlmaa.FnExactJoinedDet
open Go.ChangeShapes Go.WideShapes Go.ChangeAt Go.RowKit
open Shp
set_option linter.unusedVariables false
set_option maxRecDepth 100000 in
theorem lifted (os : Os) (started : os.Started) (H : Type) (enc : TypeId × Value → H) :
    ReturnsInHanded {} Try.checked os 7 .any (Rows.fnExactJoinedDetSpec.pre6 enc Try.prog Try.f7 Rows.fnExactJoinedDetRow.domain false) (Rows.fnExactJoinedDetSpec.post enc Try.prog Try.f7 false true false false) := by
  refine law_lift (C := Try.checked) started isOwn isLaid (by kernel_rfl) Try.func7 rfl (by kernel_rfl) Try.underlying4
    (of_decide_eq_true (by kernel_rfl)) ?_
    (ChangeSpec.witness6 (enc := enc) (C := Try.checked) false ⟨#[], #[.agg #[.int .i64 0, .int .i64 0], .agg #[.slice none 0 0, .slice none 0 0], .agg #[.slice none 0 0, .slice none 0 0]], []⟩ 8 (by kernel_rfl) (by kernel_rfl) (by kernel_rfl) (by kernel_rfl)) ?_
  · intro H ds h
    have h' : ds.length = 3 := h
    match ds, h' with
    | [_, _, _], _ => rfl
  · intro W base args ds ps hval0 hA0 hz
    have hval : ∀ (j : Nat) t v, Try.f7.params[j]? = some t → args[j]? = some v → Value.okWide Try.prog W .any base t v := hval0
    have hA : DataW.TrodAll enc Try.prog W 0 (fun _ => true) true Try.f7.params.toList args.toList ds ps := hA0
    rw [Try.params7] at hA hval
    obtain ⟨v0, vs0, d0, ds0, p0, q0, hargs0, rfl, rfl, h0, r0⟩ := trodAll_cons hA
    obtain ⟨v1, vs1, d1, ds1, p1, q1, hargs1, rfl, rfl, h1, r1⟩ := trodAll_cons r0
    obtain ⟨v2, vs2, d2, ds2, p2, q2, hargs2, rfl, rfl, h2, r2⟩ := trodAll_cons r1
    obtain ⟨hv, rfl, rfl⟩ := trodAll_nil r2
    obtain rfl : args = #[v0, v1, v2] := by cases args; simp_all
    obtain ⟨x0, V0, F0, e0⟩ := (og_Sig).argS Try.underlying43 (hval 0 43 v0 rfl rfl) h0 (noneFrozen_sub hz fun p hp => List.mem_append.2 (.inl hp))
    obtain ⟨x1, V1, F1, e1⟩ := (og_Det).argS Try.underlying62 (hval 1 62 v1 rfl rfl) h1 (noneFrozen_sub hz fun p hp => List.mem_append.2 (.inr (List.mem_append.2 (.inl hp))))
    obtain ⟨x2, V2, F2, e2⟩ := (og_Det).argS Try.underlying62 (hval 2 62 v2 rfl rfl) h2 (noneFrozen_sub hz fun p hp => List.mem_append.2 (.inr (List.mem_append.2 (.inr (List.mem_append.2 (.inl hp))))))
    exact (law_FnExactJoinedDet (x0.1) (x0.2) (x1.1) (x1.2) (x2.1) (x2.2)).law rfl (fun i hi => by
      match i, hi with
      | 0, _ => exact ⟨F0, e0⟩
      | 1, _ => exact ⟨F1, e1⟩
      | 2, _ => exact ⟨F2, e2⟩)
theorem over : Rows.fnExactJoinedDetRow.holds Try.pinned (OpenSpec.ofChange Rows.fnExactJoinedDetSpec) :=
  OpenClaim.holds_of_wide 7 Try.f7 rfl rfl rfl rfl rfl rfl rfl ⟨rfl, rfl, rfl, rfl, rfl⟩ rfl rfl rfl rfl rfl (by kernel_rfl) Try.func7 (joined_of mayEnter_ok make_ok lifts_ok rfl rfl (by kernel_rfl))
    (of_decide_eq_true (by kernel_rfl)) (by unfold Func.isWrapper; first | (rw [if_pos (by decide +kernel)]; kernel_rfl) | (rw [if_neg (by decide +kernel)]; exact ⟨rfl, rfl⟩))
    (fun os started H enc _ => lifted os started H enc)
theorem proved : Rows.FnExactJoinedDetSaid := over
#print axioms proved
end Go.Proofs.Ytgfnpphhdkjlmaa.FnExactJoinedDet

