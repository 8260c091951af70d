/- FnExactTailOf: whatever the input, the law returns true and changes nothing. No conditions but those that each theorem names. -/
import Derived.Test.YtgfnpphhdkjlmaaTab
import Derived.Test.YtgfnpphhdkjlmaaKG
import Derived.Test.YtgfnpphhdkjlmaaOG
import Derived.Test.YtgfnpphhdkjlmaaHL
import Derived.Test.YtgfnpphhdkjlmaaMK1
import Derived.Test.YtgfnpphhdkjlmaaMK2
import Derived.Test.YtgfnpphhdkjlmaaMR
import Derived.Test.YtgfnpphhdkjlmaaC3
import Derived.Test.YtgfnpphhdkjlmaaChecked
set_option linter.unusedSimpArgs false
set_option linter.unusedVariables false
namespace Go.Proofs.Ytgfnpphhdkjlmaa
open Go.RowKit
open Shp
def lv_law_FnExactTailOf : Nat → List Nat
  | 0 => [1, 2]
  | 1 => [1, 2, 5]
  | 2 => [1, 2, 5]
  | 3 => [1, 2, 17]
  | 4 => [4]
  | 5 => [1, 2, 6]
  | 6 => [1, 2, 6, 7]
  | 7 => [1, 2, 6, 7, 8]
  | 8 => [1, 2, 6, 7, 8, 30]
  | 9 => [4]
  | 10 => [1, 2, 6, 7, 8, 35]
  | 11 => [4]
  | 12 => [1, 2, 6, 7, 8, 9]
  | 13 => [1, 2, 6, 8, 9]
  | 14 => [1, 2, 6, 8, 46]
  | 15 => [4]
  | 16 => [1, 2, 6, 8, 10]
  | 17 => [1, 2, 6, 8, 10]
  | 18 => [1, 2, 6, 8, 10, 11]
  | 19 => [1, 2, 6, 8, 10, 11]
  | 20 => [1, 2, 6, 8, 10, 11, 54]
  | 21 => [4]
  | 22 => [1, 2, 6, 8, 10, 57]
  | 23 => [4]
  | 24 => [6, 8, 10, 12]
  | 25 => [8, 10, 65]
  | 26 => [4]
  | 27 => [8, 10, 11]
  | 28 => [10, 11]
  | 29 => [10, 11, 70]
  | 30 => [4]
  | 31 => [73]
  | 32 => [4]
  | 33 => [4]
  | _ => []
theorem enter_law_FnExactTailOf (args : Array Value) (w : World) : (callFunc 3 args).run Try.prog w = .ok (.enter 3 args) w := callFunc_enter Try.func3 (by decide) rfl args w
set_option maxHeartbeats 2000000 in
theorem law_FnExactTailOf (stem : List Int) (loop : List Int) (k2 : Int) (hk2 : NU (-9223372036854775808 ≤ k2 ∧ k2 ≤ 9223372036854775807)) : Con Try.prog 3 [.word stem loop, .i k2] (.bool true) := by
  have hk2 := hk2.e
  refine Con.fit enter_law_FnExactTailOf fun hfit => ?_
  have hb_stem : stem.length ≤ 9223372036854775807 := GFits.ints (GFits.cell (show GFits (.word stem loop) from hfit 0 (Nat.le_of_ble_eq_true rfl)) (.head _))
  have hb_loop : loop.length ≤ 9223372036854775807 := GFits.ints (GFits.cell (show GFits (.word stem loop) from hfit 0 (Nat.le_of_ble_eq_true rfl)) (.tail _ (.head _)))
  clear hfit
  have rb_w := tailO_len (s := stem) (l := loop) (k := k2)
  refine gConLaw lv_law_FnExactTailOf tab_ok (rs := [.tmp 4]) (sl := [(0, .g (.word stem loop)), (1, .g (.i k2))]) (sl2 := [(1, .g (.i k2)), (2, .g (.box [.ints stem, .ints loop]))]) (n2 := 393290) Try.func3 rfl Try.ntmps3 rfl enter_law_FnExactTailOf rfl (by repeat constructor) ?_ ?_
  all_goals (repeat' (first | (with_reducible apply gAF.cmark (f := 19)) | ((with_reducible apply RF_ok); kernel_rfl) | ((with_reducible apply MRK_of); first | exact mk_Word _ _ _ (NU.mk (by first | omega | (first | omega | (have z0 := szWord_ok (stem, loop) (1048576) (by assumption) (by omega); omega) | ((try simp only [List.drop_zero, markG_len, marks_tk, markG_tk, marks_len, cntR_mark, cntPs_mark, cntR, cntPs, cntR3, cntCls, Int.natCast_add] at *); omega) | (have z0 := szWord_ok (stem, loop) (1048576) (by assumption) (by omega); have y0 := szWord_cn (stem, loop) (1048576) (by assumption); (try dsimp only at *); (try simp only [List.drop_zero, markG_len, marks_tk, markG_tk, marks_len, cntR_mark, cntPs_mark, cntR, cntPs, cntR3, cntCls, Int.natCast_add] at *); omega))))) | exact LENQ.mk (by simp only [List.length_map, markG_len, marks_len]) (by simp only [List.length_map, markG_len, marks_len]) | ((with_reducible apply gQA_law); (· exact RF.mk rfl)) | ((with_reducible apply gLB.cagg); (· exact RF.mk ⟨rfl, rfl, rfl⟩)) | ((with_reducible apply gLB.cone); (· exact RF.mk ⟨rfl, rfl⟩)) | ((with_reducible apply gLI.cagg); (· exact RF.mk ⟨rfl, rfl, rfl⟩)) | ((with_reducible apply gLI.cone); (· exact RF.mk ⟨rfl, rfl⟩)) | ((with_reducible apply gAF.cbuildA); (· exact RF.mk rfl); (· exact RF.mk ⟨rfl, rfl, rfl, rfl⟩)) | (with_reducible constructor) | exact NE.mk rfl | exact RF.mk rfl | exact RF.mk ⟨rfl, rfl⟩ | exact RF.mk ⟨rfl, rfl, rfl⟩ | exact NU.mk (by first | omega | (simp only [List.length_take, List.length_drop, List.length_map, List.length_append, List.length_replicate, List.length_set, List.length_cons, List.length_nil]; omega) | (first | omega | (have z0 := szWord_ok (stem, loop) (1048576) (by assumption) (by omega); omega) | ((try simp only [List.drop_zero, markG_len, marks_tk, markG_tk, marks_len, cntR_mark, cntPs_mark, cntR, cntPs, cntR3, cntCls, Int.natCast_add] at *); omega) | (have z0 := szWord_ok (stem, loop) (1048576) (by assumption) (by omega); have y0 := szWord_cn (stem, loop) (1048576) (by assumption); (try dsimp only at *); (try simp only [List.drop_zero, markG_len, marks_tk, markG_tk, marks_len, cntR_mark, cntPs_mark, cntR, cntPs, cntR3, cntCls, Int.natCast_add] at *); omega))) | ((with_reducible apply NID_mk); (try simp only [Nat.reduceAdd, Nat.reduceMul]); exact rfl) | ((with_reducible apply SLT_mk); (· rfl); (· rfl); (· rfl); (· rfl)) | ((with_reducible apply FO_mk); (· rfl); (· rfl); (· rfl); (· rfl); (· rfl)) | ((with_reducible apply FO1_mk); (· rfl); (· rfl); (· rfl); (· rfl); (· rfl)) | ((with_reducible apply CUT_all); (· with_reducible first | exact LEN_map _ _ | exact LEN_nil | exact LEN_1 _ | exact LEN_2 _ _ | exact LEN_any _); (· first | rfl | omega); (· first | rfl | omega)) | ((with_reducible apply CUT_mapT); (· first | rfl | omega); (· exact NU.mk (by first | omega | (simp only [List.length_take, List.length_drop, List.length_map, List.length_append, List.length_replicate, List.length_set, List.length_cons, List.length_nil]; omega) | (first | omega | (have z0 := szWord_ok (stem, loop) (1048576) (by assumption) (by omega); omega) | ((try simp only [List.drop_zero, markG_len, marks_tk, markG_tk, marks_len, cntR_mark, cntPs_mark, cntR, cntPs, cntR3, cntCls, Int.natCast_add] at *); omega) | (have z0 := szWord_ok (stem, loop) (1048576) (by assumption) (by omega); have y0 := szWord_cn (stem, loop) (1048576) (by assumption); (try dsimp only at *); (try simp only [List.drop_zero, markG_len, marks_tk, markG_tk, marks_len, cntR_mark, cntPs_mark, cntR, cntPs, cntR3, cntCls, Int.natCast_add] at *); omega))))) | ((with_reducible apply CUT_mapD); (· first | rfl | omega)) | (with_reducible apply CUT_map) | (apply CUT_any) | (with_reducible apply CUG_mapT) | ((with_reducible apply CUG_mapD); (· exact NU.mk (by first | omega | (simp only [List.length_take, List.length_drop, List.length_map, List.length_append, List.length_replicate, List.length_set, List.length_cons, List.length_nil]; omega) | (first | omega | (have z0 := szWord_ok (stem, loop) (1048576) (by assumption) (by omega); omega) | ((try simp only [List.drop_zero, markG_len, marks_tk, markG_tk, marks_len, cntR_mark, cntPs_mark, cntR, cntPs, cntR3, cntCls, Int.natCast_add] at *); omega) | (have z0 := szWord_ok (stem, loop) (1048576) (by assumption) (by omega); have y0 := szWord_cn (stem, loop) (1048576) (by assumption); (try dsimp only at *); (try simp only [List.drop_zero, markG_len, marks_tk, markG_tk, marks_len, cntR_mark, cntPs_mark, cntR, cntPs, cntR3, cntCls, Int.natCast_add] at *); omega)))); (· rfl)) | (with_reducible apply CUG_map) | (apply CUG_any) | ((with_reducible apply CON_of); first | apply laws_szWord | apply spec_TailOf | apply laws_toWord | apply impl_TailOf | apply laws_eqWord | apply laws_heldWord) | (with_reducible intro hc; (try simp only [Bool.and_eq_true, Bool.or_eq_true, Bool.and_eq_false_iff, Bool.or_eq_false_iff, decide_eq_true_eq, decide_eq_false_iff_not, Bool.not_eq_true, Bool.not_eq_false, Bool.not_eq_eq_eq_not, Bool.not_true, Bool.not_false, bne_iff_ne, beq_iff_eq, ne_eq, beq_eq_false_iff_ne, bne_eq_false_iff_eq, Int.not_lt, Int.not_le, ge_iff_le, gt_iff_lt, Decidable.not_not, not_true_eq_false, not_false_eq_true] at hc)) | exact OB_f | exact DEC.mk (by decide) | ((with_reducible apply MZ_one); (· rfl); (· rfl); (· rfl)) | ((with_reducible apply MZ_st); (· rfl); (· rfl); (· rfl); (· rfl); (· rfl)) | ((with_reducible apply OB_t); kernel_rfl) | (with_reducible first | apply gNK | apply TX_seq | apply QA_and_n | apply QA_and_e | apply QA_and_r | apply gTX_cond | apply CK_t | apply CK_f | apply CK_if | apply TX_skip | apply TX_ret | apply TX_exit | apply TX_label | apply QA_in_eq | apply QA_in_ne | apply QA_in_n | apply QA_in_r | apply QA_lp_e | apply QA_lp_r | apply QA_ct_e | apply QA_ct_r | apply QA_nr | apply gEND_1 | apply gEND_N | apply END_0) | apply gTX_rgW tab_ok | apply gTX_rgD tab_ok rfl | (apply TX_blk; exact RF.mk rfl) | exact EQ.mk rfl | exact HY.mk (by have z0 := szWord_ok (stem, loop) (1048576) (by assumption) (by omega); exact z0.1) | exact HY.mk (by (try simp only [List.drop_zero, marks_tk, markG_tk, cntR_mark, cntPs_mark, marks_len, markG_len]); first | done | exact markR_idem _ _ | exact markPs_idem _ _) | exact gSel.cnil _ | apply gSel.ccons | apply gCG.cagg))
  (all_goals (first | (((refine EQ_bool ?_; first | rfl | (simp_all; done) | (exfalso; first | omega | ((try simp only [List.drop_zero, markG_len, marks_tk, markG_tk, marks_len, cntR_mark, cntPs_mark, cntR, cntPs, cntR3, cntCls, Int.natCast_add] at *); omega) | (simp_all; done) | ((try simp only [List.drop_zero, markG_len, marks_tk, markG_tk, marks_len, cntR_mark, cntPs_mark, cntR, cntPs, cntR3, cntCls, Int.natCast_add] at *); simp_all; done)))); done)))
end Go.Proofs.Ytgfnpphhdkjlmaa
namespace Go.Proofs.Ytgfnpphhdkjlmaa.FnExactTailOf
open Go.ChangeShapes Go.WideShapes Go.ChangeAt Go.RowKit
open Shp
set_option linter.unusedVariables false
set_option maxRecDepth 100000 in
theorem lifted (os : Os) (started : os.Started) (H : Type) (enc : TypeId × Value → H) :
    ReturnsInHanded {} Try.checked os 3 .any (Rows.fnExactTailOfSpec.pre6 enc Try.prog Try.f3 Rows.fnExactTailOfRow.domain false) (Rows.fnExactTailOfSpec.post enc Try.prog Try.f3 false true false false) := by
  refine law_lift (C := Try.checked) started isOwn isLaid (by kernel_rfl) Try.func3 rfl (by kernel_rfl) Try.underlying4
    (of_decide_eq_true (by kernel_rfl)) ?_
    (ChangeSpec.witness6 (enc := enc) (C := Try.checked) false ⟨#[], #[.agg #[.slice none 0 0, .slice none 0 0], .int .i64 0], []⟩ 8 (by kernel_rfl) (by kernel_rfl) (by kernel_rfl) (by kernel_rfl)) ?_
  · intro H ds h
    have h' : ds.length = 2 := h
    match ds, h' with
    | [_, _], _ => rfl
  · intro W base args ds ps hval0 hA0 hz
    have hval : ∀ (j : Nat) t v, Try.f3.params[j]? = some t → args[j]? = some v → Value.okWide Try.prog W .any base t v := hval0
    have hA : DataW.TrodAll enc Try.prog W 0 (fun _ => true) true Try.f3.params.toList args.toList ds ps := hA0
    rw [Try.params3] at hA hval
    obtain ⟨v0, vs0, d0, ds0, p0, q0, hargs0, rfl, rfl, h0, r0⟩ := trodAll_cons hA
    obtain ⟨v1, vs1, d1, ds1, p1, q1, hargs1, rfl, rfl, h1, r1⟩ := trodAll_cons r0
    obtain ⟨hv, rfl, rfl⟩ := trodAll_nil r1
    obtain rfl : args = #[v0, v1] := by cases args; simp_all
    obtain ⟨x0, V0, F0, e0⟩ := (og_Word).argS Try.underlying24 (hval 0 24 v0 rfl rfl) h0 (noneFrozen_sub hz fun p hp => List.mem_append.2 (.inl hp))
    obtain ⟨x1, V1, F1, e1⟩ := (og_int).arg1 (by rw [Try.underlying2]; trivial) (hval 1 2 v1 rfl rfl) h1 (noneFrozen_sub hz fun p hp => List.mem_append.2 (.inr (List.mem_append.2 (.inl hp))))
    exact (law_FnExactTailOf (x0.1) (x0.2) (x1) (NU.mk V1)).law rfl (fun i hi => by
      match i, hi with
      | 0, _ => exact ⟨F0, e0⟩
      | 1, _ => exact ⟨F1, e1⟩)
theorem over : Rows.fnExactTailOfRow.holds Try.pinned (OpenSpec.ofChange Rows.fnExactTailOfSpec) :=
  OpenClaim.holds_of_wide 3 Try.f3 rfl rfl rfl rfl rfl rfl rfl ⟨rfl, rfl, rfl, rfl, rfl⟩ rfl rfl rfl rfl rfl (by kernel_rfl) Try.func3 (joined_of mayEnter_ok make_ok lifts_ok rfl rfl (by kernel_rfl))
    (of_decide_eq_true (by kernel_rfl)) (by unfold Func.isWrapper; first | (rw [if_pos (by decide +kernel)]; kernel_rfl) | (rw [if_neg (by decide +kernel)]; exact ⟨rfl, rfl⟩))
    (fun os started H enc _ => lifted os started H enc)
theorem proved : Rows.FnExactTailOfSaid := over
#print axioms proved
end Go.Proofs.Ytgfnpphhdkjlmaa.FnExactTailOf
