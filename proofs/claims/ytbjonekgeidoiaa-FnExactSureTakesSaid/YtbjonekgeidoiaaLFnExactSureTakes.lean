/- FnExactSureTakes: whatever the input, the law returns true and changes nothing. No conditions but those that each theorem names. -/
import Derived.Test.YtbjonekgeidoiaaTab
import Derived.Test.YtbjonekgeidoiaaKG
import Derived.Test.YtbjonekgeidoiaaOG
import Derived.Test.YtbjonekgeidoiaaMC
import Derived.Test.YtbjonekgeidoiaaChecked
set_option linter.unusedSimpArgs false
set_option linter.unusedVariables false
namespace Go.Proofs.Ytbjonekgeidoiaa
open Go.RowKit
open Shp
def lv_law_FnExactSureTakes : Nat → List Nat
  | 0 => [2, 3]
  | 1 => [2, 3, 5]
  | 2 => [2, 3, 5]
  | 3 => [2, 3, 5, 14]
  | 4 => [4]
  | 5 => [2, 3, 5]
  | 6 => [2, 3, 19]
  | 7 => [4]
  | 8 => [2, 3, 6]
  | 9 => [2, 3, 6, 7]
  | 10 => [2, 3, 6, 7, 8]
  | 11 => [2, 3, 6, 7, 8, 9]
  | 12 => [2, 3, 7, 8, 34]
  | 13 => [4]
  | 14 => [3, 8, 39]
  | 15 => [4]
  | 16 => [44]
  | 17 => [4]
  | 18 => [4]
  | _ => []
theorem enter_law_FnExactSureTakes (args : Array Value) (w : World) : (callFunc 4 args).run Try.prog w = .ok (.enter 4 args) w := callFunc_enter Try.func4 (by decide) rfl args w
set_option maxHeartbeats 2000000 in
theorem law_FnExactSureTakes (next1 : List (List Int)) (good1 : List (List Int)) (bad1 : List (List Int)) (stem2 : List Int) (loop2 : List Int) : Con Try.prog 4 [.sure next1 good1 bad1, .word stem2 loop2] (.bool true) := by
  refine Con.fit enter_law_FnExactSureTakes fun hfit => ?_
  have hb_stem2 : stem2.length ≤ 9223372036854775807 := GFits.ints (GFits.cell (show GFits (.word stem2 loop2) from hfit 1 (Nat.le_of_ble_eq_true rfl)) (.head _))
  have hb_loop2 : loop2.length ≤ 9223372036854775807 := GFits.ints (GFits.cell (show GFits (.word stem2 loop2) from hfit 1 (Nat.le_of_ble_eq_true rfl)) (.tail _ (.head _)))
  clear hfit
  refine gCon lv_law_FnExactSureTakes tab_ok (rs := [.tmp 4]) (sl := [(0, .g (.sure next1 good1 bad1)), (1, .g (.word stem2 loop2))]) Try.func4 rfl Try.ntmps4 rfl enter_law_FnExactSureTakes rfl (by repeat constructor) ?_
  (repeat' (first | ((with_reducible apply gLB.cagg); (· exact RF.mk ⟨rfl, rfl, rfl⟩)) | ((with_reducible apply gLB.cone); (· exact RF.mk ⟨rfl, rfl⟩)) | ((with_reducible apply gLI.cagg); (· exact RF.mk ⟨rfl, rfl, rfl⟩)) | ((with_reducible apply gLI.cone); (· exact RF.mk ⟨rfl, rfl⟩)) | ((with_reducible apply gAF.cbuildA); (· exact RF.mk rfl); (· exact RF.mk ⟨rfl, rfl, rfl, rfl⟩)) | (with_reducible constructor) | exact NE.mk rfl | exact RF.mk rfl | exact RF.mk ⟨rfl, rfl⟩ | exact RF.mk ⟨rfl, rfl, rfl⟩ | exact NU.mk (by first | omega | (simp only [List.length_take, List.length_drop, List.length_map, List.length_append, List.length_replicate, List.length_set, List.length_cons, List.length_nil]; omega) | (first | omega | (have z0 := szSure_ok (next1, good1, bad1) (1048576) (by assumption) (by omega); omega) | (have z0 := szSure_ok (next1, good1, bad1) (1048576) (by assumption) (by omega); have z1 := szWord_ok (stem2, loop2) (szSure (next1, good1, bad1) (1048576)) (by assumption) (by omega); omega))) | ((with_reducible apply NID_mk); (try simp only [Nat.reduceAdd, Nat.reduceMul]); exact rfl) | ((with_reducible apply SLT_mk); (· rfl); (· rfl); (· rfl); (· rfl)) | ((with_reducible apply FO_mk); (· rfl); (· rfl); (· rfl); (· rfl); (· rfl)) | ((with_reducible apply FO1_mk); (· rfl); (· rfl); (· rfl); (· rfl); (· rfl)) | ((with_reducible apply CUT_all); (· with_reducible first | exact LEN_map _ _ | exact LEN_nil | exact LEN_1 _ | exact LEN_2 _ _ | exact LEN_any _); (· first | rfl | omega); (· first | rfl | omega)) | ((with_reducible apply CUT_mapT); (· first | rfl | omega); (· exact NU.mk (by first | omega | (simp only [List.length_take, List.length_drop, List.length_map, List.length_append, List.length_replicate, List.length_set, List.length_cons, List.length_nil]; omega) | (first | omega | (have z0 := szSure_ok (next1, good1, bad1) (1048576) (by assumption) (by omega); omega) | (have z0 := szSure_ok (next1, good1, bad1) (1048576) (by assumption) (by omega); have z1 := szWord_ok (stem2, loop2) (szSure (next1, good1, bad1) (1048576)) (by assumption) (by omega); omega))))) | ((with_reducible apply CUT_mapD); (· first | rfl | omega)) | (with_reducible apply CUT_map) | (apply CUT_any) | (with_reducible apply CUG_mapT) | ((with_reducible apply CUG_mapD); (· exact NU.mk (by first | omega | (simp only [List.length_take, List.length_drop, List.length_map, List.length_append, List.length_replicate, List.length_set, List.length_cons, List.length_nil]; omega) | (first | omega | (have z0 := szSure_ok (next1, good1, bad1) (1048576) (by assumption) (by omega); omega) | (have z0 := szSure_ok (next1, good1, bad1) (1048576) (by assumption) (by omega); have z1 := szWord_ok (stem2, loop2) (szSure (next1, good1, bad1) (1048576)) (by assumption) (by omega); omega)))); (· rfl)) | (with_reducible apply CUG_map) | (apply CUG_any) | ((with_reducible apply CON_of); first | apply laws_szSure | apply laws_szWord | apply spec_SureTakes | apply laws_toSure | apply laws_toWord | apply impl_SureTakes | apply laws_eqSure | apply laws_eqWord) | (with_reducible intro hc; (try simp only [Bool.and_eq_true, Bool.or_eq_true, Bool.and_eq_false_iff, Bool.or_eq_false_iff, decide_eq_true_eq, decide_eq_false_iff_not, Bool.not_eq_true, Bool.not_eq_false, Bool.not_eq_eq_eq_not, Bool.not_true, Bool.not_false, bne_iff_ne, beq_iff_eq, ne_eq, beq_eq_false_iff_ne, bne_eq_false_iff_eq, Int.not_lt, Int.not_le, ge_iff_le, gt_iff_lt, Decidable.not_not, not_true_eq_false, not_false_eq_true] at hc)) | exact OB_f | exact DEC.mk (by decide) | ((with_reducible apply MZ_one); (· rfl); (· rfl); (· rfl)) | ((with_reducible apply MZ_st); (· rfl); (· rfl); (· rfl); (· rfl); (· rfl)) | ((with_reducible apply OB_t); kernel_rfl) | (with_reducible first | apply gNK | apply TX_seq | apply QA_and_n | apply QA_and_e | apply QA_and_r | apply gTX_cond | apply CK_t | apply CK_f | apply CK_if | apply TX_skip | apply TX_ret | apply TX_exit | apply TX_label | apply QA_in_eq | apply QA_in_ne | apply QA_in_n | apply QA_in_r | apply QA_lp_e | apply QA_lp_r | apply QA_ct_e | apply QA_ct_r | apply QA_nr | apply gEND_1 | apply gEND_N | apply END_0) | apply gTX_rgW tab_ok | apply gTX_rgD tab_ok rfl | (apply TX_blk; exact RF.mk rfl) | exact EQ.mk rfl | exact HY.mk (by have z0 := szSure_ok (next1, good1, bad1) (1048576) (by assumption) (by omega); exact z0.1) | exact HY.mk (by have z0 := szSure_ok (next1, good1, bad1) (1048576) (by assumption) (by omega); have z1 := szWord_ok (stem2, loop2) (szSure (next1, good1, bad1) (1048576)) (by assumption) (by omega); exact z1.1) | exact gSel.cnil _ | apply gSel.ccons | apply gCG.cagg))
  (all_goals (first | (((refine EQ_bool ?_; simp_all)); done)))
end Go.Proofs.Ytbjonekgeidoiaa
namespace Go.Proofs.Ytbjonekgeidoiaa.FnExactSureTakes
open Go.ChangeShapes Go.WideShapes Go.ChangeAt Go.RowKit
open Shp
set_option linter.unusedVariables false
set_option maxRecDepth 100000 in
theorem lifted (os : Os) (started : os.Started) (H : Type) (enc : TypeId × Value → H) :
    ReturnsInHanded {} Try.checked os 4 .any (Rows.fnExactSureTakesSpec.pre6 enc Try.prog Try.f4 Rows.fnExactSureTakesRow.domain false) (Rows.fnExactSureTakesSpec.post enc Try.prog Try.f4 false true false false) := by
  refine law_lift (C := Try.checked) started isOwn isLaid (by kernel_rfl) Try.func4 rfl (by kernel_rfl) Try.underlying4
    (of_decide_eq_true (by kernel_rfl)) ?_
    (ChangeSpec.witness6 (enc := enc) (C := Try.checked) false ⟨#[], #[.agg #[.slice none 0 0, .slice none 0 0, .slice none 0 0], .agg #[.slice none 0 0, .slice none 0 0]], []⟩ 8 (by kernel_rfl) (by kernel_rfl) (by kernel_rfl) (by kernel_rfl)) ?_
  · intro H ds h
    have h' : ds.length = 2 := h
    match ds, h' with
    | [_, _], _ => rfl
  · intro W base args ds ps hval0 hA0 hz
    have hval : ∀ (j : Nat) t v, Try.f4.params[j]? = some t → args[j]? = some v → Value.okWide Try.prog W .any base t v := hval0
    have hA : DataW.TrodAll enc Try.prog W 0 (fun _ => true) true Try.f4.params.toList args.toList ds ps := hA0
    rw [Try.params4] at hA hval
    obtain ⟨v0, vs0, d0, ds0, p0, q0, hargs0, rfl, rfl, h0, r0⟩ := trodAll_cons hA
    obtain ⟨v1, vs1, d1, ds1, p1, q1, hargs1, rfl, rfl, h1, r1⟩ := trodAll_cons r0
    obtain ⟨hv, rfl, rfl⟩ := trodAll_nil r1
    obtain rfl : args = #[v0, v1] := by cases args; simp_all
    obtain ⟨x0, V0, F0, e0⟩ := (og_Sure).argS Try.underlying48 (hval 0 48 v0 rfl rfl) h0 (noneFrozen_sub hz fun p hp => List.mem_append.2 (.inl hp))
    obtain ⟨x1, V1, F1, e1⟩ := (og_Word).argS Try.underlying50 (hval 1 50 v1 rfl rfl) h1 (noneFrozen_sub hz fun p hp => List.mem_append.2 (.inr (List.mem_append.2 (.inl hp))))
    exact (law_FnExactSureTakes (x0.1) (x0.2.1) (x0.2.2) (x1.1) (x1.2)).law rfl (fun i hi => by
      match i, hi with
      | 0, _ => exact ⟨F0, e0⟩
      | 1, _ => exact ⟨F1, e1⟩)
theorem over : Rows.fnExactSureTakesRow.holds Try.pinned (OpenSpec.ofChange Rows.fnExactSureTakesSpec) :=
  OpenClaim.holds_of_wide 4 Try.f4 rfl rfl rfl rfl rfl rfl rfl ⟨rfl, rfl, rfl, rfl, rfl⟩ rfl rfl rfl rfl rfl (by kernel_rfl) Try.func4 (joined_of mayEnter_ok make_ok lifts_ok rfl rfl (by kernel_rfl))
    (of_decide_eq_true (by kernel_rfl)) (by unfold Func.isWrapper; first | (rw [if_pos (by decide +kernel)]; kernel_rfl) | (rw [if_neg (by decide +kernel)]; exact ⟨rfl, rfl⟩))
    (fun os started H enc _ => lifted os started H enc)
theorem proved : Rows.FnExactSureTakesSaid := over
#print axioms proved
end Go.Proofs.Ytbjonekgeidoiaa.FnExactSureTakes

