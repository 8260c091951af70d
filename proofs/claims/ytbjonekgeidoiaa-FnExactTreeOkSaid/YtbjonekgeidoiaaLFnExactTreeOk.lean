/- FnExactTreeOk: whatever the input, the law returns true and changes nothing. No conditions but those that each theorem names. -/
import Derived.Test.YtbjonekgeidoiaaTab
import Derived.Test.YtbjonekgeidoiaaKG
import Derived.Test.YtbjonekgeidoiaaOG
import Derived.Test.YtbjonekgeidoiaaTB
import Derived.Test.YtbjonekgeidoiaaChecked
set_option linter.unusedSimpArgs false
set_option linter.unusedVariables false
namespace Go.Proofs.Ytbjonekgeidoiaa
open Go.RowKit
open Shp

def lv_law_FnExactTreeOk : Nat → List Nat
  | 0 => [2, 3]
  | 1 => [2, 3, 5]
  | 2 => [2, 3, 5]
  | 3 => [2, 3, 5, 14]
  | 4 => [4]
  | 5 => [2, 3, 5]
  | 6 => [2, 3, 19]
  | 7 => [4]
  | 8 => [2, 3, 6]
  | 9 => [2, 3, 6, 7]
  | 10 => [2, 3, 6, 7, 8]
  | 11 => [2, 3, 6, 7, 8, 9]
  | 12 => [2, 3, 7, 8, 34]
  | 13 => [4]
  | 14 => [3, 8, 39]
  | 15 => [4]
  | 16 => [44]
  | 17 => [4]
  | 18 => [4]
  | _ => []
theorem enter_law_FnExactTreeOk (args : Array Value) (w : World) : (callFunc 5 args).run Try.prog w = .ok (.enter 5 args) w := callFunc_enter Try.func5 (by decide) rfl args w
set_option maxHeartbeats 2000000 in
theorem law_FnExactTreeOk (next1 : List (List (List Int))) (final1 : List Int) (names2 : List Int) (parents2 : List Int) (labels2 : List (List Int)) (marks2 : List Int) : Con Try.prog 5 [.guess next1 final1, .tree names2 parents2 labels2 marks2] (.bool true) := by
  refine Con.fit enter_law_FnExactTreeOk fun hfit => ?_
  have hb_next1 : next1.length ≤ 9223372036854775807 := GFits.lenm (GFits.cell (show GFits (.guess next1 final1) from hfit 0 (Nat.le_of_ble_eq_true rfl)) (.head _))
  have hr_next1 : ∀ r ∈ next1, r.length ≤ 9223372036854775807 ∧ ∀ q ∈ r, q.length ≤ 9223372036854775807 := fun r hr => ⟨GFits.lenm (GFits.elm (GFits.cell (show GFits (.guess next1 final1) from hfit 0 (Nat.le_of_ble_eq_true rfl)) (.head _)) r hr), fun q hq => GFits.ints (GFits.elm (GFits.elm (GFits.cell (show GFits (.guess next1 final1) from hfit 0 (Nat.le_of_ble_eq_true rfl)) (.head _)) r hr) q hq)⟩
  have hb_final1 : final1.length ≤ 9223372036854775807 := GFits.ints (GFits.cell (show GFits (.guess next1 final1) from hfit 0 (Nat.le_of_ble_eq_true rfl)) (.tail _ (.head _)))
  have hb_names2 : names2.length ≤ 9223372036854775807 := GFits.ints (GFits.cell (show GFits (.tree names2 parents2 labels2 marks2) from hfit 1 (Nat.le_of_ble_eq_true rfl)) (.head _))
  have hb_parents2 : parents2.length ≤ 9223372036854775807 := GFits.ints (GFits.cell (show GFits (.tree names2 parents2 labels2 marks2) from hfit 1 (Nat.le_of_ble_eq_true rfl)) (.tail _ (.head _)))
  have hb_labels2 : labels2.length ≤ 9223372036854775807 := GFits.lenm (GFits.cell (show GFits (.tree names2 parents2 labels2 marks2) from hfit 1 (Nat.le_of_ble_eq_true rfl)) (.tail _ (.tail _ (.head _))))
  have hr_labels2 : ∀ r ∈ labels2, r.length ≤ 9223372036854775807 := fun r hr => GFits.ints (GFits.elm (GFits.cell (show GFits (.tree names2 parents2 labels2 marks2) from hfit 1 (Nat.le_of_ble_eq_true rfl)) (.tail _ (.tail _ (.head _)))) r hr)
  have hb_marks2 : marks2.length ≤ 9223372036854775807 := GFits.ints (GFits.cell (show GFits (.tree names2 parents2 labels2 marks2) from hfit 1 (Nat.le_of_ble_eq_true rfl)) (.tail _ (.tail _ (.tail _ (.head _)))))
  clear hfit
  refine gCon lv_law_FnExactTreeOk tab_ok (rs := [.tmp 4]) (sl := [(0, .g (.guess next1 final1)), (1, .g (.tree names2 parents2 labels2 marks2))]) Try.func5 rfl Try.ntmps5 rfl enter_law_FnExactTreeOk rfl (by repeat constructor) ?_
  (repeat' (first | ((with_reducible apply gLB.cagg); (. exact RF.mk ⟨rfl, rfl, rfl⟩)) | ((with_reducible apply gLB.cone); (. exact RF.mk ⟨rfl, rfl⟩)) | ((with_reducible apply gLI.cagg); (. exact RF.mk ⟨rfl, rfl, rfl⟩)) | ((with_reducible apply gLI.cone); (. exact RF.mk ⟨rfl, rfl⟩)) | ((with_reducible apply gAF.cbuildA); (. exact RF.mk rfl); (. exact RF.mk ⟨rfl, rfl, rfl, rfl⟩)) | (with_reducible constructor) | exact NE.mk rfl | exact RF.mk rfl | exact RF.mk ⟨rfl, rfl⟩ | exact RF.mk ⟨rfl, rfl, rfl⟩ | exact NU.mk (by first | omega | (simp only [LNs]; omega) | (first | omega | (have z0 := szGuess_ok (next1, final1) (1048576) (by assumption) (by omega); omega) | (have z0 := szGuess_ok (next1, final1) (1048576) (by assumption) (by omega); have z1 := szTree_ok (names2, parents2, labels2, marks2) (szGuess (next1, final1) (1048576)) (by assumption) (by omega); omega))) | ((with_reducible apply NID_mk); (try simp only [Nat.reduceAdd, Nat.reduceMul]); exact rfl) | ((with_reducible apply SLT_mk); (. rfl); (. rfl); (. rfl); (. rfl)) | ((with_reducible apply FO_mk); (. rfl); (. rfl); (. rfl); (. rfl); (. rfl)) | ((with_reducible apply FO1_mk); (. rfl); (. rfl); (. rfl); (. rfl); (. rfl)) | ((with_reducible apply CUT_all); (. with_reducible first | exact LEN_map _ _ | exact LEN_nil | exact LEN_1 _ | exact LEN_2 _ _ | exact LEN_any _); (. first | rfl | omega); (. first | rfl | omega)) | ((with_reducible apply CUT_mapT); (. first | rfl | omega); (. exact NU.mk (by first | omega | (simp only [LNs]; omega) | (first | omega | (have z0 := szGuess_ok (next1, final1) (1048576) (by assumption) (by omega); omega) | (have z0 := szGuess_ok (next1, final1) (1048576) (by assumption) (by omega); have z1 := szTree_ok (names2, parents2, labels2, marks2) (szGuess (next1, final1) (1048576)) (by assumption) (by omega); omega))))) | ((with_reducible apply CUT_mapD); (. first | rfl | omega)) | (with_reducible apply CUT_map) | (apply CUT_any) | (with_reducible apply CUG_mapT) | ((with_reducible apply CUG_mapD); (. exact NU.mk (by first | omega | (simp only [LNs]; omega) | (first | omega | (have z0 := szGuess_ok (next1, final1) (1048576) (by assumption) (by omega); omega) | (have z0 := szGuess_ok (next1, final1) (1048576) (by assumption) (by omega); have z1 := szTree_ok (names2, parents2, labels2, marks2) (szGuess (next1, final1) (1048576)) (by assumption) (by omega); omega)))); (. rfl)) | (with_reducible apply CUG_map) | (apply CUG_any) | ((with_reducible apply CON_of); first | apply laws_szGuess | apply laws_szTree | apply spec_TreeOk | apply laws_toGuess | apply laws_toTree | apply impl_TreeOk | apply laws_eqGuess | apply laws_eqTree) | (with_reducible intro hc; (try simp only [HCs] at hc)) | exact OB_f | exact DEC.mk (by decide) | ((with_reducible apply MZ_one); (. rfl); (. rfl); (. rfl)) | ((with_reducible apply MZ_st); (. rfl); (. rfl); (. rfl); (. rfl); (. rfl)) | ((with_reducible apply OB_t); kernel_rfl) | (with_reducible first | apply gNK | apply TX_seq | apply QA_and_n | apply QA_and_e | apply QA_and_r | apply gTX_cond | apply CK_t | apply CK_f | apply CK_if | apply TX_skip | apply TX_ret | apply TX_exit | apply TX_label | apply QA_in_eq | apply QA_in_ne | apply QA_in_n | apply QA_in_r | apply QA_lp_e | apply QA_lp_r | apply QA_ct_e | apply QA_ct_r | apply QA_nr | apply gEND_1 | apply gEND_N | apply END_0) | apply gTX_rgW tab_ok | apply gTX_rgD tab_ok rfl | (apply TX_blk; exact RF.mk rfl) | exact EQ.mk rfl | exact HY.mk (by have z0 := szGuess_ok (next1, final1) (1048576) (by assumption) (by omega); exact z0.1) | exact HY.mk (by have z0 := szGuess_ok (next1, final1) (1048576) (by assumption) (by omega); have z1 := szTree_ok (names2, parents2, labels2, marks2) (szGuess (next1, final1) (1048576)) (by assumption) (by omega); exact z1.1) | exact gSel.cnil _ | apply gSel.ccons | apply gCG.cagg))
  (all_goals (first | (((refine EQ_bool ?_; simp_all)); done)))

end Go.Proofs.Ytbjonekgeidoiaa
namespace Go.Proofs.Ytbjonekgeidoiaa.FnExactTreeOk
open Go.ChangeShapes Go.WideShapes Go.ChangeAt Go.RowKit
open Shp
set_option linter.unusedVariables false

set_option maxRecDepth 100000 in
theorem lifted (os : Os) (started : os.Started) (H : Type) (enc : TypeId × Value → H) :
    ReturnsInHanded {} Try.checked os 5 .any (Rows.fnExactTreeOkSpec.pre6 enc Try.prog Try.f5 Rows.fnExactTreeOkRow.domain false) (Rows.fnExactTreeOkSpec.post enc Try.prog Try.f5 false true false false) := by
  refine law_lift (C := Try.checked) started isOwn isLaid (by kernel_rfl) Try.func5 rfl (by kernel_rfl) Try.underlying4
    (of_decide_eq_true (by kernel_rfl)) ?_
    (ChangeSpec.witness6 (enc := enc) (C := Try.checked) false ⟨#[], #[.agg #[.slice none 0 0, .slice none 0 0], .agg #[.slice none 0 0, .slice none 0 0, .slice none 0 0, .slice none 0 0]], []⟩ 8 (by kernel_rfl) (by kernel_rfl) (by kernel_rfl) (by kernel_rfl)) ?_
  · intro H ds h
    have h' : ds.length = 2 := h
    match ds, h' with
    | [_, _], _ => rfl
  · intro W base args ds ps hval0 hA0 hz
    have hval : ∀ (j : Nat) t v, Try.f5.params[j]? = some t → args[j]? = some v → Value.okWide Try.prog W .any base t v := hval0
    have hA : DataW.TrodAll enc Try.prog W 0 (fun _ => true) true Try.f5.params.toList args.toList ds ps := hA0
    rw [Try.params5] at hA hval
    obtain ⟨v0, vs0, d0, ds0, p0, q0, hargs0, rfl, rfl, h0, r0⟩ := trodAll_cons hA
    obtain ⟨v1, vs1, d1, ds1, p1, q1, hargs1, rfl, rfl, h1, r1⟩ := trodAll_cons r0
    obtain ⟨hv, rfl, rfl⟩ := trodAll_nil r1
    obtain rfl : args = #[v0, v1] := by cases args; simp_all
    obtain ⟨x0, V0, F0, e0⟩ := (og_Guess).argS Try.underlying63 (hval 0 63 v0 rfl rfl) h0 (noneFrozen_sub hz fun p hp => List.mem_append.2 (.inl hp))
    obtain ⟨x1, V1, F1, e1⟩ := (og_Tree).argS Try.underlying65 (hval 1 65 v1 rfl rfl) h1 (noneFrozen_sub hz fun p hp => List.mem_append.2 (.inr (List.mem_append.2 (.inl hp))))
    exact (law_FnExactTreeOk (x0.1) (x0.2) (x1.1) (x1.2.1) (x1.2.2.1) (x1.2.2.2)).law rfl (fun i hi => by
      match i, hi with
      | 0, _ => exact ⟨F0, e0⟩
      | 1, _ => exact ⟨F1, e1⟩)

theorem over : Rows.fnExactTreeOkRow.holds Try.pinned (OpenSpec.ofChange Rows.fnExactTreeOkSpec) :=
  OpenClaim.holds_of_wide 5 Try.f5 rfl rfl rfl rfl rfl rfl rfl ⟨rfl, rfl, rfl, rfl, rfl⟩ rfl rfl rfl rfl rfl (by kernel_rfl) Try.func5 (joined_of mayEnter_ok make_ok lifts_ok rfl rfl (by kernel_rfl))
    (of_decide_eq_true (by kernel_rfl)) (by unfold Func.isWrapper; first | (rw [if_pos (by decide +kernel)]; kernel_rfl) | (rw [if_neg (by decide +kernel)]; exact ⟨rfl, rfl⟩))
    (fun os started H enc _ => lifted os started H enc)

/-- The statement. -/
theorem proved : Rows.FnExactTreeOkSaid := over
#print axioms proved
end Go.Proofs.Ytbjonekgeidoiaa.FnExactTreeOk

