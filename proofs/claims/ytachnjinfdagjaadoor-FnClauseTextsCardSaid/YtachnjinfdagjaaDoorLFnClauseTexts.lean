/- FnClauseTexts: whatever the input, the law returns true and changes nothing. No conditions but those that each theorem names. -/
import Derived.Test.YtachnjinfdagjaaDoorTab
import Derived.Test.YtachnjinfdagjaaDoorKG
import Derived.Test.YtachnjinfdagjaaDoorOG
import Derived.Test.YtachnjinfdagjaaDoorGC
import Derived.Test.YtachnjinfdagjaaDoorCards
import Derived.Test.YtachnjinfdagjaaDoorTie
import Derived.Test.YtachnjinfdagjaaDoorE3
import Derived.Test.YtachnjinfdagjaaDoorJM
import Derived.Test.YtachnjinfdagjaaDoorChecked
set_option linter.unusedSimpArgs false
set_option linter.unusedVariables false
namespace Go.Proofs.YtachnjinfdagjaaDoor
open Go.RowKit
open Shp
def lv_lawx_FnClauseTexts : Nat → List Nat
  | 0 => [0, 65536]
  | 1 => [0, 13, 65536]
  | 2 => [2]
  | 3 => [0, 3, 65536]
  | 4 => [0, 3, 4, 65536]
  | 5 => [0, 3, 4, 21, 65536]
  | 6 => [2]
  | 7 => [0, 3, 4, 23, 65536]
  | 8 => [0, 3, 5, 6, 65536]
  | 9 => [0, 53, 65536]
  | 10 => [2]
  | 11 => [7, 65536]
  | 12 => [7, 8, 9, 65536]
  | 13 => [7, 8, 9, 11, 65536]
  | 14 => [2]
  | _ => []
theorem enter_lawx_FnClauseTexts (args : Array Value) (w : World) : (callFunc 5 args).run Tryd.prog w = .ok (.enter 5 args) w := callFunc_enter Tryd.func5 (by decide) rfl args w
set_option maxHeartbeats 4000000 in
theorem lawx_FnClauseTexts (v : Value) (bs : List Int) (hB : HY (bytesB bs)) : ConG Tryd.prog 5 (clNames.map GV.str) [.ex v 1 (bs.map (GV.int .u8))] (.bool true) := by
  have hB := hB.e
  have hX := text_or (dcX bs).1.1 (dcX bs).1.2.1 (dcX bs).1.2.2
  have hz1 := clText_sz (dcX bs).1.1 (dcX bs).1.2.1 (dcX bs).1.2.2
  have hz2 := dtT_sz bs
  have hR := read_back (dtT bs)
  refine ConG_of_TX lv_lawx_FnClauseTexts tab_ok (rs := [.tmp 2]) (sl := [(0, .g (.ex v 1 (bs.map (GV.int .u8))))]) Tryd.func5 rfl Tryd.ntmps5 rfl enter_lawx_FnClauseTexts rfl (by repeat constructor) ?_
  (repeat' (first | ((with_reducible apply gAF.ccallGl (f := 9))) | ((with_reducible apply gAF.ccallGl (f := 12))) | ((with_reducible apply CONG_of); first | apply impl_ClauseText | apply impl_TextClauseS) | ((with_reducible apply gLB.cagg); (. exact RF.mk ⟨rfl, rfl, rfl⟩)) | ((with_reducible apply gLB.cone); (. exact RF.mk ⟨rfl, rfl⟩)) | ((with_reducible apply gLI.cagg); (. exact RF.mk ⟨rfl, rfl, rfl⟩)) | ((with_reducible apply gLI.cone); (. exact RF.mk ⟨rfl, rfl⟩)) | ((with_reducible apply gAF.cbuildA); (. exact RF.mk rfl); (. exact RF.mk ⟨rfl, rfl, rfl, rfl⟩)) | (with_reducible constructor) | exact NE.mk rfl | exact RF.mk rfl | exact RF.mk ⟨rfl, rfl⟩ | exact RF.mk ⟨rfl, rfl, rfl⟩ | exact NU.mk (by first | omega | (simp only [LNs]; omega)) | ((with_reducible apply NID_mk); (try simp only [Nat.reduceAdd, Nat.reduceMul]); exact rfl) | ((with_reducible apply SLT_mk); (. rfl); (. rfl); (. rfl); (. rfl)) | ((with_reducible apply FO_mk); (. rfl); (. rfl); (. rfl); (. rfl); (. rfl)) | ((with_reducible apply FO1_mk); (. rfl); (. rfl); (. rfl); (. rfl); (. rfl)) | ((with_reducible apply CUT_all); (. with_reducible first | exact LEN_map _ _ | exact LEN_nil | exact LEN_1 _ | exact LEN_2 _ _ | exact LEN_any _); (. first | rfl | omega); (. first | rfl | omega)) | ((with_reducible apply CUT_mapT); (. first | rfl | omega); (. exact NU.mk (by first | omega | (simp only [LNs]; omega)))) | ((with_reducible apply CUT_mapD); (. first | rfl | omega)) | (with_reducible apply CUT_map) | (apply CUT_any) | (with_reducible apply CUG_mapT) | ((with_reducible apply CUG_mapD); (. exact NU.mk (by first | omega | (simp only [LNs]; omega))); (. rfl)) | (with_reducible apply CUG_map) | (apply CUG_any) | ((with_reducible apply CON_of); first | apply spec_ClauseText | apply spec_TextClause | apply laws_big | apply spec_DrawClauseText | apply laws_likeInts | apply spec_DrawTextClause) | (with_reducible intro hc; (try simp only [HCs] at hc)) | exact OB_f | exact DEC.mk (by decide) | ((with_reducible apply MZ_one); (. rfl); (. rfl); (. rfl)) | ((with_reducible apply MZ_st); (. rfl); (. rfl); (. rfl); (. rfl); (. rfl)) | ((with_reducible apply OB_t); kernel_rfl) | (with_reducible first | apply gNK | apply TX_seq | apply QA_and_n | apply QA_and_e | apply QA_and_r | apply gTX_cond | apply CK_t | apply CK_f | apply CK_if | apply TX_skip | apply TX_ret | apply TX_exit | apply TX_label | apply QA_in_eq | apply QA_in_ne | apply QA_in_n | apply QA_in_r | apply QA_lp_e | apply QA_lp_r | apply QA_ct_e | apply QA_ct_r | apply QA_nr | apply gEND_1 | apply gEND_N | apply END_0) | apply gTX_rgW tab_ok | apply gTX_rgD tab_ok rfl | (apply TX_blk; exact RF.mk rfl) | exact EQ.mk rfl | exact gSel.cnil _ | apply gSel.ccons | apply gCG.cagg))
  (all_goals (first | (((refine EQ_bool ?_; first | (simp_all; done) | (have hs := hX.resolve_left (by assumption); simp_all [eqInts_self]; done))); done)))
theorem law_FnClauseTexts (bs : List Int) (hB : bytesB bs) : ConG Tryd.prog 5 (clNames.map GV.str) [.sl 1 (bs.map (GV.int .u8))] (.bool true) := ConG.unex enter_lawx_FnClauseTexts fun v => lawx_FnClauseTexts v bs (HY.mk hB)
end Go.Proofs.YtachnjinfdagjaaDoor
namespace Go.Proofs.YtachnjinfdagjaaDoor.FnClauseTexts
open Go.ChangeShapes Go.WideShapes Go.ChangeAt Go.RowKit
open Shp
set_option linter.unusedVariables false
theorem laidH {W : World} (h : laidMetH Tryd.prog Rows.fnClauseTextsRow.laid W) : laidMet Tryd.prog Rows.fnClauseTextsRow.laid W := by
  unfold laidMetH at h
  rw [show (Rows.fnClauseTextsRow.laid.filter fun x => x.2.handleName?.isSome) = [] by kernel_rfl] at h
  exact h
theorem names {W : World} (h : laidMetH Tryd.prog Rows.fnClauseTextsRow.laid W) : ∃ F, GRep W F (.pointer (some ⟨0, 0, none⟩)) (.box (clNames.map GV.str)) :=
  words_box (name := "loop.example/g00869/impl.clauseNames") (by kernel_rfl) (by decide)
    (words_of_head (zs := [[97, 108, 119, 97, 121, 115], [110, 101, 120, 116], [97, 110, 115, 119, 101, 114], [111, 102, 116, 101, 110], [115, 116, 97, 121, 115], [111, 110, 99, 101], [102, 97, 105, 114]]) (g := 0) (t := 49) (e := 9) (by kernel_rfl) (by kernel_rfl) Tryd.underlying49 Tryd.underlying9 (by kernel_rfl) (by kernel_rfl) (laidH h).tail.tail.tail.tail)
theorem laid_met (os : Os) : laidMet Tryd.prog Rows.fnClauseTextsRow.laid ((layWorld Tryd.prog Rows.fnClauseTextsRow.laid os).forCall (fun _ _ => 0) ⟨#[], #[.slice none 0 0], []⟩).memory := laidMet_of_run' 8 (by kernel_rfl) (by kernel_rfl)
theorem laid_metH (os : Os) : laidMetH Tryd.prog Rows.fnClauseTextsRow.laid ((layWorld Tryd.prog Rows.fnClauseTextsRow.laid os).forCall (fun _ _ => 0) ⟨#[], #[.slice none 0 0], []⟩).memory := by
  unfold laidMetH
  rw [show (Rows.fnClauseTextsRow.laid.filter fun x => x.2.handleName?.isSome) = [] by kernel_rfl]
  exact laid_met os
set_option maxRecDepth 100000 in
theorem lifted (os : Os) (started : os.Started) (H : Type) (enc : TypeId × Value → H) (F : Stop.Interp) :
    ReturnsInHanded {} Tryd.checked os 5 .any ((OpenSpec.ofChange Rows.fnClauseTextsSpec).preRow enc Tryd.prog Tryd.f5 Rows.fnClauseTextsRow.domain false Rows.fnClauseTextsRow.laid) (((OpenSpec.ofChange Rows.fnClauseTextsSpec).at F).post enc Tryd.prog Tryd.f5 false true false false) := by
  refine law_liftG (C := Tryd.checked) (nm := "loop.example/g00869/impl.clauseNames") started isOwn isLaid (by kernel_rfl) Tryd.func5 rfl (by kernel_rfl) (by kernel_rfl) Tryd.underlying4
    (of_decide_eq_true (by kernel_rfl)) ?_ F
    (witness_row_at (enc := enc) (C := Tryd.checked) false (layWorld Tryd.prog Rows.fnClauseTextsRow.laid os) #[.slice none 0 0] rfl (by kernel_rfl) (by kernel_rfl) (by kernel_rfl)
      (OpenSpec.preRow_of_B rfl 8 (by kernel_rfl) (by kernel_rfl) (laid_metH os))) ?_
  · intro H ds g h
    have h' : ds.length = 1 := h
    match ds, h' with
    | [_], _ => rfl
  · intro W base args ds ps hL hval0 hA0 hz
    have hval : ∀ (j : Nat) t v, Tryd.f5.params[j]? = some t → args[j]? = some v → Value.okWide Tryd.prog W .any base t v := hval0
    have hA : DataW.TrodAll enc Tryd.prog W 0 (fun _ => true) true Tryd.f5.params.toList args.toList ds ps := hA0
    rw [Tryd.params5] at hA hval
    obtain ⟨v0, vs0, d0, ds0, p0, q0, hargs0, rfl, rfl, h0, r0⟩ := trodAll_cons hA
    obtain ⟨hv, rfl, rfl⟩ := trodAll_nil r0
    obtain rfl : args = #[v0] := by cases args; simp_all
    obtain ⟨x0, V0, F0, e0⟩ := (og_Bytes).arg1 (by rw [Tryd.underlying35]; trivial) (hval 0 35 v0 rfl rfl) h0 (noneFrozen_sub hz fun p hp => List.mem_append.2 (.inl hp))
    exact (law_FnClauseTexts (x0) V0).law rfl (names hL) (fun i hi => by
      match i, hi with
      | 0, _ => exact ⟨F0, e0⟩)
theorem said : Rows.FnClauseTextsSaid :=
  OpenClaim.holds_of_cond 5 Tryd.f5 rfl rfl rfl rfl rfl rfl rfl ⟨rfl, rfl, rfl, rfl, rfl⟩ rfl rfl rfl rfl rfl (by kernel_rfl) Tryd.func5 (joined_of mayEnter_ok make_ok lifts_ok rfl rfl (by kernel_rfl))
    (of_decide_eq_true (by kernel_rfl)) (by unfold Func.isWrapper; first | (rw [if_pos (by decide +kernel)]; kernel_rfl) | (rw [if_neg (by decide +kernel)]; exact ⟨rfl, rfl⟩))
    (fun os started H enc _ F => by rw [OpenClaim.pre_eq_preRow]; exact lifted os started H enc F)
theorem plain (f : FuncId) (fn : Func) (hf : Tryd.pinned.checked.prog.funcNamed "loop.example/g00869/laws.FnClauseTexts" = some f) (hfn : Tryd.pinned.checked.prog.funcs[f]? = some fn) :
    false = Tryd.pinned.checked.prog.looks [] ∧ ∀ (j : Nat) t, fn.params[j]? = some t → Tryd.pinned.checked.prog.wantsStandIn t = false := by
  obtain rfl : f = 5 := Option.some.inj ((show Tryd.prog.funcNamed "loop.example/g00869/laws.FnClauseTexts" = some 5 by kernel_rfl).symm.trans hf) |>.symm
  obtain rfl : fn = Tryd.f5 := (Option.some.inj (Tryd.func5.symm.trans hfn)).symm
  refine ⟨by kernel_rfl, fun j t ht => ?_⟩
  rw [Tryd.params5] at ht
  obtain rfl : t = 35 := by simpa using Array.mem_of_getElem? ht
  exact (show Tryd.prog.wantsStandIn 35 = false by kernel_rfl)
theorem proved : Rows.FnClauseTextsCardSaid :=
  Claim7.holds_tied_plain_at .later [] _ _ _ _ said (fun _ h => by cases h) (by kernel_rfl) (fun _ h => by cases h) fnClauseTexts_row_tie rfl ⟨rfl, rfl⟩ (by kernel_rfl) rfl plain (by kernel_rfl)
#print axioms proved
end Go.Proofs.YtachnjinfdagjaaDoor.FnClauseTexts

