/- FnExactTextClause: whatever the input, the law returns true and changes nothing. No conditions but those that each theorem names. -/
import Derived.Test.YtachnjinfdagjaaDoorTab
import Derived.Test.YtachnjinfdagjaaDoorKG
import Derived.Test.YtachnjinfdagjaaDoorOG
import Derived.Test.YtachnjinfdagjaaDoorGC
import Derived.Test.YtachnjinfdagjaaDoorCards
import Derived.Test.YtachnjinfdagjaaDoorTie
import Derived.Test.YtachnjinfdagjaaDoorHL
import Derived.Test.YtachnjinfdagjaaDoorMK1
import Derived.Test.YtachnjinfdagjaaDoorMK2
import Derived.Test.YtachnjinfdagjaaDoorMR
import Derived.Test.YtachnjinfdagjaaDoorE2
import Derived.Test.YtachnjinfdagjaaDoorMT
import Derived.Test.YtachnjinfdagjaaDoorGL
import Derived.Test.YtachnjinfdagjaaDoorChecked
set_option linter.unusedSimpArgs false
set_option linter.unusedVariables false
namespace Go.Proofs.YtachnjinfdagjaaDoor
open Go.RowKit
open Shp
def lv_law_FnExactTextClause : Nat → List Nat
  | 0 => [0, 65536]
  | 1 => [0, 13, 65536]
  | 2 => [2]
  | 3 => [0, 3, 4, 65536]
  | 4 => [0, 3, 4, 5, 6, 65536]
  | 5 => [0, 3, 4, 5, 32, 65536]
  | 6 => [2]
  | 7 => [0, 3, 4, 5, 7, 65536]
  | 8 => [0, 3, 4, 5, 7, 65536]
  | 9 => [0, 3, 4, 5, 7, 8, 65536]
  | 10 => [0, 3, 4, 5, 7, 8, 65536]
  | 11 => [0, 3, 4, 5, 7, 8, 40, 65536]
  | 12 => [2]
  | 13 => [0, 3, 4, 5, 7, 43, 65536]
  | 14 => [2]
  | 15 => [3, 4, 5, 7, 9, 10]
  | 16 => [5, 7, 57]
  | 17 => [2]
  | 18 => [5, 7, 8]
  | 19 => [7, 8]
  | 20 => [7, 8, 62]
  | 21 => [2]
  | 22 => [65]
  | 23 => [2]
  | 24 => [2]
  | _ => []
theorem enter_law_FnExactTextClause (args : Array Value) (w : World) : (callFunc 4 args).run Tryd.prog w = .ok (.enter 4 args) w := callFunc_enter Tryd.func4 (by decide) rfl args w
set_option maxHeartbeats 2000000 in
theorem law_FnExactTextClause (sS : ByteArray) : ConG Tryd.prog 4 (clNames.map GV.str) [.str sS] (.bool true) := by
  have hb1 := (tx_small sS).1
  have hb2 := (tx_small sS).2
  refine ConG_law lv_law_FnExactTextClause tab_ok (rs := [.tmp 2]) (sl := [(0, .g (.str sS))]) (sl2 := [(0, .g (.str sS))]) (n2 := 65602) Tryd.func4 rfl Tryd.ntmps4 rfl enter_law_FnExactTextClause rfl (by repeat constructor) ?_ ?_
  all_goals (repeat' (first | (with_reducible apply gAF.cmark (f := 13)) | (with_reducible apply gAF.cmark (f := 33)) | ((with_reducible apply RF_ok); kernel_rfl) | ((with_reducible apply MRK_of); first | exact mk_Clause _ _ _ _ (NU.mk (by first | omega | (first | omega | ((try simp only [List.drop_zero, markG_len, marks_tk, markG_tk, marks_len, cntR_mark, cntPs_mark, cntR, cntPs, cntR3, cntCls, Int.natCast_add] at *); omega)))) | exact mk_Int64S _ _ (NU.mk (by first | omega | (first | omega | ((try simp only [List.drop_zero, markG_len, marks_tk, markG_tk, marks_len, cntR_mark, cntPs_mark, cntR, cntPs, cntR3, cntCls, Int.natCast_add] at *); omega))))) | exact LENQ.mk (by simp only [List.length_map, markG_len, marks_len]) (by simp only [List.length_map, markG_len, marks_len]) | ((with_reducible apply gQA_law); (. exact RF.mk rfl)) | ((with_reducible apply gAF.ccallGl (f := 12))) | ((with_reducible apply CONG_of); first | apply impl_TextClauseS) | ((with_reducible apply gLB.cagg); (. exact RF.mk ⟨rfl, rfl, rfl⟩)) | ((with_reducible apply gLB.cone); (. exact RF.mk ⟨rfl, rfl⟩)) | ((with_reducible apply gLI.cagg); (. exact RF.mk ⟨rfl, rfl, rfl⟩)) | ((with_reducible apply gLI.cone); (. exact RF.mk ⟨rfl, rfl⟩)) | ((with_reducible apply gAF.cbuildA); (. exact RF.mk rfl); (. exact RF.mk ⟨rfl, rfl, rfl, rfl⟩)) | (with_reducible constructor) | exact NE.mk rfl | exact RF.mk rfl | exact RF.mk ⟨rfl, rfl⟩ | exact RF.mk ⟨rfl, rfl, rfl⟩ | exact NU.mk (by first | omega | (simp only [LNs]; omega) | (first | omega | ((try simp only [List.drop_zero, markG_len, marks_tk, markG_tk, marks_len, cntR_mark, cntPs_mark, cntR, cntPs, cntR3, cntCls, Int.natCast_add] at *); omega))) | ((with_reducible apply NID_mk); (try simp only [Nat.reduceAdd, Nat.reduceMul]); exact rfl) | ((with_reducible apply SLT_mk); (. rfl); (. rfl); (. rfl); (. rfl)) | ((with_reducible apply FO_mk); (. rfl); (. rfl); (. rfl); (. rfl); (. rfl)) | ((with_reducible apply FO1_mk); (. rfl); (. rfl); (. rfl); (. rfl); (. rfl)) | ((with_reducible apply CUT_all); (. with_reducible first | exact LEN_map _ _ | exact LEN_nil | exact LEN_1 _ | exact LEN_2 _ _ | exact LEN_any _); (. first | rfl | omega); (. first | rfl | omega)) | ((with_reducible apply CUT_mapT); (. first | rfl | omega); (. exact NU.mk (by first | omega | (simp only [LNs]; omega) | (first | omega | ((try simp only [List.drop_zero, markG_len, marks_tk, markG_tk, marks_len, cntR_mark, cntPs_mark, cntR, cntPs, cntR3, cntCls, Int.natCast_add] at *); omega))))) | ((with_reducible apply CUT_mapD); (. first | rfl | omega)) | (with_reducible apply CUT_map) | (apply CUT_any) | (with_reducible apply CUG_mapT) | ((with_reducible apply CUG_mapD); (. exact NU.mk (by first | omega | (simp only [LNs]; omega) | (first | omega | ((try simp only [List.drop_zero, markG_len, marks_tk, markG_tk, marks_len, cntR_mark, cntPs_mark, cntR, cntPs, cntR3, cntCls, Int.natCast_add] at *); omega)))); (. rfl)) | (with_reducible apply CUG_map) | (apply CUG_any) | ((with_reducible apply CON_of); first | apply laws_eqClause | apply spec_TextClause | apply laws_heldClause) | (with_reducible intro hc; (try simp only [HCs] at hc)) | exact OB_f | exact DEC.mk (by decide) | ((with_reducible apply MZ_one); (. rfl); (. rfl); (. rfl)) | ((with_reducible apply MZ_st); (. rfl); (. rfl); (. rfl); (. rfl); (. rfl)) | ((with_reducible apply OB_t); kernel_rfl) | (with_reducible first | apply gNK | apply TX_seq | apply QA_and_n | apply QA_and_e | apply QA_and_r | apply gTX_cond | apply CK_t | apply CK_f | apply CK_if | apply TX_skip | apply TX_ret | apply TX_exit | apply TX_label | apply QA_in_eq | apply QA_in_ne | apply QA_in_n | apply QA_in_r | apply QA_lp_e | apply QA_lp_r | apply QA_ct_e | apply QA_ct_r | apply QA_nr | apply gEND_1 | apply gEND_N | apply END_0) | apply gTX_rgW tab_ok | apply gTX_rgD tab_ok rfl | (apply TX_blk; exact RF.mk rfl) | exact EQ.mk rfl | exact HY.mk (by (try simp only [List.drop_zero, marks_tk, markG_tk, cntR_mark, cntPs_mark, marks_len, markG_len]); first | done | exact markR_idem _ _ | exact markPs_idem _ _ | exact markPs_idem2 (by simp only [cntR, cntPs, Int.natCast_add]; omega) _ | exact markR_idem2 (by simp only [cntR, cntPs, Int.natCast_add]; omega) _) | exact gSel.cnil _ | apply gSel.ccons | apply gCG.cagg))
  (all_goals (first | (((refine EQ_bool ?_; first | rfl | (simp_all; done) | (exfalso; first | omega | ((try simp only [List.drop_zero, markG_len, marks_tk, markG_tk, marks_len, cntR_mark, cntPs_mark, cntR, cntPs, cntR3, cntCls, Int.natCast_add] at *); omega) | (simp_all; done) | ((try simp only [List.drop_zero, markG_len, marks_tk, markG_tk, marks_len, cntR_mark, cntPs_mark, cntR, cntPs, cntR3, cntCls, Int.natCast_add] at *); simp_all; done)))); done)))
end Go.Proofs.YtachnjinfdagjaaDoor
namespace Go.Proofs.YtachnjinfdagjaaDoor.FnExactTextClause
open Go.ChangeShapes Go.WideShapes Go.ChangeAt Go.RowKit
open Shp
set_option linter.unusedVariables false
theorem laidH {W : World} (h : laidMetH Tryd.prog Rows.fnExactTextClauseRow.laid W) : laidMet Tryd.prog Rows.fnExactTextClauseRow.laid W := by
  unfold laidMetH at h
  rw [show (Rows.fnExactTextClauseRow.laid.filter fun x => x.2.handleName?.isSome) = [] by kernel_rfl] at h
  exact h
theorem names {W : World} (h : laidMetH Tryd.prog Rows.fnExactTextClauseRow.laid W) : ∃ F, GRep W F (.pointer (some ⟨0, 0, none⟩)) (.box (clNames.map GV.str)) :=
  words_box (name := "loop.example/g00869/impl.clauseNames") (by kernel_rfl) (by decide)
    (words_of_head (zs := [[97, 108, 119, 97, 121, 115], [110, 101, 120, 116], [97, 110, 115, 119, 101, 114], [111, 102, 116, 101, 110], [115, 116, 97, 121, 115], [111, 110, 99, 101], [102, 97, 105, 114]]) (g := 0) (t := 49) (e := 9) (by kernel_rfl) (by kernel_rfl) Tryd.underlying49 Tryd.underlying9 (by kernel_rfl) (by kernel_rfl) (laidH h).tail)
theorem laid_met (os : Os) : laidMet Tryd.prog Rows.fnExactTextClauseRow.laid ((layWorld Tryd.prog Rows.fnExactTextClauseRow.laid os).forCall (fun _ _ => 0) ⟨#[], #[.string ⟨#[]⟩], []⟩).memory := laidMet_of_run' 8 (by kernel_rfl) (by kernel_rfl)
theorem laid_metH (os : Os) : laidMetH Tryd.prog Rows.fnExactTextClauseRow.laid ((layWorld Tryd.prog Rows.fnExactTextClauseRow.laid os).forCall (fun _ _ => 0) ⟨#[], #[.string ⟨#[]⟩], []⟩).memory := by
  unfold laidMetH
  rw [show (Rows.fnExactTextClauseRow.laid.filter fun x => x.2.handleName?.isSome) = [] by kernel_rfl]
  exact laid_met os
set_option maxRecDepth 100000 in
theorem lifted (os : Os) (started : os.Started) (H : Type) (enc : TypeId × Value → H) (F : Stop.Interp) :
    ReturnsInHanded {} Tryd.checked os 4 .any ((OpenSpec.ofChange Rows.fnExactTextClauseSpec).preRow enc Tryd.prog Tryd.f4 Rows.fnExactTextClauseRow.domain false Rows.fnExactTextClauseRow.laid) (((OpenSpec.ofChange Rows.fnExactTextClauseSpec).at F).post enc Tryd.prog Tryd.f4 false true false false) := by
  refine law_liftG (C := Tryd.checked) (nm := "loop.example/g00869/impl.clauseNames") started isOwn isLaid (by kernel_rfl) Tryd.func4 rfl (by kernel_rfl) (by kernel_rfl) Tryd.underlying4
    (of_decide_eq_true (by kernel_rfl)) ?_ F
    (witness_row_at (enc := enc) (C := Tryd.checked) false (layWorld Tryd.prog Rows.fnExactTextClauseRow.laid os) #[.string ⟨#[]⟩] rfl (by kernel_rfl) (by kernel_rfl) (by kernel_rfl)
      (OpenSpec.preRow_of_B rfl 8 (by kernel_rfl) (by kernel_rfl) (laid_metH os))) ?_
  · intro H ds g h
    have h' : ds.length = 1 := h
    match ds, h' with
    | [_], _ => rfl
  · intro W base args ds ps hL hval0 hA0 hz
    have hval : ∀ (j : Nat) t v, Tryd.f4.params[j]? = some t → args[j]? = some v → Value.okWide Tryd.prog W .any base t v := hval0
    have hA : DataW.TrodAll enc Tryd.prog W 0 (fun _ => true) true Tryd.f4.params.toList args.toList ds ps := hA0
    rw [Tryd.params4] at hA hval
    obtain ⟨v0, vs0, d0, ds0, p0, q0, hargs0, rfl, rfl, h0, r0⟩ := trodAll_cons hA
    obtain ⟨hv, rfl, rfl⟩ := trodAll_nil r0
    obtain rfl : args = #[v0] := by cases args; simp_all
    obtain ⟨x0, V0, F0, e0⟩ := (og_Text).arg1 (by rw [Tryd.underlying9]; trivial) (hval 0 9 v0 rfl rfl) h0 (noneFrozen_sub hz fun p hp => List.mem_append.2 (.inl hp))
    exact (law_FnExactTextClause (x0)).law rfl (names hL) (fun i hi => by
      match i, hi with
      | 0, _ => exact ⟨F0, e0⟩)
theorem said : Rows.FnExactTextClauseSaid :=
  OpenClaim.holds_of_cond 4 Tryd.f4 rfl rfl rfl rfl rfl rfl rfl ⟨rfl, rfl, rfl, rfl, rfl⟩ rfl rfl rfl rfl rfl (by kernel_rfl) Tryd.func4 (joined_of mayEnter_ok make_ok lifts_ok rfl rfl (by kernel_rfl))
    (of_decide_eq_true (by kernel_rfl)) (by unfold Func.isWrapper; first | (rw [if_pos (by decide +kernel)]; kernel_rfl) | (rw [if_neg (by decide +kernel)]; exact ⟨rfl, rfl⟩))
    (fun os started H enc _ F => by rw [OpenClaim.pre_eq_preRow]; exact lifted os started H enc F)
theorem plain (f : FuncId) (fn : Func) (hf : Tryd.pinned.checked.prog.funcNamed "loop.example/g00869/laws.FnExactTextClause" = some f) (hfn : Tryd.pinned.checked.prog.funcs[f]? = some fn) :
    false = Tryd.pinned.checked.prog.looks [] ∧ ∀ (j : Nat) t, fn.params[j]? = some t → Tryd.pinned.checked.prog.wantsStandIn t = false := by
  obtain rfl : f = 4 := Option.some.inj ((show Tryd.prog.funcNamed "loop.example/g00869/laws.FnExactTextClause" = some 4 by kernel_rfl).symm.trans hf) |>.symm
  obtain rfl : fn = Tryd.f4 := (Option.some.inj (Tryd.func4.symm.trans hfn)).symm
  refine ⟨by kernel_rfl, fun j t ht => ?_⟩
  rw [Tryd.params4] at ht
  obtain rfl : t = 9 := by simpa using Array.mem_of_getElem? ht
  exact (show Tryd.prog.wantsStandIn 9 = false by kernel_rfl)
theorem proved : Rows.FnExactTextClauseCardSaid :=
  Claim7.holds_tied_plain_at .later [] _ _ _ _ said (fun _ h => by cases h) (by kernel_rfl) (fun _ h => by cases h) fnExactTextClause_row_tie rfl ⟨rfl, rfl⟩ (by kernel_rfl) rfl plain (by kernel_rfl)
#print axioms proved
end Go.Proofs.YtachnjinfdagjaaDoor.FnExactTextClause

