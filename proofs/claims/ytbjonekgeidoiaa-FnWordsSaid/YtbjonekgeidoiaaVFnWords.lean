/- FnWords: whatever the input, the law returns true and changes nothing. No conditions but those that each theorem names. -/
import Derived.Test.YtbjonekgeidoiaaTab
import Derived.Test.YtbjonekgeidoiaaKG
import Derived.Test.YtbjonekgeidoiaaOG
import Derived.Test.YtbjonekgeidoiaaD4
import Derived.Test.YtbjonekgeidoiaaChecked
set_option linter.unusedSimpArgs false
set_option linter.unusedVariables false
namespace Go.Proofs.Ytbjonekgeidoiaa
open Go.RowKit
open Shp

def lv_lawx_FnWords : Nat → List Nat
  | 0 => [0]
  | 1 => [0, 14]
  | 2 => [2]
  | 3 => [0, 3, 4]
  | 4 => [0, 3, 4, 5]
  | 5 => [0, 3, 4, 5, 6]
  | 6 => [0, 3, 4, 5, 6, 7]
  | 7 => [0, 5, 6, 7, 31]
  | 8 => [2]
  | 9 => [0, 72]
  | 10 => [2]
  | 11 => [8, 9]
  | 12 => [8, 9, 10]
  | 13 => [8, 9, 10, 11]
  | 14 => [8, 9, 10, 11, 88]
  | 15 => [8, 9, 10, 11]
  | 16 => [8, 9, 10, 11, 99]
  | 17 => [2]
  | 18 => [10, 12]
  | 19 => [2]
  | _ => []
theorem enter_lawx_FnWords (args : Array Value) (w : World) : (callFunc 6 args).run Try.prog w = .ok (.enter 6 args) w := callFunc_enter Try.func6 (by decide) rfl args w
set_option maxHeartbeats 4000000 in
theorem lawx_FnWords (v : Value) (bs : List Int) (hB : HY (bytesB bs)) : Con Try.prog 6 [.ex v 1 (bs.map (GV.int .u8))] (.bool true) := by
  have hB := hB.e
  have hs := sameD2_len bs
  have ht := tailD_r bs
  have hq : 0 < (tailO (tailD bs).1.1 (tailD bs).1.2 (tailD bs).2).2.length → 0 ≤ (tailD bs).2 ∧ (tailD bs).2 ≤ 1200 := fun h => (words_tail h (Int.le_refl 0)).2
  have hn := @words_tail (tailD bs).1.1 (tailD bs).1.2 (tailD bs).2
  have he := @words_eq (sameD2 bs).1.1 (sameD2 bs).1.2 (sameD2 bs).2.1 (sameD2 bs).2.2
  have hx := @words_ne (sameD2 bs).1.1 (sameD2 bs).1.2 (sameD2 bs).2.1 (sameD2 bs).2.2
  have htl := tailO_len (s := (tailD bs).1.1) (l := (tailD bs).1.2) (k := (tailD bs).2)
  refine gCon lv_lawx_FnWords tab_ok (rs := [.tmp 2]) (sl := [(0, .g (.ex v 1 (bs.map (GV.int .u8))))]) Try.func6 rfl Try.ntmps6 rfl enter_lawx_FnWords rfl (by repeat constructor) ?_
  (repeat' (first | ((with_reducible apply gLB.cagg); (. exact RF.mk ⟨rfl, rfl, rfl⟩)) | ((with_reducible apply gLB.cone); (. exact RF.mk ⟨rfl, rfl⟩)) | ((with_reducible apply gLI.cagg); (. exact RF.mk ⟨rfl, rfl, rfl⟩)) | ((with_reducible apply gLI.cone); (. exact RF.mk ⟨rfl, rfl⟩)) | ((with_reducible apply gAF.cbuildA); (. exact RF.mk rfl); (. exact RF.mk ⟨rfl, rfl, rfl, rfl⟩)) | (with_reducible constructor) | exact NE.mk rfl | exact RF.mk rfl | exact RF.mk ⟨rfl, rfl⟩ | exact RF.mk ⟨rfl, rfl, rfl⟩ | exact NU.mk (by first | omega | (simp only [LNs]; omega) | ((have q := hq (by omega); omega))) | ((with_reducible apply NID_mk); (try simp only [Nat.reduceAdd, Nat.reduceMul]); exact rfl) | ((with_reducible apply SLT_mk); (. rfl); (. rfl); (. rfl); (. rfl)) | ((with_reducible apply FO_mk); (. rfl); (. rfl); (. rfl); (. rfl); (. rfl)) | ((with_reducible apply FO1_mk); (. rfl); (. rfl); (. rfl); (. rfl); (. rfl)) | ((with_reducible apply CUT_all); (. with_reducible first | exact LEN_map _ _ | exact LEN_nil | exact LEN_1 _ | exact LEN_2 _ _ | exact LEN_any _); (. first | rfl | omega); (. first | rfl | omega)) | ((with_reducible apply CUT_mapT); (. first | rfl | omega); (. exact NU.mk (by first | omega | (simp only [LNs]; omega) | ((have q := hq (by omega); omega))))) | ((with_reducible apply CUT_mapD); (. first | rfl | omega)) | (with_reducible apply CUT_map) | (apply CUT_any) | (with_reducible apply CUG_mapT) | ((with_reducible apply CUG_mapD); (. exact NU.mk (by first | omega | (simp only [LNs]; omega) | ((have q := hq (by omega); omega)))); (. rfl)) | (with_reducible apply CUG_map) | (apply CUG_any) | ((with_reducible apply CON_of); first | apply laws_big | apply spec_DrawSameWord | apply impl_LeastWord | apply impl_SameWord | apply spec_SameWord | apply laws_likeInts | apply spec_DrawTailOf | apply impl_TailOf | apply impl_LetterAt | apply spec_LetterAt | apply spec_TailOf) | (with_reducible intro hc; (try simp only [HCs] at hc)) | exact OB_f | exact DEC.mk (by decide) | ((with_reducible apply MZ_one); (. rfl); (. rfl); (. rfl)) | ((with_reducible apply MZ_st); (. rfl); (. rfl); (. rfl); (. rfl); (. rfl)) | ((with_reducible apply OB_t); kernel_rfl) | (with_reducible first | apply gNK | apply TX_seq | apply QA_and_n | apply QA_and_e | apply QA_and_r | apply gTX_cond | apply CK_t | apply CK_f | apply CK_if | apply TX_skip | apply TX_ret | apply TX_exit | apply TX_label | apply QA_in_eq | apply QA_in_ne | apply QA_in_n | apply QA_in_r | apply QA_lp_e | apply QA_lp_r | apply QA_ct_e | apply QA_ct_r | apply QA_nr | apply gEND_1 | apply gEND_N | apply END_0) | apply gTX_rgW tab_ok | apply gTX_rgD tab_ok rfl | (apply TX_blk; exact RF.mk rfl) | exact EQ.mk rfl | exact HY.mk (by assumption) | (refine TX_loop (id := 0) (ι := Nat) (fun i => ⟨[(8, .ptr 0 0), (9, .g (.i (tailD bs).2)), (10, .ptr 1 0), (11, .g (.i i))], [(0, .box [.own 2 0 (tailD bs).1.1.length, .own 3 0 (tailD bs).1.2.length]), (1, .box [.own 4 0 (tailO (tailD bs).1.1 (tailD bs).1.2 (tailD bs).2).1.length, .own 5 0 (tailO (tailD bs).1.1 (tailD bs).1.2 (tailD bs).2).2.length]), (2, .arr 1 true ((tailD bs).1.1.map GV.i)), (3, .arr 1 true ((tailD bs).1.2.map GV.i)), (4, .arr 1 true ((tailO (tailD bs).1.1 (tailD bs).1.2 (tailD bs).2).1.map GV.i)), (5, .arr 1 true ((tailO (tailD bs).1.1 (tailD bs).1.2 (tailD bs).2).2.map GV.i))]⟩) (fun i => (i ≤ 6)) (fun i => 6 - i) (0) ?_ ?_ ?_; (. ((first | apply gLX0 | apply gLX1 | apply gLX2 | apply gLX3 | apply gLX4 | apply gLX5 | apply gLX6 | apply gLX7 | apply gLX8 | apply gLX9 | apply gLX10) <;> (repeat' (first | (with_reducible constructor) | exact NE.mk rfl | exact RF.mk rfl | exact RF.mk ⟨rfl, rfl⟩ | exact RF.mk ⟨rfl, rfl, rfl⟩ | exact EQ.mk rfl | exact RF.mk (by decide) | (with_reducible apply EQ_int) | exact EQ.mk (by first | omega | (simp only [LNs]; omega) | ((have q := hq (by omega); omega))))))); (. (omega)); (rintro i h1; (show TX _ _ _ _ _ [(8, .ptr 0 0), (9, .g (.i (tailD bs).2)), (10, .ptr 1 0), (11, .g (.i i))] [(0, .box [.own 2 0 (tailD bs).1.1.length, .own 3 0 (tailD bs).1.2.length]), (1, .box [.own 4 0 (tailO (tailD bs).1.1 (tailD bs).1.2 (tailD bs).2).1.length, .own 5 0 (tailO (tailD bs).1.1 (tailD bs).1.2 (tailD bs).2).2.length]), (2, .arr 1 true ((tailD bs).1.1.map GV.i)), (3, .arr 1 true ((tailD bs).1.2.map GV.i)), (4, .arr 1 true ((tailO (tailD bs).1.1 (tailD bs).1.2 (tailD bs).2).1.map GV.i)), (5, .arr 1 true ((tailO (tailD bs).1.1 (tailD bs).1.2 (tailD bs).2).2.map GV.i))] _))) | exact gSel.cnil _ | apply gSel.ccons | apply gCG.cagg))
  (all_goals (first | (exfalso; first | exact Bool.noConfusion ((show sameW (sameD2 bs).1.1 (sameD2 bs).1.2 (sameD2 bs).2.1 (sameD2 bs).2.2 = true by assumption).symm.trans (show sameW (sameD2 bs).1.1 (sameD2 bs).1.2 (sameD2 bs).2.1 (sameD2 bs).2.2 = false by assumption)) | exact Bool.noConfusion ((he (by assumption)).1.symm.trans hc) | exact Bool.noConfusion ((he (by assumption)).2.symm.trans hc) | exact hx (by assumption) (by omega) (by assumption) (by assumption) | exact hc (hn (by omega) (by omega)).1) | (refine QA_lp (i + 1) ?_ ?_ ?_; (· ((first | apply gLX0 | apply gLX1 | apply gLX2 | apply gLX3 | apply gLX4 | apply gLX5 | apply gLX6 | apply gLX7 | apply gLX8 | apply gLX9 | apply gLX10) <;> (repeat' (first | (with_reducible constructor) | exact NE.mk rfl | exact RF.mk rfl | exact RF.mk ⟨rfl, rfl⟩ | exact RF.mk ⟨rfl, rfl, rfl⟩ | exact EQ.mk rfl | exact RF.mk (by decide) | (with_reducible apply EQ_int) | exact EQ.mk (by first | omega | (simp only [LNs]; omega) | ((have q := hq (by omega); omega))))))); (· (omega)); (· (((try dsimp only); omega)))) | (((refine EQ_bool ?_; first | rfl | (simp; done))); done)))

theorem law_FnWords (bs : List Int) (hB : bytesB bs) : Con Try.prog 6 [.sl 1 (bs.map (GV.int .u8))] (.bool true) := Con.unex enter_lawx_FnWords fun v => lawx_FnWords v bs (HY.mk hB)

end Go.Proofs.Ytbjonekgeidoiaa

