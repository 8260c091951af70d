/- Contracts: outputs of machines, states found, states alike. No conditions but those that each theorem names. -/
import Derived.Test.YtabfpoflhacknaaTab
import Derived.Test.YtabfpoflhacknaaKG
import Derived.Test.YtabfpoflhacknaaM2
import Derived.Test.YtabfpoflhacknaaMS
import Derived.Test.YtabfpoflhacknaaMQ
import Derived.Test.YtabfpoflhacknaaChecked
set_option linter.unusedSimpArgs false
set_option linter.unusedVariables false
namespace Go.Proofs.Ytabfpoflhacknaa
open Go.RowKit
open Shp
def lv_impl_OutputsFor : Nat → List Nat
  | 0 => [2, 3, 4]
  | 1 => [2, 4, 15]
  | 2 => [6]
  | 3 => [2, 4, 7]
  | 4 => [2, 4, 7, 8]
  | 5 => [4, 7, 8, 17, 18, 19]
  | 6 => [4, 7, 8, 17, 18, 19, 20]
  | 7 => [4, 7, 8, 10, 17, 18, 19]
  | 8 => [4, 7, 8, 10, 17, 18, 19]
  | 9 => [4, 7, 8, 17, 18, 19]
  | 10 => [4, 7, 8, 17, 18, 19]
  | 11 => [6]
  | _ => []
theorem enter_impl_OutputsFor (args : Array Value) (w : World) : (callFunc 35 args).run Try.prog w = .ok (.enter 35 args) w := callFunc_enter Try.func35 (by decide) rfl args w
set_option maxHeartbeats 1000000 in
theorem impl_OutputsFor (i o : Int) (n out : List (List Int)) (xs : List Int) : Con Try.prog 35 [.sig i o, .mach n out, .ints xs] (.ints (outB i o n out xs)) := by
  refine Con.fit enter_impl_OutputsFor fun hfit => ?_
  have hb_n : n.length ≤ 9223372036854775807 := GFits.lenm (GFits.cell (show GFits (.mach n out) from hfit 1 (Nat.le_of_ble_eq_true rfl)) (.head _))
  have hr_n : ∀ r ∈ n, r.length ≤ 9223372036854775807 := fun r hr => GFits.ints (GFits.elm (GFits.cell (show GFits (.mach n out) from hfit 1 (Nat.le_of_ble_eq_true rfl)) (.head _)) r hr)
  have hb_out : out.length ≤ 9223372036854775807 := GFits.lenm (GFits.cell (show GFits (.mach n out) from hfit 1 (Nat.le_of_ble_eq_true rfl)) (.tail _ (.head _)))
  have hr_out : ∀ r ∈ out, r.length ≤ 9223372036854775807 := fun r hr => GFits.ints (GFits.elm (GFits.cell (show GFits (.mach n out) from hfit 1 (Nat.le_of_ble_eq_true rfl)) (.tail _ (.head _))) r hr)
  have hb_xs : xs.length ≤ 9223372036854775807 := GFits.ints (show GFits (.ints xs) from hfit 2 (Nat.le_of_ble_eq_true rfl))
  clear hfit
  refine gCon lv_impl_OutputsFor tab_ok (rs := [.tmp 6]) (sl := [(0, .g (.sig i o)), (1, .g (.mach n out)), (2, .g (.ints xs))]) Try.func35 rfl Try.ntmps35 rfl enter_impl_OutputsFor rfl (by repeat constructor) ?_
  (repeat' (first | ((with_reducible apply gLB.cagg); (. exact RF.mk ⟨rfl, rfl, rfl⟩)) | ((with_reducible apply gLB.cone); (. exact RF.mk ⟨rfl, rfl⟩)) | ((with_reducible apply gLI.cagg); (. exact RF.mk ⟨rfl, rfl, rfl⟩)) | ((with_reducible apply gLI.cone); (. exact RF.mk ⟨rfl, rfl⟩)) | ((with_reducible apply gAF.cbuildA); (. exact RF.mk rfl); (. exact RF.mk ⟨rfl, rfl, rfl, rfl⟩)) | (with_reducible constructor) | exact NE.mk rfl | exact RF.mk rfl | exact RF.mk ⟨rfl, rfl⟩ | exact RF.mk ⟨rfl, rfl, rfl⟩ | exact NU.mk (by first | omega | (simp only [LNs]; omega) | (first | omega | (have q := sig_pw (machB_r (canB_r (by assumption)).1).1; omega) | (have q := z1 (by omega); have q2 := hg.1.row h2.1 h2.2; have q3 := hg.at h2 q; omega))) | ((with_reducible apply NID_mk); (try simp only [Nat.reduceAdd, Nat.reduceMul]); exact rfl) | ((with_reducible apply SLT_mk); (. rfl); (. rfl); (. rfl); (. rfl)) | ((with_reducible apply FO_mk); (. rfl); (. rfl); (. rfl); (. rfl); (. rfl)) | ((with_reducible apply FO1_mk); (. rfl); (. rfl); (. rfl); (. rfl); (. rfl)) | ((with_reducible apply CUT_all); (. with_reducible first | exact LEN_map _ _ | exact LEN_nil | exact LEN_1 _ | exact LEN_2 _ _ | exact LEN_any _); (. first | rfl | omega); (. first | rfl | omega)) | ((with_reducible apply CUT_mapT); (. first | rfl | omega); (. exact NU.mk (by first | omega | (simp only [LNs]; omega) | (first | omega | (have q := sig_pw (machB_r (canB_r (by assumption)).1).1; omega) | (have q := z1 (by omega); have q2 := hg.1.row h2.1 h2.2; have q3 := hg.at h2 q; omega))))) | ((with_reducible apply CUT_mapD); (. first | rfl | omega)) | (with_reducible apply CUT_map) | (apply CUT_any) | (with_reducible apply CUG_mapT) | ((with_reducible apply CUG_mapD); (. exact NU.mk (by first | omega | (simp only [LNs]; omega) | (first | omega | (have q := sig_pw (machB_r (canB_r (by assumption)).1).1; omega) | (have q := z1 (by omega); have q2 := hg.1.row h2.1 h2.2; have q3 := hg.at h2 q; omega)))); (. rfl)) | (with_reducible apply CUG_map) | (apply CUG_any) | ((with_reducible apply CON_of); first | apply impl_canRun) | (with_reducible intro hc; (try simp only [HCs] at hc)) | exact OB_f | exact DEC.mk (by decide) | ((with_reducible apply MZ_one); (. rfl); (. rfl); (. rfl)) | ((with_reducible apply MZ_st); (. rfl); (. rfl); (. rfl); (. rfl); (. rfl)) | ((with_reducible apply OB_t); kernel_rfl) | (with_reducible first | apply gNK | apply TX_seq | apply QA_and_n | apply QA_and_e | apply QA_and_r | apply gTX_cond | apply CK_t | apply CK_f | apply CK_if | apply TX_skip | apply TX_ret | apply TX_exit | apply TX_label | apply QA_in_eq | apply QA_in_ne | apply QA_in_n | apply QA_in_r | apply QA_lp_e | apply QA_lp_r | apply QA_ct_e | apply QA_ct_r | apply QA_nr | apply gEND_1 | apply gEND_N | apply END_0) | apply gTX_rgW tab_ok | apply gTX_rgD tab_ok rfl | (apply TX_blk; exact RF.mk rfl) | exact EQ.mk rfl | (refine TX_loop (id := 0) (ι := Nat × Int × (List Int)) (fun ⟨j, p, os⟩ => ⟨[(4, .ptr 1 0), (7, .own 0 0 os.length), (8, .g (.i p)), (17, .g (.ints xs)), (18, .g (.i xs.length)), (19, .g (.i j))], [(0, .arr 1 true (os.map GV.i)), (1, .box [.g (.rows n), .g (.rows out)])]⟩) (fun ⟨j, p, os⟩ => (j ≤ xs.length) ∧ (0 ≤ p ∧ p < n.length) ∧ (outsN n out 0 xs = os ++ outsN n out p (xs.drop j)) ∧ (os.length = j)) (fun ⟨j, p, os⟩ => xs.length - j) (0, 0, []) ?_ ?_ ?_; (. (apply gLX2 <;> (repeat' (first | (with_reducible constructor) | exact NE.mk rfl | exact RF.mk rfl | exact RF.mk ⟨rfl, rfl⟩ | exact RF.mk ⟨rfl, rfl, rfl⟩ | exact EQ.mk rfl | exact RF.mk (by decide) | (with_reducible apply EQ_int) | exact EQ.mk (by first | omega | (simp only [LNs]; omega) | (first | omega | (have q := sig_pw (machB_r (canB_r (by assumption)).1).1; omega) | (have q := z1 (by omega); have q2 := hg.1.row h2.1 h2.2; have q3 := hg.at h2 q; omega))))); (all_goals ((first | exact EQ.mk rfl | exact EQ.mk (by first | (simp; done) | fail) | exact EQ_map (EQ.mk rfl)); done)))); (. ((have q := machB_r (canB_r (by assumption)).1; exact ⟨by omega, by omega, by simp, rfl⟩))); (rintro ⟨j, p, os⟩ ⟨h1, h2, h3, h4⟩; have hc := canB_r (by assumption); have hg := machB_out hc.1; have z1 : j < xs.length → 0 ≤ nth xs j ∧ nth xs j < pw i := fun h => below_iff.1 hc.2.2 j h; have z5 := hg.2.2; (show TX _ _ _ _ _ [(4, .ptr 1 0), (7, .own 0 0 os.length), (8, .g (.i p)), (17, .g (.ints xs)), (18, .g (.i xs.length)), (19, .g (.i j))] [(0, .arr 1 true (os.map GV.i)), (1, .box [.g (.rows n), .g (.rows out)])] _))) | exact gSel.cnil _ | apply gSel.ccons | apply gCG.cagg))
  (all_goals (first | (refine QA_lp (j + 1, nth (nth n p.toNat) (nth xs j).toNat, os ++ [nth (nth out p.toNat) (nth xs j).toNat]) ?_ ?_ ?_; (· (apply gLX2 <;> (repeat' (first | (with_reducible constructor) | exact NE.mk rfl | exact RF.mk rfl | exact RF.mk ⟨rfl, rfl⟩ | exact RF.mk ⟨rfl, rfl, rfl⟩ | exact EQ.mk rfl | exact RF.mk (by decide) | (with_reducible apply EQ_int) | exact EQ.mk (by first | omega | (simp only [LNs]; omega) | (first | omega | (have q := sig_pw (machB_r (canB_r (by assumption)).1).1; omega) | (have q := z1 (by omega); have q2 := hg.1.row h2.1 h2.2; have q3 := hg.at h2 q; omega))))); (all_goals ((first | exact EQ.mk rfl | exact EQ.mk (by first | (simp; done) | fail) | exact EQ_map (EQ.mk rfl)); done)))); (· ((have z3 := z1 (by omega); refine ⟨by omega, hg.1.step h2 z3, ?_, by simp; omega⟩; rw [h3, outsN_drop (by omega)]; simp))); (· (((try dsimp only); omega)))) | ((first | (refine EQ_sl (EQ_map (EQ.mk ?_)); unfold outB; rw [if_pos (by assumption), h3, List.drop_eq_nil_of_le (by omega)]; simp [outsN]; done) | (refine EQ_sl (EQ_map (EQ.mk ?_)); unfold outB; rw [if_neg (by first | (simp_all; done) | fail)]) | (unfold outB; rw [if_neg (by first | (simp_all; done) | fail)]; exact EQ.mk rfl)); done)))
end Go.Proofs.Ytabfpoflhacknaa

