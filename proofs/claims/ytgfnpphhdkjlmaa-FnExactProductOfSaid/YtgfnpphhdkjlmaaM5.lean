/- Contracts: machines side by side. No conditions but those that each theorem names. -/
import Derived.Test.YtgfnpphhdkjlmaaTab
import Derived.Test.YtgfnpphhdkjlmaaKG
import Derived.Test.YtgfnpphhdkjlmaaM3
import Derived.Test.YtgfnpphhdkjlmaaGD2
import Derived.Test.YtgfnpphhdkjlmaaMT
import Derived.Test.YtgfnpphhdkjlmaaChecked
set_option linter.unusedSimpArgs false
set_option linter.unusedVariables false
namespace Go.Proofs.Ytgfnpphhdkjlmaa
open Go.RowKit
open Shp
def lv_slices_IndexP : Nat → List Nat
  | 0 => [0, 3]
  | 1 => [0, 3, 7, 8]
  | 2 => [0, 3, 7, 8, 9]
  | 3 => [0, 3, 5, 7, 8]
  | 4 => [0, 3, 5, 7, 8, 16]
  | 5 => [4]
  | 6 => [0, 3, 7, 8]
  | 7 => [4]
  | _ => []
theorem enter_slices_IndexP (args : Array Value) (w : World) : (callFunc 143 args).run Try.prog w = .ok (.enter 143 args) w := callFunc_enter Try.func143 (by decide) rfl args w
set_option maxHeartbeats 1000000 in
theorem slices_IndexP (xs : List (Int × Int)) (x : Int × Int) : Con Try.prog 143 [.prs xs, .pr x] (.i (placeP xs x)) := by
  refine Con.fit enter_slices_IndexP fun hfit => ?_
  have hb_xs : xs.length ≤ 9223372036854775807 := GFits.lenm (show GFits (.prs xs) from hfit 0 (Nat.le_of_ble_eq_true rfl))
  clear hfit
  refine gCon lv_slices_IndexP tab_ok (rs := [.tmp 4]) (sl := [(0, .g (.prs xs)), (1, .g (.pr x))]) Try.func143 rfl Try.ntmps143 rfl enter_slices_IndexP rfl (by repeat constructor) ?_
  (repeat' (first | ((with_reducible apply gLB.cagg); (. exact RF.mk ⟨rfl, rfl, rfl⟩)) | ((with_reducible apply gLI.cagg); (. exact RF.mk ⟨rfl, rfl, rfl⟩)) | (with_reducible constructor) | exact NE.mk rfl | exact RF.mk rfl | exact NU.mk (by first | omega | (simp only [LNs]; omega)) | ((with_reducible apply SLT_mk); (. rfl); (. rfl); (. rfl); (. rfl)) | (with_reducible intro hc; (try simp only [HCs] at hc)) | exact OB_f | ((with_reducible apply OB_t); kernel_rfl) | (with_reducible first | apply gNK | apply TX_seq | apply QA_and_n | apply QA_and_e | apply QA_and_r | apply gTX_cond | apply CK_if | apply TX_skip | apply TX_ret | apply TX_exit | apply QA_in_eq | apply QA_in_n | apply QA_in_r | apply QA_lp_e | apply QA_lp_r | apply gEND_1) | apply gTX_rgW tab_ok | apply gTX_rgD tab_ok rfl | (apply TX_blk; exact RF.mk rfl) | (refine TX_loop (id := 0) (ι := Nat) (fun i => ⟨[(0, .g (.prs xs)), (3, .ptr 0 0), (7, .g (.i xs.length)), (8, .g (.i i))], [(0, .box [.g (.i x.1), .g (.i x.2)])]⟩) (fun i => (i ≤ xs.length) ∧ (∀ z, z < i → (fun i => decide (nth xs i = x)) z = false)) (fun i => xs.length - i) (0) ?_ ?_ ?_; (. ((first | apply gLX0 | apply gLX1 | apply gLX2 | apply gLX3 | apply gLX4 | apply gLX5 | apply gLX6 | apply gLX7 | apply gLX8 | apply gLX9 | apply gLX10) <;> (repeat' (first | (with_reducible constructor) | exact NE.mk rfl | exact RF.mk rfl | exact RF.mk ⟨rfl, rfl⟩ | exact RF.mk ⟨rfl, rfl, rfl⟩ | exact EQ.mk rfl | exact RF.mk (by decide) | (with_reducible apply EQ_int) | exact EQ.mk (by first | omega | (simp only [LNs]; omega)))))); (. (exact ⟨by omega, noneN_zero⟩)); (rintro i ⟨h1, h2⟩; (show TX _ _ _ _ _ [(0, .g (.prs xs)), (3, .ptr 0 0), (7, .g (.i xs.length)), (8, .g (.i i))] [(0, .box [.g (.i x.1), .g (.i x.2)])] _))) | apply gSel.ccons))
  (all_goals (first | (refine QA_lp (i + 1) ?_ ?_ ?_; (· ((first | apply gLX0 | apply gLX1 | apply gLX2 | apply gLX3 | apply gLX4 | apply gLX5 | apply gLX6 | apply gLX7 | apply gLX8 | apply gLX9 | apply gLX10) <;> (repeat' (first | (with_reducible constructor) | exact NE.mk rfl | exact RF.mk rfl | exact RF.mk ⟨rfl, rfl⟩ | exact RF.mk ⟨rfl, rfl, rfl⟩ | exact EQ.mk rfl | exact RF.mk (by decide) | (with_reducible apply EQ_int) | exact EQ.mk (by first | omega | (simp only [LNs]; omega)))))); (· ((refine ⟨by omega, noneN_step h2 ?_⟩; exact decide_eq_false fun e => hc e.symm))); (· (((try dsimp only); omega)))) | (((refine EQ_int (EQ.mk ?_); unfold placeP; first | exact Eq.symm (firstN_none fun j hj => h2 j (by omega)) | (refine Eq.symm (firstN_at i (by omega) ?_ h2); exact decide_eq_true hc.symm))); done)))
end Go.Proofs.Ytgfnpphhdkjlmaa

