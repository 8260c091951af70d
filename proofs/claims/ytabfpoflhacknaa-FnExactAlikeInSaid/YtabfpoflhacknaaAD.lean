/- Contracts: states of automata that are alike. No conditions but those that each theorem names. -/
import Derived.Test.YtabfpoflhacknaaTab
import Derived.Test.YtabfpoflhacknaaKG
import Derived.Test.YtabfpoflhacknaaAA
import Derived.Test.YtabfpoflhacknaaAC
import Derived.Test.YtabfpoflhacknaaPD
import Derived.Test.YtabfpoflhacknaaChecked
set_option linter.unusedSimpArgs false
set_option linter.unusedVariables false
namespace Go.Proofs.Ytabfpoflhacknaa
open Go.RowKit
open Shp

noncomputable def alikeB26 (i o : Int) (n : List (List Int)) (ps : List (List Int × List Int)) : List Int := if detB i o n ps = true then alike26 n ps else []
theorem alikeB26_len {i o : Int} {n : List (List Int)} {ps : List (List Int × List Int)} : (alikeB26 i o n ps).length ≤ 48 := alikeB26_len0

def lv_spec_AlikeIn : Nat → List Nat
  | 0 => [2, 3]
  | 1 => [3, 8]
  | 2 => [4]
  | 3 => [4]
  | _ => []
theorem enter_spec_AlikeIn (args : Array Value) (w : World) : (callFunc 8 args).run Try.prog w = .ok (.enter 8 args) w := callFunc_enter Try.func8 (by decide) rfl args w
set_option maxHeartbeats 1000000 in
theorem spec_AlikeIn (i o : Int) (n : List (List Int)) (ps : List (List Int × List Int)) : Con Try.prog 8 [.sig i o, .det n ps] (.ints (alikeB26 i o n ps)) := by
  refine Con.fit enter_spec_AlikeIn fun hfit => ?_
  have hb_n : n.length ≤ 9223372036854775807 := GFits.lenm (GFits.cell (show GFits (.det n ps) from hfit 1 (Nat.le_of_ble_eq_true rfl)) (.head _))
  have hr_n : ∀ r ∈ n, r.length ≤ 9223372036854775807 := fun r hr => GFits.ints (GFits.elm (GFits.cell (show GFits (.det n ps) from hfit 1 (Nat.le_of_ble_eq_true rfl)) (.head _)) r hr)
  have hb_ps : ps.length ≤ 9223372036854775807 := GFits.lenm (GFits.cell (show GFits (.det n ps) from hfit 1 (Nat.le_of_ble_eq_true rfl)) (.tail _ (.head _)))
  have hr_ps : ∀ r ∈ ps, r.1.length ≤ 9223372036854775807 ∧ r.2.length ≤ 9223372036854775807 := fun r hr => ⟨GFits.ints (GFits.cell (GFits.elm (GFits.cell (show GFits (.det n ps) from hfit 1 (Nat.le_of_ble_eq_true rfl)) (.tail _ (.head _))) r hr) (.head _)), GFits.ints (GFits.cell (GFits.elm (GFits.cell (show GFits (.det n ps) from hfit 1 (Nat.le_of_ble_eq_true rfl)) (.tail _ (.head _))) r hr) (.tail _ (.head _)))⟩
  clear hfit
  refine gCon lv_spec_AlikeIn tab_ok (rs := [.tmp 4]) (sl := [(0, .g (.sig i o)), (1, .g (.det n ps))]) Try.func8 rfl Try.ntmps8 rfl enter_spec_AlikeIn rfl (by repeat constructor) ?_
  (repeat' (first | ((with_reducible apply gLB.cagg); (. exact RF.mk ⟨rfl, rfl, rfl⟩)) | (with_reducible constructor) | exact NE.mk rfl | exact RF.mk rfl | ((with_reducible apply SLT_mk); (. rfl); (. rfl); (. rfl); (. rfl)) | ((with_reducible apply CUT_all); (. with_reducible first | exact LEN_map _ _ | exact LEN_nil | exact LEN_1 _ | exact LEN_2 _ _ | exact LEN_any _); (. first | rfl | omega); (. first | rfl | omega)) | ((with_reducible apply CON_of); first | (exact spec_l26Classes n ps (lettersB i o).toNat (HY.mk (by rw [letters_nat]; exact detB_go (by assumption))) (NU.mk ⟨(detB_r (show detB i o n ps = true by assumption)).2.1, (detB_r (show detB i o n ps = true by assumption)).2.2.1⟩)) | apply spec_DetOk) | (with_reducible intro hc; (try simp only [HCs] at hc)) | exact OB_f | (with_reducible first | apply gNK | apply TX_seq | apply QA_and_n | apply QA_and_r | apply gTX_cond | apply CK_if | apply TX_skip | apply TX_ret | apply gEND_1) | apply gTX_rgW tab_ok | apply gSel.ccons))
  (all_goals (first | (((unfold alikeB26; first | (rw [if_pos (by assumption)]; exact EQ.mk rfl) | (rw [if_neg (by first | (simp_all; done) | fail)]; exact EQ.mk rfl) | (rw [if_neg (fun e => by rw [detB_sig e] at hc; cases hc)]; exact EQ.mk rfl))); done)))

def lv_impl_AlikeIn : Nat → List Nat
  | 0 => [2, 3]
  | 1 => [3, 13]
  | 2 => [4]
  | 3 => [4]
  | _ => []
theorem enter_impl_AlikeIn (args : Array Value) (w : World) : (callFunc 11 args).run Try.prog w = .ok (.enter 11 args) w := callFunc_enter Try.func11 (by decide) rfl args w
set_option maxHeartbeats 1000000 in
theorem impl_AlikeIn (i o : Int) (n : List (List Int)) (ps : List (List Int × List Int)) : Con Try.prog 11 [.sig i o, .det n ps] (.ints (alikeB26 i o n ps)) := by
  refine Con.fit enter_impl_AlikeIn fun hfit => ?_
  have hb_n : n.length ≤ 9223372036854775807 := GFits.lenm (GFits.cell (show GFits (.det n ps) from hfit 1 (Nat.le_of_ble_eq_true rfl)) (.head _))
  have hr_n : ∀ r ∈ n, r.length ≤ 9223372036854775807 := fun r hr => GFits.ints (GFits.elm (GFits.cell (show GFits (.det n ps) from hfit 1 (Nat.le_of_ble_eq_true rfl)) (.head _)) r hr)
  have hb_ps : ps.length ≤ 9223372036854775807 := GFits.lenm (GFits.cell (show GFits (.det n ps) from hfit 1 (Nat.le_of_ble_eq_true rfl)) (.tail _ (.head _)))
  have hr_ps : ∀ r ∈ ps, r.1.length ≤ 9223372036854775807 ∧ r.2.length ≤ 9223372036854775807 := fun r hr => ⟨GFits.ints (GFits.cell (GFits.elm (GFits.cell (show GFits (.det n ps) from hfit 1 (Nat.le_of_ble_eq_true rfl)) (.tail _ (.head _))) r hr) (.head _)), GFits.ints (GFits.cell (GFits.elm (GFits.cell (show GFits (.det n ps) from hfit 1 (Nat.le_of_ble_eq_true rfl)) (.tail _ (.head _))) r hr) (.tail _ (.head _)))⟩
  clear hfit
  refine gCon lv_impl_AlikeIn tab_ok (rs := [.tmp 4]) (sl := [(0, .g (.sig i o)), (1, .g (.det n ps))]) Try.func11 rfl Try.ntmps11 rfl enter_impl_AlikeIn rfl (by repeat constructor) ?_
  (repeat' (first | ((with_reducible apply gLB.cagg); (. exact RF.mk ⟨rfl, rfl, rfl⟩)) | (with_reducible constructor) | exact NE.mk rfl | exact RF.mk rfl | exact NU.mk (by first | omega | (simp only [LNs]; omega)) | ((with_reducible apply CUT_all); (. with_reducible first | exact LEN_map _ _ | exact LEN_nil | exact LEN_1 _ | exact LEN_2 _ _ | exact LEN_any _); (. first | rfl | omega); (. first | rfl | omega)) | ((with_reducible apply CON_of); first | (exact impl_alikeIn n ps (lettersB i o).toNat (HY.mk (by rw [letters_nat]; exact detB_go (by assumption))) (NU.mk ⟨(detB_r (show detB i o n ps = true by assumption)).2.1, (detB_r (show detB i o n ps = true by assumption)).2.2.1⟩)) | apply impl_isSig | apply impl_isDet) | (with_reducible intro hc; (try simp only [HCs] at hc)) | exact OB_f | (with_reducible first | apply gNK | apply TX_seq | apply QA_and_n | apply QA_and_r | apply gTX_cond | apply CK_t | apply CK_if | apply TX_skip | apply TX_ret | apply gEND_1) | apply gTX_rgW tab_ok | apply gSel.ccons))
  (all_goals (first | (((unfold alikeB26; first | (rw [if_pos (by assumption)]; exact EQ.mk rfl) | (rw [if_neg (by first | (simp_all; done) | fail)]; exact EQ.mk rfl) | (rw [if_neg (fun e => by rw [detB_sig e] at hc; cases hc)]; exact EQ.mk rfl))); done)))

end Go.Proofs.Ytabfpoflhacknaa

