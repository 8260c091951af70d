/- Contracts: automata joined. No conditions but those that each theorem names. -/
import Derived.Test.YtgfnpphhdkjlmaaTab
import Derived.Test.YtgfnpphhdkjlmaaKG
import Derived.Test.YtgfnpphhdkjlmaaM8c
import Derived.Test.YtgfnpphhdkjlmaaM8d
import Derived.Test.YtgfnpphhdkjlmaaChecked
set_option linter.unusedSimpArgs false
set_option linter.unusedVariables false
namespace Go.Proofs.Ytgfnpphhdkjlmaa
open Go.RowKit
open Shp
theorem spec_l26JoinedL (i o : Int) (n : List (List Int)) (ps : List (List Int × List Int)) (n2 : List (List Int)) (ps2 : List (List Int × List Int)) (h : HY (detB i o n ps = true)) (h2 : HY (detB i o n2 ps2 = true)) (h4 : NU (ps.length + ps2.length ≤ 4)) : Con Try.prog 99 [.det n ps, .det n2 ps2, .i (lettersB i o)] (.tup [.det (joinD i o n ps n2 ps2).1.1 (joinD i o n ps n2 ps2).1.2, .bool (joinD i o n ps n2 ps2).2]) := by
  obtain ⟨a1, ⟨a2, a3⟩, a4, a5⟩ := detB_iff.1 h.e
  obtain ⟨b1, ⟨b2, b3⟩, b4, b5⟩ := detB_iff.1 h2.e
  have hL := lettersB_range i o
  rw [← letters_nat] at a5 b5
  have p1 := pairs4 h.e
  have p2 := pairs4 h2.e
  rw [joinD_yes h.e h2.e, ← letters_nat i o]
  exact spec_l26Joined n ps n2 ps2 (lettersB i o).toNat (HY.mk a5) (HY.mk b5) (NU.mk (by omega)) (NU.mk ⟨p1, p2⟩) h4
theorem impl_joinedDetL (i o : Int) (n : List (List Int)) (ps : List (List Int × List Int)) (n2 : List (List Int)) (ps2 : List (List Int × List Int)) (h : HY (detB i o n ps = true)) (h2 : HY (detB i o n2 ps2 = true)) : Con Try.prog 103 [.det n ps, .det n2 ps2] (.tup [.det (joinD i o n ps n2 ps2).1.1 (joinD i o n ps n2 ps2).1.2, .bool (joinD i o n ps n2 ps2).2]) := by
  obtain ⟨a1, ⟨a2, a3⟩, a4, a5⟩ := detB_iff.1 h.e
  obtain ⟨b1, ⟨b2, b3⟩, b4, b5⟩ := detB_iff.1 h2.e
  have hL := lettersB_range i o
  rw [← letters_nat] at a5 b5
  have p1 := pairs4 h.e
  have p2 := pairs4 h2.e
  rw [joinD_yes h.e h2.e]
  exact impl_joinedDet n ps n2 ps2 (lettersB i o).toNat (HY.mk a5) (HY.mk b5) (NU.mk (by omega)) (NU.mk ⟨p1, p2⟩)
def lv_spec_JoinedDet : Nat → List Nat
  | 0 => [3, 4, 5, 6]
  | 1 => [3, 4, 5, 6, 27]
  | 2 => [6, 7]
  | 3 => [6, 7]
  | _ => []
theorem enter_spec_JoinedDet (args : Array Value) (w : World) : (callFunc 42 args).run Try.prog w = .ok (.enter 42 args) w := callFunc_enter Try.func42 (by decide) rfl args w
set_option maxHeartbeats 1000000 in
theorem spec_JoinedDet (i o : Int) (n : List (List Int)) (ps : List (List Int × List Int)) (n2 : List (List Int)) (ps2 : List (List Int × List Int)) : Con Try.prog 42 [.sig i o, .det n ps, .det n2 ps2] (.tup [.det (joinD i o n ps n2 ps2).1.1 (joinD i o n ps n2 ps2).1.2, .bool (joinD i o n ps n2 ps2).2]) := by
  refine Con.fit enter_spec_JoinedDet fun hfit => ?_
  have hb_n : n.length ≤ 9223372036854775807 := GFits.lenm (GFits.cell (show GFits (.det n ps) from hfit 1 (Nat.le_of_ble_eq_true rfl)) (.head _))
  have hr_n : ∀ r ∈ n, r.length ≤ 9223372036854775807 := fun r hr => GFits.ints (GFits.elm (GFits.cell (show GFits (.det n ps) from hfit 1 (Nat.le_of_ble_eq_true rfl)) (.head _)) r hr)
  have hb_ps : ps.length ≤ 9223372036854775807 := GFits.lenm (GFits.cell (show GFits (.det n ps) from hfit 1 (Nat.le_of_ble_eq_true rfl)) (.tail _ (.head _)))
  have hr_ps : ∀ r ∈ ps, r.1.length ≤ 9223372036854775807 ∧ r.2.length ≤ 9223372036854775807 := fun r hr => ⟨GFits.ints (GFits.cell (GFits.elm (GFits.cell (show GFits (.det n ps) from hfit 1 (Nat.le_of_ble_eq_true rfl)) (.tail _ (.head _))) r hr) (.head _)), GFits.ints (GFits.cell (GFits.elm (GFits.cell (show GFits (.det n ps) from hfit 1 (Nat.le_of_ble_eq_true rfl)) (.tail _ (.head _))) r hr) (.tail _ (.head _)))⟩
  have hb_n2 : n2.length ≤ 9223372036854775807 := GFits.lenm (GFits.cell (show GFits (.det n2 ps2) from hfit 2 (Nat.le_of_ble_eq_true rfl)) (.head _))
  have hr_n2 : ∀ r ∈ n2, r.length ≤ 9223372036854775807 := fun r hr => GFits.ints (GFits.elm (GFits.cell (show GFits (.det n2 ps2) from hfit 2 (Nat.le_of_ble_eq_true rfl)) (.head _)) r hr)
  have hb_ps2 : ps2.length ≤ 9223372036854775807 := GFits.lenm (GFits.cell (show GFits (.det n2 ps2) from hfit 2 (Nat.le_of_ble_eq_true rfl)) (.tail _ (.head _)))
  have hr_ps2 : ∀ r ∈ ps2, r.1.length ≤ 9223372036854775807 ∧ r.2.length ≤ 9223372036854775807 := fun r hr => ⟨GFits.ints (GFits.cell (GFits.elm (GFits.cell (show GFits (.det n2 ps2) from hfit 2 (Nat.le_of_ble_eq_true rfl)) (.tail _ (.head _))) r hr) (.head _)), GFits.ints (GFits.cell (GFits.elm (GFits.cell (show GFits (.det n2 ps2) from hfit 2 (Nat.le_of_ble_eq_true rfl)) (.tail _ (.head _))) r hr) (.tail _ (.head _)))⟩
  clear hfit
  refine gCon lv_spec_JoinedDet tab_ok (rs := [.cell 6 50, .tmp 7]) (sl := [(0, .g (.sig i o)), (1, .g (.det n ps)), (2, .g (.det n2 ps2))]) Try.func42 rfl Try.ntmps42 rfl enter_spec_JoinedDet rfl (by repeat constructor) ?_
  (repeat' (first | ((with_reducible apply gLB.cagg); (. exact RF.mk ⟨rfl, rfl, rfl⟩)) | ((with_reducible apply gLB.cone); (. exact RF.mk ⟨rfl, rfl⟩)) | (with_reducible constructor) | exact NE.mk rfl | exact RF.mk rfl | exact RF.mk ⟨rfl, rfl⟩ | exact RF.mk ⟨rfl, rfl, rfl⟩ | exact NU.mk (by first | omega | (simp only [LNs]; omega) | (first | omega | (have q1 := pairs4 (show detB i o n ps = true by assumption); have q2 := pairs4 (show detB i o n2 ps2 = true by assumption); omega))) | ((with_reducible apply SLT_mk); (. rfl); (. rfl); (. rfl); (. rfl)) | ((with_reducible apply FO_mk); (. rfl); (. rfl); (. rfl); (. rfl); (. rfl)) | ((with_reducible apply CUT_all); (. with_reducible first | exact LEN_map _ _ | exact LEN_nil | exact LEN_1 _ | exact LEN_2 _ _ | exact LEN_any _); (. first | rfl | omega); (. first | rfl | omega)) | ((with_reducible apply CON_of); first | (exact spec_l26JoinedL i o n ps n2 ps2 (HY.mk (by assumption)) (HY.mk (by assumption)) (NU.mk (by omega))) | apply spec_LettersOf | apply spec_DetOk) | (with_reducible intro hc; (try simp only [HCs] at hc)) | exact OB_f | ((with_reducible apply OB_t); kernel_rfl) | (with_reducible first | apply gNK | apply TX_seq | apply QA_and_n | apply QA_and_r | apply gTX_cond | apply CK_t | apply CK_if | apply TX_skip | apply TX_ret | apply gEND_N) | apply gTX_rgW tab_ok | apply gTX_rgD tab_ok rfl | apply gSel.ccons))
  (all_goals (first | (((first | exact EQ.mk rfl | (rw [joinD_no1 (by assumption)]; exact EQ.mk rfl) | (rw [joinD_no2 (by assumption)]; exact EQ.mk rfl) | (rw [joinD_no1 (detB_sig0 (by assumption))]; exact EQ.mk rfl) | (rw [joinD_many (by omega)]; exact EQ.mk rfl) | (rcases hc with hc | hc | hc <;> first | (rw [joinD_no1 (by assumption)]; exact EQ.mk rfl) | (rw [joinD_no2 (by assumption)]; exact EQ.mk rfl)))); done)))
end Go.Proofs.Ytgfnpphhdkjlmaa

