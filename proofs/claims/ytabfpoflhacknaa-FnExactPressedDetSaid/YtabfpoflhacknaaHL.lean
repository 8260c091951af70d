/- Contracts: what the laws ask of data that are numbered. No conditions but those that each theorem names. -/
import Derived.Test.YtabfpoflhacknaaTab
import Derived.Test.YtabfpoflhacknaaKG
import Derived.Test.YtabfpoflhacknaaW1
import Derived.Test.YtabfpoflhacknaaMK0
import Derived.Test.YtabfpoflhacknaaChecked
set_option linter.unusedSimpArgs false
set_option linter.unusedVariables false
namespace Go.Proofs.Ytabfpoflhacknaa
open Go.RowKit
open Shp

def lv_laws_heldInt64S : Nat → List Nat
  | 0 => [0, 1]
  | 1 => [0, 1, 5]
  | 2 => [0, 1, 5, 9]
  | 3 => [0, 1, 5]
  | 4 => [0, 1, 5, 17]
  | 5 => [4]
  | 6 => [0, 1, 5]
  | 7 => [4]
  | _ => []
theorem enter_laws_heldInt64S (args : Array Value) (w : World) : (callFunc 16 args).run Try.prog w = .ok (.enter 16 args) w := callFunc_enter Try.func16 (by decide) rfl args w
set_option maxHeartbeats 1000000 in
theorem laws_heldInt64S (k : Int) (xs : List Int) (hk : NU (0 ≤ k ∧ k + xs.length ≤ 1099511627776)) (hx : HY (xs = marks k xs.length)) : Con Try.prog 16 [.ints xs, .i k] (.i (k + (xs.length : Nat))) := by
  have hk := hk.e
  have hx := hx.e
  refine Con.fit enter_laws_heldInt64S fun hfit => ?_
  have hb_xs : xs.length ≤ 9223372036854775807 := GFits.ints (show GFits (.ints xs) from hfit 0 (Nat.le_of_ble_eq_true rfl))
  clear hfit
  refine gCon lv_laws_heldInt64S tab_ok (rs := [.tmp 4]) (sl := [(0, .g (.ints xs)), (1, .g (.i k))]) Try.func16 rfl Try.ntmps16 rfl enter_laws_heldInt64S rfl (by repeat constructor) ?_
  (repeat' (first | ((with_reducible apply gLI.cone); (. exact RF.mk ⟨rfl, rfl⟩)) | (with_reducible constructor) | exact NE.mk rfl | exact RF.mk rfl | exact NU.mk (by first | omega | (simp only [LNs]; omega)) | ((with_reducible apply SLT_mk); (. rfl); (. rfl); (. rfl); (. rfl)) | (with_reducible intro hc; (try simp only [HCs] at hc)) | exact OB_f | (with_reducible first | apply gNK | apply TX_seq | apply QA_and_n | apply QA_and_e | apply QA_and_r | apply gTX_cond | apply CK_if | apply TX_skip | apply TX_ret | apply TX_exit | apply QA_in_eq | apply QA_in_n | apply QA_in_r | apply QA_lp_e | apply QA_lp_r | apply gEND_1) | apply gTX_rgW tab_ok | (apply TX_blk; exact RF.mk rfl) | (refine TX_loop (id := 0) (ι := Nat) (fun i => ⟨[(0, .g (.ints xs)), (1, .g (.i (k + (i : Nat)))), (5, .g (.i i))], []⟩) (fun i => (i ≤ xs.length)) (fun i => xs.length - i) (0) ?_ ?_ ?_; (. ((first | apply gLX0 | apply gLX1 | apply gLX2 | apply gLX3 | apply gLX4 | apply gLX5 | apply gLX6 | apply gLX7 | apply gLX8 | apply gLX9 | apply gLX10) <;> (repeat' (first | (with_reducible constructor) | exact NE.mk rfl | exact RF.mk rfl | exact RF.mk ⟨rfl, rfl⟩ | exact RF.mk ⟨rfl, rfl, rfl⟩ | exact EQ.mk rfl | exact RF.mk (by decide) | (with_reducible apply EQ_int) | exact EQ.mk (by first | omega | (simp only [LNs]; omega)))); (all_goals ((first | exact EQ.mk (by omega) | exact EQ.mk (by first | (simp; done) | fail)); done)))); (. (omega)); (rintro i h1; (show TX _ _ _ _ _ [(0, .g (.ints xs)), (1, .g (.i (k + (i : Nat)))), (5, .g (.i i))] [] _))) | apply gSel.ccons))
  (all_goals (first | (refine QA_lp (i + 1) ?_ ?_ ?_; (· ((first | apply gLX0 | apply gLX1 | apply gLX2 | apply gLX3 | apply gLX4 | apply gLX5 | apply gLX6 | apply gLX7 | apply gLX8 | apply gLX9 | apply gLX10) <;> (repeat' (first | (with_reducible constructor) | exact NE.mk rfl | exact RF.mk rfl | exact RF.mk ⟨rfl, rfl⟩ | exact RF.mk ⟨rfl, rfl, rfl⟩ | exact EQ.mk rfl | exact RF.mk (by decide) | (with_reducible apply EQ_int) | exact EQ.mk (by first | omega | (simp only [LNs]; omega)))); (all_goals ((first | exact EQ.mk (by omega) | exact EQ.mk (by first | (simp; done) | fail)); done)))); (· (omega)); (· (((try dsimp only); omega)))) | (((refine EQ_int (EQ.mk ?_); first | omega | (exfalso; have q := marks_nth k xs.length i (by omega); rw [← hx] at q; omega))); done)))

def lv_laws_heldInt64SS : Nat → List Nat
  | 0 => [0, 1]
  | 1 => [0, 1, 5]
  | 2 => [0, 1, 5, 9]
  | 3 => [0, 1, 5]
  | 4 => [0, 1, 5]
  | 5 => [0, 1, 5, 19]
  | 6 => [4]
  | 7 => [4]
  | _ => []
theorem enter_laws_heldInt64SS (args : Array Value) (w : World) : (callFunc 55 args).run Try.prog w = .ok (.enter 55 args) w := callFunc_enter Try.func55 (by decide) rfl args w
set_option maxHeartbeats 1000000 in
theorem laws_heldInt64SS (k : Int) (xs : List (List Int)) (hk : NU (0 ≤ k ∧ k + cntG (List.length : List Int → Nat) xs ≤ 1099511627776)) (hx : HY (xs = markG (fun k (x : List Int) => marks k x.length) (List.length : List Int → Nat) k xs)) : Con Try.prog 55 [.rows xs, .i k] (.i (k + (cntG (List.length : List Int → Nat) xs : Nat))) := by
  have hk := hk.e
  have hx := hx.e
  refine Con.fit enter_laws_heldInt64SS fun hfit => ?_
  have hb_xs : xs.length ≤ 9223372036854775807 := GFits.lenm (show GFits (.rows xs) from hfit 0 (Nat.le_of_ble_eq_true rfl))
  have hr_xs : ∀ r ∈ xs, r.length ≤ 9223372036854775807 := fun r hr => GFits.ints (GFits.elm (show GFits (.rows xs) from hfit 0 (Nat.le_of_ble_eq_true rfl)) r hr)
  clear hfit
  refine gCon lv_laws_heldInt64SS tab_ok (rs := [.tmp 4]) (sl := [(0, .g (.rows xs)), (1, .g (.i k))]) Try.func55 rfl Try.ntmps55 rfl enter_laws_heldInt64SS rfl (by repeat constructor) ?_
  (repeat' (first | ((with_reducible apply gLI.cone); (. exact RF.mk ⟨rfl, rfl⟩)) | (with_reducible constructor) | exact NE.mk rfl | exact RF.mk rfl | exact NU.mk (by first | omega | (simp only [LNs]; omega) | ((have q := z2 (by omega); omega))) | ((with_reducible apply SLT_mk); (. rfl); (. rfl); (. rfl); (. rfl)) | ((with_reducible apply CON_of); first | apply laws_heldInt64S) | (with_reducible intro hc; (try simp only [HCs] at hc)) | exact OB_f | (with_reducible first | apply gNK | apply TX_seq | apply QA_and_n | apply QA_and_e | apply gTX_cond | apply CK_if | apply TX_skip | apply TX_ret | apply TX_exit | apply QA_in_eq | apply QA_in_n | apply QA_lp_e | apply gEND_1) | apply gTX_rgW tab_ok | (apply TX_blk; exact RF.mk rfl) | exact HY.mk (z1 (by omega)) | (refine TX_loop (id := 0) (ι := Nat) (fun i => ⟨[(0, .g (.rows xs)), (1, .g (.i (k + (cntG (List.length : List Int → Nat) (xs.take i) : Nat)))), (5, .g (.i i))], []⟩) (fun i => (i ≤ xs.length)) (fun i => xs.length - i) (0) ?_ ?_ ?_; (. ((first | apply gLX0 | apply gLX1 | apply gLX2 | apply gLX3 | apply gLX4 | apply gLX5 | apply gLX6 | apply gLX7 | apply gLX8 | apply gLX9 | apply gLX10) <;> (repeat' (first | (with_reducible constructor) | exact NE.mk rfl | exact RF.mk rfl | exact RF.mk ⟨rfl, rfl⟩ | exact RF.mk ⟨rfl, rfl, rfl⟩ | exact EQ.mk rfl | exact RF.mk (by decide) | (with_reducible apply EQ_int) | exact EQ.mk (by first | omega | (simp only [LNs]; omega) | ((have q := z2 (by omega); omega))))); (all_goals ((first | exact EQ.mk (by first | (simp [cntG]; done) | fail) | exact EQ.mk (by rw [cntG_take (by omega)]; simp only [cntP, cntCl, Int.natCast_add]; omega)); done)))); (. (omega)); (rintro i h1; have z1 : i < xs.length → nth xs i = (fun k (x : List Int) => marks k x.length) (k + (cntG (List.length : List Int → Nat) (xs.take i) : Nat)) (nth xs i) := fun h => markG_el hx h; have z2 : i < xs.length → cntG (List.length : List Int → Nat) (xs.take i) + (List.length : List Int → Nat) (nth xs i) ≤ cntG (List.length : List Int → Nat) xs := fun h => cntG_le1 h; (try simp only [cntP, cntCl] at z2); (show TX _ _ _ _ _ [(0, .g (.rows xs)), (1, .g (.i (k + (cntG (List.length : List Int → Nat) (xs.take i) : Nat)))), (5, .g (.i i))] [] _))) | apply gSel.ccons))
  (all_goals (first | (refine QA_lp (i + 1) ?_ ?_ ?_; (· ((first | apply gLX0 | apply gLX1 | apply gLX2 | apply gLX3 | apply gLX4 | apply gLX5 | apply gLX6 | apply gLX7 | apply gLX8 | apply gLX9 | apply gLX10) <;> (repeat' (first | (with_reducible constructor) | exact NE.mk rfl | exact RF.mk rfl | exact RF.mk ⟨rfl, rfl⟩ | exact RF.mk ⟨rfl, rfl, rfl⟩ | exact EQ.mk rfl | exact RF.mk (by decide) | (with_reducible apply EQ_int) | exact EQ.mk (by first | omega | (simp only [LNs]; omega) | ((have q := z2 (by omega); omega))))); (all_goals ((first | exact EQ.mk (by first | (simp [cntG]; done) | fail) | exact EQ.mk (by rw [cntG_take (by omega)]; simp only [cntP, cntCl, Int.natCast_add]; omega)); done)))); (· (omega)); (· (((try dsimp only); omega)))) | (((refine EQ_int (EQ.mk ?_); first | (exfalso; omega) | (exfalso; have q := z2 (by omega); omega) | (rw [List.take_of_length_le (by omega)]) | (simp only [cntP, cntCl] at *; exfalso; omega))); done)))

def lv_laws_heldPairS : Nat → List Nat
  | 0 => [0, 1]
  | 1 => [0, 1, 5]
  | 2 => [0, 1, 5, 9]
  | 3 => [0, 1, 5]
  | 4 => [0, 1, 5]
  | 5 => [0, 1, 5, 20]
  | 6 => [4]
  | 7 => [0, 1, 5]
  | 8 => [0, 1, 5, 29]
  | 9 => [4]
  | 10 => [4]
  | _ => []
theorem enter_laws_heldPairS (args : Array Value) (w : World) : (callFunc 56 args).run Try.prog w = .ok (.enter 56 args) w := callFunc_enter Try.func56 (by decide) rfl args w
set_option maxHeartbeats 1000000 in
theorem laws_heldPairS (k : Int) (xs : List (List Int × List Int)) (hk : NU (0 ≤ k ∧ k + cntG cntP xs ≤ 1099511627776)) (hx : HY (xs = markG markP cntP k xs)) : Con Try.prog 56 [.pairs xs, .i k] (.i (k + (cntG cntP xs : Nat))) := by
  have hk := hk.e
  have hx := hx.e
  refine Con.fit enter_laws_heldPairS fun hfit => ?_
  have hb_xs : xs.length ≤ 9223372036854775807 := GFits.lenm (show GFits (.pairs xs) from hfit 0 (Nat.le_of_ble_eq_true rfl))
  have hr_xs : ∀ r ∈ xs, r.1.length ≤ 9223372036854775807 ∧ r.2.length ≤ 9223372036854775807 := fun r hr => ⟨GFits.ints (GFits.cell (GFits.elm (show GFits (.pairs xs) from hfit 0 (Nat.le_of_ble_eq_true rfl)) r hr) (.head _)), GFits.ints (GFits.cell (GFits.elm (show GFits (.pairs xs) from hfit 0 (Nat.le_of_ble_eq_true rfl)) r hr) (.tail _ (.head _)))⟩
  clear hfit
  refine gCon lv_laws_heldPairS tab_ok (rs := [.tmp 4]) (sl := [(0, .g (.pairs xs)), (1, .g (.i k))]) Try.func56 rfl Try.ntmps56 rfl enter_laws_heldPairS rfl (by repeat constructor) ?_
  (repeat' (first | ((with_reducible apply gLI.cone); (. exact RF.mk ⟨rfl, rfl⟩)) | (with_reducible constructor) | exact NE.mk rfl | exact RF.mk rfl | exact NU.mk (by first | omega | (simp only [LNs]; omega) | ((have q := z2 (by omega); omega))) | ((with_reducible apply SLT_mk); (. rfl); (. rfl); (. rfl); (. rfl)) | ((with_reducible apply FO_mk); (. rfl); (. rfl); (. rfl); (. rfl); (. rfl)) | ((with_reducible apply CON_of); first | apply laws_heldInt64S) | (with_reducible intro hc; (try simp only [HCs] at hc)) | exact OB_f | (with_reducible first | apply gNK | apply TX_seq | apply QA_and_n | apply QA_and_e | apply gTX_cond | apply CK_if | apply TX_skip | apply TX_ret | apply TX_exit | apply QA_in_eq | apply QA_in_n | apply QA_lp_e | apply gEND_1) | apply gTX_rgW tab_ok | (apply TX_blk; exact RF.mk rfl) | exact HY.mk (congrArg Prod.fst (z1 (by omega))) | exact HY.mk (congrArg Prod.snd (z1 (by omega))) | (refine TX_loop (id := 0) (ι := Nat) (fun i => ⟨[(0, .g (.pairs xs)), (1, .g (.i (k + (cntG cntP (xs.take i) : Nat)))), (5, .g (.i i))], []⟩) (fun i => (i ≤ xs.length)) (fun i => xs.length - i) (0) ?_ ?_ ?_; (. ((first | apply gLX0 | apply gLX1 | apply gLX2 | apply gLX3 | apply gLX4 | apply gLX5 | apply gLX6 | apply gLX7 | apply gLX8 | apply gLX9 | apply gLX10) <;> (repeat' (first | (with_reducible constructor) | exact NE.mk rfl | exact RF.mk rfl | exact RF.mk ⟨rfl, rfl⟩ | exact RF.mk ⟨rfl, rfl, rfl⟩ | exact EQ.mk rfl | exact RF.mk (by decide) | (with_reducible apply EQ_int) | exact EQ.mk (by first | omega | (simp only [LNs]; omega) | ((have q := z2 (by omega); omega))))); (all_goals ((first | exact EQ.mk (by first | (simp [cntG]; done) | fail) | exact EQ.mk (by rw [cntG_take (by omega)]; simp only [cntP, cntCl, Int.natCast_add]; omega)); done)))); (. (omega)); (rintro i h1; have z1 : i < xs.length → nth xs i = markP (k + (cntG cntP (xs.take i) : Nat)) (nth xs i) := fun h => markG_el hx h; have z2 : i < xs.length → cntG cntP (xs.take i) + cntP (nth xs i) ≤ cntG cntP xs := fun h => cntG_le1 h; (try simp only [cntP, cntCl] at z2); (show TX _ _ _ _ _ [(0, .g (.pairs xs)), (1, .g (.i (k + (cntG cntP (xs.take i) : Nat)))), (5, .g (.i i))] [] _))) | apply gSel.ccons))
  (all_goals (first | (refine QA_lp (i + 1) ?_ ?_ ?_; (· ((first | apply gLX0 | apply gLX1 | apply gLX2 | apply gLX3 | apply gLX4 | apply gLX5 | apply gLX6 | apply gLX7 | apply gLX8 | apply gLX9 | apply gLX10) <;> (repeat' (first | (with_reducible constructor) | exact NE.mk rfl | exact RF.mk rfl | exact RF.mk ⟨rfl, rfl⟩ | exact RF.mk ⟨rfl, rfl, rfl⟩ | exact EQ.mk rfl | exact RF.mk (by decide) | (with_reducible apply EQ_int) | exact EQ.mk (by first | omega | (simp only [LNs]; omega) | ((have q := z2 (by omega); omega))))); (all_goals ((first | exact EQ.mk (by first | (simp [cntG]; done) | fail) | exact EQ.mk (by rw [cntG_take (by omega)]; simp only [cntP, cntCl, Int.natCast_add]; omega)); done)))); (· (omega)); (· (((try dsimp only); omega)))) | (((refine EQ_int (EQ.mk ?_); first | (exfalso; omega) | (exfalso; have q := z2 (by omega); omega) | (rw [List.take_of_length_le (by omega)]) | (simp only [cntP, cntCl] at *; exfalso; omega))); done)))

def lv_laws_heldDet : Nat → List Nat
  | 0 => [1, 2]
  | 1 => [1, 2]
  | 2 => [1, 2, 10]
  | 3 => [4]
  | 4 => [1]
  | 5 => [1, 16]
  | 6 => [4]
  | 7 => [4]
  | _ => []
theorem enter_laws_heldDet (args : Array Value) (w : World) : (callFunc 19 args).run Try.prog w = .ok (.enter 19 args) w := callFunc_enter Try.func19 (by decide) rfl args w
set_option maxHeartbeats 1000000 in
theorem laws_heldDet (k : Int) (n : List (List Int)) (p : List (List Int × List Int)) (hk : NU (0 ≤ k ∧ k + ((cntR n + cntPs p : Nat) : Int) ≤ 1099511627776)) (hn : HY (n = markR k n)) (hp : HY (p = markPs (k + (cntR n : Nat)) p)) : Con Try.prog 19 [.det n p, .i k] (.i ((k + (cntR n : Nat)) + (cntPs p : Nat))) := by
  have hk := hk.e
  have hn := hn.e
  have hp := hp.e
  refine Con.fit enter_laws_heldDet fun hfit => ?_
  have hb_n : n.length ≤ 9223372036854775807 := GFits.lenm (GFits.cell (show GFits (.det n p) from hfit 0 (Nat.le_of_ble_eq_true rfl)) (.head _))
  have hr_n : ∀ r ∈ n, r.length ≤ 9223372036854775807 := fun r hr => GFits.ints (GFits.elm (GFits.cell (show GFits (.det n p) from hfit 0 (Nat.le_of_ble_eq_true rfl)) (.head _)) r hr)
  have hb_p : p.length ≤ 9223372036854775807 := GFits.lenm (GFits.cell (show GFits (.det n p) from hfit 0 (Nat.le_of_ble_eq_true rfl)) (.tail _ (.head _)))
  have hr_p : ∀ r ∈ p, r.1.length ≤ 9223372036854775807 ∧ r.2.length ≤ 9223372036854775807 := fun r hr => ⟨GFits.ints (GFits.cell (GFits.elm (GFits.cell (show GFits (.det n p) from hfit 0 (Nat.le_of_ble_eq_true rfl)) (.tail _ (.head _))) r hr) (.head _)), GFits.ints (GFits.cell (GFits.elm (GFits.cell (show GFits (.det n p) from hfit 0 (Nat.le_of_ble_eq_true rfl)) (.tail _ (.head _))) r hr) (.tail _ (.head _)))⟩
  clear hfit
  refine gCon lv_laws_heldDet tab_ok (rs := [.tmp 4]) (sl := [(0, .g (.det n p)), (1, .g (.i k))]) Try.func19 rfl Try.ntmps19 rfl enter_laws_heldDet rfl (by repeat constructor) ?_
  (repeat' (first | ((with_reducible apply gLB.cone); (. exact RF.mk ⟨rfl, rfl⟩)) | (with_reducible constructor) | exact NE.mk rfl | exact RF.mk rfl | exact NU.mk (by first | omega | (simp only [LNs]; omega) | ((simp only [cntR, cntPs, Int.natCast_add] at *; omega))) | ((with_reducible apply FO_mk); (. rfl); (. rfl); (. rfl); (. rfl); (. rfl)) | ((with_reducible apply CON_of); first | apply laws_heldInt64SS | apply laws_heldPairS) | (with_reducible intro hc; (try simp only [HCs] at hc)) | exact OB_f | (with_reducible first | apply gNK | apply TX_seq | apply QA_and_n | apply gTX_cond | apply CK_if | apply TX_skip | apply TX_ret) | apply gTX_rgW tab_ok | apply gSel.ccons))
  (all_goals (first | (((refine EQ_int (EQ.mk ?_); first | rfl | (exfalso; omega) | (exfalso; simp only [cntR, cntPs, Int.natCast_add] at *; omega))); done)))

end Go.Proofs.Ytabfpoflhacknaa

