/- Contracts of the laws' own functions over data: sizes, copies, equality. No conditions but those that each theorem names. -/
import Derived.Test.YtabfpoflhacknaaTab
import Derived.Test.YtabfpoflhacknaaKG
import Derived.Test.YtabfpoflhacknaaT1
import Derived.Test.YtabfpoflhacknaaChecked
set_option linter.unusedSimpArgs false
set_option linter.unusedVariables false
namespace Go.Proofs.Ytabfpoflhacknaa
open Go.RowKit
open Shp

def lv_laws_szPairS : Nat → List Nat
  | 0 => [0, 1]
  | 1 => [0, 1]
  | 2 => [0, 1, 11]
  | 3 => [4]
  | 4 => [0, 1, 5]
  | 5 => [0, 1, 5, 15]
  | 6 => [0, 1, 5]
  | 7 => [0, 1, 5]
  | 8 => [0, 1, 5, 25]
  | 9 => [4]
  | 10 => [4]
  | _ => []
theorem enter_laws_szPairS (args : Array Value) (w : World) : (callFunc 40 args).run Try.prog w = .ok (.enter 40 args) w := callFunc_enter Try.func40 (by decide) rfl args w
set_option maxHeartbeats 1000000 in
theorem laws_szPairS (xs : List (List Int × List Int)) (l : Int) (hl : NU (0 ≤ l ∧ l ≤ 1048576)) : Con Try.prog 40 [.pairs xs, .i l] (.i (szPairS xs l)) := by
  have hl := hl.e
  refine Con.fit enter_laws_szPairS fun hfit => ?_
  have hb_xs : xs.length ≤ 9223372036854775807 := GFits.lenm (show GFits (.pairs xs) from hfit 0 (Nat.le_of_ble_eq_true rfl))
  have hr_xs : ∀ r ∈ xs, r.1.length ≤ 9223372036854775807 ∧ r.2.length ≤ 9223372036854775807 := fun r hr => ⟨GFits.ints (GFits.cell (GFits.elm (show GFits (.pairs xs) from hfit 0 (Nat.le_of_ble_eq_true rfl)) r hr) (.head _)), GFits.ints (GFits.cell (GFits.elm (show GFits (.pairs xs) from hfit 0 (Nat.le_of_ble_eq_true rfl)) r hr) (.tail _ (.head _)))⟩
  clear hfit
  refine gCon lv_laws_szPairS tab_ok (rs := [.tmp 4]) (sl := [(0, .g (.pairs xs)), (1, .g (.i l))]) Try.func40 rfl Try.ntmps40 rfl enter_laws_szPairS rfl (by repeat constructor) ?_
  (repeat' (first | ((with_reducible apply gLI.cagg); (. exact RF.mk ⟨rfl, rfl, rfl⟩)) | (with_reducible constructor) | exact NE.mk rfl | exact RF.mk rfl | exact NU.mk (by first | omega | (simp only [LNs]; omega)) | ((with_reducible apply SLT_mk); (. rfl); (. rfl); (. rfl); (. rfl)) | ((with_reducible apply CON_of); first | apply laws_szPair) | (with_reducible intro hc; (try simp only [HCs] at hc)) | exact OB_f | (with_reducible first | apply gNK | apply TX_seq | apply QA_and_n | apply QA_and_e | apply QA_and_r | apply gTX_cond | apply CK_if | apply TX_skip | apply TX_ret | apply TX_exit | apply QA_in_eq | apply QA_in_n | apply QA_in_r | apply QA_lp_e | apply QA_lp_r | apply gEND_1) | apply gTX_rgW tab_ok | (apply TX_blk; exact RF.mk rfl) | (refine TX_loop (id := 0) (ι := Nat × Int) (fun ⟨i, lf⟩ => ⟨[(0, .g (.pairs xs)), (1, .g (.i lf)), (5, .g (.i i))], []⟩) (fun ⟨i, lf⟩ => (i ≤ xs.length) ∧ (0 ≤ lf ∧ lf ≤ 1048576) ∧ (szGo szPair (xs.drop i) lf = szPairS xs l)) (fun ⟨i, lf⟩ => xs.length - i) (0, l - xs.length) ?_ ?_ ?_; (. ((first | apply gLX0 | apply gLX1 | apply gLX2 | apply gLX3 | apply gLX4 | apply gLX5 | apply gLX6 | apply gLX7 | apply gLX8 | apply gLX9 | apply gLX10) <;> (repeat' (first | (with_reducible constructor) | exact NE.mk rfl | exact RF.mk rfl | exact RF.mk ⟨rfl, rfl⟩ | exact RF.mk ⟨rfl, rfl, rfl⟩ | exact EQ.mk rfl | exact RF.mk (by decide) | (with_reducible apply EQ_int) | exact EQ.mk (by first | omega | (simp only [LNs]; omega)))))); (. ((refine ⟨by omega, by omega, ?_⟩; unfold szPairS szThen; rw [if_neg (by omega)]; rfl))); (rintro ⟨i, lf⟩ ⟨h1, h2, h3⟩; (show TX _ _ _ _ _ [(0, .g (.pairs xs)), (1, .g (.i lf)), (5, .g (.i i))] [] _))) | apply gSel.ccons))
  (all_goals (first | (refine QA_lp (i + 1, szPair (nth xs i) lf) ?_ ?_ ?_; (· ((first | apply gLX0 | apply gLX1 | apply gLX2 | apply gLX3 | apply gLX4 | apply gLX5 | apply gLX6 | apply gLX7 | apply gLX8 | apply gLX9 | apply gLX10) <;> (repeat' (first | (with_reducible constructor) | exact NE.mk rfl | exact RF.mk rfl | exact RF.mk ⟨rfl, rfl⟩ | exact RF.mk ⟨rfl, rfl, rfl⟩ | exact EQ.mk rfl | exact RF.mk (by decide) | (with_reducible apply EQ_int) | exact EQ.mk (by first | omega | (simp only [LNs]; omega)))))); (· ((have hc2 : 0 ≤ szPair (nth xs i) lf := hc; have q := szPair_ok (nth xs i) lf hc2 (by omega); refine ⟨by omega, ⟨hc, by omega⟩, ?_⟩; rw [drop_nth (by omega)] at h3; rw [← h3]; simp only [szGo]; unfold szThen; rw [if_neg (by omega)]))); (· (((try dsimp only); omega)))) | (((refine EQ_int (EQ.mk ?_); first | (rw [← h3, drop_nth (by omega)]; simp only [szGo]; unfold szThen; rw [if_pos (show szPair (nth xs i) lf < 0 from hc)]) | (rw [← h3, List.drop_eq_nil_of_le (by omega)]; rfl) | (unfold szPairS szThen; rw [if_pos (by omega)]))); done)))

def lv_laws_toPairS : Nat → List Nat
  | 0 => [0]
  | 1 => [0, 3]
  | 2 => [0, 3, 4]
  | 3 => [0, 3, 4, 11]
  | 4 => [0, 3, 4]
  | 5 => [0, 3, 4]
  | 6 => [2]
  | _ => []
theorem enter_laws_toPairS (args : Array Value) (w : World) : (callFunc 43 args).run Try.prog w = .ok (.enter 43 args) w := callFunc_enter Try.func43 (by decide) rfl args w
set_option maxHeartbeats 1000000 in
theorem laws_toPairS (xs : List (List Int × List Int)) (hs : HY (smPairS xs)) : Con Try.prog 43 [.pairs xs] (.pairs xs) := by
  have hs := hs.e
  refine Con.fit enter_laws_toPairS fun hfit => ?_
  have hb_xs : xs.length ≤ 9223372036854775807 := GFits.lenm (show GFits (.pairs xs) from hfit 0 (Nat.le_of_ble_eq_true rfl))
  have hr_xs : ∀ r ∈ xs, r.1.length ≤ 9223372036854775807 ∧ r.2.length ≤ 9223372036854775807 := fun r hr => ⟨GFits.ints (GFits.cell (GFits.elm (show GFits (.pairs xs) from hfit 0 (Nat.le_of_ble_eq_true rfl)) r hr) (.head _)), GFits.ints (GFits.cell (GFits.elm (show GFits (.pairs xs) from hfit 0 (Nat.le_of_ble_eq_true rfl)) r hr) (.tail _ (.head _)))⟩
  clear hfit
  have hs1 := hs.1
  refine gCon lv_laws_toPairS tab_ok (rs := [.tmp 2]) (sl := [(0, .g (.pairs xs))]) Try.func43 rfl Try.ntmps43 rfl enter_laws_toPairS rfl (by repeat constructor) ?_
  (repeat' (first | ((with_reducible apply gLI.cagg); (. exact RF.mk ⟨rfl, rfl, rfl⟩)) | (with_reducible constructor) | exact NE.mk rfl | exact RF.mk rfl | exact RF.mk ⟨rfl, rfl⟩ | exact NU.mk (by first | omega | (simp only [LNs]; omega)) | ((with_reducible apply SLT_mk); (. rfl); (. rfl); (. rfl); (. rfl)) | ((with_reducible apply CUT_all); (. with_reducible first | exact LEN_map _ _ | exact LEN_nil | exact LEN_1 _ | exact LEN_2 _ _ | exact LEN_any _); (. first | rfl | omega); (. first | rfl | omega)) | ((with_reducible apply CON_of); first | apply laws_toPair) | (with_reducible intro hc; (try simp only [HCs] at hc)) | exact OB_f | exact DEC.mk (by decide) | ((with_reducible apply MZ_st); (. rfl); (. rfl); (. rfl); (. rfl); (. rfl)) | (with_reducible first | apply gNK | apply TX_seq | apply QA_and_n | apply QA_and_e | apply gTX_cond | apply CK_if | apply TX_skip | apply TX_ret | apply TX_exit | apply QA_in_eq | apply QA_in_n | apply QA_lp_e | apply gEND_1) | apply gTX_rgW tab_ok | (apply TX_blk; exact RF.mk rfl) | exact HY.mk (hs.2 _ (nth_mem (by omega))) | (refine TX_loop (id := 0) (ι := Nat × (List (List Int × List Int))) (fun ⟨i, ys⟩ => ⟨[(0, .g (.pairs xs)), (3, .own 0 0 xs.length), (4, .g (.i i))], [(0, .arr 2 true (ys.map GV.pairP))]⟩) (fun ⟨i, ys⟩ => (i ≤ xs.length) ∧ (ys.length = xs.length) ∧ (ys.take i = xs.take i)) (fun ⟨i, ys⟩ => xs.length - i) (0, List.replicate xs.length default) ?_ ?_ ?_; (. ((first | apply gLX0 | apply gLX1 | apply gLX2 | apply gLX3 | apply gLX4 | apply gLX5 | apply gLX6 | apply gLX7 | apply gLX8 | apply gLX9 | apply gLX10) <;> (repeat' (first | (with_reducible constructor) | exact NE.mk rfl | exact RF.mk rfl | exact RF.mk ⟨rfl, rfl⟩ | exact RF.mk ⟨rfl, rfl, rfl⟩ | exact EQ.mk rfl | exact RF.mk (by decide) | (with_reducible apply EQ_int) | exact EQ.mk (by first | omega | (simp only [LNs]; omega)))); (all_goals ((try (first | exact EQ.mk (by simp only [List.map_replicate]; rfl) | exact EQ.mk (by first | (simp; done) | fail))); done)))); (. (exact ⟨by omega, by simp, by simp⟩)); (rintro ⟨i, ys⟩ ⟨h1, h2, h3⟩; (show TX _ _ _ _ _ [(0, .g (.pairs xs)), (3, .own 0 0 xs.length), (4, .g (.i i))] [(0, .arr 2 true (ys.map GV.pairP))] _))) | apply gSel.ccons))
  (all_goals (first | (refine QA_lp (i + 1, ys.set i (nth xs i)) ?_ ?_ ?_; (· ((first | apply gLX0 | apply gLX1 | apply gLX2 | apply gLX3 | apply gLX4 | apply gLX5 | apply gLX6 | apply gLX7 | apply gLX8 | apply gLX9 | apply gLX10) <;> (repeat' (first | (with_reducible constructor) | exact NE.mk rfl | exact RF.mk rfl | exact RF.mk ⟨rfl, rfl⟩ | exact RF.mk ⟨rfl, rfl, rfl⟩ | exact EQ.mk rfl | exact RF.mk (by decide) | (with_reducible apply EQ_int) | exact EQ.mk (by first | omega | (simp only [LNs]; omega)))); (all_goals ((try (first | exact EQ.mk (by simp only [List.map_replicate]; rfl) | exact EQ.mk (by first | (simp; done) | fail))); done)))); (· ((refine ⟨by omega, by simp [h2], ?_⟩; rw [take_set (by omega), h3, take_nth (by omega)]))); (· (((try dsimp only); omega)))) | (((refine EQ_sl (EQ_map (EQ.mk ?_)); rw [← List.take_length (l := xs), ← List.take_length (l := ys), show ys.length = i by omega, h3, show xs.length = i by omega])); done)))

def lv_laws_eqPairS : Nat → List Nat
  | 0 => [0, 1]
  | 1 => [0, 1, 10]
  | 2 => [4]
  | 3 => [0, 1, 5]
  | 4 => [0, 1, 5, 14]
  | 5 => [0, 1, 5]
  | 6 => [0, 1, 5, 26]
  | 7 => [4]
  | 8 => [4]
  | _ => []
theorem enter_laws_eqPairS (args : Array Value) (w : World) : (callFunc 48 args).run Try.prog w = .ok (.enter 48 args) w := callFunc_enter Try.func48 (by decide) rfl args w
set_option maxHeartbeats 1000000 in
theorem laws_eqPairS (xs ys : List (List Int × List Int)) : Con Try.prog 48 [.pairs xs, .pairs ys] (.bool (decide (xs = ys))) := by
  refine Con.fit enter_laws_eqPairS fun hfit => ?_
  have hb_xs : xs.length ≤ 9223372036854775807 := GFits.lenm (show GFits (.pairs xs) from hfit 0 (Nat.le_of_ble_eq_true rfl))
  have hr_xs : ∀ r ∈ xs, r.1.length ≤ 9223372036854775807 ∧ r.2.length ≤ 9223372036854775807 := fun r hr => ⟨GFits.ints (GFits.cell (GFits.elm (show GFits (.pairs xs) from hfit 0 (Nat.le_of_ble_eq_true rfl)) r hr) (.head _)), GFits.ints (GFits.cell (GFits.elm (show GFits (.pairs xs) from hfit 0 (Nat.le_of_ble_eq_true rfl)) r hr) (.tail _ (.head _)))⟩
  have hb_ys : ys.length ≤ 9223372036854775807 := GFits.lenm (show GFits (.pairs ys) from hfit 1 (Nat.le_of_ble_eq_true rfl))
  have hr_ys : ∀ r ∈ ys, r.1.length ≤ 9223372036854775807 ∧ r.2.length ≤ 9223372036854775807 := fun r hr => ⟨GFits.ints (GFits.cell (GFits.elm (show GFits (.pairs ys) from hfit 1 (Nat.le_of_ble_eq_true rfl)) r hr) (.head _)), GFits.ints (GFits.cell (GFits.elm (show GFits (.pairs ys) from hfit 1 (Nat.le_of_ble_eq_true rfl)) r hr) (.tail _ (.head _)))⟩
  clear hfit
  refine gCon lv_laws_eqPairS tab_ok (rs := [.tmp 4]) (sl := [(0, .g (.pairs xs)), (1, .g (.pairs ys))]) Try.func48 rfl Try.ntmps48 rfl enter_laws_eqPairS rfl (by repeat constructor) ?_
  (repeat' (first | ((with_reducible apply gLI.cagg); (. exact RF.mk ⟨rfl, rfl, rfl⟩)) | (with_reducible constructor) | exact NE.mk rfl | exact RF.mk rfl | exact NU.mk (by first | omega | (simp only [LNs]; omega)) | ((with_reducible apply SLT_mk); (. rfl); (. rfl); (. rfl); (. rfl)) | ((with_reducible apply CON_of); first | apply laws_eqPair) | (with_reducible intro hc; (try simp only [HCs] at hc)) | exact OB_f | ((with_reducible apply OB_t); kernel_rfl) | (with_reducible first | apply gNK | apply TX_seq | apply QA_and_n | apply QA_and_e | apply QA_and_r | apply gTX_cond | apply CK_if | apply TX_skip | apply TX_ret | apply TX_exit | apply QA_in_eq | apply QA_in_n | apply QA_in_r | apply QA_lp_e | apply QA_lp_r | apply gEND_1) | apply gTX_rgW tab_ok | apply gTX_rgD tab_ok rfl | (apply TX_blk; exact RF.mk rfl) | (refine TX_loop (id := 0) (ι := Nat) (fun i => ⟨[(0, .g (.pairs xs)), (1, .g (.pairs ys)), (5, .g (.i i))], []⟩) (fun i => (i ≤ xs.length) ∧ (∀ z, z < i → (fun i => decide (nth xs i = nth ys i)) z = true) ∧ (xs.length = ys.length)) (fun i => xs.length - i) (0) ?_ ?_ ?_; (. ((first | apply gLX0 | apply gLX1 | apply gLX2 | apply gLX3 | apply gLX4 | apply gLX5 | apply gLX6 | apply gLX7 | apply gLX8 | apply gLX9 | apply gLX10) <;> (repeat' (first | (with_reducible constructor) | exact NE.mk rfl | exact RF.mk rfl | exact RF.mk ⟨rfl, rfl⟩ | exact RF.mk ⟨rfl, rfl, rfl⟩ | exact EQ.mk rfl | exact RF.mk (by decide) | (with_reducible apply EQ_int) | exact EQ.mk (by first | omega | (simp only [LNs]; omega)))))); (. (exact ⟨by omega, allN_zero, by omega⟩)); (rintro i ⟨h1, h2, h3⟩; (show TX _ _ _ _ _ [(0, .g (.pairs xs)), (1, .g (.pairs ys)), (5, .g (.i i))] [] _))) | apply gSel.ccons))
  (all_goals (first | (refine QA_lp (i + 1) ?_ ?_ ?_; (· ((first | apply gLX0 | apply gLX1 | apply gLX2 | apply gLX3 | apply gLX4 | apply gLX5 | apply gLX6 | apply gLX7 | apply gLX8 | apply gLX9 | apply gLX10) <;> (repeat' (first | (with_reducible constructor) | exact NE.mk rfl | exact RF.mk rfl | exact RF.mk ⟨rfl, rfl⟩ | exact RF.mk ⟨rfl, rfl, rfl⟩ | exact EQ.mk rfl | exact RF.mk (by decide) | (with_reducible apply EQ_int) | exact EQ.mk (by first | omega | (simp only [LNs]; omega)))))); (· ((refine ⟨by omega, allN_step h2 ?_, h3⟩; ((try simp only [Bool.and_eq_true, Bool.or_eq_true, Bool.and_eq_false_iff, Bool.or_eq_false_iff, decide_eq_true_eq, decide_eq_false_iff_not, Bool.not_eq_true', Bool.not_eq_false', beq_iff_eq, bne_iff_ne, ne_eq, beq_eq_false_iff_ne, bne_eq_false_iff_eq] at *); (first | omega | assumption | grind))))); (· (((try dsimp only); omega)))) | (((refine EQ_bool ?_; first | (rw [eq_comm, decide_eq_false_iff_not]; intro e; subst e; first | exact absurd rfl (by assumption) | simp_all | grind) | (rw [← decide_rows (by omega)]; refine (allN_true fun j hj => h2 j (by omega)).symm))); done)))

def lv_laws_szDet : Nat → List Nat
  | 0 => [1, 2]
  | 1 => [1, 2]
  | 2 => [1, 2, 10]
  | 3 => [4]
  | 4 => [1]
  | 5 => [1, 16]
  | 6 => [4]
  | 7 => [4]
  | _ => []
theorem enter_laws_szDet (args : Array Value) (w : World) : (callFunc 7 args).run Try.prog w = .ok (.enter 7 args) w := callFunc_enter Try.func7 (by decide) rfl args w
set_option maxHeartbeats 1000000 in
theorem laws_szDet (next : List (List Int)) (pairs : List (List Int × List Int)) (l : Int) (hl : NU (0 ≤ l ∧ l ≤ 1048576)) : Con Try.prog 7 [.det next pairs, .i l] (.i (szDet (next, pairs) l)) := by
  have hl := hl.e
  refine Con.fit enter_laws_szDet fun hfit => ?_
  have hb_next : next.length ≤ 9223372036854775807 := GFits.lenm (GFits.cell (show GFits (.det next pairs) from hfit 0 (Nat.le_of_ble_eq_true rfl)) (.head _))
  have hr_next : ∀ r ∈ next, r.length ≤ 9223372036854775807 := fun r hr => GFits.ints (GFits.elm (GFits.cell (show GFits (.det next pairs) from hfit 0 (Nat.le_of_ble_eq_true rfl)) (.head _)) r hr)
  have hb_pairs : pairs.length ≤ 9223372036854775807 := GFits.lenm (GFits.cell (show GFits (.det next pairs) from hfit 0 (Nat.le_of_ble_eq_true rfl)) (.tail _ (.head _)))
  have hr_pairs : ∀ r ∈ pairs, r.1.length ≤ 9223372036854775807 ∧ r.2.length ≤ 9223372036854775807 := fun r hr => ⟨GFits.ints (GFits.cell (GFits.elm (GFits.cell (show GFits (.det next pairs) from hfit 0 (Nat.le_of_ble_eq_true rfl)) (.tail _ (.head _))) r hr) (.head _)), GFits.ints (GFits.cell (GFits.elm (GFits.cell (show GFits (.det next pairs) from hfit 0 (Nat.le_of_ble_eq_true rfl)) (.tail _ (.head _))) r hr) (.tail _ (.head _)))⟩
  clear hfit
  refine gCon lv_laws_szDet tab_ok (rs := [.tmp 4]) (sl := [(0, .g (.det next pairs)), (1, .g (.i l))]) Try.func7 rfl Try.ntmps7 rfl enter_laws_szDet rfl (by repeat constructor) ?_
  (repeat' (first | ((with_reducible apply gLB.cone); (. exact RF.mk ⟨rfl, rfl⟩)) | (with_reducible constructor) | exact NE.mk rfl | exact RF.mk rfl | exact NU.mk (by first | omega | (simp only [LNs]; omega) | (first | omega | (have q0 := szInt64SS_ok next (l) (by assumption) (by omega); first | omega | (have q1 := szPairS_ok pairs (szInt64SS next (l)) (by assumption) (by omega); omega)))) | ((with_reducible apply FO_mk); (. rfl); (. rfl); (. rfl); (. rfl); (. rfl)) | ((with_reducible apply CON_of); first | apply laws_szInt64SS | apply laws_szPairS) | (with_reducible intro hc; (try simp only [HCs] at hc)) | exact OB_f | (with_reducible first | apply gNK | apply TX_seq | apply QA_and_n | apply QA_and_r | apply gTX_cond | apply CK_if | apply TX_skip | apply TX_ret | apply gEND_1) | apply gTX_rgW tab_ok | apply gSel.ccons))
  (all_goals (first | (((refine EQ_int (EQ.mk ?_); unfold szDet szThen; dsimp only; repeat' split; all_goals omega)); done)))

def lv_laws_toDet : Nat → List Nat
  | 0 => [1, 2]
  | 1 => [1, 2, 3]
  | 2 => [1, 2, 3]
  | 3 => [2, 3]
  | 4 => [2]
  | _ => []
theorem enter_laws_toDet (args : Array Value) (w : World) : (callFunc 10 args).run Try.prog w = .ok (.enter 10 args) w := callFunc_enter Try.func10 (by decide) rfl args w
set_option maxHeartbeats 1000000 in
theorem laws_toDet (next : List (List Int)) (pairs : List (List Int × List Int)) (hs : HY (smDet (next, pairs))) : Con Try.prog 10 [.det next pairs] (.det next pairs) := by
  have hs := hs.e
  refine Con.fit enter_laws_toDet fun hfit => ?_
  have hb_next : next.length ≤ 9223372036854775807 := GFits.lenm (GFits.cell (show GFits (.det next pairs) from hfit 0 (Nat.le_of_ble_eq_true rfl)) (.head _))
  have hr_next : ∀ r ∈ next, r.length ≤ 9223372036854775807 := fun r hr => GFits.ints (GFits.elm (GFits.cell (show GFits (.det next pairs) from hfit 0 (Nat.le_of_ble_eq_true rfl)) (.head _)) r hr)
  have hb_pairs : pairs.length ≤ 9223372036854775807 := GFits.lenm (GFits.cell (show GFits (.det next pairs) from hfit 0 (Nat.le_of_ble_eq_true rfl)) (.tail _ (.head _)))
  have hr_pairs : ∀ r ∈ pairs, r.1.length ≤ 9223372036854775807 ∧ r.2.length ≤ 9223372036854775807 := fun r hr => ⟨GFits.ints (GFits.cell (GFits.elm (GFits.cell (show GFits (.det next pairs) from hfit 0 (Nat.le_of_ble_eq_true rfl)) (.tail _ (.head _))) r hr) (.head _)), GFits.ints (GFits.cell (GFits.elm (GFits.cell (show GFits (.det next pairs) from hfit 0 (Nat.le_of_ble_eq_true rfl)) (.tail _ (.head _))) r hr) (.tail _ (.head _)))⟩
  clear hfit
  refine gCon lv_laws_toDet tab_ok (rs := [.cell 2 35]) (sl := [(0, .g (.det next pairs))]) Try.func10 rfl Try.ntmps10 rfl enter_laws_toDet rfl (by repeat constructor) ?_
  (repeat' (first | ((with_reducible apply gLB.cagg); (. exact RF.mk ⟨rfl, rfl, rfl⟩)) | ((with_reducible apply gLB.cone); (. exact RF.mk ⟨rfl, rfl⟩)) | (with_reducible constructor) | exact NE.mk rfl | exact RF.mk rfl | exact RF.mk ⟨rfl, rfl⟩ | ((with_reducible apply FO_mk); (. rfl); (. rfl); (. rfl); (. rfl); (. rfl)) | ((with_reducible apply CUT_all); (. with_reducible first | exact LEN_map _ _ | exact LEN_nil | exact LEN_1 _ | exact LEN_2 _ _ | exact LEN_any _); (. first | rfl | omega); (. first | rfl | omega)) | ((with_reducible apply CON_of); first | apply laws_toInt64SS | apply laws_toPairS) | exact OB_f | (with_reducible first | apply gNK | apply TX_seq | apply QA_and_n | apply TX_ret | apply gEND_1) | apply gTX_rgW tab_ok | exact HY.mk hs.1 | exact HY.mk hs.2 | apply gSel.ccons))
  (all_goals (first | (((first | (refine EQ_bool ?_; first | (simp_all; done) | (rw [Bool.eq_iff_iff]; simp only [Bool.and_eq_true, Bool.or_eq_true, decide_eq_true_eq, Bool.false_eq_true, false_iff, true_iff, iff_false, iff_true, not_and, not_or, Bool.not_eq_true, decide_eq_false_iff_not, beq_iff_eq, bne_iff_ne, ne_eq, Bool.not_eq_true', Bool.not_eq_false', Int.not_le, Int.not_lt]; omega)) | ((repeat (first | apply EQ_tup | apply EQ_cons | apply EQ_agg | apply EQ_sl | apply EQ_map)); all_goals (first | exact EQ.mk rfl | exact EQ.mk (by first | (simp; done) | fail) | exact EQ.mk (by first | (simp_all; done) | fail))))); done)))

def lv_laws_eqDet : Nat → List Nat
  | 0 => [2, 3]
  | 1 => [2, 3, 10]
  | 2 => [4]
  | 3 => [16]
  | 4 => [4]
  | 5 => [4]
  | _ => []
theorem enter_laws_eqDet (args : Array Value) (w : World) : (callFunc 13 args).run Try.prog w = .ok (.enter 13 args) w := callFunc_enter Try.func13 (by decide) rfl args w
set_option maxHeartbeats 1000000 in
theorem laws_eqDet (next : List (List Int)) (pairs : List (List Int × List Int)) (next' : List (List Int)) (pairs' : List (List Int × List Int)) : Con Try.prog 13 [.det next pairs, .det next' pairs'] (.bool (decide (next = next') && decide (pairs = pairs'))) := by
  refine Con.fit enter_laws_eqDet fun hfit => ?_
  have hb_next : next.length ≤ 9223372036854775807 := GFits.lenm (GFits.cell (show GFits (.det next pairs) from hfit 0 (Nat.le_of_ble_eq_true rfl)) (.head _))
  have hr_next : ∀ r ∈ next, r.length ≤ 9223372036854775807 := fun r hr => GFits.ints (GFits.elm (GFits.cell (show GFits (.det next pairs) from hfit 0 (Nat.le_of_ble_eq_true rfl)) (.head _)) r hr)
  have hb_pairs : pairs.length ≤ 9223372036854775807 := GFits.lenm (GFits.cell (show GFits (.det next pairs) from hfit 0 (Nat.le_of_ble_eq_true rfl)) (.tail _ (.head _)))
  have hr_pairs : ∀ r ∈ pairs, r.1.length ≤ 9223372036854775807 ∧ r.2.length ≤ 9223372036854775807 := fun r hr => ⟨GFits.ints (GFits.cell (GFits.elm (GFits.cell (show GFits (.det next pairs) from hfit 0 (Nat.le_of_ble_eq_true rfl)) (.tail _ (.head _))) r hr) (.head _)), GFits.ints (GFits.cell (GFits.elm (GFits.cell (show GFits (.det next pairs) from hfit 0 (Nat.le_of_ble_eq_true rfl)) (.tail _ (.head _))) r hr) (.tail _ (.head _)))⟩
  have hb_next' : next'.length ≤ 9223372036854775807 := GFits.lenm (GFits.cell (show GFits (.det next' pairs') from hfit 1 (Nat.le_of_ble_eq_true rfl)) (.head _))
  have hr_next' : ∀ r ∈ next', r.length ≤ 9223372036854775807 := fun r hr => GFits.ints (GFits.elm (GFits.cell (show GFits (.det next' pairs') from hfit 1 (Nat.le_of_ble_eq_true rfl)) (.head _)) r hr)
  have hb_pairs' : pairs'.length ≤ 9223372036854775807 := GFits.lenm (GFits.cell (show GFits (.det next' pairs') from hfit 1 (Nat.le_of_ble_eq_true rfl)) (.tail _ (.head _)))
  have hr_pairs' : ∀ r ∈ pairs', r.1.length ≤ 9223372036854775807 ∧ r.2.length ≤ 9223372036854775807 := fun r hr => ⟨GFits.ints (GFits.cell (GFits.elm (GFits.cell (show GFits (.det next' pairs') from hfit 1 (Nat.le_of_ble_eq_true rfl)) (.tail _ (.head _))) r hr) (.head _)), GFits.ints (GFits.cell (GFits.elm (GFits.cell (show GFits (.det next' pairs') from hfit 1 (Nat.le_of_ble_eq_true rfl)) (.tail _ (.head _))) r hr) (.tail _ (.head _)))⟩
  clear hfit
  refine gCon lv_laws_eqDet tab_ok (rs := [.tmp 4]) (sl := [(0, .g (.det next pairs)), (1, .g (.det next' pairs'))]) Try.func13 rfl Try.ntmps13 rfl enter_laws_eqDet rfl (by repeat constructor) ?_
  (repeat' (first | ((with_reducible apply gLB.cone); (. exact RF.mk ⟨rfl, rfl⟩)) | (with_reducible constructor) | exact NE.mk rfl | exact RF.mk rfl | ((with_reducible apply FO_mk); (. rfl); (. rfl); (. rfl); (. rfl); (. rfl)) | ((with_reducible apply CON_of); first | apply laws_eqInt64SS | apply laws_eqPairS) | (with_reducible intro hc; (try simp only [HCs] at hc)) | exact OB_f | (with_reducible first | apply gNK | apply TX_seq | apply QA_and_n | apply QA_and_r | apply gTX_cond | apply CK_if | apply TX_skip | apply TX_ret | apply gEND_1) | apply gTX_rgW tab_ok | apply gSel.ccons))
  (all_goals (first | (((refine EQ_bool ?_; simp_all; done)); done)))

end Go.Proofs.Ytabfpoflhacknaa

