/- Contracts of the laws' own functions over data: sizes, copies, equality. No conditions but those that each theorem names. -/
import Derived.Test.YtgfnpphhdkjlmaaTab
import Derived.Test.YtgfnpphhdkjlmaaKG
import Derived.Test.YtgfnpphhdkjlmaaT1
import Derived.Test.YtgfnpphhdkjlmaaChecked
set_option linter.unusedSimpArgs false
set_option linter.unusedVariables false
namespace Go.Proofs.Ytgfnpphhdkjlmaa
open Go.RowKit
open Shp
def lv_laws_eqPairS : Nat → List Nat
  | 0 => [0, 1]
  | 1 => [0, 1, 10]
  | 2 => [4]
  | 3 => [0, 1, 5]
  | 4 => [0, 1, 5, 14]
  | 5 => [0, 1, 5]
  | 6 => [0, 1, 5, 26]
  | 7 => [4]
  | 8 => [4]
  | _ => []
theorem enter_laws_eqPairS (args : Array Value) (w : World) : (callFunc 92 args).run Try.prog w = .ok (.enter 92 args) w := callFunc_enter Try.func92 (by decide) rfl args w
set_option maxHeartbeats 1000000 in
theorem laws_eqPairS (xs ys : List (List Int × List Int)) : Con Try.prog 92 [.pairs xs, .pairs ys] (.bool (decide (xs = ys))) := by
  refine Con.fit enter_laws_eqPairS fun hfit => ?_
  have hb_xs : xs.length ≤ 9223372036854775807 := GFits.lenm (show GFits (.pairs xs) from hfit 0 (Nat.le_of_ble_eq_true rfl))
  have hr_xs : ∀ r ∈ xs, r.1.length ≤ 9223372036854775807 ∧ r.2.length ≤ 9223372036854775807 := fun r hr => ⟨GFits.ints (GFits.cell (GFits.elm (show GFits (.pairs xs) from hfit 0 (Nat.le_of_ble_eq_true rfl)) r hr) (.head _)), GFits.ints (GFits.cell (GFits.elm (show GFits (.pairs xs) from hfit 0 (Nat.le_of_ble_eq_true rfl)) r hr) (.tail _ (.head _)))⟩
  have hb_ys : ys.length ≤ 9223372036854775807 := GFits.lenm (show GFits (.pairs ys) from hfit 1 (Nat.le_of_ble_eq_true rfl))
  have hr_ys : ∀ r ∈ ys, r.1.length ≤ 9223372036854775807 ∧ r.2.length ≤ 9223372036854775807 := fun r hr => ⟨GFits.ints (GFits.cell (GFits.elm (show GFits (.pairs ys) from hfit 1 (Nat.le_of_ble_eq_true rfl)) r hr) (.head _)), GFits.ints (GFits.cell (GFits.elm (show GFits (.pairs ys) from hfit 1 (Nat.le_of_ble_eq_true rfl)) r hr) (.tail _ (.head _)))⟩
  clear hfit
  refine gCon lv_laws_eqPairS tab_ok (rs := [.tmp 4]) (sl := [(0, .g (.pairs xs)), (1, .g (.pairs ys))]) Try.func92 rfl Try.ntmps92 rfl enter_laws_eqPairS rfl (by repeat constructor) ?_
  (repeat' (first | ((with_reducible apply gLI.cagg); (. exact RF.mk ⟨rfl, rfl, rfl⟩)) | (with_reducible constructor) | exact NE.mk rfl | exact RF.mk rfl | exact NU.mk (by first | omega | (simp only [LNs]; omega)) | ((with_reducible apply SLT_mk); (. rfl); (. rfl); (. rfl); (. rfl)) | ((with_reducible apply CON_of); first | apply laws_eqPair) | (with_reducible intro hc; (try simp only [HCs] at hc)) | exact OB_f | ((with_reducible apply OB_t); kernel_rfl) | (with_reducible first | apply gNK | apply TX_seq | apply QA_and_n | apply QA_and_e | apply QA_and_r | apply gTX_cond | apply CK_if | apply TX_skip | apply TX_ret | apply TX_exit | apply QA_in_eq | apply QA_in_n | apply QA_in_r | apply QA_lp_e | apply QA_lp_r | apply gEND_1) | apply gTX_rgW tab_ok | apply gTX_rgD tab_ok rfl | (apply TX_blk; exact RF.mk rfl) | (refine TX_loop (id := 0) (ι := Nat) (fun i => ⟨[(0, .g (.pairs xs)), (1, .g (.pairs ys)), (5, .g (.i i))], []⟩) (fun i => (i ≤ xs.length) ∧ (∀ z, z < i → (fun i => decide (nth xs i = nth ys i)) z = true) ∧ (xs.length = ys.length)) (fun i => xs.length - i) (0) ?_ ?_ ?_; (. ((first | apply gLX0 | apply gLX1 | apply gLX2 | apply gLX3 | apply gLX4 | apply gLX5 | apply gLX6 | apply gLX7 | apply gLX8 | apply gLX9 | apply gLX10) <;> (repeat' (first | (with_reducible constructor) | exact NE.mk rfl | exact RF.mk rfl | exact RF.mk ⟨rfl, rfl⟩ | exact RF.mk ⟨rfl, rfl, rfl⟩ | exact EQ.mk rfl | exact RF.mk (by decide) | (with_reducible apply EQ_int) | exact EQ.mk (by first | omega | (simp only [LNs]; omega)))))); (. (exact ⟨by omega, allN_zero, by omega⟩)); (rintro i ⟨h1, h2, h3⟩; (show TX _ _ _ _ _ [(0, .g (.pairs xs)), (1, .g (.pairs ys)), (5, .g (.i i))] [] _))) | apply gSel.ccons))
  (all_goals (first | (refine QA_lp (i + 1) ?_ ?_ ?_; (· ((first | apply gLX0 | apply gLX1 | apply gLX2 | apply gLX3 | apply gLX4 | apply gLX5 | apply gLX6 | apply gLX7 | apply gLX8 | apply gLX9 | apply gLX10) <;> (repeat' (first | (with_reducible constructor) | exact NE.mk rfl | exact RF.mk rfl | exact RF.mk ⟨rfl, rfl⟩ | exact RF.mk ⟨rfl, rfl, rfl⟩ | exact EQ.mk rfl | exact RF.mk (by decide) | (with_reducible apply EQ_int) | exact EQ.mk (by first | omega | (simp only [LNs]; omega)))))); (· ((refine ⟨by omega, allN_step h2 ?_, h3⟩; ((try simp only [Bool.and_eq_true, Bool.or_eq_true, Bool.and_eq_false_iff, Bool.or_eq_false_iff, decide_eq_true_eq, decide_eq_false_iff_not, Bool.not_eq_true', Bool.not_eq_false', beq_iff_eq, bne_iff_ne, ne_eq, beq_eq_false_iff_ne, bne_eq_false_iff_eq] at *); (first | omega | assumption | grind))))); (· (((try dsimp only); omega)))) | (((refine EQ_bool ?_; first | (rw [eq_comm, decide_eq_false_iff_not]; intro e; subst e; first | exact absurd rfl (by assumption) | simp_all | grind) | (rw [← decide_rows (by omega)]; refine (allN_true fun j hj => h2 j (by omega)).symm))); done)))
def lv_laws_szClauseS : Nat → List Nat
  | 0 => [0, 1]
  | 1 => [0, 1]
  | 2 => [0, 1, 11]
  | 3 => [4]
  | 4 => [0, 1, 5]
  | 5 => [0, 1, 5, 15]
  | 6 => [0, 1, 5]
  | 7 => [0, 1, 5]
  | 8 => [0, 1, 5, 25]
  | 9 => [4]
  | 10 => [4]
  | _ => []
theorem enter_laws_szClauseS (args : Array Value) (w : World) : (callFunc 45 args).run Try.prog w = .ok (.enter 45 args) w := callFunc_enter Try.func45 (by decide) rfl args w
set_option maxHeartbeats 1000000 in
theorem laws_szClauseS (xs : List (Int × List Int × List Int)) (l : Int) (hl : NU (0 ≤ l ∧ l ≤ 1048576)) : Con Try.prog 45 [.clauses xs, .i l] (.i (szClauseS xs l)) := by
  have hl := hl.e
  refine Con.fit enter_laws_szClauseS fun hfit => ?_
  have hb_xs : xs.length ≤ 9223372036854775807 := GFits.lenm (show GFits (.clauses xs) from hfit 0 (Nat.le_of_ble_eq_true rfl))
  have hr_xs : ∀ r ∈ xs, r.2.1.length ≤ 9223372036854775807 ∧ r.2.2.length ≤ 9223372036854775807 := fun r hr => ⟨GFits.ints (GFits.cell (GFits.elm (show GFits (.clauses xs) from hfit 0 (Nat.le_of_ble_eq_true rfl)) r hr) (.tail _ (.head _))), GFits.ints (GFits.cell (GFits.elm (show GFits (.clauses xs) from hfit 0 (Nat.le_of_ble_eq_true rfl)) r hr) (.tail _ (.tail _ (.head _))))⟩
  clear hfit
  refine gCon lv_laws_szClauseS tab_ok (rs := [.tmp 4]) (sl := [(0, .g (.clauses xs)), (1, .g (.i l))]) Try.func45 rfl Try.ntmps45 rfl enter_laws_szClauseS rfl (by repeat constructor) ?_
  (repeat' (first | ((with_reducible apply gLI.cagg); (. exact RF.mk ⟨rfl, rfl, rfl⟩)) | (with_reducible constructor) | exact NE.mk rfl | exact RF.mk rfl | exact NU.mk (by first | omega | (simp only [LNs]; omega)) | ((with_reducible apply SLT_mk); (. rfl); (. rfl); (. rfl); (. rfl)) | ((with_reducible apply CON_of); first | apply laws_szClause) | (with_reducible intro hc; (try simp only [HCs] at hc)) | exact OB_f | (with_reducible first | apply gNK | apply TX_seq | apply QA_and_n | apply QA_and_e | apply QA_and_r | apply gTX_cond | apply CK_if | apply TX_skip | apply TX_ret | apply TX_exit | apply QA_in_eq | apply QA_in_n | apply QA_in_r | apply QA_lp_e | apply QA_lp_r | apply gEND_1) | apply gTX_rgW tab_ok | (apply TX_blk; exact RF.mk rfl) | (refine TX_loop (id := 0) (ι := Nat × Int) (fun ⟨i, lf⟩ => ⟨[(0, .g (.clauses xs)), (1, .g (.i lf)), (5, .g (.i i))], []⟩) (fun ⟨i, lf⟩ => (i ≤ xs.length) ∧ (0 ≤ lf ∧ lf ≤ 1048576) ∧ (szGo szClause (xs.drop i) lf = szClauseS xs l)) (fun ⟨i, lf⟩ => xs.length - i) (0, l - xs.length) ?_ ?_ ?_; (. ((first | apply gLX0 | apply gLX1 | apply gLX2 | apply gLX3 | apply gLX4 | apply gLX5 | apply gLX6 | apply gLX7 | apply gLX8 | apply gLX9 | apply gLX10) <;> (repeat' (first | (with_reducible constructor) | exact NE.mk rfl | exact RF.mk rfl | exact RF.mk ⟨rfl, rfl⟩ | exact RF.mk ⟨rfl, rfl, rfl⟩ | exact EQ.mk rfl | exact RF.mk (by decide) | (with_reducible apply EQ_int) | exact EQ.mk (by first | omega | (simp only [LNs]; omega)))))); (. ((refine ⟨by omega, by omega, ?_⟩; unfold szClauseS szThen; rw [if_neg (by omega)]; rfl))); (rintro ⟨i, lf⟩ ⟨h1, h2, h3⟩; (show TX _ _ _ _ _ [(0, .g (.clauses xs)), (1, .g (.i lf)), (5, .g (.i i))] [] _))) | apply gSel.ccons))
  (all_goals (first | (refine QA_lp (i + 1, szClause (nth xs i) lf) ?_ ?_ ?_; (· ((first | apply gLX0 | apply gLX1 | apply gLX2 | apply gLX3 | apply gLX4 | apply gLX5 | apply gLX6 | apply gLX7 | apply gLX8 | apply gLX9 | apply gLX10) <;> (repeat' (first | (with_reducible constructor) | exact NE.mk rfl | exact RF.mk rfl | exact RF.mk ⟨rfl, rfl⟩ | exact RF.mk ⟨rfl, rfl, rfl⟩ | exact EQ.mk rfl | exact RF.mk (by decide) | (with_reducible apply EQ_int) | exact EQ.mk (by first | omega | (simp only [LNs]; omega)))))); (· ((have hc2 : 0 ≤ szClause (nth xs i) lf := hc; have q := szClause_ok (nth xs i) lf hc2 (by omega); refine ⟨by omega, ⟨hc, by omega⟩, ?_⟩; rw [drop_nth (by omega)] at h3; rw [← h3]; simp only [szGo]; unfold szThen; rw [if_neg (by omega)]))); (· (((try dsimp only); omega)))) | (((refine EQ_int (EQ.mk ?_); first | (rw [← h3, drop_nth (by omega)]; simp only [szGo]; unfold szThen; rw [if_pos (show szClause (nth xs i) lf < 0 from hc)]) | (rw [← h3, List.drop_eq_nil_of_le (by omega)]; rfl) | (unfold szClauseS szThen; rw [if_pos (by omega)]))); done)))
def lv_laws_toClauseS : Nat → List Nat
  | 0 => [0]
  | 1 => [0, 3]
  | 2 => [0, 3, 4]
  | 3 => [0, 3, 4, 11]
  | 4 => [0, 3, 4]
  | 5 => [0, 3, 4]
  | 6 => [2]
  | _ => []
theorem enter_laws_toClauseS (args : Array Value) (w : World) : (callFunc 47 args).run Try.prog w = .ok (.enter 47 args) w := callFunc_enter Try.func47 (by decide) rfl args w
set_option maxHeartbeats 1000000 in
theorem laws_toClauseS (xs : List (Int × List Int × List Int)) (hs : HY (smClauseS xs)) : Con Try.prog 47 [.clauses xs] (.clauses xs) := by
  have hs := hs.e
  refine Con.fit enter_laws_toClauseS fun hfit => ?_
  have hb_xs : xs.length ≤ 9223372036854775807 := GFits.lenm (show GFits (.clauses xs) from hfit 0 (Nat.le_of_ble_eq_true rfl))
  have hr_xs : ∀ r ∈ xs, r.2.1.length ≤ 9223372036854775807 ∧ r.2.2.length ≤ 9223372036854775807 := fun r hr => ⟨GFits.ints (GFits.cell (GFits.elm (show GFits (.clauses xs) from hfit 0 (Nat.le_of_ble_eq_true rfl)) r hr) (.tail _ (.head _))), GFits.ints (GFits.cell (GFits.elm (show GFits (.clauses xs) from hfit 0 (Nat.le_of_ble_eq_true rfl)) r hr) (.tail _ (.tail _ (.head _))))⟩
  clear hfit
  have hs1 := hs.1
  refine gCon lv_laws_toClauseS tab_ok (rs := [.tmp 2]) (sl := [(0, .g (.clauses xs))]) Try.func47 rfl Try.ntmps47 rfl enter_laws_toClauseS rfl (by repeat constructor) ?_
  (repeat' (first | ((with_reducible apply gLI.cagg); (. exact RF.mk ⟨rfl, rfl, rfl⟩)) | (with_reducible constructor) | exact NE.mk rfl | exact RF.mk rfl | exact RF.mk ⟨rfl, rfl⟩ | exact NU.mk (by first | omega | (simp only [LNs]; omega)) | ((with_reducible apply SLT_mk); (. rfl); (. rfl); (. rfl); (. rfl)) | ((with_reducible apply CUT_all); (. with_reducible first | exact LEN_map _ _ | exact LEN_nil | exact LEN_1 _ | exact LEN_2 _ _ | exact LEN_any _); (. first | rfl | omega); (. first | rfl | omega)) | ((with_reducible apply CON_of); first | apply laws_toClause) | (with_reducible intro hc; (try simp only [HCs] at hc)) | exact OB_f | exact DEC.mk (by decide) | ((with_reducible apply MZ_st); (. rfl); (. rfl); (. rfl); (. rfl); (. rfl)) | (with_reducible first | apply gNK | apply TX_seq | apply QA_and_n | apply QA_and_e | apply gTX_cond | apply CK_if | apply TX_skip | apply TX_ret | apply TX_exit | apply QA_in_eq | apply QA_in_n | apply QA_lp_e | apply gEND_1) | apply gTX_rgW tab_ok | (apply TX_blk; exact RF.mk rfl) | exact HY.mk (hs.2 _ (nth_mem (by omega))) | (refine TX_loop (id := 0) (ι := Nat × (List (Int × List Int × List Int))) (fun ⟨i, ys⟩ => ⟨[(0, .g (.clauses xs)), (3, .own 0 0 xs.length), (4, .g (.i i))], [(0, .arr 3 true (ys.map GV.clauseP))]⟩) (fun ⟨i, ys⟩ => (i ≤ xs.length) ∧ (ys.length = xs.length) ∧ (ys.take i = xs.take i)) (fun ⟨i, ys⟩ => xs.length - i) (0, List.replicate xs.length default) ?_ ?_ ?_; (. ((first | apply gLX0 | apply gLX1 | apply gLX2 | apply gLX3 | apply gLX4 | apply gLX5 | apply gLX6 | apply gLX7 | apply gLX8 | apply gLX9 | apply gLX10) <;> (repeat' (first | (with_reducible constructor) | exact NE.mk rfl | exact RF.mk rfl | exact RF.mk ⟨rfl, rfl⟩ | exact RF.mk ⟨rfl, rfl, rfl⟩ | exact EQ.mk rfl | exact RF.mk (by decide) | (with_reducible apply EQ_int) | exact EQ.mk (by first | omega | (simp only [LNs]; omega)))); (all_goals ((try (first | exact EQ.mk (by simp only [List.map_replicate]; rfl) | exact EQ.mk (by first | (simp; done) | fail))); done)))); (. (exact ⟨by omega, by simp, by simp⟩)); (rintro ⟨i, ys⟩ ⟨h1, h2, h3⟩; (show TX _ _ _ _ _ [(0, .g (.clauses xs)), (3, .own 0 0 xs.length), (4, .g (.i i))] [(0, .arr 3 true (ys.map GV.clauseP))] _))) | apply gSel.ccons))
  (all_goals (first | (refine QA_lp (i + 1, ys.set i (nth xs i)) ?_ ?_ ?_; (· ((first | apply gLX0 | apply gLX1 | apply gLX2 | apply gLX3 | apply gLX4 | apply gLX5 | apply gLX6 | apply gLX7 | apply gLX8 | apply gLX9 | apply gLX10) <;> (repeat' (first | (with_reducible constructor) | exact NE.mk rfl | exact RF.mk rfl | exact RF.mk ⟨rfl, rfl⟩ | exact RF.mk ⟨rfl, rfl, rfl⟩ | exact EQ.mk rfl | exact RF.mk (by decide) | (with_reducible apply EQ_int) | exact EQ.mk (by first | omega | (simp only [LNs]; omega)))); (all_goals ((try (first | exact EQ.mk (by simp only [List.map_replicate]; rfl) | exact EQ.mk (by first | (simp; done) | fail))); done)))); (· ((refine ⟨by omega, by simp [h2], ?_⟩; rw [take_set (by omega), h3, take_nth (by omega)]))); (· (((try dsimp only); omega)))) | (((refine EQ_sl (EQ_map (EQ.mk ?_)); rw [← List.take_length (l := xs), ← List.take_length (l := ys), show ys.length = i by omega, h3, show xs.length = i by omega])); done)))
def lv_laws_eqClauseS : Nat → List Nat
  | 0 => [0, 1]
  | 1 => [0, 1, 10]
  | 2 => [4]
  | 3 => [0, 1, 5]
  | 4 => [0, 1, 5, 14]
  | 5 => [0, 1, 5]
  | 6 => [0, 1, 5, 26]
  | 7 => [4]
  | 8 => [4]
  | _ => []
theorem enter_laws_eqClauseS (args : Array Value) (w : World) : (callFunc 49 args).run Try.prog w = .ok (.enter 49 args) w := callFunc_enter Try.func49 (by decide) rfl args w
set_option maxHeartbeats 1000000 in
theorem laws_eqClauseS (xs ys : List (Int × List Int × List Int)) : Con Try.prog 49 [.clauses xs, .clauses ys] (.bool (decide (xs = ys))) := by
  refine Con.fit enter_laws_eqClauseS fun hfit => ?_
  have hb_xs : xs.length ≤ 9223372036854775807 := GFits.lenm (show GFits (.clauses xs) from hfit 0 (Nat.le_of_ble_eq_true rfl))
  have hr_xs : ∀ r ∈ xs, r.2.1.length ≤ 9223372036854775807 ∧ r.2.2.length ≤ 9223372036854775807 := fun r hr => ⟨GFits.ints (GFits.cell (GFits.elm (show GFits (.clauses xs) from hfit 0 (Nat.le_of_ble_eq_true rfl)) r hr) (.tail _ (.head _))), GFits.ints (GFits.cell (GFits.elm (show GFits (.clauses xs) from hfit 0 (Nat.le_of_ble_eq_true rfl)) r hr) (.tail _ (.tail _ (.head _))))⟩
  have hb_ys : ys.length ≤ 9223372036854775807 := GFits.lenm (show GFits (.clauses ys) from hfit 1 (Nat.le_of_ble_eq_true rfl))
  have hr_ys : ∀ r ∈ ys, r.2.1.length ≤ 9223372036854775807 ∧ r.2.2.length ≤ 9223372036854775807 := fun r hr => ⟨GFits.ints (GFits.cell (GFits.elm (show GFits (.clauses ys) from hfit 1 (Nat.le_of_ble_eq_true rfl)) r hr) (.tail _ (.head _))), GFits.ints (GFits.cell (GFits.elm (show GFits (.clauses ys) from hfit 1 (Nat.le_of_ble_eq_true rfl)) r hr) (.tail _ (.tail _ (.head _))))⟩
  clear hfit
  refine gCon lv_laws_eqClauseS tab_ok (rs := [.tmp 4]) (sl := [(0, .g (.clauses xs)), (1, .g (.clauses ys))]) Try.func49 rfl Try.ntmps49 rfl enter_laws_eqClauseS rfl (by repeat constructor) ?_
  (repeat' (first | ((with_reducible apply gLI.cagg); (. exact RF.mk ⟨rfl, rfl, rfl⟩)) | (with_reducible constructor) | exact NE.mk rfl | exact RF.mk rfl | exact NU.mk (by first | omega | (simp only [LNs]; omega)) | ((with_reducible apply SLT_mk); (. rfl); (. rfl); (. rfl); (. rfl)) | ((with_reducible apply CON_of); first | apply laws_eqClause) | (with_reducible intro hc; (try simp only [HCs] at hc)) | exact OB_f | ((with_reducible apply OB_t); kernel_rfl) | (with_reducible first | apply gNK | apply TX_seq | apply QA_and_n | apply QA_and_e | apply QA_and_r | apply gTX_cond | apply CK_if | apply TX_skip | apply TX_ret | apply TX_exit | apply QA_in_eq | apply QA_in_n | apply QA_in_r | apply QA_lp_e | apply QA_lp_r | apply gEND_1) | apply gTX_rgW tab_ok | apply gTX_rgD tab_ok rfl | (apply TX_blk; exact RF.mk rfl) | (refine TX_loop (id := 0) (ι := Nat) (fun i => ⟨[(0, .g (.clauses xs)), (1, .g (.clauses ys)), (5, .g (.i i))], []⟩) (fun i => (i ≤ xs.length) ∧ (∀ z, z < i → (fun i => decide (nth xs i = nth ys i)) z = true) ∧ (xs.length = ys.length)) (fun i => xs.length - i) (0) ?_ ?_ ?_; (. ((first | apply gLX0 | apply gLX1 | apply gLX2 | apply gLX3 | apply gLX4 | apply gLX5 | apply gLX6 | apply gLX7 | apply gLX8 | apply gLX9 | apply gLX10) <;> (repeat' (first | (with_reducible constructor) | exact NE.mk rfl | exact RF.mk rfl | exact RF.mk ⟨rfl, rfl⟩ | exact RF.mk ⟨rfl, rfl, rfl⟩ | exact EQ.mk rfl | exact RF.mk (by decide) | (with_reducible apply EQ_int) | exact EQ.mk (by first | omega | (simp only [LNs]; omega)))))); (. (exact ⟨by omega, allN_zero, by omega⟩)); (rintro i ⟨h1, h2, h3⟩; (show TX _ _ _ _ _ [(0, .g (.clauses xs)), (1, .g (.clauses ys)), (5, .g (.i i))] [] _))) | apply gSel.ccons))
  (all_goals (first | (refine QA_lp (i + 1) ?_ ?_ ?_; (· ((first | apply gLX0 | apply gLX1 | apply gLX2 | apply gLX3 | apply gLX4 | apply gLX5 | apply gLX6 | apply gLX7 | apply gLX8 | apply gLX9 | apply gLX10) <;> (repeat' (first | (with_reducible constructor) | exact NE.mk rfl | exact RF.mk rfl | exact RF.mk ⟨rfl, rfl⟩ | exact RF.mk ⟨rfl, rfl, rfl⟩ | exact EQ.mk rfl | exact RF.mk (by decide) | (with_reducible apply EQ_int) | exact EQ.mk (by first | omega | (simp only [LNs]; omega)))))); (· ((refine ⟨by omega, allN_step h2 ?_, h3⟩; ((try simp only [Bool.and_eq_true, Bool.or_eq_true, Bool.and_eq_false_iff, Bool.or_eq_false_iff, decide_eq_true_eq, decide_eq_false_iff_not, Bool.not_eq_true', Bool.not_eq_false', beq_iff_eq, bne_iff_ne, ne_eq, beq_eq_false_iff_ne, bne_eq_false_iff_eq] at *); (first | omega | assumption | grind))))); (· (((try dsimp only); omega)))) | (((refine EQ_bool ?_; first | (rw [eq_comm, decide_eq_false_iff_not]; intro e; subst e; first | exact absurd rfl (by assumption) | simp_all | grind) | (rw [← decide_rows (by omega)]; refine (allN_true fun j hj => h2 j (by omega)).symm))); done)))
def lv_laws_eqDet : Nat → List Nat
  | 0 => [2, 3]
  | 1 => [2, 3, 10]
  | 2 => [4]
  | 3 => [16]
  | 4 => [4]
  | 5 => [4]
  | _ => []
theorem enter_laws_eqDet (args : Array Value) (w : World) : (callFunc 36 args).run Try.prog w = .ok (.enter 36 args) w := callFunc_enter Try.func36 (by decide) rfl args w
set_option maxHeartbeats 1000000 in
theorem laws_eqDet (next : List (List Int)) (pairs : List (List Int × List Int)) (next' : List (List Int)) (pairs' : List (List Int × List Int)) : Con Try.prog 36 [.det next pairs, .det next' pairs'] (.bool (decide (next = next') && decide (pairs = pairs'))) := by
  refine Con.fit enter_laws_eqDet fun hfit => ?_
  have hb_next : next.length ≤ 9223372036854775807 := GFits.lenm (GFits.cell (show GFits (.det next pairs) from hfit 0 (Nat.le_of_ble_eq_true rfl)) (.head _))
  have hr_next : ∀ r ∈ next, r.length ≤ 9223372036854775807 := fun r hr => GFits.ints (GFits.elm (GFits.cell (show GFits (.det next pairs) from hfit 0 (Nat.le_of_ble_eq_true rfl)) (.head _)) r hr)
  have hb_pairs : pairs.length ≤ 9223372036854775807 := GFits.lenm (GFits.cell (show GFits (.det next pairs) from hfit 0 (Nat.le_of_ble_eq_true rfl)) (.tail _ (.head _)))
  have hr_pairs : ∀ r ∈ pairs, r.1.length ≤ 9223372036854775807 ∧ r.2.length ≤ 9223372036854775807 := fun r hr => ⟨GFits.ints (GFits.cell (GFits.elm (GFits.cell (show GFits (.det next pairs) from hfit 0 (Nat.le_of_ble_eq_true rfl)) (.tail _ (.head _))) r hr) (.head _)), GFits.ints (GFits.cell (GFits.elm (GFits.cell (show GFits (.det next pairs) from hfit 0 (Nat.le_of_ble_eq_true rfl)) (.tail _ (.head _))) r hr) (.tail _ (.head _)))⟩
  have hb_next' : next'.length ≤ 9223372036854775807 := GFits.lenm (GFits.cell (show GFits (.det next' pairs') from hfit 1 (Nat.le_of_ble_eq_true rfl)) (.head _))
  have hr_next' : ∀ r ∈ next', r.length ≤ 9223372036854775807 := fun r hr => GFits.ints (GFits.elm (GFits.cell (show GFits (.det next' pairs') from hfit 1 (Nat.le_of_ble_eq_true rfl)) (.head _)) r hr)
  have hb_pairs' : pairs'.length ≤ 9223372036854775807 := GFits.lenm (GFits.cell (show GFits (.det next' pairs') from hfit 1 (Nat.le_of_ble_eq_true rfl)) (.tail _ (.head _)))
  have hr_pairs' : ∀ r ∈ pairs', r.1.length ≤ 9223372036854775807 ∧ r.2.length ≤ 9223372036854775807 := fun r hr => ⟨GFits.ints (GFits.cell (GFits.elm (GFits.cell (show GFits (.det next' pairs') from hfit 1 (Nat.le_of_ble_eq_true rfl)) (.tail _ (.head _))) r hr) (.head _)), GFits.ints (GFits.cell (GFits.elm (GFits.cell (show GFits (.det next' pairs') from hfit 1 (Nat.le_of_ble_eq_true rfl)) (.tail _ (.head _))) r hr) (.tail _ (.head _)))⟩
  clear hfit
  refine gCon lv_laws_eqDet tab_ok (rs := [.tmp 4]) (sl := [(0, .g (.det next pairs)), (1, .g (.det next' pairs'))]) Try.func36 rfl Try.ntmps36 rfl enter_laws_eqDet rfl (by repeat constructor) ?_
  (repeat' (first | ((with_reducible apply gLB.cone); (. exact RF.mk ⟨rfl, rfl⟩)) | (with_reducible constructor) | exact NE.mk rfl | exact RF.mk rfl | ((with_reducible apply FO_mk); (. rfl); (. rfl); (. rfl); (. rfl); (. rfl)) | ((with_reducible apply CON_of); first | apply laws_eqInt64SS | apply laws_eqPairS) | (with_reducible intro hc; (try simp only [HCs] at hc)) | exact OB_f | (with_reducible first | apply gNK | apply TX_seq | apply QA_and_n | apply QA_and_r | apply gTX_cond | apply CK_if | apply TX_skip | apply TX_ret | apply gEND_1) | apply gTX_rgW tab_ok | apply gSel.ccons))
  (all_goals (first | (((refine EQ_bool ?_; simp_all; done)); done)))
end Go.Proofs.Ytgfnpphhdkjlmaa

