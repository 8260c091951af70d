/- Contracts of the laws' own functions over data: sizes, copies, equality. No conditions but those that each theorem names. -/
import Derived.Test.YtabfpoflhacknaaTab
import Derived.Test.YtabfpoflhacknaaKG
import Derived.Test.YtabfpoflhacknaaTM
import Derived.Test.YtabfpoflhacknaaW1
import Derived.Test.YtabfpoflhacknaaChecked
set_option linter.unusedSimpArgs false
set_option linter.unusedVariables false
namespace Go.Proofs.Ytabfpoflhacknaa
open Go.RowKit
open Shp

def lv_laws_szInt64S : Nat → List Nat
  | 0 => [0, 1]
  | 1 => [1]
  | 2 => [1, 10]
  | 3 => [4]
  | 4 => [4]
  | _ => []
theorem enter_laws_szInt64S (args : Array Value) (w : World) : (callFunc 86 args).run Try.prog w = .ok (.enter 86 args) w := callFunc_enter Try.func86 (by decide) rfl args w
set_option maxHeartbeats 1000000 in
theorem laws_szInt64S (xs : List Int) (l : Int) (hl : NU (0 ≤ l ∧ l ≤ 1048576)) : Con Try.prog 86 [.ints xs, .i l] (.i (szInt64S xs l)) := by
  have hl := hl.e
  refine Con.fit enter_laws_szInt64S fun hfit => ?_
  have hb_xs : xs.length ≤ 9223372036854775807 := GFits.ints (show GFits (.ints xs) from hfit 0 (Nat.le_of_ble_eq_true rfl))
  clear hfit
  refine gCon lv_laws_szInt64S tab_ok (rs := [.tmp 4]) (sl := [(0, .g (.ints xs)), (1, .g (.i l))]) Try.func86 rfl Try.ntmps86 rfl enter_laws_szInt64S rfl (by repeat constructor) ?_
  (repeat' (first | (with_reducible constructor) | exact NE.mk rfl | exact RF.mk rfl | exact NU.mk (by first | omega | (simp only [LNs]; omega)) | ((with_reducible apply SLT_mk); (. rfl); (. rfl); (. rfl); (. rfl)) | (with_reducible intro hc; (try simp only [HCs] at hc)) | exact OB_f | (with_reducible first | apply gNK | apply TX_seq | apply QA_and_n | apply QA_and_r | apply gTX_cond | apply CK_if | apply TX_skip | apply TX_ret | apply gEND_1) | apply gTX_rgW tab_ok | apply gSel.ccons))
  (all_goals (first | (((refine EQ_int (EQ.mk ?_); unfold szInt64S szThen; dsimp only; split <;> omega)); done)))

def lv_laws_toInt64S : Nat → List Nat
  | 0 => [0]
  | 1 => [0, 3]
  | 2 => [0, 3, 4]
  | 3 => [0, 3, 4, 11]
  | 4 => [0, 3, 4]
  | 5 => [0, 3, 4]
  | 6 => [2]
  | _ => []
theorem enter_laws_toInt64S (args : Array Value) (w : World) : (callFunc 91 args).run Try.prog w = .ok (.enter 91 args) w := callFunc_enter Try.func91 (by decide) rfl args w
set_option maxHeartbeats 1000000 in
theorem laws_toInt64S (xs : List Int) (hs : HY (smInt64S xs)) : Con Try.prog 91 [.ints xs] (.ints xs) := by
  have hs := hs.e
  refine Con.fit enter_laws_toInt64S fun hfit => ?_
  have hb_xs : xs.length ≤ 9223372036854775807 := GFits.ints (show GFits (.ints xs) from hfit 0 (Nat.le_of_ble_eq_true rfl))
  clear hfit
  have hs1 : xs.length ≤ 1048576 := hs
  refine gCon lv_laws_toInt64S tab_ok (rs := [.tmp 2]) (sl := [(0, .g (.ints xs))]) Try.func91 rfl Try.ntmps91 rfl enter_laws_toInt64S rfl (by repeat constructor) ?_
  (repeat' (first | ((with_reducible apply gLI.cone); (. exact RF.mk ⟨rfl, rfl⟩)) | (with_reducible constructor) | exact NE.mk rfl | exact RF.mk rfl | exact RF.mk ⟨rfl, rfl⟩ | exact NU.mk (by first | omega | (simp only [LNs]; omega)) | ((with_reducible apply SLT_mk); (. rfl); (. rfl); (. rfl); (. rfl)) | ((with_reducible apply CUT_all); (. with_reducible first | exact LEN_map _ _ | exact LEN_nil | exact LEN_1 _ | exact LEN_2 _ _ | exact LEN_any _); (. first | rfl | omega); (. first | rfl | omega)) | (with_reducible intro hc; (try simp only [HCs] at hc)) | exact OB_f | ((with_reducible apply MZ_one); (. rfl); (. rfl); (. rfl)) | (with_reducible first | apply gNK | apply TX_seq | apply QA_and_n | apply QA_and_e | apply gTX_cond | apply CK_if | apply TX_skip | apply TX_ret | apply TX_exit | apply QA_in_eq | apply QA_in_n | apply QA_lp_e | apply gEND_1) | apply gTX_rgW tab_ok | (apply TX_blk; exact RF.mk rfl) | (refine TX_loop (id := 0) (ι := Nat × (List Int)) (fun ⟨i, ys⟩ => ⟨[(0, .g (.ints xs)), (3, .own 0 0 xs.length), (4, .g (.i i))], [(0, .arr 1 true (ys.map GV.i))]⟩) (fun ⟨i, ys⟩ => (i ≤ xs.length) ∧ (ys.length = xs.length) ∧ (ys.take i = xs.take i)) (fun ⟨i, ys⟩ => xs.length - i) (0, List.replicate xs.length 0) ?_ ?_ ?_; (. ((first | apply gLX0 | apply gLX1 | apply gLX2 | apply gLX3 | apply gLX4 | apply gLX5 | apply gLX6 | apply gLX7 | apply gLX8 | apply gLX9 | apply gLX10) <;> (repeat' (first | (with_reducible constructor) | exact NE.mk rfl | exact RF.mk rfl | exact RF.mk ⟨rfl, rfl⟩ | exact RF.mk ⟨rfl, rfl, rfl⟩ | exact EQ.mk rfl | exact RF.mk (by decide) | (with_reducible apply EQ_int) | exact EQ.mk (by first | omega | (simp only [LNs]; omega)))))); (. (exact ⟨by omega, by simp, by simp⟩)); (rintro ⟨i, ys⟩ ⟨h1, h2, h3⟩; (show TX _ _ _ _ _ [(0, .g (.ints xs)), (3, .own 0 0 xs.length), (4, .g (.i i))] [(0, .arr 1 true (ys.map GV.i))] _))) | apply gSel.ccons))
  (all_goals (first | (refine QA_lp (i + 1, ys.set i (nth xs i)) ?_ ?_ ?_; (· ((first | apply gLX0 | apply gLX1 | apply gLX2 | apply gLX3 | apply gLX4 | apply gLX5 | apply gLX6 | apply gLX7 | apply gLX8 | apply gLX9 | apply gLX10) <;> (repeat' (first | (with_reducible constructor) | exact NE.mk rfl | exact RF.mk rfl | exact RF.mk ⟨rfl, rfl⟩ | exact RF.mk ⟨rfl, rfl, rfl⟩ | exact EQ.mk rfl | exact RF.mk (by decide) | (with_reducible apply EQ_int) | exact EQ.mk (by first | omega | (simp only [LNs]; omega)))))); (· ((refine ⟨by omega, by simp [h2], ?_⟩; rw [take_set (by omega), h3, take_nth (by omega)]))); (· (((try dsimp only); omega)))) | (((refine EQ_sl (EQ_map (EQ.mk ?_)); rw [← List.take_length (l := xs), ← List.take_length (l := ys), show ys.length = i by omega, h3, show xs.length = i by omega])); done)))

def lv_laws_toSig : Nat → List Nat
  | 0 => [1, 2]
  | 1 => [1, 2, 3]
  | 2 => [1, 2, 3]
  | 3 => [2, 3]
  | 4 => [2]
  | _ => []
theorem enter_laws_toSig (args : Array Value) (w : World) : (callFunc 9 args).run Try.prog w = .ok (.enter 9 args) w := callFunc_enter Try.func9 (by decide) rfl args w
set_option maxHeartbeats 1000000 in
theorem laws_toSig (inp : Int) (out : Int) : Con Try.prog 9 [.sig inp out] (.sig inp out) := by
  refine gCon lv_laws_toSig tab_ok (rs := [.cell 2 31]) (sl := [(0, .g (.sig inp out))]) Try.func9 rfl Try.ntmps9 rfl enter_laws_toSig rfl (by repeat constructor) ?_
  (repeat' (first | ((with_reducible apply gLB.cagg); (. exact RF.mk ⟨rfl, rfl, rfl⟩)) | ((with_reducible apply gLB.cone); (. exact RF.mk ⟨rfl, rfl⟩)) | (with_reducible constructor) | exact NE.mk rfl | exact RF.mk rfl | exact RF.mk ⟨rfl, rfl⟩ | ((with_reducible apply FO_mk); (. rfl); (. rfl); (. rfl); (. rfl); (. rfl)) | exact OB_f | (with_reducible first | apply gNK | apply TX_seq | apply QA_and_n | apply TX_ret) | apply gTX_rgW tab_ok | apply gSel.ccons))
  (all_goals (first | (((first | (refine EQ_bool ?_; first | (simp_all; done) | (rw [Bool.eq_iff_iff]; simp only [Bool.and_eq_true, Bool.or_eq_true, decide_eq_true_eq, Bool.false_eq_true, false_iff, true_iff, iff_false, iff_true, not_and, not_or, Bool.not_eq_true, decide_eq_false_iff_not, beq_iff_eq, bne_iff_ne, ne_eq, Bool.not_eq_true', Bool.not_eq_false', Int.not_le, Int.not_lt]; omega)) | ((repeat (first | apply EQ_tup | apply EQ_cons | apply EQ_agg | apply EQ_sl | apply EQ_map)); all_goals (first | exact EQ.mk rfl | exact EQ.mk (by first | (simp; done) | fail) | exact EQ.mk (by first | (simp_all; done) | fail))))); done)))

def lv_laws_szPair : Nat → List Nat
  | 0 => [1, 2]
  | 1 => [1, 2]
  | 2 => [1, 2, 10]
  | 3 => [4]
  | 4 => [1]
  | 5 => [1, 16]
  | 6 => [4]
  | 7 => [4]
  | _ => []
theorem enter_laws_szPair (args : Array Value) (w : World) : (callFunc 87 args).run Try.prog w = .ok (.enter 87 args) w := callFunc_enter Try.func87 (by decide) rfl args w
set_option maxHeartbeats 1000000 in
theorem laws_szPair (ask : List Int) (give : List Int) (l : Int) (hl : NU (0 ≤ l ∧ l ≤ 1048576)) : Con Try.prog 87 [.pair ask give, .i l] (.i (szPair (ask, give) l)) := by
  have hl := hl.e
  refine Con.fit enter_laws_szPair fun hfit => ?_
  have hb_ask : ask.length ≤ 9223372036854775807 := GFits.ints (GFits.cell (show GFits (.pair ask give) from hfit 0 (Nat.le_of_ble_eq_true rfl)) (.head _))
  have hb_give : give.length ≤ 9223372036854775807 := GFits.ints (GFits.cell (show GFits (.pair ask give) from hfit 0 (Nat.le_of_ble_eq_true rfl)) (.tail _ (.head _)))
  clear hfit
  refine gCon lv_laws_szPair tab_ok (rs := [.tmp 4]) (sl := [(0, .g (.pair ask give)), (1, .g (.i l))]) Try.func87 rfl Try.ntmps87 rfl enter_laws_szPair rfl (by repeat constructor) ?_
  (repeat' (first | ((with_reducible apply gLB.cone); (. exact RF.mk ⟨rfl, rfl⟩)) | (with_reducible constructor) | exact NE.mk rfl | exact RF.mk rfl | exact NU.mk (by first | omega | (simp only [LNs]; omega) | (first | omega | (have q0 := szInt64S_ok ask (l) (by assumption) (by omega); first | omega | (have q1 := szInt64S_ok give (szInt64S ask (l)) (by assumption) (by omega); omega)))) | ((with_reducible apply FO_mk); (. rfl); (. rfl); (. rfl); (. rfl); (. rfl)) | ((with_reducible apply CON_of); first | apply laws_szInt64S) | (with_reducible intro hc; (try simp only [HCs] at hc)) | exact OB_f | (with_reducible first | apply gNK | apply TX_seq | apply QA_and_n | apply QA_and_r | apply gTX_cond | apply CK_if | apply TX_skip | apply TX_ret | apply gEND_1) | apply gTX_rgW tab_ok | apply gSel.ccons))
  (all_goals (first | (((refine EQ_int (EQ.mk ?_); unfold szPair szThen; dsimp only; repeat' split; all_goals omega)); done)))

def lv_laws_toPair : Nat → List Nat
  | 0 => [1, 2]
  | 1 => [1, 2, 3]
  | 2 => [1, 2, 3]
  | 3 => [2, 3]
  | 4 => [2]
  | _ => []
theorem enter_laws_toPair (args : Array Value) (w : World) : (callFunc 92 args).run Try.prog w = .ok (.enter 92 args) w := callFunc_enter Try.func92 (by decide) rfl args w
set_option maxHeartbeats 1000000 in
theorem laws_toPair (ask : List Int) (give : List Int) (hs : HY (smPair (ask, give))) : Con Try.prog 92 [.pair ask give] (.pair ask give) := by
  have hs := hs.e
  refine Con.fit enter_laws_toPair fun hfit => ?_
  have hb_ask : ask.length ≤ 9223372036854775807 := GFits.ints (GFits.cell (show GFits (.pair ask give) from hfit 0 (Nat.le_of_ble_eq_true rfl)) (.head _))
  have hb_give : give.length ≤ 9223372036854775807 := GFits.ints (GFits.cell (show GFits (.pair ask give) from hfit 0 (Nat.le_of_ble_eq_true rfl)) (.tail _ (.head _)))
  clear hfit
  refine gCon lv_laws_toPair tab_ok (rs := [.cell 2 79]) (sl := [(0, .g (.pair ask give))]) Try.func92 rfl Try.ntmps92 rfl enter_laws_toPair rfl (by repeat constructor) ?_
  (repeat' (first | ((with_reducible apply gLB.cagg); (. exact RF.mk ⟨rfl, rfl, rfl⟩)) | ((with_reducible apply gLB.cone); (. exact RF.mk ⟨rfl, rfl⟩)) | (with_reducible constructor) | exact NE.mk rfl | exact RF.mk rfl | exact RF.mk ⟨rfl, rfl⟩ | ((with_reducible apply FO_mk); (. rfl); (. rfl); (. rfl); (. rfl); (. rfl)) | ((with_reducible apply CUT_all); (. with_reducible first | exact LEN_map _ _ | exact LEN_nil | exact LEN_1 _ | exact LEN_2 _ _ | exact LEN_any _); (. first | rfl | omega); (. first | rfl | omega)) | ((with_reducible apply CON_of); first | apply laws_toInt64S) | exact OB_f | (with_reducible first | apply gNK | apply TX_seq | apply QA_and_n | apply TX_ret | apply gEND_1) | apply gTX_rgW tab_ok | exact HY.mk hs.1 | exact HY.mk hs.2 | apply gSel.ccons))
  (all_goals (first | (((first | (refine EQ_bool ?_; first | (simp_all; done) | (rw [Bool.eq_iff_iff]; simp only [Bool.and_eq_true, Bool.or_eq_true, decide_eq_true_eq, Bool.false_eq_true, false_iff, true_iff, iff_false, iff_true, not_and, not_or, Bool.not_eq_true, decide_eq_false_iff_not, beq_iff_eq, bne_iff_ne, ne_eq, Bool.not_eq_true', Bool.not_eq_false', Int.not_le, Int.not_lt]; omega)) | ((repeat (first | apply EQ_tup | apply EQ_cons | apply EQ_agg | apply EQ_sl | apply EQ_map)); all_goals (first | exact EQ.mk rfl | exact EQ.mk (by first | (simp; done) | fail) | exact EQ.mk (by first | (simp_all; done) | fail))))); done)))

def lv_laws_eqPair : Nat → List Nat
  | 0 => [2, 3]
  | 1 => [2, 3, 10]
  | 2 => [4]
  | 3 => [16]
  | 4 => [4]
  | 5 => [4]
  | _ => []
theorem enter_laws_eqPair (args : Array Value) (w : World) : (callFunc 96 args).run Try.prog w = .ok (.enter 96 args) w := callFunc_enter Try.func96 (by decide) rfl args w
set_option maxHeartbeats 1000000 in
theorem laws_eqPair (ask : List Int) (give : List Int) (ask' : List Int) (give' : List Int) : Con Try.prog 96 [.pair ask give, .pair ask' give'] (.bool (decide (ask = ask') && decide (give = give'))) := by
  refine Con.fit enter_laws_eqPair fun hfit => ?_
  have hb_ask : ask.length ≤ 9223372036854775807 := GFits.ints (GFits.cell (show GFits (.pair ask give) from hfit 0 (Nat.le_of_ble_eq_true rfl)) (.head _))
  have hb_give : give.length ≤ 9223372036854775807 := GFits.ints (GFits.cell (show GFits (.pair ask give) from hfit 0 (Nat.le_of_ble_eq_true rfl)) (.tail _ (.head _)))
  have hb_ask' : ask'.length ≤ 9223372036854775807 := GFits.ints (GFits.cell (show GFits (.pair ask' give') from hfit 1 (Nat.le_of_ble_eq_true rfl)) (.head _))
  have hb_give' : give'.length ≤ 9223372036854775807 := GFits.ints (GFits.cell (show GFits (.pair ask' give') from hfit 1 (Nat.le_of_ble_eq_true rfl)) (.tail _ (.head _)))
  clear hfit
  refine gCon lv_laws_eqPair tab_ok (rs := [.tmp 4]) (sl := [(0, .g (.pair ask give)), (1, .g (.pair ask' give'))]) Try.func96 rfl Try.ntmps96 rfl enter_laws_eqPair rfl (by repeat constructor) ?_
  (repeat' (first | ((with_reducible apply gLB.cone); (. exact RF.mk ⟨rfl, rfl⟩)) | (with_reducible constructor) | exact NE.mk rfl | exact RF.mk rfl | ((with_reducible apply FO_mk); (. rfl); (. rfl); (. rfl); (. rfl); (. rfl)) | ((with_reducible apply CON_of); first | apply laws_eqInt64S) | (with_reducible intro hc; (try simp only [HCs] at hc)) | exact OB_f | (with_reducible first | apply gNK | apply TX_seq | apply QA_and_n | apply QA_and_r | apply gTX_cond | apply CK_if | apply TX_skip | apply TX_ret | apply gEND_1) | apply gTX_rgW tab_ok | apply gSel.ccons))
  (all_goals (first | (((refine EQ_bool ?_; simp_all; done)); done)))

def lv_laws_szInt64SS : Nat → List Nat
  | 0 => [0, 1]
  | 1 => [0, 1]
  | 2 => [0, 1, 11]
  | 3 => [4]
  | 4 => [0, 1, 5]
  | 5 => [0, 1, 5, 15]
  | 6 => [0, 1, 5]
  | 7 => [0, 1, 5]
  | 8 => [0, 1, 5, 25]
  | 9 => [4]
  | 10 => [4]
  | _ => []
theorem enter_laws_szInt64SS (args : Array Value) (w : World) : (callFunc 39 args).run Try.prog w = .ok (.enter 39 args) w := callFunc_enter Try.func39 (by decide) rfl args w
set_option maxHeartbeats 1000000 in
theorem laws_szInt64SS (xs : List (List Int)) (l : Int) (hl : NU (0 ≤ l ∧ l ≤ 1048576)) : Con Try.prog 39 [.rows xs, .i l] (.i (szInt64SS xs l)) := by
  have hl := hl.e
  refine Con.fit enter_laws_szInt64SS fun hfit => ?_
  have hb_xs : xs.length ≤ 9223372036854775807 := GFits.lenm (show GFits (.rows xs) from hfit 0 (Nat.le_of_ble_eq_true rfl))
  have hr_xs : ∀ r ∈ xs, r.length ≤ 9223372036854775807 := fun r hr => GFits.ints (GFits.elm (show GFits (.rows xs) from hfit 0 (Nat.le_of_ble_eq_true rfl)) r hr)
  clear hfit
  refine gCon lv_laws_szInt64SS tab_ok (rs := [.tmp 4]) (sl := [(0, .g (.rows xs)), (1, .g (.i l))]) Try.func39 rfl Try.ntmps39 rfl enter_laws_szInt64SS rfl (by repeat constructor) ?_
  (repeat' (first | ((with_reducible apply gLI.cone); (. exact RF.mk ⟨rfl, rfl⟩)) | (with_reducible constructor) | exact NE.mk rfl | exact RF.mk rfl | exact NU.mk (by first | omega | (simp only [LNs]; omega)) | ((with_reducible apply SLT_mk); (. rfl); (. rfl); (. rfl); (. rfl)) | ((with_reducible apply CON_of); first | apply laws_szInt64S) | (with_reducible intro hc; (try simp only [HCs] at hc)) | exact OB_f | (with_reducible first | apply gNK | apply TX_seq | apply QA_and_n | apply QA_and_e | apply QA_and_r | apply gTX_cond | apply CK_if | apply TX_skip | apply TX_ret | apply TX_exit | apply QA_in_eq | apply QA_in_n | apply QA_in_r | apply QA_lp_e | apply QA_lp_r | apply gEND_1) | apply gTX_rgW tab_ok | (apply TX_blk; exact RF.mk rfl) | (refine TX_loop (id := 0) (ι := Nat × Int) (fun ⟨i, lf⟩ => ⟨[(0, .g (.rows xs)), (1, .g (.i lf)), (5, .g (.i i))], []⟩) (fun ⟨i, lf⟩ => (i ≤ xs.length) ∧ (0 ≤ lf ∧ lf ≤ 1048576) ∧ (szGo szInt64S (xs.drop i) lf = szInt64SS xs l)) (fun ⟨i, lf⟩ => xs.length - i) (0, l - xs.length) ?_ ?_ ?_; (. ((first | apply gLX0 | apply gLX1 | apply gLX2 | apply gLX3 | apply gLX4 | apply gLX5 | apply gLX6 | apply gLX7 | apply gLX8 | apply gLX9 | apply gLX10) <;> (repeat' (first | (with_reducible constructor) | exact NE.mk rfl | exact RF.mk rfl | exact RF.mk ⟨rfl, rfl⟩ | exact RF.mk ⟨rfl, rfl, rfl⟩ | exact EQ.mk rfl | exact RF.mk (by decide) | (with_reducible apply EQ_int) | exact EQ.mk (by first | omega | (simp only [LNs]; omega)))))); (. ((refine ⟨by omega, by omega, ?_⟩; unfold szInt64SS szThen; rw [if_neg (by omega)]; rfl))); (rintro ⟨i, lf⟩ ⟨h1, h2, h3⟩; (show TX _ _ _ _ _ [(0, .g (.rows xs)), (1, .g (.i lf)), (5, .g (.i i))] [] _))) | apply gSel.ccons))
  (all_goals (first | (refine QA_lp (i + 1, szInt64S (nth xs i) lf) ?_ ?_ ?_; (· ((first | apply gLX0 | apply gLX1 | apply gLX2 | apply gLX3 | apply gLX4 | apply gLX5 | apply gLX6 | apply gLX7 | apply gLX8 | apply gLX9 | apply gLX10) <;> (repeat' (first | (with_reducible constructor) | exact NE.mk rfl | exact RF.mk rfl | exact RF.mk ⟨rfl, rfl⟩ | exact RF.mk ⟨rfl, rfl, rfl⟩ | exact EQ.mk rfl | exact RF.mk (by decide) | (with_reducible apply EQ_int) | exact EQ.mk (by first | omega | (simp only [LNs]; omega)))))); (· ((have hc2 : 0 ≤ szInt64S (nth xs i) lf := hc; have q := szInt64S_ok (nth xs i) lf hc2 (by omega); refine ⟨by omega, ⟨hc, by omega⟩, ?_⟩; rw [drop_nth (by omega)] at h3; rw [← h3]; simp only [szGo]; unfold szThen; rw [if_neg (by omega)]))); (· (((try dsimp only); omega)))) | (((refine EQ_int (EQ.mk ?_); first | (rw [← h3, drop_nth (by omega)]; simp only [szGo]; unfold szThen; rw [if_pos (show szInt64S (nth xs i) lf < 0 from hc)]) | (rw [← h3, List.drop_eq_nil_of_le (by omega)]; rfl) | (unfold szInt64SS szThen; rw [if_pos (by omega)]))); done)))

def lv_laws_toInt64SS : Nat → List Nat
  | 0 => [0]
  | 1 => [0, 3]
  | 2 => [0, 3, 4]
  | 3 => [0, 3, 4, 11]
  | 4 => [0, 3, 4]
  | 5 => [0, 3, 4]
  | 6 => [2]
  | _ => []
theorem enter_laws_toInt64SS (args : Array Value) (w : World) : (callFunc 42 args).run Try.prog w = .ok (.enter 42 args) w := callFunc_enter Try.func42 (by decide) rfl args w
set_option maxHeartbeats 1000000 in
theorem laws_toInt64SS (xs : List (List Int)) (hs : HY (smInt64SS xs)) : Con Try.prog 42 [.rows xs] (.rows xs) := by
  have hs := hs.e
  refine Con.fit enter_laws_toInt64SS fun hfit => ?_
  have hb_xs : xs.length ≤ 9223372036854775807 := GFits.lenm (show GFits (.rows xs) from hfit 0 (Nat.le_of_ble_eq_true rfl))
  have hr_xs : ∀ r ∈ xs, r.length ≤ 9223372036854775807 := fun r hr => GFits.ints (GFits.elm (show GFits (.rows xs) from hfit 0 (Nat.le_of_ble_eq_true rfl)) r hr)
  clear hfit
  have hs1 := hs.1
  refine gCon lv_laws_toInt64SS tab_ok (rs := [.tmp 2]) (sl := [(0, .g (.rows xs))]) Try.func42 rfl Try.ntmps42 rfl enter_laws_toInt64SS rfl (by repeat constructor) ?_
  (repeat' (first | ((with_reducible apply gLI.cone); (. exact RF.mk ⟨rfl, rfl⟩)) | (with_reducible constructor) | exact NE.mk rfl | exact RF.mk rfl | exact RF.mk ⟨rfl, rfl⟩ | exact NU.mk (by first | omega | (simp only [LNs]; omega)) | ((with_reducible apply SLT_mk); (. rfl); (. rfl); (. rfl); (. rfl)) | ((with_reducible apply CUT_all); (. with_reducible first | exact LEN_map _ _ | exact LEN_nil | exact LEN_1 _ | exact LEN_2 _ _ | exact LEN_any _); (. first | rfl | omega); (. first | rfl | omega)) | ((with_reducible apply CON_of); first | apply laws_toInt64S) | (with_reducible intro hc; (try simp only [HCs] at hc)) | exact OB_f | exact DEC.mk (by decide) | ((with_reducible apply MZ_one); (. rfl); (. rfl); (. rfl)) | (with_reducible first | apply gNK | apply TX_seq | apply QA_and_n | apply QA_and_e | apply gTX_cond | apply CK_if | apply TX_skip | apply TX_ret | apply TX_exit | apply QA_in_eq | apply QA_in_n | apply QA_lp_e | apply gEND_1) | apply gTX_rgW tab_ok | (apply TX_blk; exact RF.mk rfl) | exact HY.mk (hs.2 _ (nth_mem (by omega))) | (refine TX_loop (id := 0) (ι := Nat × (List (List Int))) (fun ⟨i, ys⟩ => ⟨[(0, .g (.rows xs)), (3, .own 0 0 xs.length), (4, .g (.i i))], [(0, .arr 1 true (ys.map GV.ints))]⟩) (fun ⟨i, ys⟩ => (i ≤ xs.length) ∧ (ys.length = xs.length) ∧ (ys.take i = xs.take i)) (fun ⟨i, ys⟩ => xs.length - i) (0, List.replicate xs.length default) ?_ ?_ ?_; (. ((first | apply gLX0 | apply gLX1 | apply gLX2 | apply gLX3 | apply gLX4 | apply gLX5 | apply gLX6 | apply gLX7 | apply gLX8 | apply gLX9 | apply gLX10) <;> (repeat' (first | (with_reducible constructor) | exact NE.mk rfl | exact RF.mk rfl | exact RF.mk ⟨rfl, rfl⟩ | exact RF.mk ⟨rfl, rfl, rfl⟩ | exact EQ.mk rfl | exact RF.mk (by decide) | (with_reducible apply EQ_int) | exact EQ.mk (by first | omega | (simp only [LNs]; omega)))); (all_goals ((try (first | exact EQ.mk (by simp only [List.map_replicate]; rfl) | exact EQ.mk (by first | (simp; done) | fail))); done)))); (. (exact ⟨by omega, by simp, by simp⟩)); (rintro ⟨i, ys⟩ ⟨h1, h2, h3⟩; (show TX _ _ _ _ _ [(0, .g (.rows xs)), (3, .own 0 0 xs.length), (4, .g (.i i))] [(0, .arr 1 true (ys.map GV.ints))] _))) | apply gSel.ccons))
  (all_goals (first | (refine QA_lp (i + 1, ys.set i (nth xs i)) ?_ ?_ ?_; (· ((first | apply gLX0 | apply gLX1 | apply gLX2 | apply gLX3 | apply gLX4 | apply gLX5 | apply gLX6 | apply gLX7 | apply gLX8 | apply gLX9 | apply gLX10) <;> (repeat' (first | (with_reducible constructor) | exact NE.mk rfl | exact RF.mk rfl | exact RF.mk ⟨rfl, rfl⟩ | exact RF.mk ⟨rfl, rfl, rfl⟩ | exact EQ.mk rfl | exact RF.mk (by decide) | (with_reducible apply EQ_int) | exact EQ.mk (by first | omega | (simp only [LNs]; omega)))); (all_goals ((try (first | exact EQ.mk (by simp only [List.map_replicate]; rfl) | exact EQ.mk (by first | (simp; done) | fail))); done)))); (· ((refine ⟨by omega, by simp [h2], ?_⟩; rw [take_set (by omega), h3, take_nth (by omega)]))); (· (((try dsimp only); omega)))) | (((refine EQ_sl (EQ_map (EQ.mk ?_)); rw [← List.take_length (l := xs), ← List.take_length (l := ys), show ys.length = i by omega, h3, show xs.length = i by omega])); done)))

def lv_laws_eqInt64SS : Nat → List Nat
  | 0 => [0, 1]
  | 1 => [0, 1, 10]
  | 2 => [4]
  | 3 => [0, 1, 5]
  | 4 => [0, 1, 5, 14]
  | 5 => [0, 1, 5]
  | 6 => [0, 1, 5, 26]
  | 7 => [4]
  | 8 => [4]
  | _ => []
theorem enter_laws_eqInt64SS (args : Array Value) (w : World) : (callFunc 47 args).run Try.prog w = .ok (.enter 47 args) w := callFunc_enter Try.func47 (by decide) rfl args w
set_option maxHeartbeats 1000000 in
theorem laws_eqInt64SS (xs ys : List (List Int)) : Con Try.prog 47 [.rows xs, .rows ys] (.bool (decide (xs = ys))) := by
  refine Con.fit enter_laws_eqInt64SS fun hfit => ?_
  have hb_xs : xs.length ≤ 9223372036854775807 := GFits.lenm (show GFits (.rows xs) from hfit 0 (Nat.le_of_ble_eq_true rfl))
  have hr_xs : ∀ r ∈ xs, r.length ≤ 9223372036854775807 := fun r hr => GFits.ints (GFits.elm (show GFits (.rows xs) from hfit 0 (Nat.le_of_ble_eq_true rfl)) r hr)
  have hb_ys : ys.length ≤ 9223372036854775807 := GFits.lenm (show GFits (.rows ys) from hfit 1 (Nat.le_of_ble_eq_true rfl))
  have hr_ys : ∀ r ∈ ys, r.length ≤ 9223372036854775807 := fun r hr => GFits.ints (GFits.elm (show GFits (.rows ys) from hfit 1 (Nat.le_of_ble_eq_true rfl)) r hr)
  clear hfit
  refine gCon lv_laws_eqInt64SS tab_ok (rs := [.tmp 4]) (sl := [(0, .g (.rows xs)), (1, .g (.rows ys))]) Try.func47 rfl Try.ntmps47 rfl enter_laws_eqInt64SS rfl (by repeat constructor) ?_
  (repeat' (first | ((with_reducible apply gLI.cone); (. exact RF.mk ⟨rfl, rfl⟩)) | (with_reducible constructor) | exact NE.mk rfl | exact RF.mk rfl | exact NU.mk (by first | omega | (simp only [LNs]; omega)) | ((with_reducible apply SLT_mk); (. rfl); (. rfl); (. rfl); (. rfl)) | ((with_reducible apply CON_of); first | apply laws_eqInt64S) | (with_reducible intro hc; (try simp only [HCs] at hc)) | exact OB_f | ((with_reducible apply OB_t); kernel_rfl) | (with_reducible first | apply gNK | apply TX_seq | apply QA_and_n | apply QA_and_e | apply QA_and_r | apply gTX_cond | apply CK_if | apply TX_skip | apply TX_ret | apply TX_exit | apply QA_in_eq | apply QA_in_n | apply QA_in_r | apply QA_lp_e | apply QA_lp_r | apply gEND_1) | apply gTX_rgW tab_ok | apply gTX_rgD tab_ok rfl | (apply TX_blk; exact RF.mk rfl) | (refine TX_loop (id := 0) (ι := Nat) (fun i => ⟨[(0, .g (.rows xs)), (1, .g (.rows ys)), (5, .g (.i i))], []⟩) (fun i => (i ≤ xs.length) ∧ (∀ z, z < i → (fun i => decide (nth xs i = nth ys i)) z = true) ∧ (xs.length = ys.length)) (fun i => xs.length - i) (0) ?_ ?_ ?_; (. ((first | apply gLX0 | apply gLX1 | apply gLX2 | apply gLX3 | apply gLX4 | apply gLX5 | apply gLX6 | apply gLX7 | apply gLX8 | apply gLX9 | apply gLX10) <;> (repeat' (first | (with_reducible constructor) | exact NE.mk rfl | exact RF.mk rfl | exact RF.mk ⟨rfl, rfl⟩ | exact RF.mk ⟨rfl, rfl, rfl⟩ | exact EQ.mk rfl | exact RF.mk (by decide) | (with_reducible apply EQ_int) | exact EQ.mk (by first | omega | (simp only [LNs]; omega)))))); (. (exact ⟨by omega, allN_zero, by omega⟩)); (rintro i ⟨h1, h2, h3⟩; (show TX _ _ _ _ _ [(0, .g (.rows xs)), (1, .g (.rows ys)), (5, .g (.i i))] [] _))) | apply gSel.ccons))
  (all_goals (first | (refine QA_lp (i + 1) ?_ ?_ ?_; (· ((first | apply gLX0 | apply gLX1 | apply gLX2 | apply gLX3 | apply gLX4 | apply gLX5 | apply gLX6 | apply gLX7 | apply gLX8 | apply gLX9 | apply gLX10) <;> (repeat' (first | (with_reducible constructor) | exact NE.mk rfl | exact RF.mk rfl | exact RF.mk ⟨rfl, rfl⟩ | exact RF.mk ⟨rfl, rfl, rfl⟩ | exact EQ.mk rfl | exact RF.mk (by decide) | (with_reducible apply EQ_int) | exact EQ.mk (by first | omega | (simp only [LNs]; omega)))))); (· ((refine ⟨by omega, allN_step h2 ?_, h3⟩; ((try simp only [Bool.and_eq_true, Bool.or_eq_true, Bool.and_eq_false_iff, Bool.or_eq_false_iff, decide_eq_true_eq, decide_eq_false_iff_not, Bool.not_eq_true', Bool.not_eq_false', beq_iff_eq, bne_iff_ne, ne_eq, beq_eq_false_iff_ne, bne_eq_false_iff_eq] at *); (first | omega | assumption | grind))))); (· (((try dsimp only); omega)))) | (((refine EQ_bool ?_; first | (rw [eq_comm, decide_eq_false_iff_not]; intro e; subst e; first | exact absurd rfl (by assumption) | simp_all | grind) | (rw [← decide_rows (by omega)]; refine (allN_true fun j hj => h2 j (by omega)).symm))); done)))

end Go.Proofs.Ytabfpoflhacknaa

