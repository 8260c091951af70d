/- Contracts of the laws' own functions over data: sizes, copies, equality. No conditions but those that each theorem names. -/
import Derived.Test.YtbjonekgeidoiaaTab
import Derived.Test.YtbjonekgeidoiaaKG
import Derived.Test.YtbjonekgeidoiaaTM
import Derived.Test.YtbjonekgeidoiaaW1
import Derived.Test.YtbjonekgeidoiaaChecked
set_option linter.unusedSimpArgs false
set_option linter.unusedVariables false
namespace Go.Proofs.Ytbjonekgeidoiaa
open Go.RowKit
open Shp

def lv_laws_szInt64S : Nat → List Nat
  | 0 => [0, 1]
  | 1 => [1]
  | 2 => [1, 10]
  | 3 => [4]
  | 4 => [4]
  | _ => []
theorem enter_laws_szInt64S (args : Array Value) (w : World) : (callFunc 88 args).run Try.prog w = .ok (.enter 88 args) w := callFunc_enter Try.func88 (by decide) rfl args w
set_option maxHeartbeats 1000000 in
theorem laws_szInt64S (xs : List Int) (l : Int) (hl : NU (0 ≤ l ∧ l ≤ 1048576)) : Con Try.prog 88 [.ints xs, .i l] (.i (szInt64S xs l)) := by
  have hl := hl.e
  refine Con.fit enter_laws_szInt64S fun hfit => ?_
  have hb_xs : xs.length ≤ 9223372036854775807 := GFits.ints (show GFits (.ints xs) from hfit 0 (Nat.le_of_ble_eq_true rfl))
  clear hfit
  refine gCon lv_laws_szInt64S tab_ok (rs := [.tmp 4]) (sl := [(0, .g (.ints xs)), (1, .g (.i l))]) Try.func88 rfl Try.ntmps88 rfl enter_laws_szInt64S rfl (by repeat constructor) ?_
  (repeat' (first | (with_reducible constructor) | exact NE.mk rfl | exact RF.mk rfl | exact NU.mk (by first | omega | (simp only [LNs]; omega)) | ((with_reducible apply SLT_mk); (. rfl); (. rfl); (. rfl); (. rfl)) | (with_reducible intro hc; (try simp only [HCs] at hc)) | exact OB_f | (with_reducible first | apply gNK | apply TX_seq | apply QA_and_n | apply QA_and_r | apply gTX_cond | apply CK_if | apply TX_skip | apply TX_ret | apply gEND_1) | apply gTX_rgW tab_ok | apply gSel.ccons))
  (all_goals (first | (((refine EQ_int (EQ.mk ?_); unfold szInt64S szThen; dsimp only; split <;> omega)); done)))

def lv_laws_toInt64S : Nat → List Nat
  | 0 => [0]
  | 1 => [0, 3]
  | 2 => [0, 3, 4]
  | 3 => [0, 3, 4, 11]
  | 4 => [0, 3, 4]
  | 5 => [0, 3, 4]
  | 6 => [2]
  | _ => []
theorem enter_laws_toInt64S (args : Array Value) (w : World) : (callFunc 95 args).run Try.prog w = .ok (.enter 95 args) w := callFunc_enter Try.func95 (by decide) rfl args w
set_option maxHeartbeats 1000000 in
theorem laws_toInt64S (xs : List Int) (hs : HY (smInt64S xs)) : Con Try.prog 95 [.ints xs] (.ints xs) := by
  have hs := hs.e
  refine Con.fit enter_laws_toInt64S fun hfit => ?_
  have hb_xs : xs.length ≤ 9223372036854775807 := GFits.ints (show GFits (.ints xs) from hfit 0 (Nat.le_of_ble_eq_true rfl))
  clear hfit
  have hs1 : xs.length ≤ 1048576 := hs
  refine gCon lv_laws_toInt64S tab_ok (rs := [.tmp 2]) (sl := [(0, .g (.ints xs))]) Try.func95 rfl Try.ntmps95 rfl enter_laws_toInt64S rfl (by repeat constructor) ?_
  (repeat' (first | ((with_reducible apply gLI.cone); (. exact RF.mk ⟨rfl, rfl⟩)) | (with_reducible constructor) | exact NE.mk rfl | exact RF.mk rfl | exact RF.mk ⟨rfl, rfl⟩ | exact NU.mk (by first | omega | (simp only [LNs]; omega)) | ((with_reducible apply SLT_mk); (. rfl); (. rfl); (. rfl); (. rfl)) | ((with_reducible apply CUT_all); (. with_reducible first | exact LEN_map _ _ | exact LEN_nil | exact LEN_1 _ | exact LEN_2 _ _ | exact LEN_any _); (. first | rfl | omega); (. first | rfl | omega)) | (with_reducible intro hc; (try simp only [HCs] at hc)) | exact OB_f | ((with_reducible apply MZ_one); (. rfl); (. rfl); (. rfl)) | (with_reducible first | apply gNK | apply TX_seq | apply QA_and_n | apply QA_and_e | apply gTX_cond | apply CK_if | apply TX_skip | apply TX_ret | apply TX_exit | apply QA_in_eq | apply QA_in_n | apply QA_lp_e | apply gEND_1) | apply gTX_rgW tab_ok | (apply TX_blk; exact RF.mk rfl) | (refine TX_loop (id := 0) (ι := Nat × (List Int)) (fun ⟨i, ys⟩ => ⟨[(0, .g (.ints xs)), (3, .own 0 0 xs.length), (4, .g (.i i))], [(0, .arr 1 true (ys.map GV.i))]⟩) (fun ⟨i, ys⟩ => (i ≤ xs.length) ∧ (ys.length = xs.length) ∧ (ys.take i = xs.take i)) (fun ⟨i, ys⟩ => xs.length - i) (0, List.replicate xs.length 0) ?_ ?_ ?_; (. ((first | apply gLX0 | apply gLX1 | apply gLX2 | apply gLX3 | apply gLX4 | apply gLX5 | apply gLX6 | apply gLX7 | apply gLX8 | apply gLX9 | apply gLX10) <;> (repeat' (first | (with_reducible constructor) | exact NE.mk rfl | exact RF.mk rfl | exact RF.mk ⟨rfl, rfl⟩ | exact RF.mk ⟨rfl, rfl, rfl⟩ | exact EQ.mk rfl | exact RF.mk (by decide) | (with_reducible apply EQ_int) | exact EQ.mk (by first | omega | (simp only [LNs]; omega)))))); (. (exact ⟨by omega, by simp, by simp⟩)); (rintro ⟨i, ys⟩ ⟨h1, h2, h3⟩; (show TX _ _ _ _ _ [(0, .g (.ints xs)), (3, .own 0 0 xs.length), (4, .g (.i i))] [(0, .arr 1 true (ys.map GV.i))] _))) | apply gSel.ccons))
  (all_goals (first | (refine QA_lp (i + 1, ys.set i (nth xs i)) ?_ ?_ ?_; (· ((first | apply gLX0 | apply gLX1 | apply gLX2 | apply gLX3 | apply gLX4 | apply gLX5 | apply gLX6 | apply gLX7 | apply gLX8 | apply gLX9 | apply gLX10) <;> (repeat' (first | (with_reducible constructor) | exact NE.mk rfl | exact RF.mk rfl | exact RF.mk ⟨rfl, rfl⟩ | exact RF.mk ⟨rfl, rfl, rfl⟩ | exact EQ.mk rfl | exact RF.mk (by decide) | (with_reducible apply EQ_int) | exact EQ.mk (by first | omega | (simp only [LNs]; omega)))))); (· ((refine ⟨by omega, by simp [h2], ?_⟩; rw [take_set (by omega), h3, take_nth (by omega)]))); (· (((try dsimp only); omega)))) | (((refine EQ_sl (EQ_map (EQ.mk ?_)); rw [← List.take_length (l := xs), ← List.take_length (l := ys), show ys.length = i by omega, h3, show xs.length = i by omega])); done)))

def lv_laws_szInt64SS : Nat → List Nat
  | 0 => [0, 1]
  | 1 => [0, 1]
  | 2 => [0, 1, 11]
  | 3 => [4]
  | 4 => [0, 1, 5]
  | 5 => [0, 1, 5, 15]
  | 6 => [0, 1, 5]
  | 7 => [0, 1, 5]
  | 8 => [0, 1, 5, 25]
  | 9 => [4]
  | 10 => [4]
  | _ => []
theorem enter_laws_szInt64SS (args : Array Value) (w : World) : (callFunc 70 args).run Try.prog w = .ok (.enter 70 args) w := callFunc_enter Try.func70 (by decide) rfl args w
set_option maxHeartbeats 1000000 in
theorem laws_szInt64SS (xs : List (List Int)) (l : Int) (hl : NU (0 ≤ l ∧ l ≤ 1048576)) : Con Try.prog 70 [.rows xs, .i l] (.i (szInt64SS xs l)) := by
  have hl := hl.e
  refine Con.fit enter_laws_szInt64SS fun hfit => ?_
  have hb_xs : xs.length ≤ 9223372036854775807 := GFits.lenm (show GFits (.rows xs) from hfit 0 (Nat.le_of_ble_eq_true rfl))
  have hr_xs : ∀ r ∈ xs, r.length ≤ 9223372036854775807 := fun r hr => GFits.ints (GFits.elm (show GFits (.rows xs) from hfit 0 (Nat.le_of_ble_eq_true rfl)) r hr)
  clear hfit
  refine gCon lv_laws_szInt64SS tab_ok (rs := [.tmp 4]) (sl := [(0, .g (.rows xs)), (1, .g (.i l))]) Try.func70 rfl Try.ntmps70 rfl enter_laws_szInt64SS rfl (by repeat constructor) ?_
  (repeat' (first | ((with_reducible apply gLI.cone); (. exact RF.mk ⟨rfl, rfl⟩)) | (with_reducible constructor) | exact NE.mk rfl | exact RF.mk rfl | exact NU.mk (by first | omega | (simp only [LNs]; omega)) | ((with_reducible apply SLT_mk); (. rfl); (. rfl); (. rfl); (. rfl)) | ((with_reducible apply CON_of); first | apply laws_szInt64S) | (with_reducible intro hc; (try simp only [HCs] at hc)) | exact OB_f | (with_reducible first | apply gNK | apply TX_seq | apply QA_and_n | apply QA_and_e | apply QA_and_r | apply gTX_cond | apply CK_if | apply TX_skip | apply TX_ret | apply TX_exit | apply QA_in_eq | apply QA_in_n | apply QA_in_r | apply QA_lp_e | apply QA_lp_r | apply gEND_1) | apply gTX_rgW tab_ok | (apply TX_blk; exact RF.mk rfl) | (refine TX_loop (id := 0) (ι := Nat × Int) (fun ⟨i, lf⟩ => ⟨[(0, .g (.rows xs)), (1, .g (.i lf)), (5, .g (.i i))], []⟩) (fun ⟨i, lf⟩ => (i ≤ xs.length) ∧ (0 ≤ lf ∧ lf ≤ 1048576) ∧ (szGo szInt64S (xs.drop i) lf = szInt64SS xs l)) (fun ⟨i, lf⟩ => xs.length - i) (0, l - xs.length) ?_ ?_ ?_; (. ((first | apply gLX0 | apply gLX1 | apply gLX2 | apply gLX3 | apply gLX4 | apply gLX5 | apply gLX6 | apply gLX7 | apply gLX8 | apply gLX9 | apply gLX10) <;> (repeat' (first | (with_reducible constructor) | exact NE.mk rfl | exact RF.mk rfl | exact RF.mk ⟨rfl, rfl⟩ | exact RF.mk ⟨rfl, rfl, rfl⟩ | exact EQ.mk rfl | exact RF.mk (by decide) | (with_reducible apply EQ_int) | exact EQ.mk (by first | omega | (simp only [LNs]; omega)))))); (. ((refine ⟨by omega, by omega, ?_⟩; unfold szInt64SS szThen; rw [if_neg (by omega)]; rfl))); (rintro ⟨i, lf⟩ ⟨h1, h2, h3⟩; (show TX _ _ _ _ _ [(0, .g (.rows xs)), (1, .g (.i lf)), (5, .g (.i i))] [] _))) | apply gSel.ccons))
  (all_goals (first | (refine QA_lp (i + 1, szInt64S (nth xs i) lf) ?_ ?_ ?_; (· ((first | apply gLX0 | apply gLX1 | apply gLX2 | apply gLX3 | apply gLX4 | apply gLX5 | apply gLX6 | apply gLX7 | apply gLX8 | apply gLX9 | apply gLX10) <;> (repeat' (first | (with_reducible constructor) | exact NE.mk rfl | exact RF.mk rfl | exact RF.mk ⟨rfl, rfl⟩ | exact RF.mk ⟨rfl, rfl, rfl⟩ | exact EQ.mk rfl | exact RF.mk (by decide) | (with_reducible apply EQ_int) | exact EQ.mk (by first | omega | (simp only [LNs]; omega)))))); (· ((have hc2 : 0 ≤ szInt64S (nth xs i) lf := hc; have q := szInt64S_ok (nth xs i) lf hc2 (by omega); refine ⟨by omega, ⟨hc, by omega⟩, ?_⟩; rw [drop_nth (by omega)] at h3; rw [← h3]; simp only [szGo]; unfold szThen; rw [if_neg (by omega)]))); (· (((try dsimp only); omega)))) | (((refine EQ_int (EQ.mk ?_); first | (rw [← h3, drop_nth (by omega)]; simp only [szGo]; unfold szThen; rw [if_pos (show szInt64S (nth xs i) lf < 0 from hc)]) | (rw [← h3, List.drop_eq_nil_of_le (by omega)]; rfl) | (unfold szInt64SS szThen; rw [if_pos (by omega)]))); done)))

def lv_laws_toInt64SS : Nat → List Nat
  | 0 => [0]
  | 1 => [0, 3]
  | 2 => [0, 3, 4]
  | 3 => [0, 3, 4, 11]
  | 4 => [0, 3, 4]
  | 5 => [0, 3, 4]
  | 6 => [2]
  | _ => []
theorem enter_laws_toInt64SS (args : Array Value) (w : World) : (callFunc 76 args).run Try.prog w = .ok (.enter 76 args) w := callFunc_enter Try.func76 (by decide) rfl args w
set_option maxHeartbeats 1000000 in
theorem laws_toInt64SS (xs : List (List Int)) (hs : HY (smInt64SS xs)) : Con Try.prog 76 [.rows xs] (.rows xs) := by
  have hs := hs.e
  refine Con.fit enter_laws_toInt64SS fun hfit => ?_
  have hb_xs : xs.length ≤ 9223372036854775807 := GFits.lenm (show GFits (.rows xs) from hfit 0 (Nat.le_of_ble_eq_true rfl))
  have hr_xs : ∀ r ∈ xs, r.length ≤ 9223372036854775807 := fun r hr => GFits.ints (GFits.elm (show GFits (.rows xs) from hfit 0 (Nat.le_of_ble_eq_true rfl)) r hr)
  clear hfit
  have hs1 := hs.1
  refine gCon lv_laws_toInt64SS tab_ok (rs := [.tmp 2]) (sl := [(0, .g (.rows xs))]) Try.func76 rfl Try.ntmps76 rfl enter_laws_toInt64SS rfl (by repeat constructor) ?_
  (repeat' (first | ((with_reducible apply gLI.cone); (. exact RF.mk ⟨rfl, rfl⟩)) | (with_reducible constructor) | exact NE.mk rfl | exact RF.mk rfl | exact RF.mk ⟨rfl, rfl⟩ | exact NU.mk (by first | omega | (simp only [LNs]; omega)) | ((with_reducible apply SLT_mk); (. rfl); (. rfl); (. rfl); (. rfl)) | ((with_reducible apply CUT_all); (. with_reducible first | exact LEN_map _ _ | exact LEN_nil | exact LEN_1 _ | exact LEN_2 _ _ | exact LEN_any _); (. first | rfl | omega); (. first | rfl | omega)) | ((with_reducible apply CON_of); first | apply laws_toInt64S) | (with_reducible intro hc; (try simp only [HCs] at hc)) | exact OB_f | exact DEC.mk (by decide) | ((with_reducible apply MZ_one); (. rfl); (. rfl); (. rfl)) | (with_reducible first | apply gNK | apply TX_seq | apply QA_and_n | apply QA_and_e | apply gTX_cond | apply CK_if | apply TX_skip | apply TX_ret | apply TX_exit | apply QA_in_eq | apply QA_in_n | apply QA_lp_e | apply gEND_1) | apply gTX_rgW tab_ok | (apply TX_blk; exact RF.mk rfl) | exact HY.mk (hs.2 _ (nth_mem (by omega))) | (refine TX_loop (id := 0) (ι := Nat × (List (List Int))) (fun ⟨i, ys⟩ => ⟨[(0, .g (.rows xs)), (3, .own 0 0 xs.length), (4, .g (.i i))], [(0, .arr 1 true (ys.map GV.ints))]⟩) (fun ⟨i, ys⟩ => (i ≤ xs.length) ∧ (ys.length = xs.length) ∧ (ys.take i = xs.take i)) (fun ⟨i, ys⟩ => xs.length - i) (0, List.replicate xs.length default) ?_ ?_ ?_; (. ((first | apply gLX0 | apply gLX1 | apply gLX2 | apply gLX3 | apply gLX4 | apply gLX5 | apply gLX6 | apply gLX7 | apply gLX8 | apply gLX9 | apply gLX10) <;> (repeat' (first | (with_reducible constructor) | exact NE.mk rfl | exact RF.mk rfl | exact RF.mk ⟨rfl, rfl⟩ | exact RF.mk ⟨rfl, rfl, rfl⟩ | exact EQ.mk rfl | exact RF.mk (by decide) | (with_reducible apply EQ_int) | exact EQ.mk (by first | omega | (simp only [LNs]; omega)))); (all_goals ((try (first | exact EQ.mk (by simp only [List.map_replicate]; rfl) | exact EQ.mk (by first | (simp; done) | fail))); done)))); (. (exact ⟨by omega, by simp, by simp⟩)); (rintro ⟨i, ys⟩ ⟨h1, h2, h3⟩; (show TX _ _ _ _ _ [(0, .g (.rows xs)), (3, .own 0 0 xs.length), (4, .g (.i i))] [(0, .arr 1 true (ys.map GV.ints))] _))) | apply gSel.ccons))
  (all_goals (first | (refine QA_lp (i + 1, ys.set i (nth xs i)) ?_ ?_ ?_; (· ((first | apply gLX0 | apply gLX1 | apply gLX2 | apply gLX3 | apply gLX4 | apply gLX5 | apply gLX6 | apply gLX7 | apply gLX8 | apply gLX9 | apply gLX10) <;> (repeat' (first | (with_reducible constructor) | exact NE.mk rfl | exact RF.mk rfl | exact RF.mk ⟨rfl, rfl⟩ | exact RF.mk ⟨rfl, rfl, rfl⟩ | exact EQ.mk rfl | exact RF.mk (by decide) | (with_reducible apply EQ_int) | exact EQ.mk (by first | omega | (simp only [LNs]; omega)))); (all_goals ((try (first | exact EQ.mk (by simp only [List.map_replicate]; rfl) | exact EQ.mk (by first | (simp; done) | fail))); done)))); (· ((refine ⟨by omega, by simp [h2], ?_⟩; rw [take_set (by omega), h3, take_nth (by omega)]))); (· (((try dsimp only); omega)))) | (((refine EQ_sl (EQ_map (EQ.mk ?_)); rw [← List.take_length (l := xs), ← List.take_length (l := ys), show ys.length = i by omega, h3, show xs.length = i by omega])); done)))

def lv_laws_eqInt64SS : Nat → List Nat
  | 0 => [0, 1]
  | 1 => [0, 1, 10]
  | 2 => [4]
  | 3 => [0, 1, 5]
  | 4 => [0, 1, 5, 14]
  | 5 => [0, 1, 5]
  | 6 => [0, 1, 5, 26]
  | 7 => [4]
  | 8 => [4]
  | _ => []
theorem enter_laws_eqInt64SS (args : Array Value) (w : World) : (callFunc 82 args).run Try.prog w = .ok (.enter 82 args) w := callFunc_enter Try.func82 (by decide) rfl args w
set_option maxHeartbeats 1000000 in
theorem laws_eqInt64SS (xs ys : List (List Int)) : Con Try.prog 82 [.rows xs, .rows ys] (.bool (decide (xs = ys))) := by
  refine Con.fit enter_laws_eqInt64SS fun hfit => ?_
  have hb_xs : xs.length ≤ 9223372036854775807 := GFits.lenm (show GFits (.rows xs) from hfit 0 (Nat.le_of_ble_eq_true rfl))
  have hr_xs : ∀ r ∈ xs, r.length ≤ 9223372036854775807 := fun r hr => GFits.ints (GFits.elm (show GFits (.rows xs) from hfit 0 (Nat.le_of_ble_eq_true rfl)) r hr)
  have hb_ys : ys.length ≤ 9223372036854775807 := GFits.lenm (show GFits (.rows ys) from hfit 1 (Nat.le_of_ble_eq_true rfl))
  have hr_ys : ∀ r ∈ ys, r.length ≤ 9223372036854775807 := fun r hr => GFits.ints (GFits.elm (show GFits (.rows ys) from hfit 1 (Nat.le_of_ble_eq_true rfl)) r hr)
  clear hfit
  refine gCon lv_laws_eqInt64SS tab_ok (rs := [.tmp 4]) (sl := [(0, .g (.rows xs)), (1, .g (.rows ys))]) Try.func82 rfl Try.ntmps82 rfl enter_laws_eqInt64SS rfl (by repeat constructor) ?_
  (repeat' (first | ((with_reducible apply gLI.cone); (. exact RF.mk ⟨rfl, rfl⟩)) | (with_reducible constructor) | exact NE.mk rfl | exact RF.mk rfl | exact NU.mk (by first | omega | (simp only [LNs]; omega)) | ((with_reducible apply SLT_mk); (. rfl); (. rfl); (. rfl); (. rfl)) | ((with_reducible apply CON_of); first | apply laws_eqInt64S) | (with_reducible intro hc; (try simp only [HCs] at hc)) | exact OB_f | ((with_reducible apply OB_t); kernel_rfl) | (with_reducible first | apply gNK | apply TX_seq | apply QA_and_n | apply QA_and_e | apply QA_and_r | apply gTX_cond | apply CK_if | apply TX_skip | apply TX_ret | apply TX_exit | apply QA_in_eq | apply QA_in_n | apply QA_in_r | apply QA_lp_e | apply QA_lp_r | apply gEND_1) | apply gTX_rgW tab_ok | apply gTX_rgD tab_ok rfl | (apply TX_blk; exact RF.mk rfl) | (refine TX_loop (id := 0) (ι := Nat) (fun i => ⟨[(0, .g (.rows xs)), (1, .g (.rows ys)), (5, .g (.i i))], []⟩) (fun i => (i ≤ xs.length) ∧ (∀ z, z < i → (fun i => decide (nth xs i = nth ys i)) z = true) ∧ (xs.length = ys.length)) (fun i => xs.length - i) (0) ?_ ?_ ?_; (. ((first | apply gLX0 | apply gLX1 | apply gLX2 | apply gLX3 | apply gLX4 | apply gLX5 | apply gLX6 | apply gLX7 | apply gLX8 | apply gLX9 | apply gLX10) <;> (repeat' (first | (with_reducible constructor) | exact NE.mk rfl | exact RF.mk rfl | exact RF.mk ⟨rfl, rfl⟩ | exact RF.mk ⟨rfl, rfl, rfl⟩ | exact EQ.mk rfl | exact RF.mk (by decide) | (with_reducible apply EQ_int) | exact EQ.mk (by first | omega | (simp only [LNs]; omega)))))); (. (exact ⟨by omega, allN_zero, by omega⟩)); (rintro i ⟨h1, h2, h3⟩; (show TX _ _ _ _ _ [(0, .g (.rows xs)), (1, .g (.rows ys)), (5, .g (.i i))] [] _))) | apply gSel.ccons))
  (all_goals (first | (refine QA_lp (i + 1) ?_ ?_ ?_; (· ((first | apply gLX0 | apply gLX1 | apply gLX2 | apply gLX3 | apply gLX4 | apply gLX5 | apply gLX6 | apply gLX7 | apply gLX8 | apply gLX9 | apply gLX10) <;> (repeat' (first | (with_reducible constructor) | exact NE.mk rfl | exact RF.mk rfl | exact RF.mk ⟨rfl, rfl⟩ | exact RF.mk ⟨rfl, rfl, rfl⟩ | exact EQ.mk rfl | exact RF.mk (by decide) | (with_reducible apply EQ_int) | exact EQ.mk (by first | omega | (simp only [LNs]; omega)))))); (· ((refine ⟨by omega, allN_step h2 ?_, h3⟩; ((try simp only [Bool.and_eq_true, Bool.or_eq_true, Bool.and_eq_false_iff, Bool.or_eq_false_iff, decide_eq_true_eq, decide_eq_false_iff_not, Bool.not_eq_true', Bool.not_eq_false', beq_iff_eq, bne_iff_ne, ne_eq, beq_eq_false_iff_ne, bne_eq_false_iff_eq] at *); (first | omega | assumption | grind))))); (· (((try dsimp only); omega)))) | (((refine EQ_bool ?_; first | (rw [eq_comm, decide_eq_false_iff_not]; intro e; subst e; first | exact absurd rfl (by assumption) | simp_all | grind) | (rw [← decide_rows (by omega)]; refine (allN_true fun j hj => h2 j (by omega)).symm))); done)))

def lv_laws_szInt64SSS : Nat → List Nat
  | 0 => [0, 1]
  | 1 => [0, 1]
  | 2 => [0, 1, 11]
  | 3 => [4]
  | 4 => [0, 1, 5]
  | 5 => [0, 1, 5, 15]
  | 6 => [0, 1, 5]
  | 7 => [0, 1, 5]
  | 8 => [0, 1, 5, 25]
  | 9 => [4]
  | 10 => [4]
  | _ => []
theorem enter_laws_szInt64SSS (args : Array Value) (w : World) : (callFunc 100 args).run Try.prog w = .ok (.enter 100 args) w := callFunc_enter Try.func100 (by decide) rfl args w
set_option maxHeartbeats 1000000 in
theorem laws_szInt64SSS (xs : List (List (List Int))) (l : Int) (hl : NU (0 ≤ l ∧ l ≤ 1048576)) : Con Try.prog 100 [.rows3 xs, .i l] (.i (szInt64SSS xs l)) := by
  have hl := hl.e
  refine Con.fit enter_laws_szInt64SSS fun hfit => ?_
  have hb_xs : xs.length ≤ 9223372036854775807 := GFits.lenm (show GFits (.rows3 xs) from hfit 0 (Nat.le_of_ble_eq_true rfl))
  have hr_xs : ∀ r ∈ xs, r.length ≤ 9223372036854775807 ∧ ∀ q ∈ r, q.length ≤ 9223372036854775807 := fun r hr => ⟨GFits.lenm (GFits.elm (show GFits (.rows3 xs) from hfit 0 (Nat.le_of_ble_eq_true rfl)) r hr), fun q hq => GFits.ints (GFits.elm (GFits.elm (show GFits (.rows3 xs) from hfit 0 (Nat.le_of_ble_eq_true rfl)) r hr) q hq)⟩
  clear hfit
  refine gCon lv_laws_szInt64SSS tab_ok (rs := [.tmp 4]) (sl := [(0, .g (.rows3 xs)), (1, .g (.i l))]) Try.func100 rfl Try.ntmps100 rfl enter_laws_szInt64SSS rfl (by repeat constructor) ?_
  (repeat' (first | ((with_reducible apply gLB.cagg); (. exact RF.mk ⟨rfl, rfl, rfl⟩)) | ((with_reducible apply gLB.cone); (. exact RF.mk ⟨rfl, rfl⟩)) | ((with_reducible apply gLI.cagg); (. exact RF.mk ⟨rfl, rfl, rfl⟩)) | ((with_reducible apply gLI.cone); (. exact RF.mk ⟨rfl, rfl⟩)) | ((with_reducible apply gAF.cbuildA); (. exact RF.mk rfl); (. exact RF.mk ⟨rfl, rfl, rfl, rfl⟩)) | (with_reducible constructor) | exact NE.mk rfl | exact RF.mk rfl | exact RF.mk ⟨rfl, rfl⟩ | exact RF.mk ⟨rfl, rfl, rfl⟩ | exact NU.mk (by first | omega | (simp only [LNs]; omega)) | ((with_reducible apply NID_mk); (try simp only [Nat.reduceAdd, Nat.reduceMul]); exact rfl) | ((with_reducible apply SLT_mk); (. rfl); (. rfl); (. rfl); (. rfl)) | ((with_reducible apply FO_mk); (. rfl); (. rfl); (. rfl); (. rfl); (. rfl)) | ((with_reducible apply FO1_mk); (. rfl); (. rfl); (. rfl); (. rfl); (. rfl)) | ((with_reducible apply CUT_all); (. with_reducible first | exact LEN_map _ _ | exact LEN_nil | exact LEN_1 _ | exact LEN_2 _ _ | exact LEN_any _); (. first | rfl | omega); (. first | rfl | omega)) | ((with_reducible apply CUT_mapT); (. first | rfl | omega); (. exact NU.mk (by first | omega | (simp only [LNs]; omega)))) | ((with_reducible apply CUT_mapD); (. first | rfl | omega)) | (with_reducible apply CUT_map) | (apply CUT_any) | (with_reducible apply CUG_mapT) | ((with_reducible apply CUG_mapD); (. exact NU.mk (by first | omega | (simp only [LNs]; omega))); (. rfl)) | (with_reducible apply CUG_map) | (apply CUG_any) | ((with_reducible apply CON_of); first | apply laws_szInt64SS) | (with_reducible intro hc; (try simp only [HCs] at hc)) | exact OB_f | exact DEC.mk (by decide) | ((with_reducible apply MZ_one); (. rfl); (. rfl); (. rfl)) | ((with_reducible apply MZ_st); (. rfl); (. rfl); (. rfl); (. rfl); (. rfl)) | ((with_reducible apply OB_t); kernel_rfl) | (with_reducible first | apply gNK | apply TX_seq | apply QA_and_n | apply QA_and_e | apply QA_and_r | apply gTX_cond | apply CK_t | apply CK_f | apply CK_if | apply TX_skip | apply TX_ret | apply TX_exit | apply TX_label | apply QA_in_eq | apply QA_in_ne | apply QA_in_n | apply QA_in_r | apply QA_lp_e | apply QA_lp_r | apply QA_ct_e | apply QA_ct_r | apply QA_nr | apply gEND_1 | apply gEND_N | apply END_0) | apply gTX_rgW tab_ok | apply gTX_rgD tab_ok rfl | (apply TX_blk; exact RF.mk rfl) | exact EQ.mk rfl | (refine TX_loop (id := 0) (ι := Nat × Int) (fun ⟨i, lf⟩ => ⟨[(0, .g (.rows3 xs)), (1, .g (.i lf)), (5, .g (.i i))], []⟩) (fun ⟨i, lf⟩ => (i ≤ xs.length) ∧ (0 ≤ lf ∧ lf ≤ 1048576) ∧ (szGo szInt64SS (xs.drop i) lf = szInt64SSS xs l)) (fun ⟨i, lf⟩ => xs.length - i) (0, l - xs.length) ?_ ?_ ?_; (. ((first | apply gLX0 | apply gLX1 | apply gLX2 | apply gLX3 | apply gLX4 | apply gLX5 | apply gLX6 | apply gLX7 | apply gLX8 | apply gLX9 | apply gLX10) <;> (repeat' (first | (with_reducible constructor) | exact NE.mk rfl | exact RF.mk rfl | exact RF.mk ⟨rfl, rfl⟩ | exact RF.mk ⟨rfl, rfl, rfl⟩ | exact EQ.mk rfl | exact RF.mk (by decide) | (with_reducible apply EQ_int) | exact EQ.mk (by first | omega | (simp only [LNs]; omega)))))); (. ((refine ⟨by omega, by omega, ?_⟩; unfold szInt64SSS szThen; rw [if_neg (by omega)]; rfl))); (rintro ⟨i, lf⟩ ⟨h1, h2, h3⟩; (show TX _ _ _ _ _ [(0, .g (.rows3 xs)), (1, .g (.i lf)), (5, .g (.i i))] [] _))) | exact gSel.cnil _ | apply gSel.ccons | apply gCG.cagg))
  (all_goals (first | (refine QA_lp (i + 1, szInt64SS (nth xs i) lf) ?_ ?_ ?_; (· ((first | apply gLX0 | apply gLX1 | apply gLX2 | apply gLX3 | apply gLX4 | apply gLX5 | apply gLX6 | apply gLX7 | apply gLX8 | apply gLX9 | apply gLX10) <;> (repeat' (first | (with_reducible constructor) | exact NE.mk rfl | exact RF.mk rfl | exact RF.mk ⟨rfl, rfl⟩ | exact RF.mk ⟨rfl, rfl, rfl⟩ | exact EQ.mk rfl | exact RF.mk (by decide) | (with_reducible apply EQ_int) | exact EQ.mk (by first | omega | (simp only [LNs]; omega)))))); (· ((have hc2 : 0 ≤ szInt64SS (nth xs i) lf := hc; have q := szInt64SS_ok (nth xs i) lf hc2 (by omega); refine ⟨by omega, ⟨hc, by omega⟩, ?_⟩; rw [drop_nth (by omega)] at h3; rw [← h3]; simp only [szGo]; unfold szThen; rw [if_neg (by omega)]))); (· (((try dsimp only); omega)))) | (((refine EQ_int (EQ.mk ?_); first | (rw [← h3, drop_nth (by omega)]; simp only [szGo]; unfold szThen; rw [if_pos (show szInt64SS (nth xs i) lf < 0 from hc)]) | (rw [← h3, List.drop_eq_nil_of_le (by omega)]; rfl) | (unfold szInt64SSS szThen; rw [if_pos (by omega)]))); done)))

def lv_laws_toInt64SSS : Nat → List Nat
  | 0 => [0]
  | 1 => [0, 3]
  | 2 => [0, 3, 4]
  | 3 => [0, 3, 4, 11]
  | 4 => [0, 3, 4]
  | 5 => [0, 3, 4]
  | 6 => [2]
  | _ => []
theorem enter_laws_toInt64SSS (args : Array Value) (w : World) : (callFunc 105 args).run Try.prog w = .ok (.enter 105 args) w := callFunc_enter Try.func105 (by decide) rfl args w
set_option maxHeartbeats 1000000 in
theorem laws_toInt64SSS (xs : List (List (List Int))) (hs : HY (smInt64SSS xs)) : Con Try.prog 105 [.rows3 xs] (.rows3 xs) := by
  have hs := hs.e
  refine Con.fit enter_laws_toInt64SSS fun hfit => ?_
  have hb_xs : xs.length ≤ 9223372036854775807 := GFits.lenm (show GFits (.rows3 xs) from hfit 0 (Nat.le_of_ble_eq_true rfl))
  have hr_xs : ∀ r ∈ xs, r.length ≤ 9223372036854775807 ∧ ∀ q ∈ r, q.length ≤ 9223372036854775807 := fun r hr => ⟨GFits.lenm (GFits.elm (show GFits (.rows3 xs) from hfit 0 (Nat.le_of_ble_eq_true rfl)) r hr), fun q hq => GFits.ints (GFits.elm (GFits.elm (show GFits (.rows3 xs) from hfit 0 (Nat.le_of_ble_eq_true rfl)) r hr) q hq)⟩
  clear hfit
  have hs1 := hs.1
  refine gCon lv_laws_toInt64SSS tab_ok (rs := [.tmp 2]) (sl := [(0, .g (.rows3 xs))]) Try.func105 rfl Try.ntmps105 rfl enter_laws_toInt64SSS rfl (by repeat constructor) ?_
  (repeat' (first | ((with_reducible apply gLB.cagg); (. exact RF.mk ⟨rfl, rfl, rfl⟩)) | ((with_reducible apply gLB.cone); (. exact RF.mk ⟨rfl, rfl⟩)) | ((with_reducible apply gLI.cagg); (. exact RF.mk ⟨rfl, rfl, rfl⟩)) | ((with_reducible apply gLI.cone); (. exact RF.mk ⟨rfl, rfl⟩)) | ((with_reducible apply gAF.cbuildA); (. exact RF.mk rfl); (. exact RF.mk ⟨rfl, rfl, rfl, rfl⟩)) | (with_reducible constructor) | exact NE.mk rfl | exact RF.mk rfl | exact RF.mk ⟨rfl, rfl⟩ | exact RF.mk ⟨rfl, rfl, rfl⟩ | exact NU.mk (by first | omega | (simp only [LNs]; omega)) | ((with_reducible apply NID_mk); (try simp only [Nat.reduceAdd, Nat.reduceMul]); exact rfl) | ((with_reducible apply SLT_mk); (. rfl); (. rfl); (. rfl); (. rfl)) | ((with_reducible apply FO_mk); (. rfl); (. rfl); (. rfl); (. rfl); (. rfl)) | ((with_reducible apply FO1_mk); (. rfl); (. rfl); (. rfl); (. rfl); (. rfl)) | ((with_reducible apply CUT_all); (. with_reducible first | exact LEN_map _ _ | exact LEN_nil | exact LEN_1 _ | exact LEN_2 _ _ | exact LEN_any _); (. first | rfl | omega); (. first | rfl | omega)) | ((with_reducible apply CUT_mapT); (. first | rfl | omega); (. exact NU.mk (by first | omega | (simp only [LNs]; omega)))) | ((with_reducible apply CUT_mapD); (. first | rfl | omega)) | (with_reducible apply CUT_map) | (apply CUT_any) | (with_reducible apply CUG_mapT) | ((with_reducible apply CUG_mapD); (. exact NU.mk (by first | omega | (simp only [LNs]; omega))); (. rfl)) | (with_reducible apply CUG_map) | (apply CUG_any) | ((with_reducible apply CON_of); first | apply laws_toInt64SS) | (with_reducible intro hc; (try simp only [HCs] at hc)) | exact OB_f | exact DEC.mk (by decide) | ((with_reducible apply MZ_one); (. rfl); (. rfl); (. rfl)) | ((with_reducible apply MZ_st); (. rfl); (. rfl); (. rfl); (. rfl); (. rfl)) | ((with_reducible apply OB_t); kernel_rfl) | (with_reducible first | apply gNK | apply TX_seq | apply QA_and_n | apply QA_and_e | apply QA_and_r | apply gTX_cond | apply CK_t | apply CK_f | apply CK_if | apply TX_skip | apply TX_ret | apply TX_exit | apply TX_label | apply QA_in_eq | apply QA_in_ne | apply QA_in_n | apply QA_in_r | apply QA_lp_e | apply QA_lp_r | apply QA_ct_e | apply QA_ct_r | apply QA_nr | apply gEND_1 | apply gEND_N | apply END_0) | apply gTX_rgW tab_ok | apply gTX_rgD tab_ok rfl | (apply TX_blk; exact RF.mk rfl) | exact EQ.mk rfl | exact HY.mk (hs.2 _ (nth_mem (by omega))) | (refine TX_loop (id := 0) (ι := Nat × (List (List (List Int)))) (fun ⟨i, ys⟩ => ⟨[(0, .g (.rows3 xs)), (3, .own 0 0 xs.length), (4, .g (.i i))], [(0, .arr 1 true (ys.map GV.rows))]⟩) (fun ⟨i, ys⟩ => (i ≤ xs.length) ∧ (ys.length = xs.length) ∧ (ys.take i = xs.take i)) (fun ⟨i, ys⟩ => xs.length - i) (0, List.replicate xs.length default) ?_ ?_ ?_; (. ((first | apply gLX0 | apply gLX1 | apply gLX2 | apply gLX3 | apply gLX4 | apply gLX5 | apply gLX6 | apply gLX7 | apply gLX8 | apply gLX9 | apply gLX10) <;> (repeat' (first | (with_reducible constructor) | exact NE.mk rfl | exact RF.mk rfl | exact RF.mk ⟨rfl, rfl⟩ | exact RF.mk ⟨rfl, rfl, rfl⟩ | exact EQ.mk rfl | exact RF.mk (by decide) | (with_reducible apply EQ_int) | exact EQ.mk (by first | omega | (simp only [LNs]; omega)))); (all_goals ((try (first | exact EQ.mk (by simp only [List.map_replicate]; rfl) | exact EQ.mk (by first | (simp; done) | fail))); done)))); (. (exact ⟨by omega, by simp, by simp⟩)); (rintro ⟨i, ys⟩ ⟨h1, h2, h3⟩; (show TX _ _ _ _ _ [(0, .g (.rows3 xs)), (3, .own 0 0 xs.length), (4, .g (.i i))] [(0, .arr 1 true (ys.map GV.rows))] _))) | exact gSel.cnil _ | apply gSel.ccons | apply gCG.cagg))
  (all_goals (first | (refine QA_lp (i + 1, ys.set i (nth xs i)) ?_ ?_ ?_; (· ((first | apply gLX0 | apply gLX1 | apply gLX2 | apply gLX3 | apply gLX4 | apply gLX5 | apply gLX6 | apply gLX7 | apply gLX8 | apply gLX9 | apply gLX10) <;> (repeat' (first | (with_reducible constructor) | exact NE.mk rfl | exact RF.mk rfl | exact RF.mk ⟨rfl, rfl⟩ | exact RF.mk ⟨rfl, rfl, rfl⟩ | exact EQ.mk rfl | exact RF.mk (by decide) | (with_reducible apply EQ_int) | exact EQ.mk (by first | omega | (simp only [LNs]; omega)))); (all_goals ((try (first | exact EQ.mk (by simp only [List.map_replicate]; rfl) | exact EQ.mk (by first | (simp; done) | fail))); done)))); (· ((refine ⟨by omega, by simp [h2], ?_⟩; rw [take_set (by omega), h3, take_nth (by omega)]))); (· (((try dsimp only); omega)))) | (((refine EQ_sl (EQ_map (EQ.mk ?_)); rw [← List.take_length (l := xs), ← List.take_length (l := ys), show ys.length = i by omega, h3, show xs.length = i by omega])); done)))

def lv_laws_eqInt64SSS : Nat → List Nat
  | 0 => [0, 1]
  | 1 => [0, 1, 10]
  | 2 => [4]
  | 3 => [0, 1, 5]
  | 4 => [0, 1, 5, 14]
  | 5 => [0, 1, 5]
  | 6 => [0, 1, 5, 26]
  | 7 => [4]
  | 8 => [4]
  | _ => []
theorem enter_laws_eqInt64SSS (args : Array Value) (w : World) : (callFunc 108 args).run Try.prog w = .ok (.enter 108 args) w := callFunc_enter Try.func108 (by decide) rfl args w
set_option maxHeartbeats 1000000 in
theorem laws_eqInt64SSS (xs ys : List (List (List Int))) : Con Try.prog 108 [.rows3 xs, .rows3 ys] (.bool (decide (xs = ys))) := by
  refine Con.fit enter_laws_eqInt64SSS fun hfit => ?_
  have hb_xs : xs.length ≤ 9223372036854775807 := GFits.lenm (show GFits (.rows3 xs) from hfit 0 (Nat.le_of_ble_eq_true rfl))
  have hr_xs : ∀ r ∈ xs, r.length ≤ 9223372036854775807 ∧ ∀ q ∈ r, q.length ≤ 9223372036854775807 := fun r hr => ⟨GFits.lenm (GFits.elm (show GFits (.rows3 xs) from hfit 0 (Nat.le_of_ble_eq_true rfl)) r hr), fun q hq => GFits.ints (GFits.elm (GFits.elm (show GFits (.rows3 xs) from hfit 0 (Nat.le_of_ble_eq_true rfl)) r hr) q hq)⟩
  have hb_ys : ys.length ≤ 9223372036854775807 := GFits.lenm (show GFits (.rows3 ys) from hfit 1 (Nat.le_of_ble_eq_true rfl))
  have hr_ys : ∀ r ∈ ys, r.length ≤ 9223372036854775807 ∧ ∀ q ∈ r, q.length ≤ 9223372036854775807 := fun r hr => ⟨GFits.lenm (GFits.elm (show GFits (.rows3 ys) from hfit 1 (Nat.le_of_ble_eq_true rfl)) r hr), fun q hq => GFits.ints (GFits.elm (GFits.elm (show GFits (.rows3 ys) from hfit 1 (Nat.le_of_ble_eq_true rfl)) r hr) q hq)⟩
  clear hfit
  refine gCon lv_laws_eqInt64SSS tab_ok (rs := [.tmp 4]) (sl := [(0, .g (.rows3 xs)), (1, .g (.rows3 ys))]) Try.func108 rfl Try.ntmps108 rfl enter_laws_eqInt64SSS rfl (by repeat constructor) ?_
  (repeat' (first | ((with_reducible apply gLB.cagg); (. exact RF.mk ⟨rfl, rfl, rfl⟩)) | ((with_reducible apply gLB.cone); (. exact RF.mk ⟨rfl, rfl⟩)) | ((with_reducible apply gLI.cagg); (. exact RF.mk ⟨rfl, rfl, rfl⟩)) | ((with_reducible apply gLI.cone); (. exact RF.mk ⟨rfl, rfl⟩)) | ((with_reducible apply gAF.cbuildA); (. exact RF.mk rfl); (. exact RF.mk ⟨rfl, rfl, rfl, rfl⟩)) | (with_reducible constructor) | exact NE.mk rfl | exact RF.mk rfl | exact RF.mk ⟨rfl, rfl⟩ | exact RF.mk ⟨rfl, rfl, rfl⟩ | exact NU.mk (by first | omega | (simp only [LNs]; omega)) | ((with_reducible apply NID_mk); (try simp only [Nat.reduceAdd, Nat.reduceMul]); exact rfl) | ((with_reducible apply SLT_mk); (. rfl); (. rfl); (. rfl); (. rfl)) | ((with_reducible apply FO_mk); (. rfl); (. rfl); (. rfl); (. rfl); (. rfl)) | ((with_reducible apply FO1_mk); (. rfl); (. rfl); (. rfl); (. rfl); (. rfl)) | ((with_reducible apply CUT_all); (. with_reducible first | exact LEN_map _ _ | exact LEN_nil | exact LEN_1 _ | exact LEN_2 _ _ | exact LEN_any _); (. first | rfl | omega); (. first | rfl | omega)) | ((with_reducible apply CUT_mapT); (. first | rfl | omega); (. exact NU.mk (by first | omega | (simp only [LNs]; omega)))) | ((with_reducible apply CUT_mapD); (. first | rfl | omega)) | (with_reducible apply CUT_map) | (apply CUT_any) | (with_reducible apply CUG_mapT) | ((with_reducible apply CUG_mapD); (. exact NU.mk (by first | omega | (simp only [LNs]; omega))); (. rfl)) | (with_reducible apply CUG_map) | (apply CUG_any) | ((with_reducible apply CON_of); first | apply laws_eqInt64SS) | (with_reducible intro hc; (try simp only [HCs] at hc)) | exact OB_f | exact DEC.mk (by decide) | ((with_reducible apply MZ_one); (. rfl); (. rfl); (. rfl)) | ((with_reducible apply MZ_st); (. rfl); (. rfl); (. rfl); (. rfl); (. rfl)) | ((with_reducible apply OB_t); kernel_rfl) | (with_reducible first | apply gNK | apply TX_seq | apply QA_and_n | apply QA_and_e | apply QA_and_r | apply gTX_cond | apply CK_t | apply CK_f | apply CK_if | apply TX_skip | apply TX_ret | apply TX_exit | apply TX_label | apply QA_in_eq | apply QA_in_ne | apply QA_in_n | apply QA_in_r | apply QA_lp_e | apply QA_lp_r | apply QA_ct_e | apply QA_ct_r | apply QA_nr | apply gEND_1 | apply gEND_N | apply END_0) | apply gTX_rgW tab_ok | apply gTX_rgD tab_ok rfl | (apply TX_blk; exact RF.mk rfl) | exact EQ.mk rfl | (refine TX_loop (id := 0) (ι := Nat) (fun i => ⟨[(0, .g (.rows3 xs)), (1, .g (.rows3 ys)), (5, .g (.i i))], []⟩) (fun i => (i ≤ xs.length) ∧ (∀ z, z < i → (fun i => decide (nth xs i = nth ys i)) z = true) ∧ (xs.length = ys.length)) (fun i => xs.length - i) (0) ?_ ?_ ?_; (. ((first | apply gLX0 | apply gLX1 | apply gLX2 | apply gLX3 | apply gLX4 | apply gLX5 | apply gLX6 | apply gLX7 | apply gLX8 | apply gLX9 | apply gLX10) <;> (repeat' (first | (with_reducible constructor) | exact NE.mk rfl | exact RF.mk rfl | exact RF.mk ⟨rfl, rfl⟩ | exact RF.mk ⟨rfl, rfl, rfl⟩ | exact EQ.mk rfl | exact RF.mk (by decide) | (with_reducible apply EQ_int) | exact EQ.mk (by first | omega | (simp only [LNs]; omega)))))); (. (exact ⟨by omega, allN_zero, by omega⟩)); (rintro i ⟨h1, h2, h3⟩; (show TX _ _ _ _ _ [(0, .g (.rows3 xs)), (1, .g (.rows3 ys)), (5, .g (.i i))] [] _))) | exact gSel.cnil _ | apply gSel.ccons | apply gCG.cagg))
  (all_goals (first | (refine QA_lp (i + 1) ?_ ?_ ?_; (· ((first | apply gLX0 | apply gLX1 | apply gLX2 | apply gLX3 | apply gLX4 | apply gLX5 | apply gLX6 | apply gLX7 | apply gLX8 | apply gLX9 | apply gLX10) <;> (repeat' (first | (with_reducible constructor) | exact NE.mk rfl | exact RF.mk rfl | exact RF.mk ⟨rfl, rfl⟩ | exact RF.mk ⟨rfl, rfl, rfl⟩ | exact EQ.mk rfl | exact RF.mk (by decide) | (with_reducible apply EQ_int) | exact EQ.mk (by first | omega | (simp only [LNs]; omega)))))); (· ((refine ⟨by omega, allN_step h2 ?_, h3⟩; ((try simp only [Bool.and_eq_true, Bool.or_eq_true, Bool.and_eq_false_iff, Bool.or_eq_false_iff, decide_eq_true_eq, decide_eq_false_iff_not, Bool.not_eq_true', Bool.not_eq_false', beq_iff_eq, bne_iff_ne, ne_eq, beq_eq_false_iff_ne, bne_eq_false_iff_eq] at *); (first | omega | assumption | grind))))); (· (((try dsimp only); omega)))) | (((refine EQ_bool ?_; first | (rw [eq_comm, decide_eq_false_iff_not]; intro e; subst e; first | exact absurd rfl (by assumption) | simp_all | grind) | (rw [← decide_rows (by omega)]; refine (allN_true fun j hj => h2 j (by omega)).symm))); done)))

end Go.Proofs.Ytbjonekgeidoiaa

