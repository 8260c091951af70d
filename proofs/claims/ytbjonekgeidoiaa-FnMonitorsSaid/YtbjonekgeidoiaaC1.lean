/- Contracts: interfaces, words, clauses. No conditions but those that each theorem names. -/
import Derived.Test.YtbjonekgeidoiaaTab
import Derived.Test.YtbjonekgeidoiaaKG
import Derived.Test.YtbjonekgeidoiaaW1
import Derived.Test.YtbjonekgeidoiaaT2
import Derived.Test.YtbjonekgeidoiaaChecked
set_option linter.unusedSimpArgs false
set_option linter.unusedVariables false
namespace Go.Proofs.Ytbjonekgeidoiaa
open Go.RowKit
open Shp

def lv_spec_SigOk : Nat → List Nat
  | 0 => [1]
  | 1 => [2]
  | _ => []
theorem enter_spec_SigOk (args : Array Value) (w : World) : (callFunc 134 args).run Try.prog w = .ok (.enter 134 args) w := callFunc_enter Try.func134 (by decide) rfl args w
set_option maxHeartbeats 1000000 in
theorem spec_SigOk (i o : Int) : Con Try.prog 134 [.sig i o] (.bool (sigB i o)) := by
  refine gCon lv_spec_SigOk tab_ok (rs := [.tmp 2]) (sl := [(0, .g (.sig i o))]) Try.func134 rfl Try.ntmps134 rfl enter_spec_SigOk rfl (by repeat constructor) ?_
  (repeat' (first | ((with_reducible apply gLB.cone); (. exact RF.mk ⟨rfl, rfl⟩)) | (with_reducible constructor) | exact NE.mk rfl | exact RF.mk rfl | ((with_reducible apply FO_mk); (. rfl); (. rfl); (. rfl); (. rfl); (. rfl)) | ((with_reducible apply CON_of); first | apply spec_l1In) | (with_reducible intro hc; (try simp only [HCs] at hc)) | exact OB_f | (with_reducible first | apply gNK | apply TX_seq | apply QA_and_n | apply TX_ret | apply gEND_1) | apply gTX_rgW tab_ok | apply gSel.ccons))
  (all_goals (first | (((refine EQ_bool ?_; (try unfold sigB); (first | rfl | (simp_all; done) | (rw [Bool.eq_iff_iff]; (try simp only [Bool.and_eq_true, Bool.or_eq_true, Bool.and_eq_false_iff, Bool.or_eq_false_iff, decide_eq_true_eq, decide_eq_false_iff_not, Bool.not_eq_true', Bool.not_eq_false', beq_iff_eq, bne_iff_ne, ne_eq, beq_eq_false_iff_ne, bne_eq_false_iff_eq, Bool.true_eq_false, Bool.false_eq_true, true_iff, false_iff, iff_true, iff_false, not_and, not_or] at *); (first | omega | grind))))); done)))

def lv_impl_isSig : Nat → List Nat
  | 0 => [1]
  | 1 => [2]
  | _ => []
theorem enter_impl_isSig (args : Array Value) (w : World) : (callFunc 78 args).run Try.prog w = .ok (.enter 78 args) w := callFunc_enter Try.func78 (by decide) rfl args w
set_option maxHeartbeats 1000000 in
theorem impl_isSig (i o : Int) : Con Try.prog 78 [.sig i o] (.bool (sigB i o)) := by
  refine gCon lv_impl_isSig tab_ok (rs := [.tmp 2]) (sl := [(0, .g (.sig i o))]) Try.func78 rfl Try.ntmps78 rfl enter_impl_isSig rfl (by repeat constructor) ?_
  (repeat' (first | ((with_reducible apply gLB.cone); (. exact RF.mk ⟨rfl, rfl⟩)) | (with_reducible constructor) | exact NE.mk rfl | exact RF.mk rfl | ((with_reducible apply FO_mk); (. rfl); (. rfl); (. rfl); (. rfl); (. rfl)) | (with_reducible intro hc; (try simp only [HCs] at hc)) | exact OB_f | (with_reducible first | apply gNK | apply TX_seq | apply QA_and_n | apply TX_ret | apply gEND_1) | apply gTX_rgW tab_ok | apply gSel.ccons))
  (all_goals (first | (((refine EQ_bool ?_; (try unfold sigB); (first | rfl | (simp_all; done) | (rw [Bool.eq_iff_iff]; (try simp only [Bool.and_eq_true, Bool.or_eq_true, Bool.and_eq_false_iff, Bool.or_eq_false_iff, decide_eq_true_eq, decide_eq_false_iff_not, Bool.not_eq_true', Bool.not_eq_false', beq_iff_eq, bne_iff_ne, ne_eq, beq_eq_false_iff_ne, bne_eq_false_iff_eq, Bool.true_eq_false, Bool.false_eq_true, true_iff, false_iff, iff_true, iff_false, not_and, not_or] at *); (first | omega | grind))))); done)))

def lv_spec_l23Power : Nat → List Nat
  | 0 => [0]
  | 1 => [0, 3]
  | 2 => [0, 3, 5]
  | 3 => [0, 3]
  | 4 => [0, 3]
  | 5 => [2]
  | _ => []
theorem enter_spec_l23Power (args : Array Value) (w : World) : (callFunc 137 args).run Try.prog w = .ok (.enter 137 args) w := callFunc_enter Try.func137 (by decide) rfl args w
set_option maxHeartbeats 1000000 in
theorem spec_l23Power (n : Int) (hn : NU (-10 ≤ n ∧ n ≤ 10)) : Con Try.prog 137 [.i n] (.i (pw n)) := by
  have hn := hn.e
  refine gCon lv_spec_l23Power tab_ok (rs := [.tmp 2]) (sl := [(0, .g (.i n))]) Try.func137 rfl Try.ntmps137 rfl enter_spec_l23Power rfl (by repeat constructor) ?_
  (repeat' (first | (with_reducible constructor) | exact NE.mk rfl | exact RF.mk rfl | exact NU.mk (by first | omega | (simp only [LNs]; omega) | (first | omega | (have q := p2_le i (by omega); omega))) | (with_reducible intro hc; (try simp only [HCs] at hc)) | exact OB_f | (with_reducible first | apply gNK | apply TX_seq | apply QA_and_n | apply QA_and_e | apply gTX_cond | apply CK_if | apply TX_skip | apply TX_ret | apply TX_exit | apply QA_in_eq | apply QA_in_n | apply QA_lp_e | apply gEND_1) | apply gTX_rgW tab_ok | (apply TX_blk; exact RF.mk rfl) | (refine TX_loop (id := 0) (ι := Nat) (fun i => ⟨[(0, .g (.i (n - i))), (3, .g (.i (2 ^ i)))], []⟩) (fun i => (i ≤ n.toNat)) (fun i => n.toNat - i) (0) ?_ ?_ ?_; (. ((first | apply gLX0 | apply gLX1 | apply gLX2 | apply gLX3 | apply gLX4 | apply gLX5 | apply gLX6 | apply gLX7 | apply gLX8 | apply gLX9 | apply gLX10) <;> (repeat' (first | (with_reducible constructor) | exact NE.mk rfl | exact RF.mk rfl | exact RF.mk ⟨rfl, rfl⟩ | exact RF.mk ⟨rfl, rfl, rfl⟩ | exact EQ.mk rfl | exact RF.mk (by decide) | (with_reducible apply EQ_int) | exact EQ.mk (by first | omega | (simp only [LNs]; omega) | (first | omega | (have q := p2_le i (by omega); omega))))); (all_goals ((first | exact EQ.mk (by omega) | exact EQ.mk (by rw [Int.pow_succ])); done)))); (. (omega)); (rintro i h1; (show TX _ _ _ _ _ [(0, .g (.i (n - i))), (3, .g (.i (2 ^ i)))] [] _))) | apply gSel.ccons))
  (all_goals (first | (refine QA_lp (i + 1) ?_ ?_ ?_; (· ((first | apply gLX0 | apply gLX1 | apply gLX2 | apply gLX3 | apply gLX4 | apply gLX5 | apply gLX6 | apply gLX7 | apply gLX8 | apply gLX9 | apply gLX10) <;> (repeat' (first | (with_reducible constructor) | exact NE.mk rfl | exact RF.mk rfl | exact RF.mk ⟨rfl, rfl⟩ | exact RF.mk ⟨rfl, rfl, rfl⟩ | exact EQ.mk rfl | exact RF.mk (by decide) | (with_reducible apply EQ_int) | exact EQ.mk (by first | omega | (simp only [LNs]; omega) | (first | omega | (have q := p2_le i (by omega); omega))))); (all_goals ((first | exact EQ.mk (by omega) | exact EQ.mk (by rw [Int.pow_succ])); done)))); (· (omega)); (· (((try dsimp only); omega)))) | (((refine EQ_int (EQ.mk ?_); unfold pw; rw [show i = n.toNat by omega])); done)))

def lv_impl_lettersOf : Nat → List Nat
  | 0 => [1]
  | 1 => [2]
  | _ => []
theorem enter_impl_lettersOf (args : Array Value) (w : World) : (callFunc 124 args).run Try.prog w = .ok (.enter 124 args) w := callFunc_enter Try.func124 (by decide) rfl args w
set_option maxHeartbeats 1000000 in
theorem impl_lettersOf (i o : Int) (hn : NU (0 ≤ i ∧ i ≤ 4 ∧ 0 ≤ o ∧ o ≤ 4)) : Con Try.prog 124 [.sig i o] (.i (pw (i + o))) := by
  have hn := hn.e
  refine gCon lv_impl_lettersOf tab_ok (rs := [.tmp 2]) (sl := [(0, .g (.sig i o))]) Try.func124 rfl Try.ntmps124 rfl enter_impl_lettersOf rfl (by repeat constructor) ?_
  (repeat' (first | ((with_reducible apply gLB.cone); (. exact RF.mk ⟨rfl, rfl⟩)) | (with_reducible constructor) | exact NE.mk rfl | exact RF.mk rfl | exact NU.mk (by first | omega | (simp only [LNs]; omega) | (first | omega | exact ⟨by omega, by omega, by omega, by have := p2_le (i + o).toNat (by omega); omega⟩)) | ((with_reducible apply FO_mk); (. rfl); (. rfl); (. rfl); (. rfl); (. rfl)) | exact OB_f | (with_reducible first | apply gNK | apply TX_seq | apply QA_and_n | apply TX_ret | apply gEND_1) | apply gTX_rgW tab_ok | apply gSel.ccons))
  (all_goals (first | (((refine EQ_int (EQ.mk ?_); unfold pw; simp)); done)))

def lv_spec_LettersOf : Nat → List Nat
  | 0 => [1]
  | 1 => [1, 5]
  | 2 => [2]
  | 3 => [2]
  | _ => []
theorem enter_spec_LettersOf (args : Array Value) (w : World) : (callFunc 135 args).run Try.prog w = .ok (.enter 135 args) w := callFunc_enter Try.func135 (by decide) rfl args w
set_option maxHeartbeats 1000000 in
theorem spec_LettersOf (i o : Int) : Con Try.prog 135 [.sig i o] (.i (lettersB i o)) := by
  refine gCon lv_spec_LettersOf tab_ok (rs := [.tmp 2]) (sl := [(0, .g (.sig i o))]) Try.func135 rfl Try.ntmps135 rfl enter_spec_LettersOf rfl (by repeat constructor) ?_
  (repeat' (first | ((with_reducible apply gLB.cagg); (. exact RF.mk ⟨rfl, rfl, rfl⟩)) | ((with_reducible apply gLB.cone); (. exact RF.mk ⟨rfl, rfl⟩)) | (with_reducible constructor) | exact NE.mk rfl | exact RF.mk rfl | exact NU.mk (by first | omega | (simp only [LNs]; omega) | (first | omega | (have q := sigB_r (by assumption); omega))) | ((with_reducible apply FO_mk); (. rfl); (. rfl); (. rfl); (. rfl); (. rfl)) | ((with_reducible apply CON_of); first | apply spec_SigOk | apply spec_l23Power) | (with_reducible intro hc; (try simp only [HCs] at hc)) | exact OB_f | (with_reducible first | apply gNK | apply TX_seq | apply QA_and_n | apply QA_and_r | apply gTX_cond | apply CK_if | apply TX_skip | apply TX_ret | apply gEND_1) | apply gTX_rgW tab_ok | apply gSel.ccons))
  (all_goals (first | (((refine EQ_int (EQ.mk ?_); unfold lettersB; simp_all)); done)))

def lv_IndexFunc_int64 : Nat → List Nat
  | 0 => [0, 1]
  | 1 => [0, 1, 7, 8]
  | 2 => [0, 1, 7, 8, 9]
  | 3 => [0, 1, 5, 7, 8]
  | 4 => [0, 1, 5, 7, 8, 16]
  | 5 => [4]
  | 6 => [0, 1, 7, 8]
  | 7 => [4]
  | _ => []
theorem enter_IndexFunc_int64 (args : Array Value) (w : World) : (callFunc 191 args).run Try.prog w = .ok (.enter 191 args) w := callFunc_enter Try.func191 (by decide) rfl args w
set_option maxHeartbeats 1000000 in
theorem IndexFunc_int64 (xs : List (Int)) (f : FuncId) (caps : List GV) (p : Int → Bool) (hf : HY (∀ x : Int, Con Try.prog f (.i x :: caps) (.bool (p x)))) : Con Try.prog 191 [.ints xs, .fn f caps] (.i (firstN xs.length fun i => p (nth xs i))) := by
  have hf := hf.e
  refine Con.fit enter_IndexFunc_int64 fun hfit => ?_
  have hb_xs : xs.length ≤ 9223372036854775807 := GFits.ints (show GFits (.ints xs) from hfit 0 (Nat.le_of_ble_eq_true rfl))
  clear hfit
  refine gCon lv_IndexFunc_int64 tab_ok (rs := [.tmp 4]) (sl := [(0, .g (.ints xs)), (1, .g (.fn f caps))]) Try.func191 rfl Try.ntmps191 rfl enter_IndexFunc_int64 rfl (by repeat constructor) ?_
  (repeat' (first | ((with_reducible apply gLI.cone); (. exact RF.mk ⟨rfl, rfl⟩)) | (with_reducible constructor) | exact NE.mk rfl | exact RF.mk rfl | exact NU.mk (by first | omega | (simp only [LNs]; omega)) | ((with_reducible apply SLT_mk); (. rfl); (. rfl); (. rfl); (. rfl)) | ((with_reducible apply CON_of); first | (exact hf _)) | (with_reducible intro hc; (try simp only [HCs] at hc)) | exact OB_f | (with_reducible first | apply gNK | apply TX_seq | apply QA_and_n | apply QA_and_e | apply QA_and_r | apply gTX_cond | apply CK_if | apply TX_skip | apply TX_ret | apply TX_exit | apply QA_in_eq | apply QA_in_n | apply QA_in_r | apply QA_lp_e | apply QA_lp_r | apply gEND_1) | apply gTX_rgW tab_ok | (apply TX_blk; exact RF.mk rfl) | (refine TX_loop (id := 0) (ι := Nat) (fun i => ⟨[(0, .g (.ints xs)), (1, .g (.fn f caps)), (7, .g (.i xs.length)), (8, .g (.i i))], []⟩) (fun i => (i ≤ xs.length) ∧ (∀ z, z < i → (fun i => p (nth xs i)) z = false)) (fun i => xs.length - i) (0) ?_ ?_ ?_; (. ((first | apply gLX0 | apply gLX1 | apply gLX2 | apply gLX3 | apply gLX4 | apply gLX5 | apply gLX6 | apply gLX7 | apply gLX8 | apply gLX9 | apply gLX10) <;> (repeat' (first | (with_reducible constructor) | exact NE.mk rfl | exact RF.mk rfl | exact RF.mk ⟨rfl, rfl⟩ | exact RF.mk ⟨rfl, rfl, rfl⟩ | exact EQ.mk rfl | exact RF.mk (by decide) | (with_reducible apply EQ_int) | exact EQ.mk (by first | omega | (simp only [LNs]; omega)))))); (. (exact ⟨by omega, noneN_zero⟩)); (rintro i ⟨h1, h2⟩; (show TX _ _ _ _ _ [(0, .g (.ints xs)), (1, .g (.fn f caps)), (7, .g (.i xs.length)), (8, .g (.i i))] [] _))) | apply gSel.ccons))
  (all_goals (first | (refine QA_lp (i + 1) ?_ ?_ ?_; (· ((first | apply gLX0 | apply gLX1 | apply gLX2 | apply gLX3 | apply gLX4 | apply gLX5 | apply gLX6 | apply gLX7 | apply gLX8 | apply gLX9 | apply gLX10) <;> (repeat' (first | (with_reducible constructor) | exact NE.mk rfl | exact RF.mk rfl | exact RF.mk ⟨rfl, rfl⟩ | exact RF.mk ⟨rfl, rfl, rfl⟩ | exact EQ.mk rfl | exact RF.mk (by decide) | (with_reducible apply EQ_int) | exact EQ.mk (by first | omega | (simp only [LNs]; omega)))))); (· ((refine ⟨by omega, noneN_step h2 ?_⟩; ((try simp only [Bool.and_eq_true, Bool.or_eq_true, Bool.and_eq_false_iff, Bool.or_eq_false_iff, decide_eq_true_eq, decide_eq_false_iff_not, Bool.not_eq_true', Bool.not_eq_false', beq_iff_eq, bne_iff_ne, ne_eq, beq_eq_false_iff_ne, bne_eq_false_iff_eq] at *); (first | omega | assumption | grind))))); (· (((try dsimp only); omega)))) | (((refine EQ_int (EQ.mk ?_); skip; first | exact Eq.symm (firstN_none fun j hj => h2 j (by omega)) | (refine Eq.symm (firstN_at i (by omega) ?_ h2); ((try simp only [Bool.and_eq_true, Bool.or_eq_true, Bool.and_eq_false_iff, Bool.or_eq_false_iff, decide_eq_true_eq, decide_eq_false_iff_not, Bool.not_eq_true', Bool.not_eq_false', beq_iff_eq, bne_iff_ne, ne_eq, beq_eq_false_iff_ne, bne_eq_false_iff_eq] at *); (first | omega | assumption | grind))))); done)))

def lv_ContainsFunc_int64 : Nat → List Nat
  | 0 => [0, 1]
  | 1 => [4]
  | _ => []
theorem enter_ContainsFunc_int64 (args : Array Value) (w : World) : (callFunc 177 args).run Try.prog w = .ok (.enter 177 args) w := callFunc_enter Try.func177 (by decide) rfl args w
set_option maxHeartbeats 1000000 in
theorem ContainsFunc_int64 (xs : List (Int)) (f : FuncId) (caps : List GV) (p : Int → Bool) (hf : HY (∀ x : Int, Con Try.prog f (.i x :: caps) (.bool (p x)))) : Con Try.prog 177 [.ints xs, .fn f caps] (.bool (!allN xs.length fun i => !p (nth xs i))) := by
  have hf := hf.e
  refine Con.fit enter_ContainsFunc_int64 fun hfit => ?_
  have hb_xs : xs.length ≤ 9223372036854775807 := GFits.ints (show GFits (.ints xs) from hfit 0 (Nat.le_of_ble_eq_true rfl))
  clear hfit
  refine gCon lv_ContainsFunc_int64 tab_ok (rs := [.tmp 4]) (sl := [(0, .g (.ints xs)), (1, .g (.fn f caps))]) Try.func177 rfl Try.ntmps177 rfl enter_ContainsFunc_int64 rfl (by repeat constructor) ?_
  (repeat' (first | (with_reducible constructor) | exact NE.mk rfl | exact RF.mk rfl | ((with_reducible apply CON_of); first | (exact IndexFunc_int64 xs f caps p (HY.mk hf))) | exact OB_f | (with_reducible first | apply gNK | apply TX_seq | apply QA_and_n | apply TX_ret | apply gEND_1) | apply gTX_rgW tab_ok | apply gSel.ccons))
  (all_goals (first | (((refine EQ_bool ?_; exact firstN_ge)); done)))

def lv_impl_areLetters_c1 : Nat → List Nat
  | 0 => [0, 1]
  | 1 => [3]
  | _ => []
theorem enter_impl_areLetters_c1 (args : Array Value) (w : World) : (callFunc 185 args).run Try.prog w = .ok (.enter 185 args) w := callFunc_enter Try.func185 (by decide) rfl args w
set_option maxHeartbeats 1000000 in
theorem impl_areLetters_c1 (x n : Int) : Con Try.prog 185 [.i x, .box [.i n]] (.bool (decide (x < 0) || decide (x ≥ n))) := by
  refine gCon lv_impl_areLetters_c1 tab_ok (rs := [.tmp 3]) (sl := [(0, .g (.i x)), (1, .g (.box [.i n]))]) Try.func185 rfl Try.ntmps185 rfl enter_impl_areLetters_c1 rfl (by repeat constructor) ?_
  (repeat' (first | ((with_reducible apply gLI.cone); (. exact RF.mk ⟨rfl, rfl⟩)) | (with_reducible constructor) | exact NE.mk rfl | exact RF.mk rfl | (with_reducible intro hc; (try simp only [HCs] at hc)) | exact OB_f | (with_reducible first | apply gNK | apply TX_seq | apply QA_and_n | apply TX_ret | apply gEND_1) | apply gTX_rgW tab_ok | apply gSel.ccons))
  (all_goals (first | (((refine EQ_bool ?_; skip; (first | rfl | (simp_all; done) | (rw [Bool.eq_iff_iff]; (try simp only [Bool.and_eq_true, Bool.or_eq_true, Bool.and_eq_false_iff, Bool.or_eq_false_iff, decide_eq_true_eq, decide_eq_false_iff_not, Bool.not_eq_true', Bool.not_eq_false', beq_iff_eq, bne_iff_ne, ne_eq, beq_eq_false_iff_ne, bne_eq_false_iff_eq, Bool.true_eq_false, Bool.false_eq_true, true_iff, false_iff, iff_true, iff_false, not_and, not_or] at *); (first | omega | grind))))); done)))

def lv_impl_areLetters : Nat → List Nat
  | 0 => [0, 3]
  | 1 => [4]
  | _ => []
theorem enter_impl_areLetters (args : Array Value) (w : World) : (callFunc 152 args).run Try.prog w = .ok (.enter 152 args) w := callFunc_enter Try.func152 (by decide) rfl args w
set_option maxHeartbeats 1000000 in
theorem impl_areLetters (xs : List Int) (n : Int) : Con Try.prog 152 [.ints xs, .i n] (.bool (below xs n)) := by
  refine Con.fit enter_impl_areLetters fun hfit => ?_
  have hb_xs : xs.length ≤ 9223372036854775807 := GFits.ints (show GFits (.ints xs) from hfit 0 (Nat.le_of_ble_eq_true rfl))
  clear hfit
  refine gCon lv_impl_areLetters tab_ok (rs := [.tmp 4]) (sl := [(0, .g (.ints xs)), (1, .g (.i n))]) Try.func152 rfl Try.ntmps152 rfl enter_impl_areLetters rfl (by repeat constructor) ?_
  (repeat' (first | (with_reducible constructor) | exact NE.mk rfl | exact RF.mk rfl | ((with_reducible apply CON_of); first | (exact ContainsFunc_int64 xs 185 [.box [.i n]] (fun x => decide (x < 0) || decide (x ≥ n)) (HY.mk fun x => impl_areLetters_c1 x n))) | exact OB_f | (with_reducible first | apply gNK | apply TX_seq | apply QA_and_n | apply TX_ret | apply gEND_1) | apply gTX_rgW tab_ok | apply gSel.ccons))
  (all_goals (first | (((refine EQ_bool ?_; rw [Bool.not_not]; unfold below; refine allN_congr fun j hj => ?_; rw [Bool.eq_iff_iff]; simp only [Bool.and_eq_true, Bool.or_eq_true, Bool.and_eq_false_iff, Bool.or_eq_false_iff, decide_eq_true_eq, decide_eq_false_iff_not, Bool.not_eq_true', Bool.not_eq_false', beq_iff_eq, bne_iff_ne, ne_eq, beq_eq_false_iff_ne, bne_eq_false_iff_eq]; first | omega | grind)); done)))

def lv_impl_isSet : Nat → List Nat
  | 0 => [0, 1]
  | 1 => [0, 1, 7, 8, 9]
  | 2 => [0, 1, 7, 8, 9, 10]
  | 3 => [0, 1, 5, 6, 7, 8, 9]
  | 4 => [0, 1, 7, 8, 9, 33]
  | 5 => [4]
  | 6 => [0, 1, 7, 8, 9]
  | 7 => [4]
  | _ => []
theorem enter_impl_isSet (args : Array Value) (w : World) : (callFunc 160 args).run Try.prog w = .ok (.enter 160 args) w := callFunc_enter Try.func160 (by decide) rfl args w
set_option maxHeartbeats 1000000 in
theorem impl_isSet (xs : List Int) (n : Int) : Con Try.prog 160 [.ints xs, .i n] (.bool (rises xs n)) := by
  refine Con.fit enter_impl_isSet fun hfit => ?_
  have hb_xs : xs.length ≤ 9223372036854775807 := GFits.ints (show GFits (.ints xs) from hfit 0 (Nat.le_of_ble_eq_true rfl))
  clear hfit
  refine gCon lv_impl_isSet tab_ok (rs := [.tmp 4]) (sl := [(0, .g (.ints xs)), (1, .g (.i n))]) Try.func160 rfl Try.ntmps160 rfl enter_impl_isSet rfl (by repeat constructor) ?_
  (repeat' (first | ((with_reducible apply gLI.cone); (. exact RF.mk ⟨rfl, rfl⟩)) | (with_reducible constructor) | exact NE.mk rfl | exact RF.mk rfl | exact NU.mk (by first | omega | (simp only [LNs]; omega)) | ((with_reducible apply SLT_mk); (. rfl); (. rfl); (. rfl); (. rfl)) | (with_reducible intro hc; (try simp only [HCs] at hc)) | exact OB_f | (with_reducible first | apply gNK | apply TX_seq | apply QA_and_n | apply QA_and_e | apply QA_and_r | apply gTX_cond | apply CK_t | apply CK_f | apply CK_if | apply TX_skip | apply TX_ret | apply TX_exit | apply QA_in_eq | apply QA_in_n | apply QA_in_r | apply QA_lp_e | apply QA_lp_r | apply gEND_1) | apply gTX_rgW tab_ok | (apply TX_blk; exact RF.mk rfl) | (refine TX_loop (id := 0) (ι := Nat) (fun i => ⟨[(0, .g (.ints xs)), (1, .g (.i n)), (7, .g (.ints xs)), (8, .g (.i xs.length)), (9, .g (.i i))], []⟩) (fun i => (i ≤ xs.length) ∧ (∀ z, z < i → (fun i => decide (0 ≤ nth xs i) && decide (nth xs i < n) && (decide (i = 0) || decide (nth xs (i - 1) < nth xs i))) z = true)) (fun i => xs.length - i) (0) ?_ ?_ ?_; (. ((first | apply gLX0 | apply gLX1 | apply gLX2 | apply gLX3 | apply gLX4 | apply gLX5 | apply gLX6 | apply gLX7 | apply gLX8 | apply gLX9 | apply gLX10) <;> (repeat' (first | (with_reducible constructor) | exact NE.mk rfl | exact RF.mk rfl | exact RF.mk ⟨rfl, rfl⟩ | exact RF.mk ⟨rfl, rfl, rfl⟩ | exact EQ.mk rfl | exact RF.mk (by decide) | (with_reducible apply EQ_int) | exact EQ.mk (by first | omega | (simp only [LNs]; omega)))))); (. (exact ⟨by omega, allN_zero⟩)); (rintro i ⟨h1, h2⟩; (show TX _ _ _ _ _ [(0, .g (.ints xs)), (1, .g (.i n)), (7, .g (.ints xs)), (8, .g (.i xs.length)), (9, .g (.i i))] [] _))) | apply gSel.ccons))
  (all_goals (first | (refine QA_lp (i + 1) ?_ ?_ ?_; (· ((first | apply gLX0 | apply gLX1 | apply gLX2 | apply gLX3 | apply gLX4 | apply gLX5 | apply gLX6 | apply gLX7 | apply gLX8 | apply gLX9 | apply gLX10) <;> (repeat' (first | (with_reducible constructor) | exact NE.mk rfl | exact RF.mk rfl | exact RF.mk ⟨rfl, rfl⟩ | exact RF.mk ⟨rfl, rfl, rfl⟩ | exact EQ.mk rfl | exact RF.mk (by decide) | (with_reducible apply EQ_int) | exact EQ.mk (by first | omega | (simp only [LNs]; omega)))))); (· ((refine ⟨by omega, allN_step h2 ?_⟩; ((try simp only [Bool.and_eq_true, Bool.or_eq_true, Bool.and_eq_false_iff, Bool.or_eq_false_iff, decide_eq_true_eq, decide_eq_false_iff_not, Bool.not_eq_true', Bool.not_eq_false', beq_iff_eq, bne_iff_ne, ne_eq, beq_eq_false_iff_ne, bne_eq_false_iff_eq] at *); (first | omega | assumption | grind))))); (· (((try dsimp only); omega)))) | (((first | (refine EQ_bool ?_; (try unfold rises); first | rfl | exact Eq.symm (allN_true fun j hj => h2 j (by omega)) | (refine Eq.symm (allN_false i (by omega) ?_); ((try simp only [Bool.and_eq_true, Bool.or_eq_true, Bool.and_eq_false_iff, Bool.or_eq_false_iff, decide_eq_true_eq, decide_eq_false_iff_not, Bool.not_eq_true', Bool.not_eq_false', beq_iff_eq, bne_iff_ne, ne_eq, beq_eq_false_iff_ne, bne_eq_false_iff_eq] at *); (first | omega | assumption | grind))) | exact Eq.symm (nallN_false fun j hj => h2 j (by omega)) | (refine Eq.symm (nallN_true i (by omega) ?_); ((try simp only [Bool.and_eq_true, Bool.or_eq_true, Bool.and_eq_false_iff, Bool.or_eq_false_iff, decide_eq_true_eq, decide_eq_false_iff_not, Bool.not_eq_true', Bool.not_eq_false', beq_iff_eq, bne_iff_ne, ne_eq, beq_eq_false_iff_ne, bne_eq_false_iff_eq] at *); (first | omega | assumption | grind))) | ((try simp only [Bool.and_eq_true, Bool.or_eq_true, Bool.and_eq_false_iff, Bool.or_eq_false_iff, decide_eq_true_eq, decide_eq_false_iff_not, Bool.not_eq_true', Bool.not_eq_false', beq_iff_eq, bne_iff_ne, ne_eq, beq_eq_false_iff_ne, bne_eq_false_iff_eq] at *); (first | omega | assumption | grind))))); done)))

def lv_impl_isWord : Nat → List Nat
  | 0 => [1, 2]
  | 1 => [4]
  | _ => []
theorem enter_impl_isWord (args : Array Value) (w : World) : (callFunc 97 args).run Try.prog w = .ok (.enter 97 args) w := callFunc_enter Try.func97 (by decide) rfl args w
set_option maxHeartbeats 1000000 in
theorem impl_isWord (s l : List Int) (n : Int) : Con Try.prog 97 [.word s l, .i n] (.bool (wordB s l n)) := by
  refine Con.fit enter_impl_isWord fun hfit => ?_
  have hb_s : s.length ≤ 9223372036854775807 := GFits.ints (GFits.cell (show GFits (.word s l) from hfit 0 (Nat.le_of_ble_eq_true rfl)) (.head _))
  have hb_l : l.length ≤ 9223372036854775807 := GFits.ints (GFits.cell (show GFits (.word s l) from hfit 0 (Nat.le_of_ble_eq_true rfl)) (.tail _ (.head _)))
  clear hfit
  refine gCon lv_impl_isWord tab_ok (rs := [.tmp 4]) (sl := [(0, .g (.word s l)), (1, .g (.i n))]) Try.func97 rfl Try.ntmps97 rfl enter_impl_isWord rfl (by repeat constructor) ?_
  (repeat' (first | ((with_reducible apply gLB.cone); (. exact RF.mk ⟨rfl, rfl⟩)) | (with_reducible constructor) | exact NE.mk rfl | exact RF.mk rfl | ((with_reducible apply SLT_mk); (. rfl); (. rfl); (. rfl); (. rfl)) | ((with_reducible apply FO_mk); (. rfl); (. rfl); (. rfl); (. rfl); (. rfl)) | ((with_reducible apply CON_of); first | apply impl_areLetters) | (with_reducible intro hc; (try simp only [HCs] at hc)) | exact OB_f | (with_reducible first | apply gNK | apply TX_seq | apply QA_and_n | apply TX_ret | apply gEND_1) | apply gTX_rgW tab_ok | apply gSel.ccons))
  (all_goals (first | (((refine EQ_bool ?_; (try unfold wordB); (first | rfl | (simp_all; done) | (rw [Bool.eq_iff_iff]; (try simp only [Bool.and_eq_true, Bool.or_eq_true, Bool.and_eq_false_iff, Bool.or_eq_false_iff, decide_eq_true_eq, decide_eq_false_iff_not, Bool.not_eq_true', Bool.not_eq_false', beq_iff_eq, bne_iff_ne, ne_eq, beq_eq_false_iff_ne, bne_eq_false_iff_eq, Bool.true_eq_false, Bool.false_eq_true, true_iff, false_iff, iff_true, iff_false, not_and, not_or] at *); (first | omega | grind))))); done)))

def lv_spec_l23Word : Nat → List Nat
  | 0 => [1, 2]
  | 1 => [1, 2, 20]
  | 2 => [4]
  | 3 => [4]
  | _ => []
theorem enter_spec_l23Word (args : Array Value) (w : World) : (callFunc 90 args).run Try.prog w = .ok (.enter 90 args) w := callFunc_enter Try.func90 (by decide) rfl args w
set_option maxHeartbeats 1000000 in
theorem spec_l23Word (s l : List Int) (n : Int) (hn : NU (-1000000 ≤ n ∧ n ≤ 1000000)) : Con Try.prog 90 [.word s l, .i n] (.bool (wordB s l n)) := by
  have hn := hn.e
  refine Con.fit enter_spec_l23Word fun hfit => ?_
  have hb_s : s.length ≤ 9223372036854775807 := GFits.ints (GFits.cell (show GFits (.word s l) from hfit 0 (Nat.le_of_ble_eq_true rfl)) (.head _))
  have hb_l : l.length ≤ 9223372036854775807 := GFits.ints (GFits.cell (show GFits (.word s l) from hfit 0 (Nat.le_of_ble_eq_true rfl)) (.tail _ (.head _)))
  clear hfit
  refine gCon lv_spec_l23Word tab_ok (rs := [.tmp 4]) (sl := [(0, .g (.word s l)), (1, .g (.i n))]) Try.func90 rfl Try.ntmps90 rfl enter_spec_l23Word rfl (by repeat constructor) ?_
  (repeat' (first | ((with_reducible apply gLB.cone); (. exact RF.mk ⟨rfl, rfl⟩)) | (with_reducible constructor) | exact NE.mk rfl | exact RF.mk rfl | exact NU.mk (by first | omega | (simp only [LNs]; omega)) | ((with_reducible apply SLT_mk); (. rfl); (. rfl); (. rfl); (. rfl)) | ((with_reducible apply FO_mk); (. rfl); (. rfl); (. rfl); (. rfl); (. rfl)) | ((with_reducible apply CON_of); first | apply spec_l23Below) | (with_reducible intro hc; (try simp only [HCs] at hc)) | exact OB_f | (with_reducible first | apply gNK | apply TX_seq | apply QA_and_n | apply QA_and_r | apply gTX_cond | apply CK_t | apply CK_if | apply TX_skip | apply TX_ret | apply gEND_1) | apply gTX_rgW tab_ok | apply gSel.ccons))
  (all_goals (first | (((refine EQ_bool ?_; (try unfold wordB); (first | rfl | (simp_all; done) | (rw [Bool.eq_iff_iff]; (try simp only [Bool.and_eq_true, Bool.or_eq_true, Bool.and_eq_false_iff, Bool.or_eq_false_iff, decide_eq_true_eq, decide_eq_false_iff_not, Bool.not_eq_true', Bool.not_eq_false', beq_iff_eq, bne_iff_ne, ne_eq, beq_eq_false_iff_ne, bne_eq_false_iff_eq, Bool.true_eq_false, Bool.false_eq_true, true_iff, false_iff, iff_true, iff_false, not_and, not_or] at *); (first | omega | grind))))); done)))

def lv_spec_WordOk : Nat → List Nat
  | 0 => [2, 3]
  | 1 => [4]
  | _ => []
theorem enter_spec_WordOk (args : Array Value) (w : World) : (callFunc 61 args).run Try.prog w = .ok (.enter 61 args) w := callFunc_enter Try.func61 (by decide) rfl args w
set_option maxHeartbeats 1000000 in
theorem spec_WordOk (i o : Int) (s l : List Int) : Con Try.prog 61 [.sig i o, .word s l] (.bool (sigB i o && wordB s l (lettersB i o))) := by
  refine Con.fit enter_spec_WordOk fun hfit => ?_
  have hb_s : s.length ≤ 9223372036854775807 := GFits.ints (GFits.cell (show GFits (.word s l) from hfit 1 (Nat.le_of_ble_eq_true rfl)) (.head _))
  have hb_l : l.length ≤ 9223372036854775807 := GFits.ints (GFits.cell (show GFits (.word s l) from hfit 1 (Nat.le_of_ble_eq_true rfl)) (.tail _ (.head _)))
  clear hfit
  refine gCon lv_spec_WordOk tab_ok (rs := [.tmp 4]) (sl := [(0, .g (.sig i o)), (1, .g (.word s l))]) Try.func61 rfl Try.ntmps61 rfl enter_spec_WordOk rfl (by repeat constructor) ?_
  (repeat' (first | ((with_reducible apply gLB.cagg); (. exact RF.mk ⟨rfl, rfl, rfl⟩)) | ((with_reducible apply gLB.cone); (. exact RF.mk ⟨rfl, rfl⟩)) | ((with_reducible apply gLI.cagg); (. exact RF.mk ⟨rfl, rfl, rfl⟩)) | ((with_reducible apply gLI.cone); (. exact RF.mk ⟨rfl, rfl⟩)) | ((with_reducible apply gAF.cbuildA); (. exact RF.mk rfl); (. exact RF.mk ⟨rfl, rfl, rfl, rfl⟩)) | (with_reducible constructor) | exact NE.mk rfl | exact RF.mk rfl | exact RF.mk ⟨rfl, rfl⟩ | exact RF.mk ⟨rfl, rfl, rfl⟩ | exact NU.mk (by first | omega | (simp only [LNs]; omega) | (first | omega | (have q := lettersB_range i o; omega) | (have q := sigB_r (by assumption); omega))) | ((with_reducible apply NID_mk); (try simp only [Nat.reduceAdd, Nat.reduceMul]); exact rfl) | ((with_reducible apply SLT_mk); (. rfl); (. rfl); (. rfl); (. rfl)) | ((with_reducible apply FO_mk); (. rfl); (. rfl); (. rfl); (. rfl); (. rfl)) | ((with_reducible apply FO1_mk); (. rfl); (. rfl); (. rfl); (. rfl); (. rfl)) | ((with_reducible apply CUT_all); (. with_reducible first | exact LEN_map _ _ | exact LEN_nil | exact LEN_1 _ | exact LEN_2 _ _ | exact LEN_any _); (. first | rfl | omega); (. first | rfl | omega)) | ((with_reducible apply CUT_mapT); (. first | rfl | omega); (. exact NU.mk (by first | omega | (simp only [LNs]; omega) | (first | omega | (have q := lettersB_range i o; omega) | (have q := sigB_r (by assumption); omega))))) | ((with_reducible apply CUT_mapD); (. first | rfl | omega)) | (with_reducible apply CUT_map) | (apply CUT_any) | (with_reducible apply CUG_mapT) | ((with_reducible apply CUG_mapD); (. exact NU.mk (by first | omega | (simp only [LNs]; omega) | (first | omega | (have q := lettersB_range i o; omega) | (have q := sigB_r (by assumption); omega)))); (. rfl)) | (with_reducible apply CUG_map) | (apply CUG_any) | ((with_reducible apply CON_of); first | apply spec_l23Word | apply spec_SigOk | apply spec_LettersOf) | (with_reducible intro hc; (try simp only [HCs] at hc)) | exact OB_f | exact DEC.mk (by decide) | ((with_reducible apply MZ_one); (. rfl); (. rfl); (. rfl)) | ((with_reducible apply MZ_st); (. rfl); (. rfl); (. rfl); (. rfl); (. rfl)) | ((with_reducible apply OB_t); kernel_rfl) | (with_reducible first | apply gNK | apply TX_seq | apply QA_and_n | apply QA_and_e | apply QA_and_r | apply gTX_cond | apply CK_t | apply CK_f | apply CK_if | apply TX_skip | apply TX_ret | apply TX_exit | apply TX_label | apply QA_in_eq | apply QA_in_ne | apply QA_in_n | apply QA_in_r | apply QA_lp_e | apply QA_lp_r | apply QA_ct_e | apply QA_ct_r | apply QA_nr | apply gEND_1 | apply gEND_N | apply END_0) | apply gTX_rgW tab_ok | apply gTX_rgD tab_ok rfl | (apply TX_blk; exact RF.mk rfl) | exact EQ.mk rfl | exact gSel.cnil _ | apply gSel.ccons | apply gCG.cagg))
  (all_goals (first | (((refine EQ_bool ?_; skip; (first | rfl | (simp_all; done) | (rw [Bool.eq_iff_iff]; (try simp only [Bool.and_eq_true, Bool.or_eq_true, Bool.and_eq_false_iff, Bool.or_eq_false_iff, decide_eq_true_eq, decide_eq_false_iff_not, Bool.not_eq_true', Bool.not_eq_false', beq_iff_eq, bne_iff_ne, ne_eq, beq_eq_false_iff_ne, bne_eq_false_iff_eq, Bool.true_eq_false, Bool.false_eq_true, true_iff, false_iff, iff_true, iff_false, not_and, not_or] at *); (first | omega | grind))))); done)))

def lv_impl_hasSecond : Nat → List Nat
  | 0 => [0]
  | 1 => [2]
  | _ => []
theorem enter_impl_hasSecond (args : Array Value) (w : World) : (callFunc 173 args).run Try.prog w = .ok (.enter 173 args) w := callFunc_enter Try.func173 (by decide) rfl args w
set_option maxHeartbeats 1000000 in
theorem impl_hasSecond (k : Int) : Con Try.prog 173 [.i k] (.bool (secondB k)) := by
  refine gCon lv_impl_hasSecond tab_ok (rs := [.tmp 2]) (sl := [(0, .g (.i k))]) Try.func173 rfl Try.ntmps173 rfl enter_impl_hasSecond rfl (by repeat constructor) ?_
  (repeat' (first | (with_reducible constructor) | exact NE.mk rfl | exact RF.mk rfl | (with_reducible intro hc; (try simp only [HCs] at hc)) | exact OB_f | (with_reducible first | apply gNK | apply TX_seq | apply QA_and_n | apply TX_ret | apply gEND_1) | apply gTX_rgW tab_ok | apply gSel.ccons))
  (all_goals (first | (((refine EQ_bool ?_; (try unfold secondB); (first | rfl | (simp_all; done) | (rw [Bool.eq_iff_iff]; (try simp only [Bool.and_eq_true, Bool.or_eq_true, Bool.and_eq_false_iff, Bool.or_eq_false_iff, decide_eq_true_eq, decide_eq_false_iff_not, Bool.not_eq_true', Bool.not_eq_false', beq_iff_eq, bne_iff_ne, ne_eq, beq_eq_false_iff_ne, bne_eq_false_iff_eq, Bool.true_eq_false, Bool.false_eq_true, true_iff, false_iff, iff_true, iff_false, not_and, not_or] at *); (first | omega | grind))))); done)))

def lv_spec_l24Both : Nat → List Nat
  | 0 => [0]
  | 1 => [2]
  | _ => []
theorem enter_spec_l24Both (args : Array Value) (w : World) : (callFunc 178 args).run Try.prog w = .ok (.enter 178 args) w := callFunc_enter Try.func178 (by decide) rfl args w
set_option maxHeartbeats 1000000 in
theorem spec_l24Both (k : Int) : Con Try.prog 178 [.i k] (.bool (secondB k)) := by
  refine gCon lv_spec_l24Both tab_ok (rs := [.tmp 2]) (sl := [(0, .g (.i k))]) Try.func178 rfl Try.ntmps178 rfl enter_spec_l24Both rfl (by repeat constructor) ?_
  (repeat' (first | (with_reducible constructor) | exact NE.mk rfl | exact RF.mk rfl | (with_reducible intro hc; (try simp only [HCs] at hc)) | exact OB_f | (with_reducible first | apply gNK | apply TX_seq | apply QA_and_n | apply TX_ret | apply gEND_1) | apply gTX_rgW tab_ok | apply gSel.ccons))
  (all_goals (first | (((refine EQ_bool ?_; (try unfold secondB); (first | rfl | (simp_all; done) | (rw [Bool.eq_iff_iff]; (try simp only [Bool.and_eq_true, Bool.or_eq_true, Bool.and_eq_false_iff, Bool.or_eq_false_iff, decide_eq_true_eq, decide_eq_false_iff_not, Bool.not_eq_true', Bool.not_eq_false', beq_iff_eq, bne_iff_ne, ne_eq, beq_eq_false_iff_ne, bne_eq_false_iff_eq, Bool.true_eq_false, Bool.false_eq_true, true_iff, false_iff, iff_true, iff_false, not_and, not_or] at *); (first | omega | grind))))); done)))

def lv_impl_isClause : Nat → List Nat
  | 0 => [2, 3]
  | 1 => [3, 28]
  | 2 => [4]
  | 3 => [4]
  | _ => []
theorem enter_impl_isClause (args : Array Value) (w : World) : (callFunc 123 args).run Try.prog w = .ok (.enter 123 args) w := callFunc_enter Try.func123 (by decide) rfl args w
set_option maxHeartbeats 1000000 in
theorem impl_isClause (i o k : Int) (a b : List Int) (hs : HY (sigB i o = true)) : Con Try.prog 123 [.sig i o, .clause k a b] (.bool (clauseB (lettersB i o) k a b)) := by
  have hs := hs.e
  refine Con.fit enter_impl_isClause fun hfit => ?_
  have hb_a : a.length ≤ 9223372036854775807 := GFits.ints (GFits.cell (show GFits (.clause k a b) from hfit 1 (Nat.le_of_ble_eq_true rfl)) (.tail _ (.head _)))
  have hb_b : b.length ≤ 9223372036854775807 := GFits.ints (GFits.cell (show GFits (.clause k a b) from hfit 1 (Nat.le_of_ble_eq_true rfl)) (.tail _ (.tail _ (.head _))))
  clear hfit
  refine gCon lv_impl_isClause tab_ok (rs := [.tmp 4]) (sl := [(0, .g (.sig i o)), (1, .g (.clause k a b))]) Try.func123 rfl Try.ntmps123 rfl enter_impl_isClause rfl (by repeat constructor) ?_
  (repeat' (first | ((with_reducible apply gLB.cagg); (. exact RF.mk ⟨rfl, rfl, rfl⟩)) | ((with_reducible apply gLB.cone); (. exact RF.mk ⟨rfl, rfl⟩)) | (with_reducible constructor) | exact NE.mk rfl | exact RF.mk rfl | exact NU.mk (by first | omega | (simp only [LNs]; omega) | (first | omega | (have q := sigB_r (by assumption); omega))) | ((with_reducible apply SLT_mk); (. rfl); (. rfl); (. rfl); (. rfl)) | ((with_reducible apply FO_mk); (. rfl); (. rfl); (. rfl); (. rfl); (. rfl)) | ((with_reducible apply CON_of); first | apply impl_lettersOf | apply impl_isSet | apply impl_hasSecond) | (with_reducible intro hc; (try simp only [HCs] at hc)) | exact OB_f | ((with_reducible apply OB_t); kernel_rfl) | (with_reducible first | apply gNK | apply TX_seq | apply QA_and_n | apply QA_and_r | apply gTX_cond | apply CK_t | apply CK_if | apply TX_skip | apply TX_ret | apply gEND_1) | apply gTX_rgW tab_ok | apply gTX_rgD tab_ok rfl | apply gSel.ccons))
  (all_goals (first | (((refine EQ_bool ?_; (rw [lettersB_pos (by assumption)] at *); (try simp only [clauseB] at *); rw [Bool.eq_iff_iff]; (try simp only [Bool.and_eq_true, Bool.or_eq_true, Bool.and_eq_false_iff, Bool.or_eq_false_iff, decide_eq_true_eq, decide_eq_false_iff_not, Bool.not_eq_true', Bool.not_eq_false', beq_iff_eq, bne_iff_ne, ne_eq, beq_eq_false_iff_ne, bne_eq_false_iff_eq, Int.natCast_eq_zero, List.length_eq_zero_iff, Bool.true_eq_false, Bool.false_eq_true, true_iff, false_iff, iff_true, iff_false, true_and, and_true, false_and, and_false, not_and, not_or, Bool.not_eq_true, Bool.not_eq_false, Int.not_lt, Int.not_le] at *); first | done | omega | (simp_all; done) | grind)); done)))

def lv_spec_ClauseOk : Nat → List Nat
  | 0 => [2, 3]
  | 1 => [2, 3, 14]
  | 2 => [4]
  | 3 => [3, 5]
  | 4 => [4]
  | _ => []
theorem enter_spec_ClauseOk (args : Array Value) (w : World) : (callFunc 126 args).run Try.prog w = .ok (.enter 126 args) w := callFunc_enter Try.func126 (by decide) rfl args w
set_option maxHeartbeats 1000000 in
theorem spec_ClauseOk (i o k : Int) (a b : List Int) : Con Try.prog 126 [.sig i o, .clause k a b] (.bool (sigB i o && clauseB (lettersB i o) k a b)) := by
  refine Con.fit enter_spec_ClauseOk fun hfit => ?_
  have hb_a : a.length ≤ 9223372036854775807 := GFits.ints (GFits.cell (show GFits (.clause k a b) from hfit 1 (Nat.le_of_ble_eq_true rfl)) (.tail _ (.head _)))
  have hb_b : b.length ≤ 9223372036854775807 := GFits.ints (GFits.cell (show GFits (.clause k a b) from hfit 1 (Nat.le_of_ble_eq_true rfl)) (.tail _ (.tail _ (.head _))))
  clear hfit
  refine gCon lv_spec_ClauseOk tab_ok (rs := [.tmp 4]) (sl := [(0, .g (.sig i o)), (1, .g (.clause k a b))]) Try.func126 rfl Try.ntmps126 rfl enter_spec_ClauseOk rfl (by repeat constructor) ?_
  (repeat' (first | ((with_reducible apply gLB.cagg); (. exact RF.mk ⟨rfl, rfl, rfl⟩)) | ((with_reducible apply gLB.cone); (. exact RF.mk ⟨rfl, rfl⟩)) | ((with_reducible apply gLI.cagg); (. exact RF.mk ⟨rfl, rfl, rfl⟩)) | ((with_reducible apply gLI.cone); (. exact RF.mk ⟨rfl, rfl⟩)) | ((with_reducible apply gAF.cbuildA); (. exact RF.mk rfl); (. exact RF.mk ⟨rfl, rfl, rfl, rfl⟩)) | (with_reducible constructor) | exact NE.mk rfl | exact RF.mk rfl | exact RF.mk ⟨rfl, rfl⟩ | exact RF.mk ⟨rfl, rfl, rfl⟩ | exact NU.mk (by first | omega | (simp only [LNs]; omega) | (first | omega | (have q := lettersB_range i o; omega) | (have q := sigB_r (by assumption); omega))) | ((with_reducible apply NID_mk); (try simp only [Nat.reduceAdd, Nat.reduceMul]); exact rfl) | ((with_reducible apply SLT_mk); (. rfl); (. rfl); (. rfl); (. rfl)) | ((with_reducible apply FO_mk); (. rfl); (. rfl); (. rfl); (. rfl); (. rfl)) | ((with_reducible apply FO1_mk); (. rfl); (. rfl); (. rfl); (. rfl); (. rfl)) | ((with_reducible apply CUT_all); (. with_reducible first | exact LEN_map _ _ | exact LEN_nil | exact LEN_1 _ | exact LEN_2 _ _ | exact LEN_any _); (. first | rfl | omega); (. first | rfl | omega)) | ((with_reducible apply CUT_mapT); (. first | rfl | omega); (. exact NU.mk (by first | omega | (simp only [LNs]; omega) | (first | omega | (have q := lettersB_range i o; omega) | (have q := sigB_r (by assumption); omega))))) | ((with_reducible apply CUT_mapD); (. first | rfl | omega)) | (with_reducible apply CUT_map) | (apply CUT_any) | (with_reducible apply CUG_mapT) | ((with_reducible apply CUG_mapD); (. exact NU.mk (by first | omega | (simp only [LNs]; omega) | (first | omega | (have q := lettersB_range i o; omega) | (have q := sigB_r (by assumption); omega)))); (. rfl)) | (with_reducible apply CUG_map) | (apply CUG_any) | ((with_reducible apply CON_of); first | apply spec_l1Set | apply spec_l1In | apply spec_SigOk | apply spec_LettersOf | apply spec_l24Both) | (with_reducible intro hc; (try simp only [HCs] at hc)) | exact OB_f | exact DEC.mk (by decide) | ((with_reducible apply MZ_one); (. rfl); (. rfl); (. rfl)) | ((with_reducible apply MZ_st); (. rfl); (. rfl); (. rfl); (. rfl); (. rfl)) | ((with_reducible apply OB_t); kernel_rfl) | (with_reducible first | apply gNK | apply TX_seq | apply QA_and_n | apply QA_and_e | apply QA_and_r | apply gTX_cond | apply CK_t | apply CK_f | apply CK_if | apply TX_skip | apply TX_ret | apply TX_exit | apply TX_label | apply QA_in_eq | apply QA_in_ne | apply QA_in_n | apply QA_in_r | apply QA_lp_e | apply QA_lp_r | apply QA_ct_e | apply QA_ct_r | apply QA_nr | apply gEND_1 | apply gEND_N | apply END_0) | apply gTX_rgW tab_ok | apply gTX_rgD tab_ok rfl | (apply TX_blk; exact RF.mk rfl) | exact EQ.mk rfl | exact gSel.cnil _ | apply gSel.ccons | apply gCG.cagg))
  (all_goals (first | (((refine EQ_bool ?_; (try rw [setB_rises (lettersB_range i o).1] at *); (try simp only [clauseB] at *); rw [Bool.eq_iff_iff]; (try simp only [Bool.and_eq_true, Bool.or_eq_true, Bool.and_eq_false_iff, Bool.or_eq_false_iff, decide_eq_true_eq, decide_eq_false_iff_not, Bool.not_eq_true', Bool.not_eq_false', beq_iff_eq, bne_iff_ne, ne_eq, beq_eq_false_iff_ne, bne_eq_false_iff_eq, Int.natCast_eq_zero, List.length_eq_zero_iff, Bool.true_eq_false, Bool.false_eq_true, true_iff, false_iff, iff_true, iff_false, true_and, and_true, false_and, and_false, not_and, not_or, Bool.not_eq_true, Bool.not_eq_false, Int.not_lt, Int.not_le] at *); first | done | omega | (simp_all; done) | grind)); done)))

end Go.Proofs.Ytbjonekgeidoiaa

