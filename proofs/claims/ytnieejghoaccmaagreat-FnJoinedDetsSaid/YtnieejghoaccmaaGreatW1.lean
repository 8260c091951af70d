/- Contracts of small functions: numbers, lists, words. No conditions but those that each theorem names. -/
import Derived.Test.YtnieejghoaccmaaGreatTab
import Derived.Test.YtnieejghoaccmaaGreatKG
import Derived.Test.YtnieejghoaccmaaGreatOG
import Derived.Test.YtnieejghoaccmaaGreatChecked
set_option linter.unusedSimpArgs false
set_option linter.unusedVariables false
namespace Go.Proofs.YtnieejghoaccmaaGreat
open Go.RowKit
open Shp
def Zlm : Nat → List Nat
 | 0 => [0, 1, 2]
 | 1 => [6]
 | _ => []
theorem Zh9 (args : Array Value) (w : World) : (callFunc 41 args).run Tryz.prog w = .ok (.enter 41 args) w := Zab Tryz.func41 (by decide) rfl args w
set_option maxHeartbeats 1000000 in
theorem Zdb (x lo hi : Int) : Con Tryz.prog 41 [.i x, .i lo, .i hi] (.bool (decide (lo ≤ x) && decide (x ≤ hi))) := by
 refine gCon Zlm Zac (rs := [.tmp 6]) (sl := [(0, .g (.i x)), (1, .g (.i lo)), (2, .g (.i hi))]) Tryz.func41 rfl Tryz.ntmps41 rfl Zh9 rfl (by repeat constructor) ?_
 (repeat' (first | (with_reducible constructor) | exact Z2 | (with_reducible intro hc; (try simp only [HCs] at hc)) | exact OB_f | (with_reducible first | apply gNK | apply Zao | apply Zaf | apply Zap | apply Zat) | apply Zah Zac | apply gSel.ccons))
 (all_goals (first | (((first | (refine Zar ?_; first | (simp_all; done) | (rw [Bool.eq_iff_iff]; simp only [Bool.and_eq_true, Bool.or_eq_true, decide_eq_true_eq, Bool.false_eq_true, false_iff, true_iff, iff_false, iff_true, not_and, not_or, Bool.not_eq_true, decide_eq_false_iff_not, beq_iff_eq, bne_iff_ne, ne_eq, Bool.not_eq_true', Bool.not_eq_false', Int.not_le, Int.not_lt]; omega)) | ((repeat (first | apply Zft | apply Za6 | apply ZcF | apply ZbV | apply Zax)); all_goals (first | exact EQ.mk rfl | exact EQ.mk (by first | (simp; done) | fail) | exact EQ.mk (by first | (simp_all; done) | fail))))); done)))
def Zkx : Nat → List Nat
 | 0 => [0, 1]
 | 1 => [0, 1, 7]
 | 2 => [4]
 | 3 => [4]
 | _ => []
theorem Zhl (args : Array Value) (w : World) : (callFunc 99 args).run Tryz.prog w = .ok (.enter 99 args) w := Zab Tryz.func99 (by decide) rfl args w
set_option maxHeartbeats 1000000 in
theorem ZjK (a b : Int) : Con Tryz.prog 99 [.i a, .i b] (.i (max a b)) := by
 refine gCon Zkx Zac (rs := [.tmp 4]) (sl := [(0, .g (.i a)), (1, .g (.i b))]) Tryz.func99 rfl Tryz.ntmps99 rfl Zhl rfl (by repeat constructor) ?_
 (repeat' (first | (with_reducible constructor) | exact Z2 | (with_reducible intro hc; (try simp only [HCs] at hc)) | exact OB_f | (with_reducible first | apply gNK | apply Zao | apply Zaf | apply Zan | apply Zai | apply ZaQ | apply Zam | apply Zap | apply Zat) | apply Zah Zac | apply gSel.ccons))
 (all_goals (first | (((refine Zae (EQ.mk ?_); omega)); done)))
def Zhy : Nat → List Nat
 | 0 => [0, 1]
 | 1 => [0, 1, 5]
 | 2 => [0, 1, 5, 9]
 | 3 => [0, 1, 5]
 | 4 => [0, 1, 5, 19]
 | 5 => [4]
 | 6 => [4]
 | _ => []
theorem Zc1 (args : Array Value) (w : World) : (callFunc 42 args).run Tryz.prog w = .ok (.enter 42 args) w := Zab Tryz.func42 (by decide) rfl args w
set_option maxHeartbeats 1000000 in
theorem Zf2 (xs : List Int) (n : Int) (hn : NU (-1000000 ≤ n ∧ n ≤ 1000000)) : Con Tryz.prog 42 [.ints xs, .i n] (.bool (below xs n)) := by
 have hn := hn.e
 refine Con.fit Zc1 fun hfit => ?_
 have hb_xs : xs.length ≤ 9223372036854775807 := GFits.ints (show GFits (.ints xs) from hfit 0 (ZL rfl))
 clear hfit
 refine gCon Zhy Zac (rs := [.tmp 4]) (sl := [(0, .g (.ints xs)), (1, .g (.i n))]) Tryz.func42 rfl Tryz.ntmps42 rfl Zc1 rfl (by repeat constructor) ?_
 (repeat' (first | ((with_reducible apply gLI.cone); (. exact RF.mk ⟨rfl, rfl⟩)) | (with_reducible constructor) | exact Z2 | exact ZN | exact ZS | ((with_reducible apply ZaP); first | apply Zdb) | (with_reducible intro hc; (try simp only [HCs] at hc)) | exact OB_f | (with_reducible first | apply gNK | apply Zao | apply Zaf | apply Zal | apply Zan | apply Zai | apply ZaQ | apply Zam | apply Zap | apply Zau | apply Zak | apply Zas | apply ZaG | apply Zav | apply ZaM | apply Zat) | apply Zah Zac | (apply ZaD; exact RF.mk rfl) | (refine Zaq (id := 0) (ι := Nat) (fun i => ⟨[(0, .g (.ints xs)), (1, .g (.i n)), (5, .g (.i i))], []⟩) (fun i => (i ≤ xs.length) ∧ (∀ z, z < i → (fun i => decide (0 ≤ nth xs i) && decide (nth xs i < n)) z = true)) (fun i => xs.length - i) (0) ?_ ?_ ?_; (. (apply gLX0 <;> (repeat' (first | (with_reducible constructor) | exact Z5 | exact RF.mk (by decide) | (with_reducible apply Zae) | exact ZE)))); (. (exact ⟨by omega, ZbT⟩)); (rintro i ⟨h1, h2⟩; (show TX _ _ _ _ _ [(0, .g (.ints xs)), (1, .g (.i n)), (5, .g (.i i))] [] _))) | apply gSel.ccons))
 (all_goals (first | (refine ZaR (i + 1) ?_ ?_ ?_; (· (apply gLX0 <;> (repeat' (first | (with_reducible constructor) | exact Z5 | exact RF.mk (by decide) | (with_reducible apply Zae) | exact ZE)))); (· ((refine ⟨by omega, ZbM h2 ?_⟩; ((try simp only [BOa] at *); (first | omega | assumption | grind))))); (· exact ZW)) | (((first | (refine Zar ?_; (try unfold below); first | rfl | exact Eq.symm (Zbh fun j hj => h2 j (by omega)) | (refine Eq.symm (Za5 i (by omega) ?_); ((try simp only [BOa] at *); (first | omega | assumption | grind))) | exact Eq.symm (Zc3 fun j hj => h2 j (by omega)) | (refine Eq.symm (ZdN i (by omega) ?_); ((try simp only [BOa] at *); (first | omega | assumption | grind))) | ((try simp only [BOa] at *); (first | omega | assumption | grind))))); done)))
def ZiZ : Nat → List Nat
 | 0 => [0, 1]
 | 1 => [0, 1, 5]
 | 2 => [0, 1, 5, 9]
 | 3 => [0, 1, 5]
 | 4 => [0, 1, 5, 35]
 | 5 => [4]
 | 6 => [4]
 | _ => []
theorem Zds (args : Array Value) (w : World) : (callFunc 93 args).run Tryz.prog w = .ok (.enter 93 args) w := Zab Tryz.func93 (by decide) rfl args w
set_option maxHeartbeats 1000000 in
theorem Zly (xs : List Int) (n : Int) (hn : NU (-1000000 ≤ n ∧ n ≤ 1000000)) : Con Tryz.prog 93 [.ints xs, .i n] (.bool (ZbS xs n)) := by
 have hn := hn.e
 refine Con.fit Zds fun hfit => ?_
 have hb_xs : xs.length ≤ 9223372036854775807 := GFits.ints (show GFits (.ints xs) from hfit 0 (ZL rfl))
 clear hfit
 refine gCon ZiZ Zac (rs := [.tmp 4]) (sl := [(0, .g (.ints xs)), (1, .g (.i n))]) Tryz.func93 rfl Tryz.ntmps93 rfl Zds rfl (by repeat constructor) ?_
 (repeat' (first | ((with_reducible apply gLI.cone); (. exact RF.mk ⟨rfl, rfl⟩)) | (with_reducible constructor) | exact Z2 | exact ZN | exact ZS | ((with_reducible apply ZaP); first | apply Zdb) | (with_reducible intro hc; (try simp only [HCs] at hc)) | exact OB_f | exact ZK | (with_reducible first | apply gNK | apply Zao | apply Zaf | apply Zal | apply Zan | apply Zai | apply CK_t | apply CK_f | apply ZaQ | apply Zam | apply Zap | apply Zau | apply Zak | apply Zas | apply ZaG | apply Zav | apply ZaM | apply Zat) | apply Zah Zac | apply ZaK Zac rfl | (apply ZaD; exact RF.mk rfl) | (refine Zaq (id := 0) (ι := Nat) (fun i => ⟨[(0, .g (.ints xs)), (1, .g (.i n)), (5, .g (.i i))], []⟩) (fun i => (i ≤ xs.length) ∧ (∀ z, z < i → (fun i => decide (0 ≤ nth xs i) && decide (nth xs i < n) && (decide (i = 0) || decide (nth xs (i - 1) < nth xs i))) z = true)) (fun i => xs.length - i) (0) ?_ ?_ ?_; (. (apply gLX0 <;> (repeat' (first | (with_reducible constructor) | exact Z5 | exact RF.mk (by decide) | (with_reducible apply Zae) | exact ZE)))); (. (exact ⟨by omega, ZbT⟩)); (rintro i ⟨h1, h2⟩; (show TX _ _ _ _ _ [(0, .g (.ints xs)), (1, .g (.i n)), (5, .g (.i i))] [] _))) | apply gSel.ccons))
 (all_goals (first | (refine ZaR (i + 1) ?_ ?_ ?_; (· (apply gLX0 <;> (repeat' (first | (with_reducible constructor) | exact Z5 | exact RF.mk (by decide) | (with_reducible apply Zae) | exact ZE)))); (· ((refine ⟨by omega, ZbM h2 ?_⟩; ((try simp only [BOa] at *); (first | omega | assumption | grind))))); (· exact ZW)) | (((first | (refine Zar ?_; (try unfold ZbS); first | rfl | exact Eq.symm (Zbh fun j hj => h2 j (by omega)) | (refine Eq.symm (Za5 i (by omega) ?_); ((try simp only [BOa] at *); (first | omega | assumption | grind))) | exact Eq.symm (Zc3 fun j hj => h2 j (by omega)) | (refine Eq.symm (ZdN i (by omega) ?_); ((try simp only [BOa] at *); (first | omega | assumption | grind))) | ((try simp only [BOa] at *); (first | omega | assumption | grind))))); done)))
def Zkg : Nat → List Nat
 | 0 => [0, 1]
 | 1 => [4]
 | _ => []
theorem Zee (args : Array Value) (w : World) : (callFunc 69 args).run Tryz.prog w = .ok (.enter 69 args) w := Zab Tryz.func69 (by decide) rfl args w
set_option maxHeartbeats 1000000 in
theorem ZjF (xs : List Int) (n : Int) (hn : NU (-1000000 ≤ n ∧ n ≤ 1000000)) : Con Tryz.prog 69 [.ints xs, .i n] (.bool (setB xs n)) := by
 have hn := hn.e
 refine Con.fit Zee fun hfit => ?_
 have hb_xs : xs.length ≤ 9223372036854775807 := GFits.ints (show GFits (.ints xs) from hfit 0 (ZL rfl))
 clear hfit
 refine gCon Zkg Zac (rs := [.tmp 4]) (sl := [(0, .g (.ints xs)), (1, .g (.i n))]) Tryz.func69 rfl Tryz.ntmps69 rfl Zee rfl (by repeat constructor) ?_
 (repeat' (first | (with_reducible constructor) | exact Z2 | exact ZN | exact ZS | ((with_reducible apply ZaP); first | apply Zly) | (with_reducible intro hc; (try simp only [HCs] at hc)) | exact OB_f | (with_reducible first | apply gNK | apply Zao | apply Zaf | apply Zap | apply Zat) | apply Zah Zac | apply gSel.ccons))
 (all_goals (first | (((refine Zar ?_; (try unfold setB); (first | rfl | (simp_all; done) | (rw [Bool.eq_iff_iff]; (try simp only [BOa, Bool.true_eq_false, Bool.false_eq_true, true_iff, false_iff, iff_true, iff_false, not_and, not_or] at *); (first | omega | grind))))); done)))
def Zjn : Nat → List Nat
 | 0 => [0]
 | 1 => [2]
 | _ => []
theorem ZdZ (args : Array Value) (w : World) : (callFunc 74 args).run Tryz.prog w = .ok (.enter 74 args) w := Zab Tryz.func74 (by decide) rfl args w
set_option maxHeartbeats 1000000 in
theorem ZiU (xs : List Int) (hx : NU (xs.length ≤ 1099511627776)) : Con Tryz.prog 74 [.ints xs] (.ints xs) := by
 have hx := hx.e
 refine Con.fit ZdZ fun hfit => ?_
 have hb_xs : xs.length ≤ 9223372036854775807 := GFits.ints (show GFits (.ints xs) from hfit 0 (ZL rfl))
 clear hfit
 refine gCon Zjn Zac (rs := [.tmp 2]) (sl := [(0, .g (.ints xs))]) Tryz.func74 rfl Tryz.ntmps74 rfl ZdZ rfl (by repeat constructor) ?_
 (repeat' (first | (with_reducible constructor) | exact Z2 | exact ZN | exact ZS | exact ZC | exact OB_f | (with_reducible first | apply gNK | apply Zao | apply Zaf | apply Zap | apply Zat) | apply Zah Zac | apply gSel.ccons))
 (all_goals (first | (((first | (refine Zar ?_; first | (simp_all; done) | (rw [Bool.eq_iff_iff]; simp only [Bool.and_eq_true, Bool.or_eq_true, decide_eq_true_eq, Bool.false_eq_true, false_iff, true_iff, iff_false, iff_true, not_and, not_or, Bool.not_eq_true, decide_eq_false_iff_not, beq_iff_eq, bne_iff_ne, ne_eq, Bool.not_eq_true', Bool.not_eq_false', Int.not_le, Int.not_lt]; omega)) | ((repeat (first | apply Zft | apply Za6 | apply ZcF | apply ZbV | apply Zax)); all_goals (first | exact EQ.mk rfl | exact EQ.mk (by first | (simp; done) | fail) | exact EQ.mk (by first | (simp_all; done) | fail))))); done)))
def Zk4 : Nat → List Nat
 | 0 => [0, 1]
 | 1 => [0, 1, 5]
 | 2 => [0, 1, 5, 9]
 | 3 => [0, 1, 5]
 | 4 => [0, 1, 5, 17]
 | 5 => [4]
 | 6 => [4]
 | _ => []
theorem Zeh (args : Array Value) (w : World) : (callFunc 65 args).run Tryz.prog w = .ok (.enter 65 args) w := Zab Tryz.func65 (by decide) rfl args w
set_option maxHeartbeats 1000000 in
theorem ZgW (xs : List Int) (n : Int) : Con Tryz.prog 65 [.ints xs, .i n] (.bool (has xs n)) := by
 refine Con.fit Zeh fun hfit => ?_
 have hb_xs : xs.length ≤ 9223372036854775807 := GFits.ints (show GFits (.ints xs) from hfit 0 (ZL rfl))
 clear hfit
 refine gCon Zk4 Zac (rs := [.tmp 4]) (sl := [(0, .g (.ints xs)), (1, .g (.i n))]) Tryz.func65 rfl Tryz.ntmps65 rfl Zeh rfl (by repeat constructor) ?_
 (repeat' (first | ((with_reducible apply gLI.cone); (. exact RF.mk ⟨rfl, rfl⟩)) | (with_reducible constructor) | exact Z2 | exact ZN | exact ZS | (with_reducible intro hc; (try simp only [HCs] at hc)) | exact OB_f | (with_reducible first | apply gNK | apply Zao | apply Zaf | apply Zal | apply Zan | apply Zai | apply ZaQ | apply Zam | apply Zap | apply Zau | apply Zak | apply Zas | apply ZaG | apply Zav | apply ZaM | apply Zat) | apply Zah Zac | (apply ZaD; exact RF.mk rfl) | (refine Zaq (id := 0) (ι := Nat) (fun i => ⟨[(0, .g (.ints xs)), (1, .g (.i n)), (5, .g (.i i))], []⟩) (fun i => (i ≤ xs.length) ∧ (∀ z, z < i → (fun i => !(nth xs i == n)) z = true)) (fun i => xs.length - i) (0) ?_ ?_ ?_; (. (apply gLX0 <;> (repeat' (first | (with_reducible constructor) | exact Z5 | exact RF.mk (by decide) | (with_reducible apply Zae) | exact ZE)))); (. (exact ⟨by omega, ZbT⟩)); (rintro i ⟨h1, h2⟩; (show TX _ _ _ _ _ [(0, .g (.ints xs)), (1, .g (.i n)), (5, .g (.i i))] [] _))) | apply gSel.ccons))
 (all_goals (first | (refine ZaR (i + 1) ?_ ?_ ?_; (· (apply gLX0 <;> (repeat' (first | (with_reducible constructor) | exact Z5 | exact RF.mk (by decide) | (with_reducible apply Zae) | exact ZE)))); (· ((refine ⟨by omega, ZbM h2 ?_⟩; ((try simp only [BOa] at *); (first | omega | assumption | grind))))); (· exact ZW)) | (((first | (refine Zar ?_; (try unfold has); first | rfl | exact Eq.symm (Zbh fun j hj => h2 j (by omega)) | (refine Eq.symm (Za5 i (by omega) ?_); ((try simp only [BOa] at *); (first | omega | assumption | grind))) | exact Eq.symm (Zc3 fun j hj => h2 j (by omega)) | (refine Eq.symm (ZdN i (by omega) ?_); ((try simp only [BOa] at *); (first | omega | assumption | grind))) | ((try simp only [BOa] at *); (first | omega | assumption | grind))))); done)))
def Zik : Nat → List Nat
 | 0 => [0, 1]
 | 1 => [0, 1, 5]
 | 2 => [0, 1, 5, 9]
 | 3 => [0, 1, 5]
 | 4 => [0, 1, 5, 17]
 | 5 => [4]
 | 6 => [4]
 | _ => []
theorem Zdw (args : Array Value) (w : World) : (callFunc 72 args).run Tryz.prog w = .ok (.enter 72 args) w := Zab Tryz.func72 (by decide) rfl args w
set_option maxHeartbeats 1000000 in
theorem ZlF (xs : List Int) (n : Int) : Con Tryz.prog 72 [.ints xs, .i n] (.i (ZbK xs n)) := by
 refine Con.fit Zdw fun hfit => ?_
 have hb_xs : xs.length ≤ 9223372036854775807 := GFits.ints (show GFits (.ints xs) from hfit 0 (ZL rfl))
 clear hfit
 refine gCon Zik Zac (rs := [.tmp 4]) (sl := [(0, .g (.ints xs)), (1, .g (.i n))]) Tryz.func72 rfl Tryz.ntmps72 rfl Zdw rfl (by repeat constructor) ?_
 (repeat' (first | ((with_reducible apply gLI.cone); (. exact RF.mk ⟨rfl, rfl⟩)) | (with_reducible constructor) | exact Z2 | exact ZN | exact ZS | (with_reducible intro hc; (try simp only [HCs] at hc)) | exact OB_f | (with_reducible first | apply gNK | apply Zao | apply Zaf | apply Zal | apply Zan | apply Zai | apply ZaQ | apply Zam | apply Zap | apply Zau | apply Zak | apply Zas | apply ZaG | apply Zav | apply ZaM | apply Zat) | apply Zah Zac | (apply ZaD; exact RF.mk rfl) | (refine Zaq (id := 0) (ι := Nat) (fun i => ⟨[(0, .g (.ints xs)), (1, .g (.i n)), (5, .g (.i i))], []⟩) (fun i => (i ≤ xs.length) ∧ (∀ z, z < i → (fun i => nth xs i == n) z = false)) (fun i => xs.length - i) (0) ?_ ?_ ?_; (. (apply gLX0 <;> (repeat' (first | (with_reducible constructor) | exact Z5 | exact RF.mk (by decide) | (with_reducible apply Zae) | exact ZE)))); (. (exact ⟨by omega, Zcp⟩)); (rintro i ⟨h1, h2⟩; (show TX _ _ _ _ _ [(0, .g (.ints xs)), (1, .g (.i n)), (5, .g (.i i))] [] _))) | apply gSel.ccons))
 (all_goals (first | (refine ZaR (i + 1) ?_ ?_ ?_; (· (apply gLX0 <;> (repeat' (first | (with_reducible constructor) | exact Z5 | exact RF.mk (by decide) | (with_reducible apply Zae) | exact ZE)))); (· ((refine ⟨by omega, Zct h2 ?_⟩; ((try simp only [BOa] at *); (first | omega | assumption | grind))))); (· exact ZW)) | (((refine Zae (EQ.mk ?_); (try unfold ZbK); first | exact Eq.symm (Zb4 fun j hj => h2 j (by omega)) | (refine Eq.symm (ZbW i (by omega) ?_ h2); ((try simp only [BOa] at *); (first | omega | assumption | grind))))); done)))
end Go.Proofs.YtnieejghoaccmaaGreat

