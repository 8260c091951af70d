/- Contracts of small functions: numbers, lists, words. No conditions but those that each theorem names. -/
import Derived.Test.YtjjidamlmebaaaaGreatTab
import Derived.Test.YtjjidamlmebaaaaGreatKG
import Derived.Test.YtjjidamlmebaaaaGreatTM
import Derived.Test.YtjjidamlmebaaaaGreatChecked
set_option linter.unusedSimpArgs false
set_option linter.unusedVariables false
namespace Go.Proofs.YtjjidamlmebaaaaGreat
open Go.RowKit
open Shp
def ZkL : Nat → List Nat
 | 0 => [0, 1, 2]
 | 1 => [6]
 | _ => []
theorem ZhZ (args : Array Value) (w : World) : (callFunc 54 args).run Tryz.prog w = .ok (.enter 54 args) w := Zaa Tryz.func54 (by decide) rfl args w
set_option maxHeartbeats 1000000 in
theorem Zby (x lo hi : Int) : Con Tryz.prog 54 [.i x, .i lo, .i hi] (.bool (decide (lo ≤ x) && decide (x ≤ hi))) := by
 refine gCon ZkL Zab (rs := [.tmp 6]) (sl := [(0, .g (.i x)), (1, .g (.i lo)), (2, .g (.i hi))]) Tryz.func54 rfl Tryz.ntmps54 rfl ZhZ rfl (by repeat constructor) ?_
 (repeat' (first | (with_reducible constructor) | exact Z2 | (with_reducible intro hc; (try simp only [HCs] at hc)) | exact OB_f | (with_reducible first | apply gNK | apply Zaj | apply Zae | apply Zai | apply Zao) | apply Zaf Zab | apply gSel.ccons))
 (all_goals (first | (((first | (refine Zax ?_; first | (simp_all; done) | (rw [Bool.eq_iff_iff]; simp only [Bool.and_eq_true, Bool.or_eq_true, decide_eq_true_eq, Bool.false_eq_true, false_iff, true_iff, iff_false, iff_true, not_and, not_or, Bool.not_eq_true, decide_eq_false_iff_not, beq_iff_eq, bne_iff_ne, ne_eq, Bool.not_eq_true', Bool.not_eq_false', Int.not_le, Int.not_lt]; omega)) | ((repeat (first | apply ZbK | apply ZaP | apply ZbT | apply Za1 | apply Zap)); all_goals (first | exact EQ.mk rfl | exact EQ.mk (by first | (simp; done) | fail) | exact EQ.mk (by first | (simp_all; done) | fail))))); done)))
def Zj5 : Nat → List Nat
 | 0 => [0, 1]
 | 1 => [0, 1, 7]
 | 2 => [4]
 | 3 => [4]
 | _ => []
theorem Zg1 (args : Array Value) (w : World) : (callFunc 119 args).run Tryz.prog w = .ok (.enter 119 args) w := Zaa Tryz.func119 (by decide) rfl args w
set_option maxHeartbeats 1000000 in
theorem ZnY (a b : Int) : Con Tryz.prog 119 [.i a, .i b] (.i (max a b)) := by
 refine gCon Zj5 Zab (rs := [.tmp 4]) (sl := [(0, .g (.i a)), (1, .g (.i b))]) Tryz.func119 rfl Tryz.ntmps119 rfl Zg1 rfl (by repeat constructor) ?_
 (repeat' (first | (with_reducible constructor) | exact Z2 | (with_reducible intro hc; (try simp only [HCs] at hc)) | exact OB_f | (with_reducible first | apply gNK | apply Zaj | apply Zae | apply Zar | apply Zag | apply ZaG | apply Zak | apply Zai | apply Zao) | apply Zaf Zab | apply gSel.ccons))
 (all_goals (first | (((refine Zad (EQ.mk ?_); omega)); done)))
def Zg3 : Nat → List Nat
 | 0 => [0, 1]
 | 1 => [0, 1, 5]
 | 2 => [0, 1, 5, 9]
 | 3 => [0, 1, 5]
 | 4 => [0, 1, 5, 19]
 | 5 => [4]
 | 6 => [4]
 | _ => []
theorem Zcz (args : Array Value) (w : World) : (callFunc 55 args).run Tryz.prog w = .ok (.enter 55 args) w := Zaa Tryz.func55 (by decide) rfl args w
set_option maxHeartbeats 1000000 in
theorem Zj8 (xs : List Int) (n : Int) (hn : NU (-1000000 ≤ n ∧ n ≤ 1000000)) : Con Tryz.prog 55 [.ints xs, .i n] (.bool (below xs n)) := by
 have hn := hn.e
 refine Con.fit Zcz fun hfit => ?_
 have hb_xs : xs.length ≤ 9223372036854775807 := GFits.ints (show GFits (.ints xs) from hfit 0 (ZL rfl))
 clear hfit
 refine gCon Zg3 Zab (rs := [.tmp 4]) (sl := [(0, .g (.ints xs)), (1, .g (.i n))]) Tryz.func55 rfl Tryz.ntmps55 rfl Zcz rfl (by repeat constructor) ?_
 (repeat' (first | ((with_reducible apply gLI.cone); (. exact RF.mk ⟨rfl, rfl⟩)) | (with_reducible constructor) | exact Z2 | exact ZN | exact ZS | ((with_reducible apply Zaw); first | apply Zby) | (with_reducible intro hc; (try simp only [HCs] at hc)) | exact OB_f | (with_reducible first | apply gNK | apply Zaj | apply Zae | apply Zam | apply Zar | apply Zag | apply ZaG | apply Zak | apply Zai | apply Zas | apply Zal | apply Zau | apply ZaO | apply Zat | apply ZaR | apply Zao) | apply Zaf Zab | (apply ZaB; exact RF.mk rfl) | (refine Zah (id := 0) (ι := Nat) (fun i => ⟨[(0, .g (.ints xs)), (1, .g (.i n)), (5, .g (.i i))], []⟩) (fun i => (i ≤ xs.length) ∧ (∀ z, z < i → (fun i => decide (0 ≤ nth xs i) && decide (nth xs i < n)) z = true)) (fun i => xs.length - i) (0) ?_ ?_ ?_; (. (apply gLX0 <;> (repeat' (first | (with_reducible constructor) | exact Z5 | exact RF.mk (by decide) | (with_reducible apply Zad) | exact ZE)))); (. (exact ⟨by omega, Za6⟩)); (rintro i ⟨h1, h2⟩; (show TX _ _ _ _ _ [(0, .g (.ints xs)), (1, .g (.i n)), (5, .g (.i i))] [] _))) | apply gSel.ccons))
 (all_goals (first | (refine ZaA (i + 1) ?_ ?_ ?_; (· (apply gLX0 <;> (repeat' (first | (with_reducible constructor) | exact Z5 | exact RF.mk (by decide) | (with_reducible apply Zad) | exact ZE)))); (· ((refine ⟨by omega, Za8 h2 ?_⟩; ((try simp only [BOa] at *); (first | omega | assumption | grind))))); (· exact ZW)) | (((first | (refine Zax ?_; (try unfold below); first | rfl | exact Eq.symm (ZaV fun j hj => h2 j (by omega)) | (refine Eq.symm (Za5 i (by omega) ?_); ((try simp only [BOa] at *); (first | omega | assumption | grind))) | exact Eq.symm (ZcF fun j hj => h2 j (by omega)) | (refine Eq.symm (Zdy i (by omega) ?_); ((try simp only [BOa] at *); (first | omega | assumption | grind))) | ((try simp only [BOa] at *); (first | omega | assumption | grind))))); done)))
def ZiK : Nat → List Nat
 | 0 => [0, 1]
 | 1 => [0, 1, 5]
 | 2 => [0, 1, 5, 9]
 | 3 => [0, 1, 5]
 | 4 => [0, 1, 5, 35]
 | 5 => [4]
 | 6 => [4]
 | _ => []
theorem ZcP (args : Array Value) (w : World) : (callFunc 151 args).run Tryz.prog w = .ok (.enter 151 args) w := Zaa Tryz.func151 (by decide) rfl args w
set_option maxHeartbeats 1000000 in
theorem ZlH (xs : List Int) (n : Int) (hn : NU (-1000000 ≤ n ∧ n ≤ 1000000)) : Con Tryz.prog 151 [.ints xs, .i n] (.bool (Zbc xs n)) := by
 have hn := hn.e
 refine Con.fit ZcP fun hfit => ?_
 have hb_xs : xs.length ≤ 9223372036854775807 := GFits.ints (show GFits (.ints xs) from hfit 0 (ZL rfl))
 clear hfit
 refine gCon ZiK Zab (rs := [.tmp 4]) (sl := [(0, .g (.ints xs)), (1, .g (.i n))]) Tryz.func151 rfl Tryz.ntmps151 rfl ZcP rfl (by repeat constructor) ?_
 (repeat' (first | ((with_reducible apply gLI.cone); (. exact RF.mk ⟨rfl, rfl⟩)) | (with_reducible constructor) | exact Z2 | exact ZN | exact ZS | ((with_reducible apply Zaw); first | apply Zby) | (with_reducible intro hc; (try simp only [HCs] at hc)) | exact OB_f | exact ZK | (with_reducible first | apply gNK | apply Zaj | apply Zae | apply Zam | apply Zar | apply Zag | apply CK_t | apply CK_f | apply ZaG | apply Zak | apply Zai | apply Zas | apply Zal | apply Zau | apply ZaO | apply Zat | apply ZaR | apply Zao) | apply Zaf Zab | apply Za4 Zab rfl | (apply ZaB; exact RF.mk rfl) | (refine Zah (id := 0) (ι := Nat) (fun i => ⟨[(0, .g (.ints xs)), (1, .g (.i n)), (5, .g (.i i))], []⟩) (fun i => (i ≤ xs.length) ∧ (∀ z, z < i → (fun i => decide (0 ≤ nth xs i) && decide (nth xs i < n) && (decide (i = 0) || decide (nth xs (i - 1) < nth xs i))) z = true)) (fun i => xs.length - i) (0) ?_ ?_ ?_; (. (apply gLX0 <;> (repeat' (first | (with_reducible constructor) | exact Z5 | exact RF.mk (by decide) | (with_reducible apply Zad) | exact ZE)))); (. (exact ⟨by omega, Za6⟩)); (rintro i ⟨h1, h2⟩; (show TX _ _ _ _ _ [(0, .g (.ints xs)), (1, .g (.i n)), (5, .g (.i i))] [] _))) | apply gSel.ccons))
 (all_goals (first | (refine ZaA (i + 1) ?_ ?_ ?_; (· (apply gLX0 <;> (repeat' (first | (with_reducible constructor) | exact Z5 | exact RF.mk (by decide) | (with_reducible apply Zad) | exact ZE)))); (· ((refine ⟨by omega, Za8 h2 ?_⟩; ((try simp only [BOa] at *); (first | omega | assumption | grind))))); (· exact ZW)) | (((first | (refine Zax ?_; (try unfold Zbc); first | rfl | exact Eq.symm (ZaV fun j hj => h2 j (by omega)) | (refine Eq.symm (Za5 i (by omega) ?_); ((try simp only [BOa] at *); (first | omega | assumption | grind))) | exact Eq.symm (ZcF fun j hj => h2 j (by omega)) | (refine Eq.symm (Zdy i (by omega) ?_); ((try simp only [BOa] at *); (first | omega | assumption | grind))) | ((try simp only [BOa] at *); (first | omega | assumption | grind))))); done)))
def Zko : Nat → List Nat
 | 0 => [0, 1]
 | 1 => [4]
 | _ => []
theorem Zd1 (args : Array Value) (w : World) : (callFunc 115 args).run Tryz.prog w = .ok (.enter 115 args) w := Zaa Tryz.func115 (by decide) rfl args w
set_option maxHeartbeats 1000000 in
theorem Zjm (xs : List Int) (n : Int) (hn : NU (-1000000 ≤ n ∧ n ≤ 1000000)) : Con Tryz.prog 115 [.ints xs, .i n] (.bool (setB xs n)) := by
 have hn := hn.e
 refine Con.fit Zd1 fun hfit => ?_
 have hb_xs : xs.length ≤ 9223372036854775807 := GFits.ints (show GFits (.ints xs) from hfit 0 (ZL rfl))
 clear hfit
 refine gCon Zko Zab (rs := [.tmp 4]) (sl := [(0, .g (.ints xs)), (1, .g (.i n))]) Tryz.func115 rfl Tryz.ntmps115 rfl Zd1 rfl (by repeat constructor) ?_
 (repeat' (first | (with_reducible constructor) | exact Z2 | exact ZN | exact ZS | ((with_reducible apply Zaw); first | apply ZlH) | (with_reducible intro hc; (try simp only [HCs] at hc)) | exact OB_f | (with_reducible first | apply gNK | apply Zaj | apply Zae | apply Zai | apply Zao) | apply Zaf Zab | apply gSel.ccons))
 (all_goals (first | (((refine Zax ?_; (try unfold setB); (first | rfl | (simp_all; done) | (rw [Bool.eq_iff_iff]; (try simp only [BOa, Bool.true_eq_false, Bool.false_eq_true, true_iff, false_iff, iff_true, iff_false, not_and, not_or] at *); (first | omega | grind))))); done)))
def Zje : Nat → List Nat
 | 0 => [0]
 | 1 => [2]
 | _ => []
theorem Zdz (args : Array Value) (w : World) : (callFunc 91 args).run Tryz.prog w = .ok (.enter 91 args) w := Zaa Tryz.func91 (by decide) rfl args w
set_option maxHeartbeats 1000000 in
theorem Zid (xs : List Int) (hx : NU (xs.length ≤ 1099511627776)) : Con Tryz.prog 91 [.ints xs] (.ints xs) := by
 have hx := hx.e
 refine Con.fit Zdz fun hfit => ?_
 have hb_xs : xs.length ≤ 9223372036854775807 := GFits.ints (show GFits (.ints xs) from hfit 0 (ZL rfl))
 clear hfit
 refine gCon Zje Zab (rs := [.tmp 2]) (sl := [(0, .g (.ints xs))]) Tryz.func91 rfl Tryz.ntmps91 rfl Zdz rfl (by repeat constructor) ?_
 (repeat' (first | (with_reducible constructor) | exact Z2 | exact ZN | exact ZS | exact ZC | exact OB_f | (with_reducible first | apply gNK | apply Zaj | apply Zae | apply Zai | apply Zao) | apply Zaf Zab | apply gSel.ccons))
 (all_goals (first | (((first | (refine Zax ?_; first | (simp_all; done) | (rw [Bool.eq_iff_iff]; simp only [Bool.and_eq_true, Bool.or_eq_true, decide_eq_true_eq, Bool.false_eq_true, false_iff, true_iff, iff_false, iff_true, not_and, not_or, Bool.not_eq_true, decide_eq_false_iff_not, beq_iff_eq, bne_iff_ne, ne_eq, Bool.not_eq_true', Bool.not_eq_false', Int.not_le, Int.not_lt]; omega)) | ((repeat (first | apply ZbK | apply ZaP | apply ZbT | apply Za1 | apply Zap)); all_goals (first | exact EQ.mk rfl | exact EQ.mk (by first | (simp; done) | fail) | exact EQ.mk (by first | (simp_all; done) | fail))))); done)))
def Zku : Nat → List Nat
 | 0 => [0, 1]
 | 1 => [0, 1, 5]
 | 2 => [0, 1, 5, 9]
 | 3 => [0, 1, 5]
 | 4 => [0, 1, 5, 17]
 | 5 => [4]
 | 6 => [4]
 | _ => []
theorem Zd2 (args : Array Value) (w : World) : (callFunc 62 args).run Tryz.prog w = .ok (.enter 62 args) w := Zaa Tryz.func62 (by decide) rfl args w
set_option maxHeartbeats 1000000 in
theorem ZnA (xs : List Int) (n : Int) : Con Tryz.prog 62 [.ints xs, .i n] (.bool (has xs n)) := by
 refine Con.fit Zd2 fun hfit => ?_
 have hb_xs : xs.length ≤ 9223372036854775807 := GFits.ints (show GFits (.ints xs) from hfit 0 (ZL rfl))
 clear hfit
 refine gCon Zku Zab (rs := [.tmp 4]) (sl := [(0, .g (.ints xs)), (1, .g (.i n))]) Tryz.func62 rfl Tryz.ntmps62 rfl Zd2 rfl (by repeat constructor) ?_
 (repeat' (first | ((with_reducible apply gLI.cone); (. exact RF.mk ⟨rfl, rfl⟩)) | (with_reducible constructor) | exact Z2 | exact ZN | exact ZS | (with_reducible intro hc; (try simp only [HCs] at hc)) | exact OB_f | (with_reducible first | apply gNK | apply Zaj | apply Zae | apply Zam | apply Zar | apply Zag | apply ZaG | apply Zak | apply Zai | apply Zas | apply Zal | apply Zau | apply ZaO | apply Zat | apply ZaR | apply Zao) | apply Zaf Zab | (apply ZaB; exact RF.mk rfl) | (refine Zah (id := 0) (ι := Nat) (fun i => ⟨[(0, .g (.ints xs)), (1, .g (.i n)), (5, .g (.i i))], []⟩) (fun i => (i ≤ xs.length) ∧ (∀ z, z < i → (fun i => !(nth xs i == n)) z = true)) (fun i => xs.length - i) (0) ?_ ?_ ?_; (. (apply gLX0 <;> (repeat' (first | (with_reducible constructor) | exact Z5 | exact RF.mk (by decide) | (with_reducible apply Zad) | exact ZE)))); (. (exact ⟨by omega, Za6⟩)); (rintro i ⟨h1, h2⟩; (show TX _ _ _ _ _ [(0, .g (.ints xs)), (1, .g (.i n)), (5, .g (.i i))] [] _))) | apply gSel.ccons))
 (all_goals (first | (refine ZaA (i + 1) ?_ ?_ ?_; (· (apply gLX0 <;> (repeat' (first | (with_reducible constructor) | exact Z5 | exact RF.mk (by decide) | (with_reducible apply Zad) | exact ZE)))); (· ((refine ⟨by omega, Za8 h2 ?_⟩; ((try simp only [BOa] at *); (first | omega | assumption | grind))))); (· exact ZW)) | (((first | (refine Zax ?_; (try unfold has); first | rfl | exact Eq.symm (ZaV fun j hj => h2 j (by omega)) | (refine Eq.symm (Za5 i (by omega) ?_); ((try simp only [BOa] at *); (first | omega | assumption | grind))) | exact Eq.symm (ZcF fun j hj => h2 j (by omega)) | (refine Eq.symm (Zdy i (by omega) ?_); ((try simp only [BOa] at *); (first | omega | assumption | grind))) | ((try simp only [BOa] at *); (first | omega | assumption | grind))))); done)))
def Zir : Nat → List Nat
 | 0 => [0, 1]
 | 1 => [0, 1, 10]
 | 2 => [4]
 | 3 => [0, 1, 12, 13]
 | 4 => [0, 1, 12, 13, 14]
 | 5 => [0, 1, 5, 12, 13]
 | 6 => [0, 1, 12, 13, 24]
 | 7 => [4]
 | 8 => [0, 1, 12, 13]
 | 9 => [4]
 | _ => []
theorem Zc6 (args : Array Value) (w : World) : (callFunc 160 args).run Tryz.prog w = .ok (.enter 160 args) w := Zaa Tryz.func160 (by decide) rfl args w
set_option maxHeartbeats 1000000 in
theorem Zlc (xs ys : List Int) : Con Tryz.prog 160 [.ints xs, .ints ys] (.bool (decide (xs = ys))) := by
 refine Con.fit Zc6 fun hfit => ?_
 have hb_xs : xs.length ≤ 9223372036854775807 := GFits.ints (show GFits (.ints xs) from hfit 0 (ZL rfl))
 have hb_ys : ys.length ≤ 9223372036854775807 := GFits.ints (show GFits (.ints ys) from hfit 1 (ZL rfl))
 clear hfit
 refine gCon Zir Zab (rs := [.tmp 4]) (sl := [(0, .g (.ints xs)), (1, .g (.ints ys))]) Tryz.func160 rfl Tryz.ntmps160 rfl Zc6 rfl (by repeat constructor) ?_
 (repeat' (first | ((with_reducible apply gLI.cone); (. exact RF.mk ⟨rfl, rfl⟩)) | (with_reducible constructor) | exact Z2 | exact ZN | exact ZS | (with_reducible intro hc; (try simp only [HCs] at hc)) | exact OB_f | exact ZK | (with_reducible first | apply gNK | apply Zaj | apply Zae | apply Zam | apply Zar | apply Zag | apply ZaG | apply Zak | apply Zai | apply Zas | apply Zal | apply Zau | apply ZaO | apply Zat | apply ZaR | apply Zao) | apply Zaf Zab | apply Za4 Zab rfl | (apply ZaB; exact RF.mk rfl) | (refine Zah (id := 0) (ι := Nat) (fun i => ⟨[(0, .g (.ints xs)), (1, .g (.ints ys)), (12, .g (.i xs.length)), (13, .g (.i i))], []⟩) (fun i => (i ≤ xs.length) ∧ (∀ z, z < i → (fun i => decide (nth xs i = nth ys i)) z = true) ∧ (xs.length = ys.length)) (fun i => xs.length - i) (0) ?_ ?_ ?_; (. (apply gLX0 <;> (repeat' (first | (with_reducible constructor) | exact Z5 | exact RF.mk (by decide) | (with_reducible apply Zad) | exact ZE)))); (. (exact ⟨by omega, Za6, by omega⟩)); (rintro i ⟨h1, h2, h3⟩; (show TX _ _ _ _ _ [(0, .g (.ints xs)), (1, .g (.ints ys)), (12, .g (.i xs.length)), (13, .g (.i i))] [] _))) | apply gSel.ccons))
 (all_goals (first | (refine ZaA (i + 1) ?_ ?_ ?_; (· (apply gLX0 <;> (repeat' (first | (with_reducible constructor) | exact Z5 | exact RF.mk (by decide) | (with_reducible apply Zad) | exact ZE)))); (· ((refine ⟨by omega, Za8 h2 ?_, h3⟩; ((try simp only [BOa] at *); (first | omega | assumption | grind))))); (· exact ZW)) | (((refine Zax ?_; first | (rw [eq_comm, decide_eq_false_iff_not]; intro e; subst e; first | exact absurd rfl (by assumption) | simp_all | grind) | (rw [← ZcA (by omega)]; refine (ZaV fun j hj => h2 j (by omega)).symm))); done)))
def Zg2 : Nat → List Nat
 | 0 => [0, 1]
 | 1 => [0, 1, 10]
 | 2 => [4]
 | 3 => [0, 1, 5]
 | 4 => [0, 1, 5, 14]
 | 5 => [0, 1, 5]
 | 6 => [0, 1, 5, 25]
 | 7 => [4]
 | 8 => [4]
 | _ => []
theorem ZcC (args : Array Value) (w : World) : (callFunc 19 args).run Tryz.prog w = .ok (.enter 19 args) w := Zaa Tryz.func19 (by decide) rfl args w
set_option maxHeartbeats 1000000 in
theorem ZfN (xs ys : List Int) : Con Tryz.prog 19 [.ints xs, .ints ys] (.bool (decide (xs = ys))) := by
 refine Con.fit ZcC fun hfit => ?_
 have hb_xs : xs.length ≤ 9223372036854775807 := GFits.ints (show GFits (.ints xs) from hfit 0 (ZL rfl))
 have hb_ys : ys.length ≤ 9223372036854775807 := GFits.ints (show GFits (.ints ys) from hfit 1 (ZL rfl))
 clear hfit
 refine gCon Zg2 Zab (rs := [.tmp 4]) (sl := [(0, .g (.ints xs)), (1, .g (.ints ys))]) Tryz.func19 rfl Tryz.ntmps19 rfl ZcC rfl (by repeat constructor) ?_
 (repeat' (first | ((with_reducible apply gLI.cone); (. exact RF.mk ⟨rfl, rfl⟩)) | (with_reducible constructor) | exact Z2 | exact ZN | exact ZS | (with_reducible intro hc; (try simp only [HCs] at hc)) | exact OB_f | exact ZK | (with_reducible first | apply gNK | apply Zaj | apply Zae | apply Zam | apply Zar | apply Zag | apply ZaG | apply Zak | apply Zai | apply Zas | apply Zal | apply Zau | apply ZaO | apply Zat | apply ZaR | apply Zao) | apply Zaf Zab | apply Za4 Zab rfl | (apply ZaB; exact RF.mk rfl) | (refine Zah (id := 0) (ι := Nat) (fun i => ⟨[(0, .g (.ints xs)), (1, .g (.ints ys)), (5, .g (.i i))], []⟩) (fun i => (i ≤ xs.length) ∧ (∀ z, z < i → (fun i => decide (nth xs i = nth ys i)) z = true) ∧ (xs.length = ys.length)) (fun i => xs.length - i) (0) ?_ ?_ ?_; (. (apply gLX0 <;> (repeat' (first | (with_reducible constructor) | exact Z5 | exact RF.mk (by decide) | (with_reducible apply Zad) | exact ZE)))); (. (exact ⟨by omega, Za6, by omega⟩)); (rintro i ⟨h1, h2, h3⟩; (show TX _ _ _ _ _ [(0, .g (.ints xs)), (1, .g (.ints ys)), (5, .g (.i i))] [] _))) | apply gSel.ccons))
 (all_goals (first | (refine ZaA (i + 1) ?_ ?_ ?_; (· (apply gLX0 <;> (repeat' (first | (with_reducible constructor) | exact Z5 | exact RF.mk (by decide) | (with_reducible apply Zad) | exact ZE)))); (· ((refine ⟨by omega, Za8 h2 ?_, h3⟩; ((try simp only [BOa] at *); (first | omega | assumption | grind))))); (· exact ZW)) | (((refine Zax ?_; first | (rw [eq_comm, decide_eq_false_iff_not]; intro e; subst e; first | exact absurd rfl (by assumption) | simp_all | grind) | (rw [← ZcA (by omega)]; refine (ZaV fun j hj => h2 j (by omega)).symm))); done)))
end Go.Proofs.YtjjidamlmebaaaaGreat

