/- Contracts of small functions: numbers, lists, words. No conditions but those that each theorem names. -/
import Derived.Test.YtnieejghoaccmaaTab
import Derived.Test.YtnieejghoaccmaaKG
import Derived.Test.YtnieejghoaccmaaOG
import Derived.Test.YtnieejghoaccmaaChecked
set_option linter.unusedSimpArgs false
set_option linter.unusedVariables false
namespace Go.Proofs.Ytnieejghoaccmaa
open Go.RowKit
open Shp
def Zkm : Nat → List Nat
 | 0 => [0, 1, 2]
 | 1 => [6]
 | _ => []
theorem Zhu (args : Array Value) (w : World) : (callFunc 27 args).run Try.prog w = .ok (.enter 27 args) w := Zab Try.func27 (by decide) rfl args w
set_option maxHeartbeats 1000000 in
theorem ZcE (x lo hi : Int) : Con Try.prog 27 [.i x, .i lo, .i hi] (.bool (decide (lo ≤ x) && decide (x ≤ hi))) := by
 refine gCon Zkm Zac (rs := [.tmp 6]) (sl := [(0, .g (.i x)), (1, .g (.i lo)), (2, .g (.i hi))]) Try.func27 rfl Try.ntmps27 rfl Zhu rfl (by repeat constructor) ?_
 (repeat' (first | ((with_reducible apply gLB.cagg); (. exact RF.mk ⟨rfl, rfl, rfl⟩)) | ((with_reducible apply gLB.cone); (. exact RF.mk ⟨rfl, rfl⟩)) | ((with_reducible apply gLI.cagg); (. exact RF.mk ⟨rfl, rfl, rfl⟩)) | ((with_reducible apply gLI.cone); (. exact RF.mk ⟨rfl, rfl⟩)) | ((with_reducible apply gAF.cbuildA); (. exact RF.mk rfl); (. exact RF.mk ⟨rfl, rfl, rfl, rfl⟩)) | (with_reducible constructor) | exact Z4 | exact ZN | exact ZI | exact ZS | exact ZF | exact ZG | exact ZC | exact ZP | exact ZQ | (with_reducible apply Zay) | (apply ZaB) | (with_reducible apply Zaf) | exact ZU | (with_reducible apply ZaC) | (apply Zaw) | (with_reducible intro hc; (try simp only [HCs] at hc)) | exact OB_f | exact DEC.mk (by decide) | exact ZM | exact ZT | exact ZK | (with_reducible first | apply gNK | apply ZaH | apply Zal | apply Zaj | apply Zai | apply Zam | apply CK_t | apply CK_f | apply ZaQ | apply Zar | apply ZaF | apply Zau | apply Zah | apply Zag | apply Zak | apply Zav | apply ZaA | apply Zax | apply Zaz | apply Zat | apply Zas | apply ZaR | apply ZaG | apply ZaE | apply ZaP) | apply Zaq Zac | apply Zao Zac rfl | (apply ZaD; exact RF.mk rfl) | exact EQ.mk rfl | exact gSel.cnil _ | apply gSel.ccons | apply gCG.cagg))
 (all_goals (first | (((first | (refine ZaY ?_; first | (simp_all; done) | (rw [Bool.eq_iff_iff]; simp only [Bool.and_eq_true, Bool.or_eq_true, decide_eq_true_eq, Bool.false_eq_true, false_iff, true_iff, iff_false, iff_true, not_and, not_or, Bool.not_eq_true, decide_eq_false_iff_not, beq_iff_eq, bne_iff_ne, ne_eq, Bool.not_eq_true', Bool.not_eq_false', Int.not_le, Int.not_lt]; omega)) | ((repeat (first | apply Zfv | apply Zbd | apply Zcn | apply ZbY | apply ZaS)); all_goals (first | exact EQ.mk rfl | exact EQ.mk (by first | (simp; done) | fail) | exact EQ.mk (by first | (simp_all; done) | fail))))); done)))
def Zi0 : Nat → List Nat
 | 0 => [0, 1]
 | 1 => [0, 1, 7]
 | 2 => [4]
 | 3 => [4]
 | _ => []
theorem Zgr (args : Array Value) (w : World) : (callFunc 38 args).run Try.prog w = .ok (.enter 38 args) w := Zab Try.func38 (by decide) rfl args w
set_option maxHeartbeats 1000000 in
theorem Zf3 (a b : Int) : Con Try.prog 38 [.i a, .i b] (.i (max a b)) := by
 refine gCon Zi0 Zac (rs := [.tmp 4]) (sl := [(0, .g (.i a)), (1, .g (.i b))]) Try.func38 rfl Try.ntmps38 rfl Zgr rfl (by repeat constructor) ?_
 (repeat' (first | ((with_reducible apply gLB.cagg); (. exact RF.mk ⟨rfl, rfl, rfl⟩)) | ((with_reducible apply gLB.cone); (. exact RF.mk ⟨rfl, rfl⟩)) | ((with_reducible apply gLI.cagg); (. exact RF.mk ⟨rfl, rfl, rfl⟩)) | ((with_reducible apply gLI.cone); (. exact RF.mk ⟨rfl, rfl⟩)) | ((with_reducible apply gAF.cbuildA); (. exact RF.mk rfl); (. exact RF.mk ⟨rfl, rfl, rfl, rfl⟩)) | (with_reducible constructor) | exact Z4 | exact ZN | exact ZI | exact ZS | exact ZF | exact ZG | exact ZC | exact ZP | exact ZQ | (with_reducible apply Zay) | (apply ZaB) | (with_reducible apply Zaf) | exact ZU | (with_reducible apply ZaC) | (apply Zaw) | (with_reducible intro hc; (try simp only [HCs] at hc)) | exact OB_f | exact DEC.mk (by decide) | exact ZM | exact ZT | exact ZK | (with_reducible first | apply gNK | apply ZaH | apply Zal | apply Zaj | apply Zai | apply Zam | apply CK_t | apply CK_f | apply ZaQ | apply Zar | apply ZaF | apply Zau | apply Zah | apply Zag | apply Zak | apply Zav | apply ZaA | apply Zax | apply Zaz | apply Zat | apply Zas | apply ZaR | apply ZaG | apply ZaE | apply ZaP) | apply Zaq Zac | apply Zao Zac rfl | (apply ZaD; exact RF.mk rfl) | exact EQ.mk rfl | exact gSel.cnil _ | apply gSel.ccons | apply gCG.cagg))
 (all_goals (first | (((refine Zan (EQ.mk ?_); omega)); done)))
def Zgm : Nat → List Nat
 | 0 => [0, 1]
 | 1 => [0, 1, 5]
 | 2 => [0, 1, 5, 9]
 | 3 => [0, 1, 5]
 | 4 => [0, 1, 5, 19]
 | 5 => [4]
 | 6 => [4]
 | _ => []
theorem Zcw (args : Array Value) (w : World) : (callFunc 28 args).run Try.prog w = .ok (.enter 28 args) w := Zab Try.func28 (by decide) rfl args w
set_option maxHeartbeats 1000000 in
theorem Zds (xs : List Int) (n : Int) (hn : NU (-1000000 ≤ n ∧ n ≤ 1000000)) : Con Try.prog 28 [.ints xs, .i n] (.bool (below xs n)) := by
 have hn := hn.e
 refine Con.fit Zcw fun hfit => ?_
 have hb_xs : xs.length ≤ 9223372036854775807 := GFits.ints (show GFits (.ints xs) from hfit 0 (ZL rfl))
 clear hfit
 refine gCon Zgm Zac (rs := [.tmp 4]) (sl := [(0, .g (.ints xs)), (1, .g (.i n))]) Try.func28 rfl Try.ntmps28 rfl Zcw rfl (by repeat constructor) ?_
 (repeat' (first | ((with_reducible apply gLB.cagg); (. exact RF.mk ⟨rfl, rfl, rfl⟩)) | ((with_reducible apply gLB.cone); (. exact RF.mk ⟨rfl, rfl⟩)) | ((with_reducible apply gLI.cagg); (. exact RF.mk ⟨rfl, rfl, rfl⟩)) | ((with_reducible apply gLI.cone); (. exact RF.mk ⟨rfl, rfl⟩)) | ((with_reducible apply gAF.cbuildA); (. exact RF.mk rfl); (. exact RF.mk ⟨rfl, rfl, rfl, rfl⟩)) | (with_reducible constructor) | exact Z4 | exact ZN | exact ZI | exact ZS | exact ZF | exact ZG | exact ZC | exact ZP | exact ZQ | (with_reducible apply Zay) | (apply ZaB) | (with_reducible apply Zaf) | exact ZU | (with_reducible apply ZaC) | (apply Zaw) | ((with_reducible apply Za0); first | apply ZcE) | (with_reducible intro hc; (try simp only [HCs] at hc)) | exact OB_f | exact DEC.mk (by decide) | exact ZM | exact ZT | exact ZK | (with_reducible first | apply gNK | apply ZaH | apply Zal | apply Zaj | apply Zai | apply Zam | apply CK_t | apply CK_f | apply ZaQ | apply Zar | apply ZaF | apply Zau | apply Zah | apply Zag | apply Zak | apply Zav | apply ZaA | apply Zax | apply Zaz | apply Zat | apply Zas | apply ZaR | apply ZaG | apply ZaE | apply ZaP) | apply Zaq Zac | apply Zao Zac rfl | (apply ZaD; exact RF.mk rfl) | exact EQ.mk rfl | (refine ZaN (id := 0) (ι := Nat) (fun i => ⟨[(0, .g (.ints xs)), (1, .g (.i n)), (5, .g (.i i))], []⟩) (fun i => (i ≤ xs.length) ∧ (∀ z, z < i → (fun i => decide (0 ≤ nth xs i) && decide (nth xs i < n)) z = true)) (fun i => xs.length - i) (0) ?_ ?_ ?_; (. (apply gLX0 <;> (repeat' (first | (with_reducible constructor) | exact Z5 | exact RF.mk (by decide) | (with_reducible apply Zan) | exact ZE)))); (. (exact ⟨by omega, ZbJ⟩)); (rintro i ⟨h1, h2⟩; (show TX _ _ _ _ _ [(0, .g (.ints xs)), (1, .g (.i n)), (5, .g (.i i))] [] _))) | exact gSel.cnil _ | apply gSel.ccons | apply gCG.cagg))
 (all_goals (first | (refine Zbf (i + 1) ?_ ?_ ?_; (· (apply gLX0 <;> (repeat' (first | (with_reducible constructor) | exact Z5 | exact RF.mk (by decide) | (with_reducible apply Zan) | exact ZE)))); (· ((refine ⟨by omega, ZbL h2 ?_⟩; ((try simp only [BOa] at *); (first | omega | assumption | grind))))); (· exact ZW)) | (((first | (refine ZaY ?_; (try unfold below); first | rfl | exact Eq.symm (Zba fun j hj => h2 j (by omega)) | (refine Eq.symm (Za8 i (by omega) ?_); ((try simp only [BOa] at *); (first | omega | assumption | grind))) | exact Eq.symm (Zdq fun j hj => h2 j (by omega)) | (refine Eq.symm (Zes i (by omega) ?_); ((try simp only [BOa] at *); (first | omega | assumption | grind))) | ((try simp only [BOa] at *); (first | omega | assumption | grind))))); done)))
def ZhI : Nat → List Nat
 | 0 => [0, 1]
 | 1 => [0, 1, 5]
 | 2 => [0, 1, 5, 9]
 | 3 => [0, 1, 5]
 | 4 => [0, 1, 5, 35]
 | 5 => [4]
 | 6 => [4]
 | _ => []
theorem ZcM (args : Array Value) (w : World) : (callFunc 80 args).run Try.prog w = .ok (.enter 80 args) w := Zab Try.func80 (by decide) rfl args w
set_option maxHeartbeats 1000000 in
theorem ZkC (xs : List Int) (n : Int) (hn : NU (-1000000 ≤ n ∧ n ≤ 1000000)) : Con Try.prog 80 [.ints xs, .i n] (.bool (Zb5 xs n)) := by
 have hn := hn.e
 refine Con.fit ZcM fun hfit => ?_
 have hb_xs : xs.length ≤ 9223372036854775807 := GFits.ints (show GFits (.ints xs) from hfit 0 (ZL rfl))
 clear hfit
 refine gCon ZhI Zac (rs := [.tmp 4]) (sl := [(0, .g (.ints xs)), (1, .g (.i n))]) Try.func80 rfl Try.ntmps80 rfl ZcM rfl (by repeat constructor) ?_
 (repeat' (first | ((with_reducible apply gLB.cagg); (. exact RF.mk ⟨rfl, rfl, rfl⟩)) | ((with_reducible apply gLB.cone); (. exact RF.mk ⟨rfl, rfl⟩)) | ((with_reducible apply gLI.cagg); (. exact RF.mk ⟨rfl, rfl, rfl⟩)) | ((with_reducible apply gLI.cone); (. exact RF.mk ⟨rfl, rfl⟩)) | ((with_reducible apply gAF.cbuildA); (. exact RF.mk rfl); (. exact RF.mk ⟨rfl, rfl, rfl, rfl⟩)) | (with_reducible constructor) | exact Z4 | exact ZN | exact ZI | exact ZS | exact ZF | exact ZG | exact ZC | exact ZP | exact ZQ | (with_reducible apply Zay) | (apply ZaB) | (with_reducible apply Zaf) | exact ZU | (with_reducible apply ZaC) | (apply Zaw) | ((with_reducible apply Za0); first | apply ZcE) | (with_reducible intro hc; (try simp only [HCs] at hc)) | exact OB_f | exact DEC.mk (by decide) | exact ZM | exact ZT | exact ZK | (with_reducible first | apply gNK | apply ZaH | apply Zal | apply Zaj | apply Zai | apply Zam | apply CK_t | apply CK_f | apply ZaQ | apply Zar | apply ZaF | apply Zau | apply Zah | apply Zag | apply Zak | apply Zav | apply ZaA | apply Zax | apply Zaz | apply Zat | apply Zas | apply ZaR | apply ZaG | apply ZaE | apply ZaP) | apply Zaq Zac | apply Zao Zac rfl | (apply ZaD; exact RF.mk rfl) | exact EQ.mk rfl | (refine ZaN (id := 0) (ι := Nat) (fun i => ⟨[(0, .g (.ints xs)), (1, .g (.i n)), (5, .g (.i i))], []⟩) (fun i => (i ≤ xs.length) ∧ (∀ z, z < i → (fun i => decide (0 ≤ nth xs i) && decide (nth xs i < n) && (decide (i = 0) || decide (nth xs (i - 1) < nth xs i))) z = true)) (fun i => xs.length - i) (0) ?_ ?_ ?_; (. (apply gLX0 <;> (repeat' (first | (with_reducible constructor) | exact Z5 | exact RF.mk (by decide) | (with_reducible apply Zan) | exact ZE)))); (. (exact ⟨by omega, ZbJ⟩)); (rintro i ⟨h1, h2⟩; (show TX _ _ _ _ _ [(0, .g (.ints xs)), (1, .g (.i n)), (5, .g (.i i))] [] _))) | exact gSel.cnil _ | apply gSel.ccons | apply gCG.cagg))
 (all_goals (first | (refine Zbf (i + 1) ?_ ?_ ?_; (· (apply gLX0 <;> (repeat' (first | (with_reducible constructor) | exact Z5 | exact RF.mk (by decide) | (with_reducible apply Zan) | exact ZE)))); (· ((refine ⟨by omega, ZbL h2 ?_⟩; ((try simp only [BOa] at *); (first | omega | assumption | grind))))); (· exact ZW)) | (((first | (refine ZaY ?_; (try unfold Zb5); first | rfl | exact Eq.symm (Zba fun j hj => h2 j (by omega)) | (refine Eq.symm (Za8 i (by omega) ?_); ((try simp only [BOa] at *); (first | omega | assumption | grind))) | exact Eq.symm (Zdq fun j hj => h2 j (by omega)) | (refine Eq.symm (Zes i (by omega) ?_); ((try simp only [BOa] at *); (first | omega | assumption | grind))) | ((try simp only [BOa] at *); (first | omega | assumption | grind))))); done)))
def Zjb : Nat → List Nat
 | 0 => [0, 1]
 | 1 => [4]
 | _ => []
theorem ZdC (args : Array Value) (w : World) : (callFunc 62 args).run Try.prog w = .ok (.enter 62 args) w := Zab Try.func62 (by decide) rfl args w
set_option maxHeartbeats 1000000 in
theorem Zif (xs : List Int) (n : Int) (hn : NU (-1000000 ≤ n ∧ n ≤ 1000000)) : Con Try.prog 62 [.ints xs, .i n] (.bool (setB xs n)) := by
 have hn := hn.e
 refine Con.fit ZdC fun hfit => ?_
 have hb_xs : xs.length ≤ 9223372036854775807 := GFits.ints (show GFits (.ints xs) from hfit 0 (ZL rfl))
 clear hfit
 refine gCon Zjb Zac (rs := [.tmp 4]) (sl := [(0, .g (.ints xs)), (1, .g (.i n))]) Try.func62 rfl Try.ntmps62 rfl ZdC rfl (by repeat constructor) ?_
 (repeat' (first | ((with_reducible apply gLB.cagg); (. exact RF.mk ⟨rfl, rfl, rfl⟩)) | ((with_reducible apply gLB.cone); (. exact RF.mk ⟨rfl, rfl⟩)) | ((with_reducible apply gLI.cagg); (. exact RF.mk ⟨rfl, rfl, rfl⟩)) | ((with_reducible apply gLI.cone); (. exact RF.mk ⟨rfl, rfl⟩)) | ((with_reducible apply gAF.cbuildA); (. exact RF.mk rfl); (. exact RF.mk ⟨rfl, rfl, rfl, rfl⟩)) | (with_reducible constructor) | exact Z4 | exact ZN | exact ZI | exact ZS | exact ZF | exact ZG | exact ZC | exact ZP | exact ZQ | (with_reducible apply Zay) | (apply ZaB) | (with_reducible apply Zaf) | exact ZU | (with_reducible apply ZaC) | (apply Zaw) | ((with_reducible apply Za0); first | apply ZkC) | (with_reducible intro hc; (try simp only [HCs] at hc)) | exact OB_f | exact DEC.mk (by decide) | exact ZM | exact ZT | exact ZK | (with_reducible first | apply gNK | apply ZaH | apply Zal | apply Zaj | apply Zai | apply Zam | apply CK_t | apply CK_f | apply ZaQ | apply Zar | apply ZaF | apply Zau | apply Zah | apply Zag | apply Zak | apply Zav | apply ZaA | apply Zax | apply Zaz | apply Zat | apply Zas | apply ZaR | apply ZaG | apply ZaE | apply ZaP) | apply Zaq Zac | apply Zao Zac rfl | (apply ZaD; exact RF.mk rfl) | exact EQ.mk rfl | exact gSel.cnil _ | apply gSel.ccons | apply gCG.cagg))
 (all_goals (first | (((refine ZaY ?_; (try unfold setB); (first | rfl | (simp_all; done) | (rw [Bool.eq_iff_iff]; (try simp only [BOa, Bool.true_eq_false, Bool.false_eq_true, true_iff, false_iff, iff_true, iff_false, not_and, not_or] at *); (first | omega | grind))))); done)))
def Zic : Nat → List Nat
 | 0 => [0]
 | 1 => [2]
 | _ => []
theorem Zdl (args : Array Value) (w : World) : (callFunc 49 args).run Try.prog w = .ok (.enter 49 args) w := Zab Try.func49 (by decide) rfl args w
set_option maxHeartbeats 1000000 in
theorem Zhl (xs : List Int) (hx : NU (xs.length ≤ 1099511627776)) : Con Try.prog 49 [.ints xs] (.ints xs) := by
 have hx := hx.e
 refine Con.fit Zdl fun hfit => ?_
 have hb_xs : xs.length ≤ 9223372036854775807 := GFits.ints (show GFits (.ints xs) from hfit 0 (ZL rfl))
 clear hfit
 refine gCon Zic Zac (rs := [.tmp 2]) (sl := [(0, .g (.ints xs))]) Try.func49 rfl Try.ntmps49 rfl Zdl rfl (by repeat constructor) ?_
 (repeat' (first | ((with_reducible apply gLB.cagg); (. exact RF.mk ⟨rfl, rfl, rfl⟩)) | ((with_reducible apply gLB.cone); (. exact RF.mk ⟨rfl, rfl⟩)) | ((with_reducible apply gLI.cagg); (. exact RF.mk ⟨rfl, rfl, rfl⟩)) | ((with_reducible apply gLI.cone); (. exact RF.mk ⟨rfl, rfl⟩)) | ((with_reducible apply gAF.cbuildA); (. exact RF.mk rfl); (. exact RF.mk ⟨rfl, rfl, rfl, rfl⟩)) | (with_reducible constructor) | exact Z4 | exact ZN | exact ZI | exact ZS | exact ZF | exact ZG | exact ZC | exact ZP | exact ZQ | (with_reducible apply Zay) | (apply ZaB) | (with_reducible apply Zaf) | exact ZU | (with_reducible apply ZaC) | (apply Zaw) | (with_reducible intro hc; (try simp only [HCs] at hc)) | exact OB_f | exact DEC.mk (by decide) | exact ZM | exact ZT | exact ZK | (with_reducible first | apply gNK | apply ZaH | apply Zal | apply Zaj | apply Zai | apply Zam | apply CK_t | apply CK_f | apply ZaQ | apply Zar | apply ZaF | apply Zau | apply Zah | apply Zag | apply Zak | apply Zav | apply ZaA | apply Zax | apply Zaz | apply Zat | apply Zas | apply ZaR | apply ZaG | apply ZaE | apply ZaP) | apply Zaq Zac | apply Zao Zac rfl | (apply ZaD; exact RF.mk rfl) | exact EQ.mk rfl | exact gSel.cnil _ | apply gSel.ccons | apply gCG.cagg))
 (all_goals (first | (((first | (refine ZaY ?_; first | (simp_all; done) | (rw [Bool.eq_iff_iff]; simp only [Bool.and_eq_true, Bool.or_eq_true, decide_eq_true_eq, Bool.false_eq_true, false_iff, true_iff, iff_false, iff_true, not_and, not_or, Bool.not_eq_true, decide_eq_false_iff_not, beq_iff_eq, bne_iff_ne, ne_eq, Bool.not_eq_true', Bool.not_eq_false', Int.not_le, Int.not_lt]; omega)) | ((repeat (first | apply Zfv | apply Zbd | apply Zcn | apply ZbY | apply ZaS)); all_goals (first | exact EQ.mk rfl | exact EQ.mk (by first | (simp; done) | fail) | exact EQ.mk (by first | (simp_all; done) | fail))))); done)))
def Zjs : Nat → List Nat
 | 0 => [0, 1]
 | 1 => [0, 1, 5]
 | 2 => [0, 1, 5, 9]
 | 3 => [0, 1, 5]
 | 4 => [0, 1, 5, 17]
 | 5 => [4]
 | 6 => [4]
 | _ => []
theorem ZdM (args : Array Value) (w : World) : (callFunc 46 args).run Try.prog w = .ok (.enter 46 args) w := Zab Try.func46 (by decide) rfl args w
set_option maxHeartbeats 1000000 in
theorem Zf1 (xs : List Int) (n : Int) : Con Try.prog 46 [.ints xs, .i n] (.bool (has xs n)) := by
 refine Con.fit ZdM fun hfit => ?_
 have hb_xs : xs.length ≤ 9223372036854775807 := GFits.ints (show GFits (.ints xs) from hfit 0 (ZL rfl))
 clear hfit
 refine gCon Zjs Zac (rs := [.tmp 4]) (sl := [(0, .g (.ints xs)), (1, .g (.i n))]) Try.func46 rfl Try.ntmps46 rfl ZdM rfl (by repeat constructor) ?_
 (repeat' (first | ((with_reducible apply gLB.cagg); (. exact RF.mk ⟨rfl, rfl, rfl⟩)) | ((with_reducible apply gLB.cone); (. exact RF.mk ⟨rfl, rfl⟩)) | ((with_reducible apply gLI.cagg); (. exact RF.mk ⟨rfl, rfl, rfl⟩)) | ((with_reducible apply gLI.cone); (. exact RF.mk ⟨rfl, rfl⟩)) | ((with_reducible apply gAF.cbuildA); (. exact RF.mk rfl); (. exact RF.mk ⟨rfl, rfl, rfl, rfl⟩)) | (with_reducible constructor) | exact Z4 | exact ZN | exact ZI | exact ZS | exact ZF | exact ZG | exact ZC | exact ZP | exact ZQ | (with_reducible apply Zay) | (apply ZaB) | (with_reducible apply Zaf) | exact ZU | (with_reducible apply ZaC) | (apply Zaw) | (with_reducible intro hc; (try simp only [HCs] at hc)) | exact OB_f | exact DEC.mk (by decide) | exact ZM | exact ZT | exact ZK | (with_reducible first | apply gNK | apply ZaH | apply Zal | apply Zaj | apply Zai | apply Zam | apply CK_t | apply CK_f | apply ZaQ | apply Zar | apply ZaF | apply Zau | apply Zah | apply Zag | apply Zak | apply Zav | apply ZaA | apply Zax | apply Zaz | apply Zat | apply Zas | apply ZaR | apply ZaG | apply ZaE | apply ZaP) | apply Zaq Zac | apply Zao Zac rfl | (apply ZaD; exact RF.mk rfl) | exact EQ.mk rfl | (refine ZaN (id := 0) (ι := Nat) (fun i => ⟨[(0, .g (.ints xs)), (1, .g (.i n)), (5, .g (.i i))], []⟩) (fun i => (i ≤ xs.length) ∧ (∀ z, z < i → (fun i => !(nth xs i == n)) z = true)) (fun i => xs.length - i) (0) ?_ ?_ ?_; (. (apply gLX0 <;> (repeat' (first | (with_reducible constructor) | exact Z5 | exact RF.mk (by decide) | (with_reducible apply Zan) | exact ZE)))); (. (exact ⟨by omega, ZbJ⟩)); (rintro i ⟨h1, h2⟩; (show TX _ _ _ _ _ [(0, .g (.ints xs)), (1, .g (.i n)), (5, .g (.i i))] [] _))) | exact gSel.cnil _ | apply gSel.ccons | apply gCG.cagg))
 (all_goals (first | (refine Zbf (i + 1) ?_ ?_ ?_; (· (apply gLX0 <;> (repeat' (first | (with_reducible constructor) | exact Z5 | exact RF.mk (by decide) | (with_reducible apply Zan) | exact ZE)))); (· ((refine ⟨by omega, ZbL h2 ?_⟩; ((try simp only [BOa] at *); (first | omega | assumption | grind))))); (· exact ZW)) | (((first | (refine ZaY ?_; (try unfold has); first | rfl | exact Eq.symm (Zba fun j hj => h2 j (by omega)) | (refine Eq.symm (Za8 i (by omega) ?_); ((try simp only [BOa] at *); (first | omega | assumption | grind))) | exact Eq.symm (Zdq fun j hj => h2 j (by omega)) | (refine Eq.symm (Zes i (by omega) ?_); ((try simp only [BOa] at *); (first | omega | assumption | grind))) | ((try simp only [BOa] at *); (first | omega | assumption | grind))))); done)))
def Zhx : Nat → List Nat
 | 0 => [0, 1]
 | 1 => [0, 1, 5]
 | 2 => [0, 1, 5, 9]
 | 3 => [0, 1, 5]
 | 4 => [0, 1, 5, 17]
 | 5 => [4]
 | 6 => [4]
 | _ => []
theorem ZcV (args : Array Value) (w : World) : (callFunc 47 args).run Try.prog w = .ok (.enter 47 args) w := Zab Try.func47 (by decide) rfl args w
set_option maxHeartbeats 1000000 in
theorem ZjA (xs : List Int) (n : Int) : Con Try.prog 47 [.ints xs, .i n] (.i (ZbE xs n)) := by
 refine Con.fit ZcV fun hfit => ?_
 have hb_xs : xs.length ≤ 9223372036854775807 := GFits.ints (show GFits (.ints xs) from hfit 0 (ZL rfl))
 clear hfit
 refine gCon Zhx Zac (rs := [.tmp 4]) (sl := [(0, .g (.ints xs)), (1, .g (.i n))]) Try.func47 rfl Try.ntmps47 rfl ZcV rfl (by repeat constructor) ?_
 (repeat' (first | ((with_reducible apply gLB.cagg); (. exact RF.mk ⟨rfl, rfl, rfl⟩)) | ((with_reducible apply gLB.cone); (. exact RF.mk ⟨rfl, rfl⟩)) | ((with_reducible apply gLI.cagg); (. exact RF.mk ⟨rfl, rfl, rfl⟩)) | ((with_reducible apply gLI.cone); (. exact RF.mk ⟨rfl, rfl⟩)) | ((with_reducible apply gAF.cbuildA); (. exact RF.mk rfl); (. exact RF.mk ⟨rfl, rfl, rfl, rfl⟩)) | (with_reducible constructor) | exact Z4 | exact ZN | exact ZI | exact ZS | exact ZF | exact ZG | exact ZC | exact ZP | exact ZQ | (with_reducible apply Zay) | (apply ZaB) | (with_reducible apply Zaf) | exact ZU | (with_reducible apply ZaC) | (apply Zaw) | (with_reducible intro hc; (try simp only [HCs] at hc)) | exact OB_f | exact DEC.mk (by decide) | exact ZM | exact ZT | exact ZK | (with_reducible first | apply gNK | apply ZaH | apply Zal | apply Zaj | apply Zai | apply Zam | apply CK_t | apply CK_f | apply ZaQ | apply Zar | apply ZaF | apply Zau | apply Zah | apply Zag | apply Zak | apply Zav | apply ZaA | apply Zax | apply Zaz | apply Zat | apply Zas | apply ZaR | apply ZaG | apply ZaE | apply ZaP) | apply Zaq Zac | apply Zao Zac rfl | (apply ZaD; exact RF.mk rfl) | exact EQ.mk rfl | (refine ZaN (id := 0) (ι := Nat) (fun i => ⟨[(0, .g (.ints xs)), (1, .g (.i n)), (5, .g (.i i))], []⟩) (fun i => (i ≤ xs.length) ∧ (∀ z, z < i → (fun i => nth xs i == n) z = false)) (fun i => xs.length - i) (0) ?_ ?_ ?_; (. (apply gLX0 <;> (repeat' (first | (with_reducible constructor) | exact Z5 | exact RF.mk (by decide) | (with_reducible apply Zan) | exact ZE)))); (. (exact ⟨by omega, Zey⟩)); (rintro i ⟨h1, h2⟩; (show TX _ _ _ _ _ [(0, .g (.ints xs)), (1, .g (.i n)), (5, .g (.i i))] [] _))) | exact gSel.cnil _ | apply gSel.ccons | apply gCG.cagg))
 (all_goals (first | (refine Zbf (i + 1) ?_ ?_ ?_; (· (apply gLX0 <;> (repeat' (first | (with_reducible constructor) | exact Z5 | exact RF.mk (by decide) | (with_reducible apply Zan) | exact ZE)))); (· ((refine ⟨by omega, Zen h2 ?_⟩; ((try simp only [BOa] at *); (first | omega | assumption | grind))))); (· exact ZW)) | (((refine Zan (EQ.mk ?_); (try unfold ZbE); first | exact Eq.symm (Zdr fun j hj => h2 j (by omega)) | (refine Eq.symm (ZcH i (by omega) ?_ h2); ((try simp only [BOa] at *); (first | omega | assumption | grind))))); done)))
end Go.Proofs.Ytnieejghoaccmaa

