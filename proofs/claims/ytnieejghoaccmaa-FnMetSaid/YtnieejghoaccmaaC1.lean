/- Contracts: interfaces, words, clauses. No conditions but those that each theorem names. -/
import Derived.Test.YtnieejghoaccmaaTab
import Derived.Test.YtnieejghoaccmaaKG
import Derived.Test.YtnieejghoaccmaaW1
import Derived.Test.YtnieejghoaccmaaT2
import Derived.Test.YtnieejghoaccmaaChecked
set_option linter.unusedSimpArgs false
set_option linter.unusedVariables false
namespace Go.Proofs.Ytnieejghoaccmaa
open Go.RowKit
open Shp
theorem QC14 {p : Prop} (h : p := by ((first | exact EQ.mk (by omega) | exact EQ.mk (by rw [Int.pow_succ])); done)) : p := h
theorem QC13 {p : Prop} (h : p := by first | exact ZO | (first | omega | (have q := ZnN (by assumption); omega))) : p := h
theorem QC12 {p : Prop} (h : p := by first | exact ZO | (first | omega | exact ⟨by omega, by omega, by omega, by have := ZuD (i + o).toNat (by omega); omega⟩)) : p := h
theorem QC11 {p : Prop} (h : p := by first | exact ZO | (first | omega | (have q := ZuD i (by omega); omega))) : p := h
theorem QC10 {p : Prop} (h : p := by first | exact ZO | (first | omega | (have q := ZaJ i o; omega) | (have q := ZnN (by assumption); omega))) : p := h
def Zjc : Nat → List Nat
 | 0 => [1]
 | 1 => [2]
 | _ => []
theorem ZgD (args : Array Value) (w : World) : (callFunc 26 args).run Try.prog w = .ok (.enter 26 args) w := Zab Try.func26 (by decide) rfl args w
set_option maxHeartbeats 1000000 in
theorem Zdd (i o : Int) : Con Try.prog 26 [.sig i o] (.bool (sigB i o)) := by
 refine gCon Zjc Zac (rs := [.tmp 2]) (sl := [(0, .g (.sig i o))]) Try.func26 rfl Try.ntmps26 rfl ZgD rfl (by repeat constructor) ?_
 (repeat' (first | ((with_reducible apply gLB.cagg); (. exact RF.mk ⟨rfl, rfl, rfl⟩)) | ((with_reducible apply gLB.cone); (. exact RF.mk ⟨rfl, rfl⟩)) | ((with_reducible apply gLI.cagg); (. exact RF.mk ⟨rfl, rfl, rfl⟩)) | ((with_reducible apply gLI.cone); (. exact RF.mk ⟨rfl, rfl⟩)) | ((with_reducible apply gAF.cbuildA); (. exact RF.mk rfl); (. exact RF.mk ⟨rfl, rfl, rfl, rfl⟩)) | (with_reducible constructor) | exact Z4 | exact ZN | exact ZI | exact ZS | exact ZF | exact ZG | exact ZC | exact ZP | exact ZQ | (with_reducible apply Zay) | (apply ZaB) | (with_reducible apply Zaf) | exact ZU | (with_reducible apply ZaC) | (apply Zaw) | ((with_reducible apply Za0); first | apply ZcE) | (with_reducible intro hc; (try simp only [HCs] at hc)) | exact OB_f | exact DEC.mk (by decide) | exact ZM | exact ZT | exact ZK | (with_reducible first | apply gNK | apply ZaH | apply Zal | apply Zaj | apply Zai | apply Zam | apply CK_t | apply CK_f | apply ZaQ | apply Zar | apply ZaF | apply Zau | apply Zah | apply Zag | apply Zak | apply Zav | apply ZaA | apply Zax | apply Zaz | apply Zat | apply Zas | apply ZaR | apply ZaG | apply ZaE | apply ZaP) | apply Zaq Zac | apply Zao Zac rfl | (apply ZaD; exact RF.mk rfl) | exact EQ.mk rfl | exact gSel.cnil _ | apply gSel.ccons | apply gCG.cagg))
 (all_goals (first | (((refine ZaY ?_; (try unfold sigB); (first | rfl | (simp_all; done) | (rw [Bool.eq_iff_iff]; (try simp only [BOa, Bool.true_eq_false, Bool.false_eq_true, true_iff, false_iff, iff_true, iff_false, not_and, not_or] at *); (first | omega | grind))))); done)))
def Zjq : Nat → List Nat
 | 0 => [1]
 | 1 => [2]
 | _ => []
theorem ZgG (args : Array Value) (w : World) : (callFunc 18 args).run Try.prog w = .ok (.enter 18 args) w := Zab Try.func18 (by decide) rfl args w
set_option maxHeartbeats 1000000 in
theorem Zir (i o : Int) : Con Try.prog 18 [.sig i o] (.bool (sigB i o)) := by
 refine gCon Zjq Zac (rs := [.tmp 2]) (sl := [(0, .g (.sig i o))]) Try.func18 rfl Try.ntmps18 rfl ZgG rfl (by repeat constructor) ?_
 (repeat' (first | ((with_reducible apply gLB.cagg); (. exact RF.mk ⟨rfl, rfl, rfl⟩)) | ((with_reducible apply gLB.cone); (. exact RF.mk ⟨rfl, rfl⟩)) | ((with_reducible apply gLI.cagg); (. exact RF.mk ⟨rfl, rfl, rfl⟩)) | ((with_reducible apply gLI.cone); (. exact RF.mk ⟨rfl, rfl⟩)) | ((with_reducible apply gAF.cbuildA); (. exact RF.mk rfl); (. exact RF.mk ⟨rfl, rfl, rfl, rfl⟩)) | (with_reducible constructor) | exact Z4 | exact ZN | exact ZI | exact ZS | exact ZF | exact ZG | exact ZC | exact ZP | exact ZQ | (with_reducible apply Zay) | (apply ZaB) | (with_reducible apply Zaf) | exact ZU | (with_reducible apply ZaC) | (apply Zaw) | (with_reducible intro hc; (try simp only [HCs] at hc)) | exact OB_f | exact DEC.mk (by decide) | exact ZM | exact ZT | exact ZK | (with_reducible first | apply gNK | apply ZaH | apply Zal | apply Zaj | apply Zai | apply Zam | apply CK_t | apply CK_f | apply ZaQ | apply Zar | apply ZaF | apply Zau | apply Zah | apply Zag | apply Zak | apply Zav | apply ZaA | apply Zax | apply Zaz | apply Zat | apply Zas | apply ZaR | apply ZaG | apply ZaE | apply ZaP) | apply Zaq Zac | apply Zao Zac rfl | (apply ZaD; exact RF.mk rfl) | exact EQ.mk rfl | exact gSel.cnil _ | apply gSel.ccons | apply gCG.cagg))
 (all_goals (first | (((refine ZaY ?_; (try unfold sigB); (first | rfl | (simp_all; done) | (rw [Bool.eq_iff_iff]; (try simp only [BOa, Bool.true_eq_false, Bool.false_eq_true, true_iff, false_iff, iff_true, iff_false, not_and, not_or] at *); (first | omega | grind))))); done)))
def ZgC : Nat → List Nat
 | 0 => [0]
 | 1 => [0, 3]
 | 2 => [0, 3, 5]
 | 3 => [0, 3]
 | 4 => [0, 3]
 | 5 => [2]
 | _ => []
theorem ZeX (args : Array Value) (w : World) : (callFunc 42 args).run Try.prog w = .ok (.enter 42 args) w := Zab Try.func42 (by decide) rfl args w
set_option maxHeartbeats 1000000 in
theorem Zjr (n : Int) (hn : NU (-10 ≤ n ∧ n ≤ 10)) : Con Try.prog 42 [.i n] (.i (pw n)) := by
 have hn := hn.e
 refine gCon ZgC Zac (rs := [.tmp 2]) (sl := [(0, .g (.i n))]) Try.func42 rfl Try.ntmps42 rfl ZeX rfl (by repeat constructor) ?_
 (repeat' (first | ((with_reducible apply gLB.cagg); (. exact RF.mk ⟨rfl, rfl, rfl⟩)) | ((with_reducible apply gLB.cone); (. exact RF.mk ⟨rfl, rfl⟩)) | ((with_reducible apply gLI.cagg); (. exact RF.mk ⟨rfl, rfl, rfl⟩)) | ((with_reducible apply gLI.cone); (. exact RF.mk ⟨rfl, rfl⟩)) | ((with_reducible apply gAF.cbuildA); (. exact RF.mk rfl); (. exact RF.mk ⟨rfl, rfl, rfl, rfl⟩)) | (with_reducible constructor) | exact Z4 | exact NU.mk QC11 | exact ZI | exact ZS | exact ZF | exact ZG | exact ZC | ((with_reducible apply ZaT); (. exact ZA); (. exact NU.mk QC11)) | exact ZQ | (with_reducible apply Zay) | (apply ZaB) | (with_reducible apply Zaf) | ((with_reducible apply ZaU); (. exact NU.mk QC11); (. rfl)) | (with_reducible apply ZaC) | (apply Zaw) | (with_reducible intro hc; (try simp only [HCs] at hc)) | exact OB_f | exact DEC.mk (by decide) | exact ZM | exact ZT | exact ZK | (with_reducible first | apply gNK | apply ZaH | apply Zal | apply Zaj | apply Zai | apply Zam | apply CK_t | apply CK_f | apply ZaQ | apply Zar | apply ZaF | apply Zau | apply Zah | apply Zag | apply Zak | apply Zav | apply ZaA | apply Zax | apply Zaz | apply Zat | apply Zas | apply ZaR | apply ZaG | apply ZaE | apply ZaP) | apply Zaq Zac | apply Zao Zac rfl | (apply ZaD; exact RF.mk rfl) | exact EQ.mk rfl | (refine ZaN (id := 0) (ι := Nat) (fun i => ⟨[(0, .g (.i (n - i))), (3, .g (.i (2 ^ i)))], []⟩) (fun i => (i ≤ n.toNat)) (fun i => n.toNat - i) (0) ?_ ?_ ?_; (. (apply gLX0 <;> (repeat' (first | (with_reducible constructor) | exact Z5 | exact RF.mk (by decide) | (with_reducible apply Zan) | exact EQ.mk QC11)); (all_goals exact QC14))); (. (omega)); (rintro i h1; (show TX _ _ _ _ _ [(0, .g (.i (n - i))), (3, .g (.i (2 ^ i)))] [] _))) | exact gSel.cnil _ | apply gSel.ccons | apply gCG.cagg))
 (all_goals (first | (refine Zbf (i + 1) ?_ ?_ ?_; (· (apply gLX0 <;> (repeat' (first | (with_reducible constructor) | exact Z5 | exact RF.mk (by decide) | (with_reducible apply Zan) | exact EQ.mk QC11)); (all_goals exact QC14))); (· (omega)); (· exact ZW)) | (((refine Zan (EQ.mk ?_); unfold pw; rw [show i = n.toNat by omega])); done)))
def Zf0 : Nat → List Nat
 | 0 => [1]
 | 1 => [2]
 | _ => []
theorem ZeG (args : Array Value) (w : World) : (callFunc 21 args).run Try.prog w = .ok (.enter 21 args) w := Zab Try.func21 (by decide) rfl args w
set_option maxHeartbeats 1000000 in
theorem Zc4 (i o : Int) (hn : NU (0 ≤ i ∧ i ≤ 4 ∧ 0 ≤ o ∧ o ≤ 4)) : Con Try.prog 21 [.sig i o] (.i (pw (i + o))) := by
 have hn := hn.e
 refine gCon Zf0 Zac (rs := [.tmp 2]) (sl := [(0, .g (.sig i o))]) Try.func21 rfl Try.ntmps21 rfl ZeG rfl (by repeat constructor) ?_
 (repeat' (first | ((with_reducible apply gLB.cagg); (. exact RF.mk ⟨rfl, rfl, rfl⟩)) | ((with_reducible apply gLB.cone); (. exact RF.mk ⟨rfl, rfl⟩)) | ((with_reducible apply gLI.cagg); (. exact RF.mk ⟨rfl, rfl, rfl⟩)) | ((with_reducible apply gLI.cone); (. exact RF.mk ⟨rfl, rfl⟩)) | ((with_reducible apply gAF.cbuildA); (. exact RF.mk rfl); (. exact RF.mk ⟨rfl, rfl, rfl, rfl⟩)) | (with_reducible constructor) | exact Z4 | exact NU.mk QC12 | exact ZI | exact ZS | exact ZF | exact ZG | exact ZC | ((with_reducible apply ZaT); (. exact ZA); (. exact NU.mk QC12)) | exact ZQ | (with_reducible apply Zay) | (apply ZaB) | (with_reducible apply Zaf) | ((with_reducible apply ZaU); (. exact NU.mk QC12); (. rfl)) | (with_reducible apply ZaC) | (apply Zaw) | (with_reducible intro hc; (try simp only [HCs] at hc)) | exact OB_f | exact DEC.mk (by decide) | exact ZM | exact ZT | exact ZK | (with_reducible first | apply gNK | apply ZaH | apply Zal | apply Zaj | apply Zai | apply Zam | apply CK_t | apply CK_f | apply ZaQ | apply Zar | apply ZaF | apply Zau | apply Zah | apply Zag | apply Zak | apply Zav | apply ZaA | apply Zax | apply Zaz | apply Zat | apply Zas | apply ZaR | apply ZaG | apply ZaE | apply ZaP) | apply Zaq Zac | apply Zao Zac rfl | (apply ZaD; exact RF.mk rfl) | exact EQ.mk rfl | exact gSel.cnil _ | apply gSel.ccons | apply gCG.cagg))
 (all_goals (first | (((refine Zan (EQ.mk ?_); unfold pw; simp)); done)))
def ZfP : Nat → List Nat
 | 0 => [1]
 | 1 => [1, 5]
 | 2 => [2]
 | 3 => [2]
 | _ => []
theorem ZeD (args : Array Value) (w : World) : (callFunc 17 args).run Try.prog w = .ok (.enter 17 args) w := Zab Try.func17 (by decide) rfl args w
set_option maxHeartbeats 1000000 in
theorem Za2 (i o : Int) : Con Try.prog 17 [.sig i o] (.i (Zaa i o)) := by
 refine gCon ZfP Zac (rs := [.tmp 2]) (sl := [(0, .g (.sig i o))]) Try.func17 rfl Try.ntmps17 rfl ZeD rfl (by repeat constructor) ?_
 (repeat' (first | ((with_reducible apply gLB.cagg); (. exact RF.mk ⟨rfl, rfl, rfl⟩)) | ((with_reducible apply gLB.cone); (. exact RF.mk ⟨rfl, rfl⟩)) | ((with_reducible apply gLI.cagg); (. exact RF.mk ⟨rfl, rfl, rfl⟩)) | ((with_reducible apply gLI.cone); (. exact RF.mk ⟨rfl, rfl⟩)) | ((with_reducible apply gAF.cbuildA); (. exact RF.mk rfl); (. exact RF.mk ⟨rfl, rfl, rfl, rfl⟩)) | (with_reducible constructor) | exact Z4 | exact NU.mk QC13 | exact ZI | exact ZS | exact ZF | exact ZG | exact ZC | ((with_reducible apply ZaT); (. exact ZA); (. exact NU.mk QC13)) | exact ZQ | (with_reducible apply Zay) | (apply ZaB) | (with_reducible apply Zaf) | ((with_reducible apply ZaU); (. exact NU.mk QC13); (. rfl)) | (with_reducible apply ZaC) | (apply Zaw) | ((with_reducible apply Za0); first | apply Zdd | apply Zjr) | (with_reducible intro hc; (try simp only [HCs] at hc)) | exact OB_f | exact DEC.mk (by decide) | exact ZM | exact ZT | exact ZK | (with_reducible first | apply gNK | apply ZaH | apply Zal | apply Zaj | apply Zai | apply Zam | apply CK_t | apply CK_f | apply ZaQ | apply Zar | apply ZaF | apply Zau | apply Zah | apply Zag | apply Zak | apply Zav | apply ZaA | apply Zax | apply Zaz | apply Zat | apply Zas | apply ZaR | apply ZaG | apply ZaE | apply ZaP) | apply Zaq Zac | apply Zao Zac rfl | (apply ZaD; exact RF.mk rfl) | exact EQ.mk rfl | exact gSel.cnil _ | apply gSel.ccons | apply gCG.cagg))
 (all_goals (first | (((refine Zan (EQ.mk ?_); unfold Zaa; simp_all)); done)))
def Zfu : Nat → List Nat
 | 0 => [0, 1]
 | 1 => [0, 1, 7, 8]
 | 2 => [0, 1, 7, 8, 9]
 | 3 => [0, 1, 5, 7, 8]
 | 4 => [0, 1, 5, 7, 8, 16]
 | 5 => [4]
 | 6 => [0, 1, 7, 8]
 | 7 => [4]
 | _ => []
theorem Zce (args : Array Value) (w : World) : (callFunc 63 args).run Try.prog w = .ok (.enter 63 args) w := Zab Try.func63 (by decide) rfl args w
set_option maxHeartbeats 1000000 in
theorem Zht (xs : List (Int)) (f : FuncId) (caps : List GV) (p : Int → Bool) (hf : HY (∀ x : Int, Con Try.prog f (.i x :: caps) (.bool (p x)))) : Con Try.prog 63 [.ints xs, .fn f caps] (.i (Zeh xs.length fun i => p (nth xs i))) := by
 have hf := hf.e
 refine Con.fit Zce fun hfit => ?_
 have hb_xs : xs.length ≤ 9223372036854775807 := GFits.ints (show GFits (.ints xs) from hfit 0 (ZL rfl))
 clear hfit
 refine gCon Zfu Zac (rs := [.tmp 4]) (sl := [(0, .g (.ints xs)), (1, .g (.fn f caps))]) Try.func63 rfl Try.ntmps63 rfl Zce rfl (by repeat constructor) ?_
 (repeat' (first | ((with_reducible apply gLB.cagg); (. exact RF.mk ⟨rfl, rfl, rfl⟩)) | ((with_reducible apply gLB.cone); (. exact RF.mk ⟨rfl, rfl⟩)) | ((with_reducible apply gLI.cagg); (. exact RF.mk ⟨rfl, rfl, rfl⟩)) | ((with_reducible apply gLI.cone); (. exact RF.mk ⟨rfl, rfl⟩)) | ((with_reducible apply gAF.cbuildA); (. exact RF.mk rfl); (. exact RF.mk ⟨rfl, rfl, rfl, rfl⟩)) | (with_reducible constructor) | exact Z4 | exact ZN | exact ZI | exact ZS | exact ZF | exact ZG | exact ZC | exact ZP | exact ZQ | (with_reducible apply Zay) | (apply ZaB) | (with_reducible apply Zaf) | exact ZU | (with_reducible apply ZaC) | (apply Zaw) | ((with_reducible apply Za0); first | (exact hf _)) | (with_reducible intro hc; (try simp only [HCs] at hc)) | exact OB_f | exact DEC.mk (by decide) | exact ZM | exact ZT | exact ZK | (with_reducible first | apply gNK | apply ZaH | apply Zal | apply Zaj | apply Zai | apply Zam | apply CK_t | apply CK_f | apply ZaQ | apply Zar | apply ZaF | apply Zau | apply Zah | apply Zag | apply Zak | apply Zav | apply ZaA | apply Zax | apply Zaz | apply Zat | apply Zas | apply ZaR | apply ZaG | apply ZaE | apply ZaP) | apply Zaq Zac | apply Zao Zac rfl | (apply ZaD; exact RF.mk rfl) | exact EQ.mk rfl | (refine ZaN (id := 0) (ι := Nat) (fun i => ⟨[(0, .g (.ints xs)), (1, .g (.fn f caps)), (7, .g (.i xs.length)), (8, .g (.i i))], []⟩) (fun i => (i ≤ xs.length) ∧ (∀ z, z < i → (fun i => p (nth xs i)) z = false)) (fun i => xs.length - i) (0) ?_ ?_ ?_; (. (apply gLX0 <;> (repeat' (first | (with_reducible constructor) | exact Z5 | exact RF.mk (by decide) | (with_reducible apply Zan) | exact ZE)))); (. (exact ⟨by omega, Zey⟩)); (rintro i ⟨h1, h2⟩; (show TX _ _ _ _ _ [(0, .g (.ints xs)), (1, .g (.fn f caps)), (7, .g (.i xs.length)), (8, .g (.i i))] [] _))) | exact gSel.cnil _ | apply gSel.ccons | apply gCG.cagg))
 (all_goals (first | (refine Zbf (i + 1) ?_ ?_ ?_; (· (apply gLX0 <;> (repeat' (first | (with_reducible constructor) | exact Z5 | exact RF.mk (by decide) | (with_reducible apply Zan) | exact ZE)))); (· ((refine ⟨by omega, Zen h2 ?_⟩; ((try simp only [BOa] at *); (first | omega | assumption | grind))))); (· exact ZW)) | (((refine Zan (EQ.mk ?_); skip; first | exact Eq.symm (Zdr fun j hj => h2 j (by omega)) | (refine Eq.symm (ZcH i (by omega) ?_ h2); ((try simp only [BOa] at *); (first | omega | assumption | grind))))); done)))
def Zek : Nat → List Nat
 | 0 => [0, 1]
 | 1 => [4]
 | _ => []
theorem ZbQ (args : Array Value) (w : World) : (callFunc 52 args).run Try.prog w = .ok (.enter 52 args) w := Zab Try.func52 (by decide) rfl args w
set_option maxHeartbeats 1000000 in
theorem Ze4 (xs : List (Int)) (f : FuncId) (caps : List GV) (p : Int → Bool) (hf : HY (∀ x : Int, Con Try.prog f (.i x :: caps) (.bool (p x)))) : Con Try.prog 52 [.ints xs, .fn f caps] (.bool (!allN xs.length fun i => !p (nth xs i))) := by
 have hf := hf.e
 refine Con.fit ZbQ fun hfit => ?_
 have hb_xs : xs.length ≤ 9223372036854775807 := GFits.ints (show GFits (.ints xs) from hfit 0 (ZL rfl))
 clear hfit
 refine gCon Zek Zac (rs := [.tmp 4]) (sl := [(0, .g (.ints xs)), (1, .g (.fn f caps))]) Try.func52 rfl Try.ntmps52 rfl ZbQ rfl (by repeat constructor) ?_
 (repeat' (first | ((with_reducible apply gLB.cagg); (. exact RF.mk ⟨rfl, rfl, rfl⟩)) | ((with_reducible apply gLB.cone); (. exact RF.mk ⟨rfl, rfl⟩)) | ((with_reducible apply gLI.cagg); (. exact RF.mk ⟨rfl, rfl, rfl⟩)) | ((with_reducible apply gLI.cone); (. exact RF.mk ⟨rfl, rfl⟩)) | ((with_reducible apply gAF.cbuildA); (. exact RF.mk rfl); (. exact RF.mk ⟨rfl, rfl, rfl, rfl⟩)) | (with_reducible constructor) | exact Z4 | exact ZN | exact ZI | exact ZS | exact ZF | exact ZG | exact ZC | exact ZP | exact ZQ | (with_reducible apply Zay) | (apply ZaB) | (with_reducible apply Zaf) | exact ZU | (with_reducible apply ZaC) | (apply Zaw) | ((with_reducible apply Za0); first | (exact Zht xs f caps p (HY.mk hf))) | (with_reducible intro hc; (try simp only [HCs] at hc)) | exact OB_f | exact DEC.mk (by decide) | exact ZM | exact ZT | exact ZK | (with_reducible first | apply gNK | apply ZaH | apply Zal | apply Zaj | apply Zai | apply Zam | apply CK_t | apply CK_f | apply ZaQ | apply Zar | apply ZaF | apply Zau | apply Zah | apply Zag | apply Zak | apply Zav | apply ZaA | apply Zax | apply Zaz | apply Zat | apply Zas | apply ZaR | apply ZaG | apply ZaE | apply ZaP) | apply Zaq Zac | apply Zao Zac rfl | (apply ZaD; exact RF.mk rfl) | exact EQ.mk rfl | exact gSel.cnil _ | apply gSel.ccons | apply gCG.cagg))
 (all_goals (first | (((refine ZaY ?_; exact ZjL)); done)))
def ZdS : Nat → List Nat
 | 0 => [0, 1]
 | 1 => [3]
 | _ => []
theorem Zdf (args : Array Value) (w : World) : (callFunc 53 args).run Try.prog w = .ok (.enter 53 args) w := Zab Try.func53 (by decide) rfl args w
set_option maxHeartbeats 1000000 in
theorem Zfc (x n : Int) : Con Try.prog 53 [.i x, .box [.i n]] (.bool (decide (x < 0) || decide (x ≥ n))) := by
 refine gCon ZdS Zac (rs := [.tmp 3]) (sl := [(0, .g (.i x)), (1, .g (.box [.i n]))]) Try.func53 rfl Try.ntmps53 rfl Zdf rfl (by repeat constructor) ?_
 (repeat' (first | ((with_reducible apply gLB.cagg); (. exact RF.mk ⟨rfl, rfl, rfl⟩)) | ((with_reducible apply gLB.cone); (. exact RF.mk ⟨rfl, rfl⟩)) | ((with_reducible apply gLI.cagg); (. exact RF.mk ⟨rfl, rfl, rfl⟩)) | ((with_reducible apply gLI.cone); (. exact RF.mk ⟨rfl, rfl⟩)) | ((with_reducible apply gAF.cbuildA); (. exact RF.mk rfl); (. exact RF.mk ⟨rfl, rfl, rfl, rfl⟩)) | (with_reducible constructor) | exact Z4 | exact ZN | exact ZI | exact ZS | exact ZF | exact ZG | exact ZC | exact ZP | exact ZQ | (with_reducible apply Zay) | (apply ZaB) | (with_reducible apply Zaf) | exact ZU | (with_reducible apply ZaC) | (apply Zaw) | (with_reducible intro hc; (try simp only [HCs] at hc)) | exact OB_f | exact DEC.mk (by decide) | exact ZM | exact ZT | exact ZK | (with_reducible first | apply gNK | apply ZaH | apply Zal | apply Zaj | apply Zai | apply Zam | apply CK_t | apply CK_f | apply ZaQ | apply Zar | apply ZaF | apply Zau | apply Zah | apply Zag | apply Zak | apply Zav | apply ZaA | apply Zax | apply Zaz | apply Zat | apply Zas | apply ZaR | apply ZaG | apply ZaE | apply ZaP) | apply Zaq Zac | apply Zao Zac rfl | (apply ZaD; exact RF.mk rfl) | exact EQ.mk rfl | exact gSel.cnil _ | apply gSel.ccons | apply gCG.cagg))
 (all_goals (first | (((refine ZaY ?_; skip; (first | rfl | (simp_all; done) | (rw [Bool.eq_iff_iff]; (try simp only [BOa, Bool.true_eq_false, Bool.false_eq_true, true_iff, false_iff, iff_true, iff_false, not_and, not_or] at *); (first | omega | grind))))); done)))
def Zfl : Nat → List Nat
 | 0 => [0, 3]
 | 1 => [4]
 | _ => []
theorem Zca (args : Array Value) (w : World) : (callFunc 31 args).run Try.prog w = .ok (.enter 31 args) w := Zab Try.func31 (by decide) rfl args w
set_option maxHeartbeats 1000000 in
theorem Zcy (xs : List Int) (n : Int) : Con Try.prog 31 [.ints xs, .i n] (.bool (below xs n)) := by
 refine Con.fit Zca fun hfit => ?_
 have hb_xs : xs.length ≤ 9223372036854775807 := GFits.ints (show GFits (.ints xs) from hfit 0 (ZL rfl))
 clear hfit
 refine gCon Zfl Zac (rs := [.tmp 4]) (sl := [(0, .g (.ints xs)), (1, .g (.i n))]) Try.func31 rfl Try.ntmps31 rfl Zca rfl (by repeat constructor) ?_
 (repeat' (first | ((with_reducible apply gLB.cagg); (. exact RF.mk ⟨rfl, rfl, rfl⟩)) | ((with_reducible apply gLB.cone); (. exact RF.mk ⟨rfl, rfl⟩)) | ((with_reducible apply gLI.cagg); (. exact RF.mk ⟨rfl, rfl, rfl⟩)) | ((with_reducible apply gLI.cone); (. exact RF.mk ⟨rfl, rfl⟩)) | ((with_reducible apply gAF.cbuildA); (. exact RF.mk rfl); (. exact RF.mk ⟨rfl, rfl, rfl, rfl⟩)) | (with_reducible constructor) | exact Z4 | exact ZN | exact ZI | exact ZS | exact ZF | exact ZG | exact ZC | exact ZP | exact ZQ | (with_reducible apply Zay) | (apply ZaB) | (with_reducible apply Zaf) | exact ZU | (with_reducible apply ZaC) | (apply Zaw) | ((with_reducible apply Za0); first | (exact Ze4 xs 53 [.box [.i n]] (fun x => decide (x < 0) || decide (x ≥ n)) (HY.mk fun x => Zfc x n))) | (with_reducible intro hc; (try simp only [HCs] at hc)) | exact OB_f | exact DEC.mk (by decide) | exact ZM | exact ZT | exact ZK | (with_reducible first | apply gNK | apply ZaH | apply Zal | apply Zaj | apply Zai | apply Zam | apply CK_t | apply CK_f | apply ZaQ | apply Zar | apply ZaF | apply Zau | apply Zah | apply Zag | apply Zak | apply Zav | apply ZaA | apply Zax | apply Zaz | apply Zat | apply Zas | apply ZaR | apply ZaG | apply ZaE | apply ZaP) | apply Zaq Zac | apply Zao Zac rfl | (apply ZaD; exact RF.mk rfl) | exact EQ.mk rfl | exact gSel.cnil _ | apply gSel.ccons | apply gCG.cagg))
 (all_goals (first | (((refine ZaY ?_; rw [Bool.not_not]; unfold below; refine Zmn fun j hj => ?_; rw [Bool.eq_iff_iff]; simp only [BOa]; first | omega | grind)); done)))
def Zi3 : Nat → List Nat
 | 0 => [0, 1]
 | 1 => [0, 1, 7, 8, 9]
 | 2 => [0, 1, 7, 8, 9, 10]
 | 3 => [0, 1, 5, 6, 7, 8, 9]
 | 4 => [0, 1, 7, 8, 9, 33]
 | 5 => [4]
 | 6 => [0, 1, 7, 8, 9]
 | 7 => [4]
 | _ => []
theorem ZdL (args : Array Value) (w : World) : (callFunc 59 args).run Try.prog w = .ok (.enter 59 args) w := Zab Try.func59 (by decide) rfl args w
set_option maxHeartbeats 1000000 in
theorem ZmL (xs : List Int) (n : Int) : Con Try.prog 59 [.ints xs, .i n] (.bool (Zb5 xs n)) := by
 refine Con.fit ZdL fun hfit => ?_
 have hb_xs : xs.length ≤ 9223372036854775807 := GFits.ints (show GFits (.ints xs) from hfit 0 (ZL rfl))
 clear hfit
 refine gCon Zi3 Zac (rs := [.tmp 4]) (sl := [(0, .g (.ints xs)), (1, .g (.i n))]) Try.func59 rfl Try.ntmps59 rfl ZdL rfl (by repeat constructor) ?_
 (repeat' (first | ((with_reducible apply gLB.cagg); (. exact RF.mk ⟨rfl, rfl, rfl⟩)) | ((with_reducible apply gLB.cone); (. exact RF.mk ⟨rfl, rfl⟩)) | ((with_reducible apply gLI.cagg); (. exact RF.mk ⟨rfl, rfl, rfl⟩)) | ((with_reducible apply gLI.cone); (. exact RF.mk ⟨rfl, rfl⟩)) | ((with_reducible apply gAF.cbuildA); (. exact RF.mk rfl); (. exact RF.mk ⟨rfl, rfl, rfl, rfl⟩)) | (with_reducible constructor) | exact Z4 | exact ZN | exact ZI | exact ZS | exact ZF | exact ZG | exact ZC | exact ZP | exact ZQ | (with_reducible apply Zay) | (apply ZaB) | (with_reducible apply Zaf) | exact ZU | (with_reducible apply ZaC) | (apply Zaw) | (with_reducible intro hc; (try simp only [HCs] at hc)) | exact OB_f | exact DEC.mk (by decide) | exact ZM | exact ZT | exact ZK | (with_reducible first | apply gNK | apply ZaH | apply Zal | apply Zaj | apply Zai | apply Zam | apply CK_t | apply CK_f | apply ZaQ | apply Zar | apply ZaF | apply Zau | apply Zah | apply Zag | apply Zak | apply Zav | apply ZaA | apply Zax | apply Zaz | apply Zat | apply Zas | apply ZaR | apply ZaG | apply ZaE | apply ZaP) | apply Zaq Zac | apply Zao Zac rfl | (apply ZaD; exact RF.mk rfl) | exact EQ.mk rfl | (refine ZaN (id := 0) (ι := Nat) (fun i => ⟨[(0, .g (.ints xs)), (1, .g (.i n)), (7, .g (.ints xs)), (8, .g (.i xs.length)), (9, .g (.i i))], []⟩) (fun i => (i ≤ xs.length) ∧ (∀ z, z < i → (fun i => decide (0 ≤ nth xs i) && decide (nth xs i < n) && (decide (i = 0) || decide (nth xs (i - 1) < nth xs i))) z = true)) (fun i => xs.length - i) (0) ?_ ?_ ?_; (. (apply gLX0 <;> (repeat' (first | (with_reducible constructor) | exact Z5 | exact RF.mk (by decide) | (with_reducible apply Zan) | exact ZE)))); (. (exact ⟨by omega, ZbJ⟩)); (rintro i ⟨h1, h2⟩; (show TX _ _ _ _ _ [(0, .g (.ints xs)), (1, .g (.i n)), (7, .g (.ints xs)), (8, .g (.i xs.length)), (9, .g (.i i))] [] _))) | exact gSel.cnil _ | apply gSel.ccons | apply gCG.cagg))
 (all_goals (first | (refine Zbf (i + 1) ?_ ?_ ?_; (· (apply gLX0 <;> (repeat' (first | (with_reducible constructor) | exact Z5 | exact RF.mk (by decide) | (with_reducible apply Zan) | exact ZE)))); (· ((refine ⟨by omega, ZbL h2 ?_⟩; ((try simp only [BOa] at *); (first | omega | assumption | grind))))); (· exact ZW)) | (((first | (refine ZaY ?_; (try unfold Zb5); first | rfl | exact Eq.symm (Zba fun j hj => h2 j (by omega)) | (refine Eq.symm (Za8 i (by omega) ?_); ((try simp only [BOa] at *); (first | omega | assumption | grind))) | exact Eq.symm (Zdq fun j hj => h2 j (by omega)) | (refine Eq.symm (Zes i (by omega) ?_); ((try simp only [BOa] at *); (first | omega | assumption | grind))) | ((try simp only [BOa] at *); (first | omega | assumption | grind))))); done)))
def Zid : Nat → List Nat
 | 0 => [1, 2]
 | 1 => [4]
 | _ => []
theorem Zdk (args : Array Value) (w : World) : (callFunc 20 args).run Try.prog w = .ok (.enter 20 args) w := Zab Try.func20 (by decide) rfl args w
set_option maxHeartbeats 1000000 in
theorem Zk7 (s l : List Int) (n : Int) : Con Try.prog 20 [.word s l, .i n] (.bool (ZaX s l n)) := by
 refine Con.fit Zdk fun hfit => ?_
 have hb_s : s.length ≤ 9223372036854775807 := GFits.ints (GFits.cell (show GFits (.word s l) from hfit 0 (ZL rfl)) (.head _))
 have hb_l : l.length ≤ 9223372036854775807 := GFits.ints (GFits.cell (show GFits (.word s l) from hfit 0 (ZL rfl)) (.tail _ (.head _)))
 clear hfit
 refine gCon Zid Zac (rs := [.tmp 4]) (sl := [(0, .g (.word s l)), (1, .g (.i n))]) Try.func20 rfl Try.ntmps20 rfl Zdk rfl (by repeat constructor) ?_
 (repeat' (first | ((with_reducible apply gLB.cagg); (. exact RF.mk ⟨rfl, rfl, rfl⟩)) | ((with_reducible apply gLB.cone); (. exact RF.mk ⟨rfl, rfl⟩)) | ((with_reducible apply gLI.cagg); (. exact RF.mk ⟨rfl, rfl, rfl⟩)) | ((with_reducible apply gLI.cone); (. exact RF.mk ⟨rfl, rfl⟩)) | ((with_reducible apply gAF.cbuildA); (. exact RF.mk rfl); (. exact RF.mk ⟨rfl, rfl, rfl, rfl⟩)) | (with_reducible constructor) | exact Z4 | exact ZN | exact ZI | exact ZS | exact ZF | exact ZG | exact ZC | exact ZP | exact ZQ | (with_reducible apply Zay) | (apply ZaB) | (with_reducible apply Zaf) | exact ZU | (with_reducible apply ZaC) | (apply Zaw) | ((with_reducible apply Za0); first | apply Zcy) | (with_reducible intro hc; (try simp only [HCs] at hc)) | exact OB_f | exact DEC.mk (by decide) | exact ZM | exact ZT | exact ZK | (with_reducible first | apply gNK | apply ZaH | apply Zal | apply Zaj | apply Zai | apply Zam | apply CK_t | apply CK_f | apply ZaQ | apply Zar | apply ZaF | apply Zau | apply Zah | apply Zag | apply Zak | apply Zav | apply ZaA | apply Zax | apply Zaz | apply Zat | apply Zas | apply ZaR | apply ZaG | apply ZaE | apply ZaP) | apply Zaq Zac | apply Zao Zac rfl | (apply ZaD; exact RF.mk rfl) | exact EQ.mk rfl | exact gSel.cnil _ | apply gSel.ccons | apply gCG.cagg))
 (all_goals (first | (((refine ZaY ?_; (try unfold ZaX); (first | rfl | (simp_all; done) | (rw [Bool.eq_iff_iff]; (try simp only [BOa, Bool.true_eq_false, Bool.false_eq_true, true_iff, false_iff, iff_true, iff_false, not_and, not_or] at *); (first | omega | grind))))); done)))
def ZhL : Nat → List Nat
 | 0 => [1, 2]
 | 1 => [1, 2, 20]
 | 2 => [4]
 | 3 => [4]
 | _ => []
theorem ZcX (args : Array Value) (w : World) : (callFunc 30 args).run Try.prog w = .ok (.enter 30 args) w := Zab Try.func30 (by decide) rfl args w
set_option maxHeartbeats 1000000 in
theorem ZkA (s l : List Int) (n : Int) (hn : NU (-1000000 ≤ n ∧ n ≤ 1000000)) : Con Try.prog 30 [.word s l, .i n] (.bool (ZaX s l n)) := by
 have hn := hn.e
 refine Con.fit ZcX fun hfit => ?_
 have hb_s : s.length ≤ 9223372036854775807 := GFits.ints (GFits.cell (show GFits (.word s l) from hfit 0 (ZL rfl)) (.head _))
 have hb_l : l.length ≤ 9223372036854775807 := GFits.ints (GFits.cell (show GFits (.word s l) from hfit 0 (ZL rfl)) (.tail _ (.head _)))
 clear hfit
 refine gCon ZhL Zac (rs := [.tmp 4]) (sl := [(0, .g (.word s l)), (1, .g (.i n))]) Try.func30 rfl Try.ntmps30 rfl ZcX rfl (by repeat constructor) ?_
 (repeat' (first | ((with_reducible apply gLB.cagg); (. exact RF.mk ⟨rfl, rfl, rfl⟩)) | ((with_reducible apply gLB.cone); (. exact RF.mk ⟨rfl, rfl⟩)) | ((with_reducible apply gLI.cagg); (. exact RF.mk ⟨rfl, rfl, rfl⟩)) | ((with_reducible apply gLI.cone); (. exact RF.mk ⟨rfl, rfl⟩)) | ((with_reducible apply gAF.cbuildA); (. exact RF.mk rfl); (. exact RF.mk ⟨rfl, rfl, rfl, rfl⟩)) | (with_reducible constructor) | exact Z4 | exact ZN | exact ZI | exact ZS | exact ZF | exact ZG | exact ZC | exact ZP | exact ZQ | (with_reducible apply Zay) | (apply ZaB) | (with_reducible apply Zaf) | exact ZU | (with_reducible apply ZaC) | (apply Zaw) | ((with_reducible apply Za0); first | apply Zds) | (with_reducible intro hc; (try simp only [HCs] at hc)) | exact OB_f | exact DEC.mk (by decide) | exact ZM | exact ZT | exact ZK | (with_reducible first | apply gNK | apply ZaH | apply Zal | apply Zaj | apply Zai | apply Zam | apply CK_t | apply CK_f | apply ZaQ | apply Zar | apply ZaF | apply Zau | apply Zah | apply Zag | apply Zak | apply Zav | apply ZaA | apply Zax | apply Zaz | apply Zat | apply Zas | apply ZaR | apply ZaG | apply ZaE | apply ZaP) | apply Zaq Zac | apply Zao Zac rfl | (apply ZaD; exact RF.mk rfl) | exact EQ.mk rfl | exact gSel.cnil _ | apply gSel.ccons | apply gCG.cagg))
 (all_goals (first | (((refine ZaY ?_; (try unfold ZaX); (first | rfl | (simp_all; done) | (rw [Bool.eq_iff_iff]; (try simp only [BOa, Bool.true_eq_false, Bool.false_eq_true, true_iff, false_iff, iff_true, iff_false, not_and, not_or] at *); (first | omega | grind))))); done)))
def ZhZ : Nat → List Nat
 | 0 => [2, 3]
 | 1 => [4]
 | _ => []
theorem Zdi (args : Array Value) (w : World) : (callFunc 10 args).run Try.prog w = .ok (.enter 10 args) w := Zab Try.func10 (by decide) rfl args w
set_option maxHeartbeats 1000000 in
theorem Zhm (i o : Int) (s l : List Int) : Con Try.prog 10 [.sig i o, .word s l] (.bool (sigB i o && ZaX s l (Zaa i o))) := by
 refine Con.fit Zdi fun hfit => ?_
 have hb_s : s.length ≤ 9223372036854775807 := GFits.ints (GFits.cell (show GFits (.word s l) from hfit 1 (ZL rfl)) (.head _))
 have hb_l : l.length ≤ 9223372036854775807 := GFits.ints (GFits.cell (show GFits (.word s l) from hfit 1 (ZL rfl)) (.tail _ (.head _)))
 clear hfit
 refine gCon ZhZ Zac (rs := [.tmp 4]) (sl := [(0, .g (.sig i o)), (1, .g (.word s l))]) Try.func10 rfl Try.ntmps10 rfl Zdi rfl (by repeat constructor) ?_
 (repeat' (first | ((with_reducible apply gLB.cagg); (. exact RF.mk ⟨rfl, rfl, rfl⟩)) | ((with_reducible apply gLB.cone); (. exact RF.mk ⟨rfl, rfl⟩)) | ((with_reducible apply gLI.cagg); (. exact RF.mk ⟨rfl, rfl, rfl⟩)) | ((with_reducible apply gLI.cone); (. exact RF.mk ⟨rfl, rfl⟩)) | ((with_reducible apply gAF.cbuildA); (. exact RF.mk rfl); (. exact RF.mk ⟨rfl, rfl, rfl, rfl⟩)) | (with_reducible constructor) | exact Z4 | exact NU.mk QC10 | exact ZI | exact ZS | exact ZF | exact ZG | exact ZC | ((with_reducible apply ZaT); (. exact ZA); (. exact NU.mk QC10)) | exact ZQ | (with_reducible apply Zay) | (apply ZaB) | (with_reducible apply Zaf) | ((with_reducible apply ZaU); (. exact NU.mk QC10); (. rfl)) | (with_reducible apply ZaC) | (apply Zaw) | ((with_reducible apply Za0); first | apply Za2 | apply Zdd | apply ZkA) | (with_reducible intro hc; (try simp only [HCs] at hc)) | exact OB_f | exact DEC.mk (by decide) | exact ZM | exact ZT | exact ZK | (with_reducible first | apply gNK | apply ZaH | apply Zal | apply Zaj | apply Zai | apply Zam | apply CK_t | apply CK_f | apply ZaQ | apply Zar | apply ZaF | apply Zau | apply Zah | apply Zag | apply Zak | apply Zav | apply ZaA | apply Zax | apply Zaz | apply Zat | apply Zas | apply ZaR | apply ZaG | apply ZaE | apply ZaP) | apply Zaq Zac | apply Zao Zac rfl | (apply ZaD; exact RF.mk rfl) | exact EQ.mk rfl | exact gSel.cnil _ | apply gSel.ccons | apply gCG.cagg))
 (all_goals (first | (((refine ZaY ?_; skip; (first | rfl | (simp_all; done) | (rw [Bool.eq_iff_iff]; (try simp only [BOa, Bool.true_eq_false, Bool.false_eq_true, true_iff, false_iff, iff_true, iff_false, not_and, not_or] at *); (first | omega | grind))))); done)))
def Zhp : Nat → List Nat
 | 0 => [0]
 | 1 => [2]
 | _ => []
theorem ZfJ (args : Array Value) (w : World) : (callFunc 86 args).run Try.prog w = .ok (.enter 86 args) w := Zab Try.func86 (by decide) rfl args w
set_option maxHeartbeats 1000000 in
theorem Zgj (k : Int) : Con Try.prog 86 [.i k] (.bool (ZhE k)) := by
 refine gCon Zhp Zac (rs := [.tmp 2]) (sl := [(0, .g (.i k))]) Try.func86 rfl Try.ntmps86 rfl ZfJ rfl (by repeat constructor) ?_
 (repeat' (first | ((with_reducible apply gLB.cagg); (. exact RF.mk ⟨rfl, rfl, rfl⟩)) | ((with_reducible apply gLB.cone); (. exact RF.mk ⟨rfl, rfl⟩)) | ((with_reducible apply gLI.cagg); (. exact RF.mk ⟨rfl, rfl, rfl⟩)) | ((with_reducible apply gLI.cone); (. exact RF.mk ⟨rfl, rfl⟩)) | ((with_reducible apply gAF.cbuildA); (. exact RF.mk rfl); (. exact RF.mk ⟨rfl, rfl, rfl, rfl⟩)) | (with_reducible constructor) | exact Z4 | exact ZN | exact ZI | exact ZS | exact ZF | exact ZG | exact ZC | exact ZP | exact ZQ | (with_reducible apply Zay) | (apply ZaB) | (with_reducible apply Zaf) | exact ZU | (with_reducible apply ZaC) | (apply Zaw) | (with_reducible intro hc; (try simp only [HCs] at hc)) | exact OB_f | exact DEC.mk (by decide) | exact ZM | exact ZT | exact ZK | (with_reducible first | apply gNK | apply ZaH | apply Zal | apply Zaj | apply Zai | apply Zam | apply CK_t | apply CK_f | apply ZaQ | apply Zar | apply ZaF | apply Zau | apply Zah | apply Zag | apply Zak | apply Zav | apply ZaA | apply Zax | apply Zaz | apply Zat | apply Zas | apply ZaR | apply ZaG | apply ZaE | apply ZaP) | apply Zaq Zac | apply Zao Zac rfl | (apply ZaD; exact RF.mk rfl) | exact EQ.mk rfl | exact gSel.cnil _ | apply gSel.ccons | apply gCG.cagg))
 (all_goals (first | (((refine ZaY ?_; (try unfold ZhE); (first | rfl | (simp_all; done) | (rw [Bool.eq_iff_iff]; (try simp only [BOa, Bool.true_eq_false, Bool.false_eq_true, true_iff, false_iff, iff_true, iff_false, not_and, not_or] at *); (first | omega | grind))))); done)))
def ZgF : Nat → List Nat
 | 0 => [2, 3]
 | 1 => [2, 3, 14]
 | 2 => [4]
 | 3 => [3, 5]
 | 4 => [4]
 | _ => []
theorem Zcx (args : Array Value) (w : World) : (callFunc 81 args).run Try.prog w = .ok (.enter 81 args) w := Zab Try.func81 (by decide) rfl args w
set_option maxHeartbeats 1000000 in
theorem Zfn (i o k : Int) (a b : List Int) : Con Try.prog 81 [.sig i o, .clause k a b] (.bool (sigB i o && Zc5 (Zaa i o) k a b)) := by
 refine Con.fit Zcx fun hfit => ?_
 have hb_a : a.length ≤ 9223372036854775807 := GFits.ints (GFits.cell (show GFits (.clause k a b) from hfit 1 (ZL rfl)) (.tail _ (.head _)))
 have hb_b : b.length ≤ 9223372036854775807 := GFits.ints (GFits.cell (show GFits (.clause k a b) from hfit 1 (ZL rfl)) (.tail _ (.tail _ (.head _))))
 clear hfit
 refine gCon ZgF Zac (rs := [.tmp 4]) (sl := [(0, .g (.sig i o)), (1, .g (.clause k a b))]) Try.func81 rfl Try.ntmps81 rfl Zcx rfl (by repeat constructor) ?_
 (repeat' (first | ((with_reducible apply gLB.cagg); (. exact RF.mk ⟨rfl, rfl, rfl⟩)) | ((with_reducible apply gLB.cone); (. exact RF.mk ⟨rfl, rfl⟩)) | ((with_reducible apply gLI.cagg); (. exact RF.mk ⟨rfl, rfl, rfl⟩)) | ((with_reducible apply gLI.cone); (. exact RF.mk ⟨rfl, rfl⟩)) | ((with_reducible apply gAF.cbuildA); (. exact RF.mk rfl); (. exact RF.mk ⟨rfl, rfl, rfl, rfl⟩)) | (with_reducible constructor) | exact Z4 | exact NU.mk QC10 | exact ZI | exact ZS | exact ZF | exact ZG | exact ZC | ((with_reducible apply ZaT); (. exact ZA); (. exact NU.mk QC10)) | exact ZQ | (with_reducible apply Zay) | (apply ZaB) | (with_reducible apply Zaf) | ((with_reducible apply ZaU); (. exact NU.mk QC10); (. rfl)) | (with_reducible apply ZaC) | (apply Zaw) | ((with_reducible apply Za0); first | apply Za2 | apply Zdd | apply ZcE | apply Zif | apply Zgj) | (with_reducible intro hc; (try simp only [HCs] at hc)) | exact OB_f | exact DEC.mk (by decide) | exact ZM | exact ZT | exact ZK | (with_reducible first | apply gNK | apply ZaH | apply Zal | apply Zaj | apply Zai | apply Zam | apply CK_t | apply CK_f | apply ZaQ | apply Zar | apply ZaF | apply Zau | apply Zah | apply Zag | apply Zak | apply Zav | apply ZaA | apply Zax | apply Zaz | apply Zat | apply Zas | apply ZaR | apply ZaG | apply ZaE | apply ZaP) | apply Zaq Zac | apply Zao Zac rfl | (apply ZaD; exact RF.mk rfl) | exact EQ.mk rfl | exact gSel.cnil _ | apply gSel.ccons | apply gCG.cagg))
 (all_goals (first | (((refine ZaY ?_; (try rw [Ziw (ZaJ i o).1] at *); (try simp only [Zc5] at *); rw [Bool.eq_iff_iff]; (try simp only [BOa, Int.natCast_eq_zero, List.length_eq_zero_iff, Bool.true_eq_false, Bool.false_eq_true, true_iff, false_iff, iff_true, iff_false, true_and, and_true, false_and, and_false, not_and, not_or, Bool.not_eq_true, Bool.not_eq_false, Int.not_lt, Int.not_le] at *); first | done | omega | (simp_all; done) | grind)); done)))
end Go.Proofs.Ytnieejghoaccmaa

