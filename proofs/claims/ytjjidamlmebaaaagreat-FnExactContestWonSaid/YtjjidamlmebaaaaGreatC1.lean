/- Contracts: interfaces, words, clauses. No conditions but those that each theorem names. -/
import Derived.Test.YtjjidamlmebaaaaGreatTab
import Derived.Test.YtjjidamlmebaaaaGreatKG
import Derived.Test.YtjjidamlmebaaaaGreatW1
import Derived.Test.YtjjidamlmebaaaaGreatT2
import Derived.Test.YtjjidamlmebaaaaGreatChecked
set_option linter.unusedSimpArgs false
set_option linter.unusedVariables false
namespace Go.Proofs.YtjjidamlmebaaaaGreat
open Go.RowKit
open Shp
theorem QC11 {p : Prop} (h : p := by ((first | exact EQ.mk (by omega) | exact EQ.mk (by rw [Int.pow_succ])); done)) : p := h
theorem QC10 {p : Prop} (h : p := by first | exact ZO | (first | omega | (have q := Zt2 i (by omega); omega))) : p := h
def Zkc : Nat → List Nat
 | 0 => [1]
 | 1 => [2]
 | _ => []
theorem Zht (args : Array Value) (w : World) : (callFunc 53 args).run Tryz.prog w = .ok (.enter 53 args) w := Zaa Tryz.func53 (by decide) rfl args w
set_option maxHeartbeats 1000000 in
theorem Zgp (i o : Int) : Con Tryz.prog 53 [.sig i o] (.bool (sigB i o)) := by
 refine gCon Zkc Zab (rs := [.tmp 2]) (sl := [(0, .g (.sig i o))]) Tryz.func53 rfl Tryz.ntmps53 rfl Zht rfl (by repeat constructor) ?_
 (repeat' (first | ((with_reducible apply gLB.cone); (. exact RF.mk ⟨rfl, rfl⟩)) | (with_reducible constructor) | exact Z2 | exact ZF | ((with_reducible apply Zaw); first | apply Zby) | (with_reducible intro hc; (try simp only [HCs] at hc)) | exact OB_f | (with_reducible first | apply gNK | apply Zaj | apply Zae | apply Zai | apply Zao) | apply Zaf Zab | apply gSel.ccons))
 (all_goals (first | (((refine Zax ?_; (try unfold sigB); (first | rfl | (simp_all; done) | (rw [Bool.eq_iff_iff]; (try simp only [BOa, Bool.true_eq_false, Bool.false_eq_true, true_iff, false_iff, iff_true, iff_false, not_and, not_or] at *); (first | omega | grind))))); done)))
def Zkt : Nat → List Nat
 | 0 => [1]
 | 1 => [2]
 | _ => []
theorem Zhl (args : Array Value) (w : World) : (callFunc 34 args).run Tryz.prog w = .ok (.enter 34 args) w := Zaa Tryz.func34 (by decide) rfl args w
set_option maxHeartbeats 1000000 in
theorem Znu (i o : Int) : Con Tryz.prog 34 [.sig i o] (.bool (sigB i o)) := by
 refine gCon Zkt Zab (rs := [.tmp 2]) (sl := [(0, .g (.sig i o))]) Tryz.func34 rfl Tryz.ntmps34 rfl Zhl rfl (by repeat constructor) ?_
 (repeat' (first | ((with_reducible apply gLB.cone); (. exact RF.mk ⟨rfl, rfl⟩)) | (with_reducible constructor) | exact Z2 | exact ZF | (with_reducible intro hc; (try simp only [HCs] at hc)) | exact OB_f | (with_reducible first | apply gNK | apply Zaj | apply Zae | apply Zai | apply Zao) | apply Zaf Zab | apply gSel.ccons))
 (all_goals (first | (((refine Zax ?_; (try unfold sigB); (first | rfl | (simp_all; done) | (rw [Bool.eq_iff_iff]; (try simp only [BOa, Bool.true_eq_false, Bool.false_eq_true, true_iff, false_iff, iff_true, iff_false, not_and, not_or] at *); (first | omega | grind))))); done)))
def Zhg : Nat → List Nat
 | 0 => [0]
 | 1 => [0, 3]
 | 2 => [0, 3, 5]
 | 3 => [0, 3]
 | 4 => [0, 3]
 | 5 => [2]
 | _ => []
theorem Zfc (args : Array Value) (w : World) : (callFunc 77 args).run Tryz.prog w = .ok (.enter 77 args) w := Zaa Tryz.func77 (by decide) rfl args w
set_option maxHeartbeats 1000000 in
theorem Zcp (n : Int) (hn : NU (-10 ≤ n ∧ n ≤ 10)) : Con Tryz.prog 77 [.i n] (.i (pw n)) := by
 have hn := hn.e
 refine gCon Zhg Zab (rs := [.tmp 2]) (sl := [(0, .g (.i n))]) Tryz.func77 rfl Tryz.ntmps77 rfl Zfc rfl (by repeat constructor) ?_
 (repeat' (first | (with_reducible constructor) | exact Z2 | exact NU.mk QC10 | (with_reducible intro hc; (try simp only [HCs] at hc)) | exact OB_f | (with_reducible first | apply gNK | apply Zaj | apply Zae | apply Zam | apply Zag | apply ZaG | apply Zak | apply Zai | apply Zas | apply Zal | apply Zau | apply Zat | apply Zao) | apply Zaf Zab | (apply ZaB; exact RF.mk rfl) | (refine Zah (id := 0) (ι := Nat) (fun i => ⟨[(0, .g (.i (n - i))), (3, .g (.i (2 ^ i)))], []⟩) (fun i => (i ≤ n.toNat)) (fun i => n.toNat - i) (0) ?_ ?_ ?_; (. (apply gLX0 <;> (repeat' (first | (with_reducible constructor) | exact Z5 | exact RF.mk (by decide) | (with_reducible apply Zad) | exact EQ.mk QC10)); (all_goals exact QC11))); (. (omega)); (rintro i h1; (show TX _ _ _ _ _ [(0, .g (.i (n - i))), (3, .g (.i (2 ^ i)))] [] _))) | apply gSel.ccons))
 (all_goals (first | (refine ZaA (i + 1) ?_ ?_ ?_; (· (apply gLX0 <;> (repeat' (first | (with_reducible constructor) | exact Z5 | exact RF.mk (by decide) | (with_reducible apply Zad) | exact EQ.mk QC10)); (all_goals exact QC11))); (· (omega)); (· exact ZW)) | (((refine Zad (EQ.mk ?_); unfold pw; rw [show i = n.toNat by omega])); done)))
def Zg5 : Nat → List Nat
 | 0 => [1]
 | 1 => [2]
 | _ => []
theorem Zfr (args : Array Value) (w : World) : (callFunc 66 args).run Tryz.prog w = .ok (.enter 66 args) w := Zaa Tryz.func66 (by decide) rfl args w
set_option maxHeartbeats 1000000 in
theorem Zkx (i o : Int) (hn : NU (0 ≤ i ∧ i ≤ 10)) : Con Tryz.prog 66 [.sig i o] (.i (pw i)) := by
 have hn := hn.e
 refine gCon Zg5 Zab (rs := [.tmp 2]) (sl := [(0, .g (.sig i o))]) Tryz.func66 rfl Tryz.ntmps66 rfl Zfr rfl (by repeat constructor) ?_
 (repeat' (first | ((with_reducible apply gLB.cone); (. exact RF.mk ⟨rfl, rfl⟩)) | (with_reducible constructor) | exact Z2 | exact NU.mk (by first | exact ZO | (first | omega | exact ⟨by omega, by omega, by omega, by have := Zt2 i.toNat (by omega); omega⟩)) | exact ZF | exact OB_f | (with_reducible first | apply gNK | apply Zaj | apply Zae | apply Zai | apply Zao) | apply Zaf Zab | apply gSel.ccons))
 (all_goals (first | (((refine Zad (EQ.mk ?_); unfold pw; simp)); done)))
def ZgH : Nat → List Nat
 | 0 => [1]
 | 1 => [2]
 | _ => []
theorem ZeX (args : Array Value) (w : World) : (callFunc 49 args).run Tryz.prog w = .ok (.enter 49 args) w := Zaa Tryz.func49 (by decide) rfl args w
set_option maxHeartbeats 1000000 in
theorem ZiO (i o : Int) (hn : NU (0 ≤ i ∧ i ≤ 4 ∧ 0 ≤ o ∧ o ≤ 4)) : Con Tryz.prog 49 [.sig i o] (.i (pw (i + o))) := by
 have hn := hn.e
 refine gCon ZgH Zab (rs := [.tmp 2]) (sl := [(0, .g (.sig i o))]) Tryz.func49 rfl Tryz.ntmps49 rfl ZeX rfl (by repeat constructor) ?_
 (repeat' (first | ((with_reducible apply gLB.cone); (. exact RF.mk ⟨rfl, rfl⟩)) | (with_reducible constructor) | exact Z2 | exact NU.mk (by first | exact ZO | (first | omega | exact ⟨by omega, by omega, by omega, by have := Zt2 (i + o).toNat (by omega); omega⟩)) | exact ZF | exact OB_f | (with_reducible first | apply gNK | apply Zaj | apply Zae | apply Zai | apply Zao) | apply Zaf Zab | apply gSel.ccons))
 (all_goals (first | (((refine Zad (EQ.mk ?_); unfold pw; simp)); done)))
def Zgw : Nat → List Nat
 | 0 => [1]
 | 1 => [1, 5]
 | 2 => [2]
 | 3 => [2]
 | _ => []
theorem ZeW (args : Array Value) (w : World) : (callFunc 44 args).run Tryz.prog w = .ok (.enter 44 args) w := Zaa Tryz.func44 (by decide) rfl args w
set_option maxHeartbeats 1000000 in
theorem ZiW (i o : Int) : Con Tryz.prog 44 [.sig i o] (.i (Zbv i o)) := by
 refine gCon Zgw Zab (rs := [.tmp 2]) (sl := [(0, .g (.sig i o))]) Tryz.func44 rfl Tryz.ntmps44 rfl ZeW rfl (by repeat constructor) ?_
 (repeat' (first | ((with_reducible apply gLB.cagg); (. exact RF.mk ⟨rfl, rfl, rfl⟩)) | ((with_reducible apply gLB.cone); (. exact RF.mk ⟨rfl, rfl⟩)) | (with_reducible constructor) | exact Z2 | exact NU.mk (by first | exact ZO | (first | omega | (have q := ZoN (by assumption); omega))) | exact ZF | ((with_reducible apply Zaw); first | apply Zgp | apply Zcp) | (with_reducible intro hc; (try simp only [HCs] at hc)) | exact OB_f | (with_reducible first | apply gNK | apply Zaj | apply Zae | apply Zar | apply Zag | apply ZaG | apply Zak | apply Zai | apply Zao) | apply Zaf Zab | apply gSel.ccons))
 (all_goals (first | (((refine Zad (EQ.mk ?_); unfold Zbv; simp_all)); done)))
def ZfP : Nat → List Nat
 | 0 => [0, 1]
 | 1 => [0, 1, 7, 8]
 | 2 => [0, 1, 7, 8, 9]
 | 3 => [0, 1, 5, 7, 8]
 | 4 => [0, 1, 5, 7, 8, 16]
 | 5 => [4]
 | 6 => [0, 1, 7, 8]
 | 7 => [4]
 | _ => []
theorem Zb6 (args : Array Value) (w : World) : (callFunc 131 args).run Tryz.prog w = .ok (.enter 131 args) w := Zaa Tryz.func131 (by decide) rfl args w
set_option maxHeartbeats 1000000 in
theorem Zh9 (xs : List (Int)) (f : FuncId) (caps : List GV) (p : Int → Bool) (hf : HY (∀ x : Int, Con Tryz.prog f (.i x :: caps) (.bool (p x)))) : Con Tryz.prog 131 [.ints xs, .fn f caps] (.i (Zdk xs.length fun i => p (nth xs i))) := by
 have hf := hf.e
 refine Con.fit Zb6 fun hfit => ?_
 have hb_xs : xs.length ≤ 9223372036854775807 := GFits.ints (show GFits (.ints xs) from hfit 0 (ZL rfl))
 clear hfit
 refine gCon ZfP Zab (rs := [.tmp 4]) (sl := [(0, .g (.ints xs)), (1, .g (.fn f caps))]) Tryz.func131 rfl Tryz.ntmps131 rfl Zb6 rfl (by repeat constructor) ?_
 (repeat' (first | ((with_reducible apply gLI.cone); (. exact RF.mk ⟨rfl, rfl⟩)) | (with_reducible constructor) | exact Z2 | exact ZN | exact ZS | ((with_reducible apply Zaw); first | (exact hf _)) | (with_reducible intro hc; (try simp only [HCs] at hc)) | exact OB_f | (with_reducible first | apply gNK | apply Zaj | apply Zae | apply Zam | apply Zar | apply Zag | apply ZaG | apply Zak | apply Zai | apply Zas | apply Zal | apply Zau | apply ZaO | apply Zat | apply ZaR | apply Zao) | apply Zaf Zab | (apply ZaB; exact RF.mk rfl) | (refine Zah (id := 0) (ι := Nat) (fun i => ⟨[(0, .g (.ints xs)), (1, .g (.fn f caps)), (7, .g (.i xs.length)), (8, .g (.i i))], []⟩) (fun i => (i ≤ xs.length) ∧ (∀ z, z < i → (fun i => p (nth xs i)) z = false)) (fun i => xs.length - i) (0) ?_ ?_ ?_; (. (apply gLX0 <;> (repeat' (first | (with_reducible constructor) | exact Z5 | exact RF.mk (by decide) | (with_reducible apply Zad) | exact ZE)))); (. (exact ⟨by omega, Zdu⟩)); (rintro i ⟨h1, h2⟩; (show TX _ _ _ _ _ [(0, .g (.ints xs)), (1, .g (.fn f caps)), (7, .g (.i xs.length)), (8, .g (.i i))] [] _))) | apply gSel.ccons))
 (all_goals (first | (refine ZaA (i + 1) ?_ ?_ ?_; (· (apply gLX0 <;> (repeat' (first | (with_reducible constructor) | exact Z5 | exact RF.mk (by decide) | (with_reducible apply Zad) | exact ZE)))); (· ((refine ⟨by omega, ZdC h2 ?_⟩; ((try simp only [BOa] at *); (first | omega | assumption | grind))))); (· exact ZW)) | (((refine Zad (EQ.mk ?_); skip; first | exact Eq.symm (ZbX fun j hj => h2 j (by omega)) | (refine Eq.symm (ZdE i (by omega) ?_ h2); ((try simp only [BOa] at *); (first | omega | assumption | grind))))); done)))
def Zej : Nat → List Nat
 | 0 => [0, 1]
 | 1 => [4]
 | _ => []
theorem ZbH (args : Array Value) (w : World) : (callFunc 104 args).run Tryz.prog w = .ok (.enter 104 args) w := Zaa Tryz.func104 (by decide) rfl args w
set_option maxHeartbeats 1000000 in
theorem Zf0 (xs : List (Int)) (f : FuncId) (caps : List GV) (p : Int → Bool) (hf : HY (∀ x : Int, Con Tryz.prog f (.i x :: caps) (.bool (p x)))) : Con Tryz.prog 104 [.ints xs, .fn f caps] (.bool (!allN xs.length fun i => !p (nth xs i))) := by
 have hf := hf.e
 refine Con.fit ZbH fun hfit => ?_
 have hb_xs : xs.length ≤ 9223372036854775807 := GFits.ints (show GFits (.ints xs) from hfit 0 (ZL rfl))
 clear hfit
 refine gCon Zej Zab (rs := [.tmp 4]) (sl := [(0, .g (.ints xs)), (1, .g (.fn f caps))]) Tryz.func104 rfl Tryz.ntmps104 rfl ZbH rfl (by repeat constructor) ?_
 (repeat' (first | (with_reducible constructor) | exact Z2 | ((with_reducible apply Zaw); first | (exact Zh9 xs f caps p (HY.mk hf))) | exact OB_f | (with_reducible first | apply gNK | apply Zaj | apply Zae | apply Zai | apply Zao) | apply Zaf Zab | apply gSel.ccons))
 (all_goals (first | (((refine Zax ?_; exact Zis)); done)))
def Zen : Nat → List Nat
 | 0 => [0, 1]
 | 1 => [3]
 | _ => []
theorem Zdn (args : Array Value) (w : World) : (callFunc 105 args).run Tryz.prog w = .ok (.enter 105 args) w := Zaa Tryz.func105 (by decide) rfl args w
set_option maxHeartbeats 1000000 in
theorem ZfK (x n : Int) : Con Tryz.prog 105 [.i x, .box [.i n]] (.bool (decide (x < 0) || decide (x ≥ n))) := by
 refine gCon Zen Zab (rs := [.tmp 3]) (sl := [(0, .g (.i x)), (1, .g (.box [.i n]))]) Tryz.func105 rfl Tryz.ntmps105 rfl Zdn rfl (by repeat constructor) ?_
 (repeat' (first | ((with_reducible apply gLI.cone); (. exact RF.mk ⟨rfl, rfl⟩)) | (with_reducible constructor) | exact Z2 | (with_reducible intro hc; (try simp only [HCs] at hc)) | exact OB_f | (with_reducible first | apply gNK | apply Zaj | apply Zae | apply Zai | apply Zao) | apply Zaf Zab | apply gSel.ccons))
 (all_goals (first | (((refine Zax ?_; skip; (first | rfl | (simp_all; done) | (rw [Bool.eq_iff_iff]; (try simp only [BOa, Bool.true_eq_false, Bool.false_eq_true, true_iff, false_iff, iff_true, iff_false, not_and, not_or] at *); (first | omega | grind))))); done)))
def Zgb : Nat → List Nat
 | 0 => [0, 3]
 | 1 => [4]
 | _ => []
theorem Zb1 (args : Array Value) (w : World) : (callFunc 65 args).run Tryz.prog w = .ok (.enter 65 args) w := Zaa Tryz.func65 (by decide) rfl args w
set_option maxHeartbeats 1000000 in
theorem Zit (xs : List Int) (n : Int) : Con Tryz.prog 65 [.ints xs, .i n] (.bool (below xs n)) := by
 refine Con.fit Zb1 fun hfit => ?_
 have hb_xs : xs.length ≤ 9223372036854775807 := GFits.ints (show GFits (.ints xs) from hfit 0 (ZL rfl))
 clear hfit
 refine gCon Zgb Zab (rs := [.tmp 4]) (sl := [(0, .g (.ints xs)), (1, .g (.i n))]) Tryz.func65 rfl Tryz.ntmps65 rfl Zb1 rfl (by repeat constructor) ?_
 (repeat' (first | (with_reducible constructor) | exact Z2 | ((with_reducible apply Zaw); first | (exact Zf0 xs 105 [.box [.i n]] (fun x => decide (x < 0) || decide (x ≥ n)) (HY.mk fun x => ZfK x n))) | exact OB_f | (with_reducible first | apply gNK | apply Zaj | apply Zae | apply Zai | apply Zao) | apply Zaf Zab | apply gSel.ccons))
 (all_goals (first | (((refine Zax ?_; rw [Bool.not_not]; unfold below; refine Znx fun j hj => ?_; rw [Bool.eq_iff_iff]; simp only [BOa]; first | omega | grind)); done)))
def ZjR : Nat → List Nat
 | 0 => [0, 1]
 | 1 => [0, 1, 7, 8, 9]
 | 2 => [0, 1, 7, 8, 9, 10]
 | 3 => [0, 1, 5, 6, 7, 8, 9]
 | 4 => [0, 1, 7, 8, 9, 33]
 | 5 => [4]
 | 6 => [0, 1, 7, 8, 9]
 | 7 => [4]
 | _ => []
theorem Zd3 (args : Array Value) (w : World) : (callFunc 103 args).run Tryz.prog w = .ok (.enter 103 args) w := Zaa Tryz.func103 (by decide) rfl args w
set_option maxHeartbeats 1000000 in
theorem Zjz (xs : List Int) (n : Int) : Con Tryz.prog 103 [.ints xs, .i n] (.bool (Zbc xs n)) := by
 refine Con.fit Zd3 fun hfit => ?_
 have hb_xs : xs.length ≤ 9223372036854775807 := GFits.ints (show GFits (.ints xs) from hfit 0 (ZL rfl))
 clear hfit
 refine gCon ZjR Zab (rs := [.tmp 4]) (sl := [(0, .g (.ints xs)), (1, .g (.i n))]) Tryz.func103 rfl Tryz.ntmps103 rfl Zd3 rfl (by repeat constructor) ?_
 (repeat' (first | ((with_reducible apply gLI.cone); (. exact RF.mk ⟨rfl, rfl⟩)) | (with_reducible constructor) | exact Z2 | exact ZN | exact ZS | (with_reducible intro hc; (try simp only [HCs] at hc)) | exact OB_f | (with_reducible first | apply gNK | apply Zaj | apply Zae | apply Zam | apply Zar | apply Zag | apply CK_t | apply CK_f | apply ZaG | apply Zak | apply Zai | apply Zas | apply Zal | apply Zau | apply ZaO | apply Zat | apply ZaR | apply Zao) | apply Zaf Zab | (apply ZaB; exact RF.mk rfl) | (refine Zah (id := 0) (ι := Nat) (fun i => ⟨[(0, .g (.ints xs)), (1, .g (.i n)), (7, .g (.ints xs)), (8, .g (.i xs.length)), (9, .g (.i i))], []⟩) (fun i => (i ≤ xs.length) ∧ (∀ z, z < i → (fun i => decide (0 ≤ nth xs i) && decide (nth xs i < n) && (decide (i = 0) || decide (nth xs (i - 1) < nth xs i))) z = true)) (fun i => xs.length - i) (0) ?_ ?_ ?_; (. (apply gLX0 <;> (repeat' (first | (with_reducible constructor) | exact Z5 | exact RF.mk (by decide) | (with_reducible apply Zad) | exact ZE)))); (. (exact ⟨by omega, Za6⟩)); (rintro i ⟨h1, h2⟩; (show TX _ _ _ _ _ [(0, .g (.ints xs)), (1, .g (.i n)), (7, .g (.ints xs)), (8, .g (.i xs.length)), (9, .g (.i i))] [] _))) | apply gSel.ccons))
 (all_goals (first | (refine ZaA (i + 1) ?_ ?_ ?_; (· (apply gLX0 <;> (repeat' (first | (with_reducible constructor) | exact Z5 | exact RF.mk (by decide) | (with_reducible apply Zad) | exact ZE)))); (· ((refine ⟨by omega, Za8 h2 ?_⟩; ((try simp only [BOa] at *); (first | omega | assumption | grind))))); (· exact ZW)) | (((first | (refine Zax ?_; (try unfold Zbc); first | rfl | exact Eq.symm (ZaV fun j hj => h2 j (by omega)) | (refine Eq.symm (Za5 i (by omega) ?_); ((try simp only [BOa] at *); (first | omega | assumption | grind))) | exact Eq.symm (ZcF fun j hj => h2 j (by omega)) | (refine Eq.symm (Zdy i (by omega) ?_); ((try simp only [BOa] at *); (first | omega | assumption | grind))) | ((try simp only [BOa] at *); (first | omega | assumption | grind))))); done)))
end Go.Proofs.YtjjidamlmebaaaaGreat

