/- Contracts: interfaces, words, clauses. No conditions but those that each theorem names. -/
import Derived.Test.YtnieejghoaccmaaGreatTab
import Derived.Test.YtnieejghoaccmaaGreatKG
import Derived.Test.YtnieejghoaccmaaGreatW1
import Derived.Test.YtnieejghoaccmaaGreatT2
import Derived.Test.YtnieejghoaccmaaGreatChecked
set_option linter.unusedSimpArgs false
set_option linter.unusedVariables false
namespace Go.Proofs.YtnieejghoaccmaaGreat
open Go.RowKit
open Shp
theorem QC12 {p : Prop} (h : p := by ((first | exact EQ.mk (by omega) | exact EQ.mk (by rw [Int.pow_succ])); done)) : p := h
theorem QC11 {p : Prop} (h : p := by first | exact ZO | (first | omega | (have q := Zaw i o; omega) | (have q := Zqe (by assumption); omega))) : p := h
theorem QC10 {p : Prop} (h : p := by first | exact ZO | (first | omega | (have q := ZyU i (by omega); omega))) : p := h
def Zld : Nat → List Nat
 | 0 => [1]
 | 1 => [2]
 | _ => []
theorem Zhn (args : Array Value) (w : World) : (callFunc 23 args).run Tryz.prog w = .ok (.enter 23 args) w := Zab Tryz.func23 (by decide) rfl args w
set_option maxHeartbeats 1000000 in
theorem ZdS (i o : Int) : Con Tryz.prog 23 [.sig i o] (.bool (sigB i o)) := by
 refine gCon Zld Zac (rs := [.tmp 2]) (sl := [(0, .g (.sig i o))]) Tryz.func23 rfl Tryz.ntmps23 rfl Zhn rfl (by repeat constructor) ?_
 (repeat' (first | ((with_reducible apply gLB.cone); (. exact RF.mk ⟨rfl, rfl⟩)) | (with_reducible constructor) | exact Z2 | exact ZF | ((with_reducible apply ZaP); first | apply Zdb) | (with_reducible intro hc; (try simp only [HCs] at hc)) | exact OB_f | (with_reducible first | apply gNK | apply Zao | apply Zaf | apply Zap | apply Zat) | apply Zah Zac | apply gSel.ccons))
 (all_goals (first | (((refine Zar ?_; (try unfold sigB); (first | rfl | (simp_all; done) | (rw [Bool.eq_iff_iff]; (try simp only [BOa, Bool.true_eq_false, Bool.false_eq_true, true_iff, false_iff, iff_true, iff_false, not_and, not_or] at *); (first | omega | grind))))); done)))
def ZkU : Nat → List Nat
 | 0 => [1]
 | 1 => [2]
 | _ => []
theorem ZhH (args : Array Value) (w : World) : (callFunc 17 args).run Tryz.prog w = .ok (.enter 17 args) w := Zab Tryz.func17 (by decide) rfl args w
set_option maxHeartbeats 1000000 in
theorem ZgV (i o : Int) : Con Tryz.prog 17 [.sig i o] (.bool (sigB i o)) := by
 refine gCon ZkU Zac (rs := [.tmp 2]) (sl := [(0, .g (.sig i o))]) Tryz.func17 rfl Tryz.ntmps17 rfl ZhH rfl (by repeat constructor) ?_
 (repeat' (first | ((with_reducible apply gLB.cone); (. exact RF.mk ⟨rfl, rfl⟩)) | (with_reducible constructor) | exact Z2 | exact ZF | (with_reducible intro hc; (try simp only [HCs] at hc)) | exact OB_f | (with_reducible first | apply gNK | apply Zao | apply Zaf | apply Zap | apply Zat) | apply Zah Zac | apply gSel.ccons))
 (all_goals (first | (((refine Zar ?_; (try unfold sigB); (first | rfl | (simp_all; done) | (rw [Bool.eq_iff_iff]; (try simp only [BOa, Bool.true_eq_false, Bool.false_eq_true, true_iff, false_iff, iff_true, iff_false, not_and, not_or] at *); (first | omega | grind))))); done)))
def ZhM : Nat → List Nat
 | 0 => [0]
 | 1 => [0, 3]
 | 2 => [0, 3, 5]
 | 3 => [0, 3]
 | 4 => [0, 3]
 | 5 => [2]
 | _ => []
theorem ZfC (args : Array Value) (w : World) : (callFunc 24 args).run Tryz.prog w = .ok (.enter 24 args) w := Zab Tryz.func24 (by decide) rfl args w
set_option maxHeartbeats 1000000 in
theorem Zk6 (n : Int) (hn : NU (-10 ≤ n ∧ n ≤ 10)) : Con Tryz.prog 24 [.i n] (.i (pw n)) := by
 have hn := hn.e
 refine gCon ZhM Zac (rs := [.tmp 2]) (sl := [(0, .g (.i n))]) Tryz.func24 rfl Tryz.ntmps24 rfl ZfC rfl (by repeat constructor) ?_
 (repeat' (first | (with_reducible constructor) | exact Z2 | exact NU.mk QC10 | (with_reducible intro hc; (try simp only [HCs] at hc)) | exact OB_f | (with_reducible first | apply gNK | apply Zao | apply Zaf | apply Zal | apply Zai | apply ZaQ | apply Zam | apply Zap | apply Zau | apply Zak | apply Zas | apply Zav | apply Zat) | apply Zah Zac | (apply ZaD; exact RF.mk rfl) | (refine Zaq (id := 0) (ι := Nat) (fun i => ⟨[(0, .g (.i (n - i))), (3, .g (.i (2 ^ i)))], []⟩) (fun i => (i ≤ n.toNat)) (fun i => n.toNat - i) (0) ?_ ?_ ?_; (. (apply gLX0 <;> (repeat' (first | (with_reducible constructor) | exact Z5 | exact RF.mk (by decide) | (with_reducible apply Zae) | exact EQ.mk QC10)); (all_goals exact QC12))); (. (omega)); (rintro i h1; (show TX _ _ _ _ _ [(0, .g (.i (n - i))), (3, .g (.i (2 ^ i)))] [] _))) | apply gSel.ccons))
 (all_goals (first | (refine ZaR (i + 1) ?_ ?_ ?_; (· (apply gLX0 <;> (repeat' (first | (with_reducible constructor) | exact Z5 | exact RF.mk (by decide) | (with_reducible apply Zae) | exact EQ.mk QC10)); (all_goals exact QC12))); (· (omega)); (· exact ZW)) | (((refine Zae (EQ.mk ?_); unfold pw; rw [show i = n.toNat by omega])); done)))
def ZgC : Nat → List Nat
 | 0 => [1]
 | 1 => [2]
 | _ => []
theorem Zfk (args : Array Value) (w : World) : (callFunc 27 args).run Tryz.prog w = .ok (.enter 27 args) w := Zab Tryz.func27 (by decide) rfl args w
set_option maxHeartbeats 1000000 in
theorem Zfv (i o : Int) (hn : NU (0 ≤ i ∧ i ≤ 4 ∧ 0 ≤ o ∧ o ≤ 4)) : Con Tryz.prog 27 [.sig i o] (.i (pw (i + o))) := by
 have hn := hn.e
 refine gCon ZgC Zac (rs := [.tmp 2]) (sl := [(0, .g (.sig i o))]) Tryz.func27 rfl Tryz.ntmps27 rfl Zfk rfl (by repeat constructor) ?_
 (repeat' (first | ((with_reducible apply gLB.cone); (. exact RF.mk ⟨rfl, rfl⟩)) | (with_reducible constructor) | exact Z2 | exact NU.mk (by first | exact ZO | (first | omega | exact ⟨by omega, by omega, by omega, by have := ZyU (i + o).toNat (by omega); omega⟩)) | exact ZF | exact OB_f | (with_reducible first | apply gNK | apply Zao | apply Zaf | apply Zap | apply Zat) | apply Zah Zac | apply gSel.ccons))
 (all_goals (first | (((refine Zae (EQ.mk ?_); unfold pw; simp)); done)))
def Zg4 : Nat → List Nat
 | 0 => [1]
 | 1 => [1, 5]
 | 2 => [2]
 | 3 => [2]
 | _ => []
theorem Zfm (args : Array Value) (w : World) : (callFunc 10 args).run Tryz.prog w = .ok (.enter 10 args) w := Zab Tryz.func10 (by decide) rfl args w
set_option maxHeartbeats 1000000 in
theorem Za2 (i o : Int) : Con Tryz.prog 10 [.sig i o] (.i (Zaa i o)) := by
 refine gCon Zg4 Zac (rs := [.tmp 2]) (sl := [(0, .g (.sig i o))]) Tryz.func10 rfl Tryz.ntmps10 rfl Zfm rfl (by repeat constructor) ?_
 (repeat' (first | ((with_reducible apply gLB.cagg); (. exact RF.mk ⟨rfl, rfl, rfl⟩)) | ((with_reducible apply gLB.cone); (. exact RF.mk ⟨rfl, rfl⟩)) | (with_reducible constructor) | exact Z2 | exact NU.mk (by first | exact ZO | (first | omega | (have q := Zqe (by assumption); omega))) | exact ZF | ((with_reducible apply ZaP); first | apply ZdS | apply Zk6) | (with_reducible intro hc; (try simp only [HCs] at hc)) | exact OB_f | (with_reducible first | apply gNK | apply Zao | apply Zaf | apply Zan | apply Zai | apply ZaQ | apply Zam | apply Zap | apply Zat) | apply Zah Zac | apply gSel.ccons))
 (all_goals (first | (((refine Zae (EQ.mk ?_); unfold Zaa; simp_all)); done)))
def Zf7 : Nat → List Nat
 | 0 => [0, 1]
 | 1 => [0, 1, 7, 8]
 | 2 => [0, 1, 7, 8, 9]
 | 3 => [0, 1, 5, 7, 8]
 | 4 => [0, 1, 5, 7, 8, 16]
 | 5 => [4]
 | 6 => [0, 1, 7, 8]
 | 7 => [4]
 | _ => []
theorem ZcG (args : Array Value) (w : World) : (callFunc 80 args).run Tryz.prog w = .ok (.enter 80 args) w := Zab Tryz.func80 (by decide) rfl args w
set_option maxHeartbeats 1000000 in
theorem Zi0 (xs : List (Int)) (f : FuncId) (caps : List GV) (p : Int → Bool) (hf : HY (∀ x : Int, Con Tryz.prog f (.i x :: caps) (.bool (p x)))) : Con Tryz.prog 80 [.ints xs, .fn f caps] (.i (Zc4 xs.length fun i => p (nth xs i))) := by
 have hf := hf.e
 refine Con.fit ZcG fun hfit => ?_
 have hb_xs : xs.length ≤ 9223372036854775807 := GFits.ints (show GFits (.ints xs) from hfit 0 (ZL rfl))
 clear hfit
 refine gCon Zf7 Zac (rs := [.tmp 4]) (sl := [(0, .g (.ints xs)), (1, .g (.fn f caps))]) Tryz.func80 rfl Tryz.ntmps80 rfl ZcG rfl (by repeat constructor) ?_
 (repeat' (first | ((with_reducible apply gLI.cone); (. exact RF.mk ⟨rfl, rfl⟩)) | (with_reducible constructor) | exact Z2 | exact ZN | exact ZS | ((with_reducible apply ZaP); first | (exact hf _)) | (with_reducible intro hc; (try simp only [HCs] at hc)) | exact OB_f | (with_reducible first | apply gNK | apply Zao | apply Zaf | apply Zal | apply Zan | apply Zai | apply ZaQ | apply Zam | apply Zap | apply Zau | apply Zak | apply Zas | apply ZaG | apply Zav | apply ZaM | apply Zat) | apply Zah Zac | (apply ZaD; exact RF.mk rfl) | (refine Zaq (id := 0) (ι := Nat) (fun i => ⟨[(0, .g (.ints xs)), (1, .g (.fn f caps)), (7, .g (.i xs.length)), (8, .g (.i i))], []⟩) (fun i => (i ≤ xs.length) ∧ (∀ z, z < i → (fun i => p (nth xs i)) z = false)) (fun i => xs.length - i) (0) ?_ ?_ ?_; (. (apply gLX0 <;> (repeat' (first | (with_reducible constructor) | exact Z5 | exact RF.mk (by decide) | (with_reducible apply Zae) | exact ZE)))); (. (exact ⟨by omega, Zcp⟩)); (rintro i ⟨h1, h2⟩; (show TX _ _ _ _ _ [(0, .g (.ints xs)), (1, .g (.fn f caps)), (7, .g (.i xs.length)), (8, .g (.i i))] [] _))) | apply gSel.ccons))
 (all_goals (first | (refine ZaR (i + 1) ?_ ?_ ?_; (· (apply gLX0 <;> (repeat' (first | (with_reducible constructor) | exact Z5 | exact RF.mk (by decide) | (with_reducible apply Zae) | exact ZE)))); (· ((refine ⟨by omega, Zct h2 ?_⟩; ((try simp only [BOa] at *); (first | omega | assumption | grind))))); (· exact ZW)) | (((refine Zae (EQ.mk ?_); skip; first | exact Eq.symm (Zb4 fun j hj => h2 j (by omega)) | (refine Eq.symm (ZbW i (by omega) ?_ h2); ((try simp only [BOa] at *); (first | omega | assumption | grind))))); done)))
def ZeC : Nat → List Nat
 | 0 => [0, 1]
 | 1 => [4]
 | _ => []
theorem Zb9 (args : Array Value) (w : World) : (callFunc 62 args).run Tryz.prog w = .ok (.enter 62 args) w := Zab Tryz.func62 (by decide) rfl args w
set_option maxHeartbeats 1000000 in
theorem ZfT (xs : List (Int)) (f : FuncId) (caps : List GV) (p : Int → Bool) (hf : HY (∀ x : Int, Con Tryz.prog f (.i x :: caps) (.bool (p x)))) : Con Tryz.prog 62 [.ints xs, .fn f caps] (.bool (!allN xs.length fun i => !p (nth xs i))) := by
 have hf := hf.e
 refine Con.fit Zb9 fun hfit => ?_
 have hb_xs : xs.length ≤ 9223372036854775807 := GFits.ints (show GFits (.ints xs) from hfit 0 (ZL rfl))
 clear hfit
 refine gCon ZeC Zac (rs := [.tmp 4]) (sl := [(0, .g (.ints xs)), (1, .g (.fn f caps))]) Tryz.func62 rfl Tryz.ntmps62 rfl Zb9 rfl (by repeat constructor) ?_
 (repeat' (first | (with_reducible constructor) | exact Z2 | ((with_reducible apply ZaP); first | (exact Zi0 xs f caps p (HY.mk hf))) | exact OB_f | (with_reducible first | apply gNK | apply Zao | apply Zaf | apply Zap | apply Zat) | apply Zah Zac | apply gSel.ccons))
 (all_goals (first | (((refine Zar ?_; exact Zh3)); done)))
def ZeD : Nat → List Nat
 | 0 => [0, 1]
 | 1 => [3]
 | _ => []
theorem ZdR (args : Array Value) (w : World) : (callFunc 63 args).run Tryz.prog w = .ok (.enter 63 args) w := Zab Tryz.func63 (by decide) rfl args w
set_option maxHeartbeats 1000000 in
theorem ZfV (x n : Int) : Con Tryz.prog 63 [.i x, .box [.i n]] (.bool (decide (x < 0) || decide (x ≥ n))) := by
 refine gCon ZeD Zac (rs := [.tmp 3]) (sl := [(0, .g (.i x)), (1, .g (.box [.i n]))]) Tryz.func63 rfl Tryz.ntmps63 rfl ZdR rfl (by repeat constructor) ?_
 (repeat' (first | ((with_reducible apply gLI.cone); (. exact RF.mk ⟨rfl, rfl⟩)) | (with_reducible constructor) | exact Z2 | (with_reducible intro hc; (try simp only [HCs] at hc)) | exact OB_f | (with_reducible first | apply gNK | apply Zao | apply Zaf | apply Zap | apply Zat) | apply Zah Zac | apply gSel.ccons))
 (all_goals (first | (((refine Zar ?_; skip; (first | rfl | (simp_all; done) | (rw [Bool.eq_iff_iff]; (try simp only [BOa, Bool.true_eq_false, Bool.false_eq_true, true_iff, false_iff, iff_true, iff_false, not_and, not_or] at *); (first | omega | grind))))); done)))
def Zf0 : Nat → List Nat
 | 0 => [0, 3]
 | 1 => [4]
 | _ => []
theorem Zcy (args : Array Value) (w : World) : (callFunc 38 args).run Tryz.prog w = .ok (.enter 38 args) w := Zab Tryz.func38 (by decide) rfl args w
set_option maxHeartbeats 1000000 in
theorem ZeJ (xs : List Int) (n : Int) : Con Tryz.prog 38 [.ints xs, .i n] (.bool (below xs n)) := by
 refine Con.fit Zcy fun hfit => ?_
 have hb_xs : xs.length ≤ 9223372036854775807 := GFits.ints (show GFits (.ints xs) from hfit 0 (ZL rfl))
 clear hfit
 refine gCon Zf0 Zac (rs := [.tmp 4]) (sl := [(0, .g (.ints xs)), (1, .g (.i n))]) Tryz.func38 rfl Tryz.ntmps38 rfl Zcy rfl (by repeat constructor) ?_
 (repeat' (first | (with_reducible constructor) | exact Z2 | ((with_reducible apply ZaP); first | (exact ZfT xs 63 [.box [.i n]] (fun x => decide (x < 0) || decide (x ≥ n)) (HY.mk fun x => ZfV x n))) | exact OB_f | (with_reducible first | apply gNK | apply Zao | apply Zaf | apply Zap | apply Zat) | apply Zah Zac | apply gSel.ccons))
 (all_goals (first | (((refine Zar ?_; rw [Bool.not_not]; unfold below; refine Zn9 fun j hj => ?_; rw [Bool.eq_iff_iff]; simp only [BOa]; first | omega | grind)); done)))
def Zkl : Nat → List Nat
 | 0 => [0, 1]
 | 1 => [0, 1, 7, 8, 9]
 | 2 => [0, 1, 7, 8, 9, 10]
 | 3 => [0, 1, 5, 6, 7, 8, 9]
 | 4 => [0, 1, 7, 8, 9, 33]
 | 5 => [4]
 | 6 => [0, 1, 7, 8, 9]
 | 7 => [4]
 | _ => []
theorem Zek (args : Array Value) (w : World) : (callFunc 61 args).run Tryz.prog w = .ok (.enter 61 args) w := Zab Tryz.func61 (by decide) rfl args w
set_option maxHeartbeats 1000000 in
theorem Zov (xs : List Int) (n : Int) : Con Tryz.prog 61 [.ints xs, .i n] (.bool (ZbS xs n)) := by
 refine Con.fit Zek fun hfit => ?_
 have hb_xs : xs.length ≤ 9223372036854775807 := GFits.ints (show GFits (.ints xs) from hfit 0 (ZL rfl))
 clear hfit
 refine gCon Zkl Zac (rs := [.tmp 4]) (sl := [(0, .g (.ints xs)), (1, .g (.i n))]) Tryz.func61 rfl Tryz.ntmps61 rfl Zek rfl (by repeat constructor) ?_
 (repeat' (first | ((with_reducible apply gLI.cone); (. exact RF.mk ⟨rfl, rfl⟩)) | (with_reducible constructor) | exact Z2 | exact ZN | exact ZS | (with_reducible intro hc; (try simp only [HCs] at hc)) | exact OB_f | (with_reducible first | apply gNK | apply Zao | apply Zaf | apply Zal | apply Zan | apply Zai | apply CK_t | apply CK_f | apply ZaQ | apply Zam | apply Zap | apply Zau | apply Zak | apply Zas | apply ZaG | apply Zav | apply ZaM | apply Zat) | apply Zah Zac | (apply ZaD; exact RF.mk rfl) | (refine Zaq (id := 0) (ι := Nat) (fun i => ⟨[(0, .g (.ints xs)), (1, .g (.i n)), (7, .g (.ints xs)), (8, .g (.i xs.length)), (9, .g (.i i))], []⟩) (fun i => (i ≤ xs.length) ∧ (∀ z, z < i → (fun i => decide (0 ≤ nth xs i) && decide (nth xs i < n) && (decide (i = 0) || decide (nth xs (i - 1) < nth xs i))) z = true)) (fun i => xs.length - i) (0) ?_ ?_ ?_; (. (apply gLX0 <;> (repeat' (first | (with_reducible constructor) | exact Z5 | exact RF.mk (by decide) | (with_reducible apply Zae) | exact ZE)))); (. (exact ⟨by omega, ZbT⟩)); (rintro i ⟨h1, h2⟩; (show TX _ _ _ _ _ [(0, .g (.ints xs)), (1, .g (.i n)), (7, .g (.ints xs)), (8, .g (.i xs.length)), (9, .g (.i i))] [] _))) | apply gSel.ccons))
 (all_goals (first | (refine ZaR (i + 1) ?_ ?_ ?_; (· (apply gLX0 <;> (repeat' (first | (with_reducible constructor) | exact Z5 | exact RF.mk (by decide) | (with_reducible apply Zae) | exact ZE)))); (· ((refine ⟨by omega, ZbM h2 ?_⟩; ((try simp only [BOa] at *); (first | omega | assumption | grind))))); (· exact ZW)) | (((first | (refine Zar ?_; (try unfold ZbS); first | rfl | exact Eq.symm (Zbh fun j hj => h2 j (by omega)) | (refine Eq.symm (Za5 i (by omega) ?_); ((try simp only [BOa] at *); (first | omega | assumption | grind))) | exact Eq.symm (Zc3 fun j hj => h2 j (by omega)) | (refine Eq.symm (ZdN i (by omega) ?_); ((try simp only [BOa] at *); (first | omega | assumption | grind))) | ((try simp only [BOa] at *); (first | omega | assumption | grind))))); done)))
def Zjs : Nat → List Nat
 | 0 => [1, 2]
 | 1 => [4]
 | _ => []
theorem ZdT (args : Array Value) (w : World) : (callFunc 26 args).run Tryz.prog w = .ok (.enter 26 args) w := Zab Tryz.func26 (by decide) rfl args w
set_option maxHeartbeats 1000000 in
theorem ZmK (s l : List Int) (n : Int) : Con Tryz.prog 26 [.word s l, .i n] (.bool (ZaN s l n)) := by
 refine Con.fit ZdT fun hfit => ?_
 have hb_s : s.length ≤ 9223372036854775807 := GFits.ints (GFits.cell (show GFits (.word s l) from hfit 0 (ZL rfl)) (.head _))
 have hb_l : l.length ≤ 9223372036854775807 := GFits.ints (GFits.cell (show GFits (.word s l) from hfit 0 (ZL rfl)) (.tail _ (.head _)))
 clear hfit
 refine gCon Zjs Zac (rs := [.tmp 4]) (sl := [(0, .g (.word s l)), (1, .g (.i n))]) Tryz.func26 rfl Tryz.ntmps26 rfl ZdT rfl (by repeat constructor) ?_
 (repeat' (first | ((with_reducible apply gLB.cone); (. exact RF.mk ⟨rfl, rfl⟩)) | (with_reducible constructor) | exact Z2 | exact ZS | exact ZF | ((with_reducible apply ZaP); first | apply ZeJ) | (with_reducible intro hc; (try simp only [HCs] at hc)) | exact OB_f | (with_reducible first | apply gNK | apply Zao | apply Zaf | apply Zap | apply Zat) | apply Zah Zac | apply gSel.ccons))
 (all_goals (first | (((refine Zar ?_; (try unfold ZaN); (first | rfl | (simp_all; done) | (rw [Bool.eq_iff_iff]; (try simp only [BOa, Bool.true_eq_false, Bool.false_eq_true, true_iff, false_iff, iff_true, iff_false, not_and, not_or] at *); (first | omega | grind))))); done)))
def Zid : Nat → List Nat
 | 0 => [1, 2]
 | 1 => [1, 2, 20]
 | 2 => [4]
 | 3 => [4]
 | _ => []
theorem Zdn (args : Array Value) (w : World) : (callFunc 51 args).run Tryz.prog w = .ok (.enter 51 args) w := Zab Tryz.func51 (by decide) rfl args w
set_option maxHeartbeats 1000000 in
theorem Zls (s l : List Int) (n : Int) (hn : NU (-1000000 ≤ n ∧ n ≤ 1000000)) : Con Tryz.prog 51 [.word s l, .i n] (.bool (ZaN s l n)) := by
 have hn := hn.e
 refine Con.fit Zdn fun hfit => ?_
 have hb_s : s.length ≤ 9223372036854775807 := GFits.ints (GFits.cell (show GFits (.word s l) from hfit 0 (ZL rfl)) (.head _))
 have hb_l : l.length ≤ 9223372036854775807 := GFits.ints (GFits.cell (show GFits (.word s l) from hfit 0 (ZL rfl)) (.tail _ (.head _)))
 clear hfit
 refine gCon Zid Zac (rs := [.tmp 4]) (sl := [(0, .g (.word s l)), (1, .g (.i n))]) Tryz.func51 rfl Tryz.ntmps51 rfl Zdn rfl (by repeat constructor) ?_
 (repeat' (first | ((with_reducible apply gLB.cone); (. exact RF.mk ⟨rfl, rfl⟩)) | (with_reducible constructor) | exact Z2 | exact ZN | exact ZS | exact ZF | ((with_reducible apply ZaP); first | apply Zf2) | (with_reducible intro hc; (try simp only [HCs] at hc)) | exact OB_f | (with_reducible first | apply gNK | apply Zao | apply Zaf | apply Zan | apply Zai | apply CK_t | apply ZaQ | apply Zam | apply Zap | apply Zat) | apply Zah Zac | apply gSel.ccons))
 (all_goals (first | (((refine Zar ?_; (try unfold ZaN); (first | rfl | (simp_all; done) | (rw [Bool.eq_iff_iff]; (try simp only [BOa, Bool.true_eq_false, Bool.false_eq_true, true_iff, false_iff, iff_true, iff_false, not_and, not_or] at *); (first | omega | grind))))); done)))
def ZjC : Nat → List Nat
 | 0 => [2, 3]
 | 1 => [4]
 | _ => []
theorem ZdL (args : Array Value) (w : World) : (callFunc 30 args).run Tryz.prog w = .ok (.enter 30 args) w := Zab Tryz.func30 (by decide) rfl args w
set_option maxHeartbeats 1000000 in
theorem Zip (i o : Int) (s l : List Int) : Con Tryz.prog 30 [.sig i o, .word s l] (.bool (sigB i o && ZaN s l (Zaa i o))) := by
 refine Con.fit ZdL fun hfit => ?_
 have hb_s : s.length ≤ 9223372036854775807 := GFits.ints (GFits.cell (show GFits (.word s l) from hfit 1 (ZL rfl)) (.head _))
 have hb_l : l.length ≤ 9223372036854775807 := GFits.ints (GFits.cell (show GFits (.word s l) from hfit 1 (ZL rfl)) (.tail _ (.head _)))
 clear hfit
 refine gCon ZjC Zac (rs := [.tmp 4]) (sl := [(0, .g (.sig i o)), (1, .g (.word s l))]) Tryz.func30 rfl Tryz.ntmps30 rfl ZdL rfl (by repeat constructor) ?_
 (repeat' (first | ((with_reducible apply gLB.cagg); (. exact RF.mk ⟨rfl, rfl, rfl⟩)) | (with_reducible constructor) | exact Z2 | exact NU.mk QC11 | ((with_reducible apply ZaP); first | apply Za2 | apply ZdS | apply Zls) | (with_reducible intro hc; (try simp only [HCs] at hc)) | exact OB_f | exact ZK | (with_reducible first | apply gNK | apply Zao | apply Zaf | apply Zap | apply Zat) | apply Zah Zac | apply ZaK Zac rfl | apply gSel.ccons))
 (all_goals (first | (((refine Zar ?_; skip; (first | rfl | (simp_all; done) | (rw [Bool.eq_iff_iff]; (try simp only [BOa, Bool.true_eq_false, Bool.false_eq_true, true_iff, false_iff, iff_true, iff_false, not_and, not_or] at *); (first | omega | grind))))); done)))
def Zii : Nat → List Nat
 | 0 => [0]
 | 1 => [2]
 | _ => []
theorem Zgx (args : Array Value) (w : World) : (callFunc 100 args).run Tryz.prog w = .ok (.enter 100 args) w := Zab Tryz.func100 (by decide) rfl args w
set_option maxHeartbeats 1000000 in
theorem Zhd (k : Int) : Con Tryz.prog 100 [.i k] (.bool (Zia k)) := by
 refine gCon Zii Zac (rs := [.tmp 2]) (sl := [(0, .g (.i k))]) Tryz.func100 rfl Tryz.ntmps100 rfl Zgx rfl (by repeat constructor) ?_
 (repeat' (first | (with_reducible constructor) | exact Z2 | (with_reducible intro hc; (try simp only [HCs] at hc)) | exact OB_f | (with_reducible first | apply gNK | apply Zao | apply Zaf | apply Zap | apply Zat) | apply Zah Zac | apply gSel.ccons))
 (all_goals (first | (((refine Zar ?_; (try unfold Zia); (first | rfl | (simp_all; done) | (rw [Bool.eq_iff_iff]; (try simp only [BOa, Bool.true_eq_false, Bool.false_eq_true, true_iff, false_iff, iff_true, iff_false, not_and, not_or] at *); (first | omega | grind))))); done)))
def Zhv : Nat → List Nat
 | 0 => [2, 3]
 | 1 => [2, 3, 14]
 | 2 => [4]
 | 3 => [3, 5]
 | 4 => [4]
 | _ => []
theorem Zc0 (args : Array Value) (w : World) : (callFunc 95 args).run Tryz.prog w = .ok (.enter 95 args) w := Zab Tryz.func95 (by decide) rfl args w
set_option maxHeartbeats 1000000 in
theorem Zgh (i o k : Int) (a b : List Int) : Con Tryz.prog 95 [.sig i o, .clause k a b] (.bool (sigB i o && ZdE (Zaa i o) k a b)) := by
 refine Con.fit Zc0 fun hfit => ?_
 have hb_a : a.length ≤ 9223372036854775807 := GFits.ints (GFits.cell (show GFits (.clause k a b) from hfit 1 (ZL rfl)) (.tail _ (.head _)))
 have hb_b : b.length ≤ 9223372036854775807 := GFits.ints (GFits.cell (show GFits (.clause k a b) from hfit 1 (ZL rfl)) (.tail _ (.tail _ (.head _))))
 clear hfit
 refine gCon Zhv Zac (rs := [.tmp 4]) (sl := [(0, .g (.sig i o)), (1, .g (.clause k a b))]) Tryz.func95 rfl Tryz.ntmps95 rfl Zc0 rfl (by repeat constructor) ?_
 (repeat' (first | ((with_reducible apply gLB.cagg); (. exact RF.mk ⟨rfl, rfl, rfl⟩)) | ((with_reducible apply gLB.cone); (. exact RF.mk ⟨rfl, rfl⟩)) | (with_reducible constructor) | exact Z2 | exact NU.mk QC11 | exact ZS | exact ZF | ((with_reducible apply ZaP); first | apply Za2 | apply ZdS | apply Zdb | apply ZjF | apply Zhd) | (with_reducible intro hc; (try simp only [HCs] at hc)) | exact OB_f | (with_reducible first | apply gNK | apply Zao | apply Zaf | apply Zan | apply Zai | apply CK_t | apply ZaQ | apply Zam | apply Zap | apply Zat) | apply Zah Zac | apply gSel.ccons))
 (all_goals (first | (((refine Zar ?_; (try rw [ZjU (Zaw i o).1] at *); (try simp only [ZdE] at *); rw [Bool.eq_iff_iff]; (try simp only [BOa, Int.natCast_eq_zero, List.length_eq_zero_iff, Bool.true_eq_false, Bool.false_eq_true, true_iff, false_iff, iff_true, iff_false, true_and, and_true, false_and, and_false, not_and, not_or, Bool.not_eq_true, Bool.not_eq_false, Int.not_lt, Int.not_le] at *); first | done | omega | (simp_all; done) | grind)); done)))
end Go.Proofs.YtnieejghoaccmaaGreat

