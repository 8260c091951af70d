/- Contracts: interfaces, words, clauses. No conditions but those that each theorem names. -/
import Derived.Test.YtabfpoflhacknaaGreatTab
import Derived.Test.YtabfpoflhacknaaGreatKG
import Derived.Test.YtabfpoflhacknaaGreatW1
import Derived.Test.YtabfpoflhacknaaGreatT2
import Derived.Test.YtabfpoflhacknaaGreatChecked
set_option linter.unusedSimpArgs false
set_option linter.unusedVariables false
namespace Go.Proofs.YtabfpoflhacknaaGreat
open Go.RowKit
open Shp
theorem QC13 {p : Prop} (h : p := by ((first | exact EQ.mk (by omega) | exact EQ.mk (by rw [Int.pow_succ])); done)) : p := h
theorem QC12 {p : Prop} (h : p := by first | exact ZO | (first | omega | (have q := Zks (by assumption); omega))) : p := h
theorem QC11 {p : Prop} (h : p := by first | exact ZO | (first | omega | (have q := ZaE i o; omega) | (have q := Zks (by assumption); omega))) : p := h
theorem QC10 {p : Prop} (h : p := by first | exact ZO | (first | omega | (have q := Zx3 i (by omega); omega))) : p := h
def ZkI : Nat → List Nat
 | 0 => [1]
 | 1 => [2]
 | _ => []
theorem ZhX (args : Array Value) (w : World) : (callFunc 30 args).run Tryz.prog w = .ok (.enter 30 args) w := Zab Tryz.func30 (by decide) rfl args w
set_option maxHeartbeats 1000000 in
theorem Zd5 (i o : Int) : Con Tryz.prog 30 [.sig i o] (.bool (sigB i o)) := by
 refine gCon ZkI Zad (rs := [.tmp 2]) (sl := [(0, .g (.sig i o))]) Tryz.func30 rfl Tryz.ntmps30 rfl ZhX rfl (by repeat constructor) ?_
 (repeat' (first | ((with_reducible apply gLB.cone); (. exact RF.mk ⟨rfl, rfl⟩)) | (with_reducible constructor) | exact Z2 | exact ZF | ((with_reducible apply ZaA); first | apply Zdb) | (with_reducible intro hc; (try simp only [HCs] at hc)) | exact OB_f | (with_reducible first | apply gNK | apply Zam | apply Zaf | apply Zas | apply Zav) | apply Zah Zad | apply gSel.ccons))
 (all_goals (first | (((refine Zao ?_; (try unfold sigB); (first | rfl | (simp_all; done) | (rw [Bool.eq_iff_iff]; (try simp only [BOa, Bool.true_eq_false, Bool.false_eq_true, true_iff, false_iff, iff_true, iff_false, not_and, not_or] at *); (first | omega | grind))))); done)))
def Zk8 : Nat → List Nat
 | 0 => [1]
 | 1 => [2]
 | _ => []
theorem Zh8 (args : Array Value) (w : World) : (callFunc 24 args).run Tryz.prog w = .ok (.enter 24 args) w := Zab Tryz.func24 (by decide) rfl args w
set_option maxHeartbeats 1000000 in
theorem Zec (i o : Int) : Con Tryz.prog 24 [.sig i o] (.bool (sigB i o)) := by
 refine gCon Zk8 Zad (rs := [.tmp 2]) (sl := [(0, .g (.sig i o))]) Tryz.func24 rfl Tryz.ntmps24 rfl Zh8 rfl (by repeat constructor) ?_
 (repeat' (first | ((with_reducible apply gLB.cone); (. exact RF.mk ⟨rfl, rfl⟩)) | (with_reducible constructor) | exact Z2 | exact ZF | (with_reducible intro hc; (try simp only [HCs] at hc)) | exact OB_f | (with_reducible first | apply gNK | apply Zam | apply Zaf | apply Zas | apply Zav) | apply Zah Zad | apply gSel.ccons))
 (all_goals (first | (((refine Zao ?_; (try unfold sigB); (first | rfl | (simp_all; done) | (rw [Bool.eq_iff_iff]; (try simp only [BOa, Bool.true_eq_false, Bool.false_eq_true, true_iff, false_iff, iff_true, iff_false, not_and, not_or] at *); (first | omega | grind))))); done)))
def Zik : Nat → List Nat
 | 0 => [0]
 | 1 => [0, 3]
 | 2 => [0, 3, 5]
 | 3 => [0, 3]
 | 4 => [0, 3]
 | 5 => [2]
 | _ => []
theorem Zgi (args : Array Value) (w : World) : (callFunc 31 args).run Tryz.prog w = .ok (.enter 31 args) w := Zab Tryz.func31 (by decide) rfl args w
set_option maxHeartbeats 1000000 in
theorem Zk6 (n : Int) (hn : NU (-10 ≤ n ∧ n ≤ 10)) : Con Tryz.prog 31 [.i n] (.i (pw n)) := by
 have hn := hn.e
 refine gCon Zik Zad (rs := [.tmp 2]) (sl := [(0, .g (.i n))]) Tryz.func31 rfl Tryz.ntmps31 rfl Zgi rfl (by repeat constructor) ?_
 (repeat' (first | (with_reducible constructor) | exact Z2 | exact NU.mk QC10 | (with_reducible intro hc; (try simp only [HCs] at hc)) | exact OB_f | (with_reducible first | apply gNK | apply Zam | apply Zaf | apply Zaq | apply Zai | apply ZaR | apply Zar | apply Zas | apply Zay | apply Zap | apply Zaw | apply Zax | apply Zav) | apply Zah Zad | (apply ZaF; exact RF.mk rfl) | (refine Zak (id := 0) (ι := Nat) (fun i => ⟨[(0, .g (.i (n - i))), (3, .g (.i (2 ^ i)))], []⟩) (fun i => (i ≤ n.toNat)) (fun i => n.toNat - i) (0) ?_ ?_ ?_; (. (apply gLX0 <;> (repeat' (first | (with_reducible constructor) | exact Z5 | exact RF.mk (by decide) | (with_reducible apply Zae) | exact EQ.mk QC10)); (all_goals exact QC13))); (. (omega)); (rintro i h1; (show TX _ _ _ _ _ [(0, .g (.i (n - i))), (3, .g (.i (2 ^ i)))] [] _))) | apply gSel.ccons))
 (all_goals (first | (refine ZaJ (i + 1) ?_ ?_ ?_; (· (apply gLX0 <;> (repeat' (first | (with_reducible constructor) | exact Z5 | exact RF.mk (by decide) | (with_reducible apply Zae) | exact EQ.mk QC10)); (all_goals exact QC13))); (· (omega)); (· exact ZW)) | (((refine Zae (EQ.mk ?_); unfold pw; rw [show i = n.toNat by omega])); done)))
def Zhv : Nat → List Nat
 | 0 => [1]
 | 1 => [2]
 | _ => []
theorem ZfF (args : Array Value) (w : World) : (callFunc 34 args).run Tryz.prog w = .ok (.enter 34 args) w := Zab Tryz.func34 (by decide) rfl args w
set_option maxHeartbeats 1000000 in
theorem ZaD (i o : Int) (hn : NU (0 ≤ i ∧ i ≤ 4 ∧ 0 ≤ o ∧ o ≤ 4)) : Con Tryz.prog 34 [.sig i o] (.i (pw (i + o))) := by
 have hn := hn.e
 refine gCon Zhv Zad (rs := [.tmp 2]) (sl := [(0, .g (.sig i o))]) Tryz.func34 rfl Tryz.ntmps34 rfl ZfF rfl (by repeat constructor) ?_
 (repeat' (first | ((with_reducible apply gLB.cone); (. exact RF.mk ⟨rfl, rfl⟩)) | (with_reducible constructor) | exact Z2 | exact NU.mk (by first | exact ZO | (first | omega | exact ⟨by omega, by omega, by omega, by have := Zx3 (i + o).toNat (by omega); omega⟩)) | exact ZF | exact OB_f | (with_reducible first | apply gNK | apply Zam | apply Zaf | apply Zas | apply Zav) | apply Zah Zad | apply gSel.ccons))
 (all_goals (first | (((refine Zae (EQ.mk ?_); unfold pw; simp)); done)))
def Zg9 : Nat → List Nat
 | 0 => [1]
 | 1 => [1, 5]
 | 2 => [2]
 | 3 => [2]
 | _ => []
theorem ZfO (args : Array Value) (w : World) : (callFunc 11 args).run Tryz.prog w = .ok (.enter 11 args) w := Zab Tryz.func11 (by decide) rfl args w
set_option maxHeartbeats 1000000 in
theorem ZdW (i o : Int) : Con Tryz.prog 11 [.sig i o] (.i (Zaa i o)) := by
 refine gCon Zg9 Zad (rs := [.tmp 2]) (sl := [(0, .g (.sig i o))]) Tryz.func11 rfl Tryz.ntmps11 rfl ZfO rfl (by repeat constructor) ?_
 (repeat' (first | ((with_reducible apply gLB.cagg); (. exact RF.mk ⟨rfl, rfl, rfl⟩)) | ((with_reducible apply gLB.cone); (. exact RF.mk ⟨rfl, rfl⟩)) | (with_reducible constructor) | exact Z2 | exact NU.mk QC12 | exact ZF | ((with_reducible apply ZaA); first | apply Zd5 | apply Zk6) | (with_reducible intro hc; (try simp only [HCs] at hc)) | exact OB_f | (with_reducible first | apply gNK | apply Zam | apply Zaf | apply ZaC | apply Zai | apply ZaR | apply Zar | apply Zas | apply Zav) | apply Zah Zad | apply gSel.ccons))
 (all_goals (first | (((refine Zae (EQ.mk ?_); unfold Zaa; simp_all)); done)))
def Zg5 : Nat → List Nat
 | 0 => [0, 1]
 | 1 => [0, 1, 7, 8]
 | 2 => [0, 1, 7, 8, 9]
 | 3 => [0, 1, 5, 7, 8]
 | 4 => [0, 1, 5, 7, 8, 16]
 | 5 => [4]
 | 6 => [0, 1, 7, 8]
 | 7 => [4]
 | _ => []
theorem ZcN (args : Array Value) (w : World) : (callFunc 115 args).run Tryz.prog w = .ok (.enter 115 args) w := Zab Tryz.func115 (by decide) rfl args w
set_option maxHeartbeats 1000000 in
theorem Zjn (xs : List (Int)) (f : FuncId) (caps : List GV) (p : Int → Bool) (hf : HY (∀ x : Int, Con Tryz.prog f (.i x :: caps) (.bool (p x)))) : Con Tryz.prog 115 [.ints xs, .fn f caps] (.i (ZcB xs.length fun i => p (nth xs i))) := by
 have hf := hf.e
 refine Con.fit ZcN fun hfit => ?_
 have hb_xs : xs.length ≤ 9223372036854775807 := GFits.ints (show GFits (.ints xs) from hfit 0 (ZL rfl))
 clear hfit
 refine gCon Zg5 Zad (rs := [.tmp 4]) (sl := [(0, .g (.ints xs)), (1, .g (.fn f caps))]) Tryz.func115 rfl Tryz.ntmps115 rfl ZcN rfl (by repeat constructor) ?_
 (repeat' (first | ((with_reducible apply gLI.cone); (. exact RF.mk ⟨rfl, rfl⟩)) | (with_reducible constructor) | exact Z2 | exact ZN | exact ZS | ((with_reducible apply ZaA); first | (exact hf _)) | (with_reducible intro hc; (try simp only [HCs] at hc)) | exact OB_f | (with_reducible first | apply gNK | apply Zam | apply Zaf | apply Zaq | apply ZaC | apply Zai | apply ZaR | apply Zar | apply Zas | apply Zay | apply Zap | apply Zaw | apply Za3 | apply Zax | apply Za9 | apply Zav) | apply Zah Zad | (apply ZaF; exact RF.mk rfl) | (refine Zak (id := 0) (ι := Nat) (fun i => ⟨[(0, .g (.ints xs)), (1, .g (.fn f caps)), (7, .g (.i xs.length)), (8, .g (.i i))], []⟩) (fun i => (i ≤ xs.length) ∧ (∀ z, z < i → (fun i => p (nth xs i)) z = false)) (fun i => xs.length - i) (0) ?_ ?_ ?_; (. (apply gLX0 <;> (repeat' (first | (with_reducible constructor) | exact Z5 | exact RF.mk (by decide) | (with_reducible apply Zae) | exact ZE)))); (. (exact ⟨by omega, Zcd⟩)); (rintro i ⟨h1, h2⟩; (show TX _ _ _ _ _ [(0, .g (.ints xs)), (1, .g (.fn f caps)), (7, .g (.i xs.length)), (8, .g (.i i))] [] _))) | apply gSel.ccons))
 (all_goals (first | (refine ZaJ (i + 1) ?_ ?_ ?_; (· (apply gLX0 <;> (repeat' (first | (with_reducible constructor) | exact Z5 | exact RF.mk (by decide) | (with_reducible apply Zae) | exact ZE)))); (· ((refine ⟨by omega, Zcf h2 ?_⟩; ((try simp only [BOa] at *); (first | omega | assumption | grind))))); (· exact ZW)) | (((refine Zae (EQ.mk ?_); skip; first | exact Eq.symm (ZbW fun j hj => h2 j (by omega)) | (refine Eq.symm (Zbn i (by omega) ?_ h2); ((try simp only [BOa] at *); (first | omega | assumption | grind))))); done)))
def Zfg : Nat → List Nat
 | 0 => [0, 1]
 | 1 => [4]
 | _ => []
theorem Zce (args : Array Value) (w : World) : (callFunc 90 args).run Tryz.prog w = .ok (.enter 90 args) w := Zab Tryz.func90 (by decide) rfl args w
set_option maxHeartbeats 1000000 in
theorem ZbM (xs : List (Int)) (f : FuncId) (caps : List GV) (p : Int → Bool) (hf : HY (∀ x : Int, Con Tryz.prog f (.i x :: caps) (.bool (p x)))) : Con Tryz.prog 90 [.ints xs, .fn f caps] (.bool (!allN xs.length fun i => !p (nth xs i))) := by
 have hf := hf.e
 refine Con.fit Zce fun hfit => ?_
 have hb_xs : xs.length ≤ 9223372036854775807 := GFits.ints (show GFits (.ints xs) from hfit 0 (ZL rfl))
 clear hfit
 refine gCon Zfg Zad (rs := [.tmp 4]) (sl := [(0, .g (.ints xs)), (1, .g (.fn f caps))]) Tryz.func90 rfl Tryz.ntmps90 rfl Zce rfl (by repeat constructor) ?_
 (repeat' (first | (with_reducible constructor) | exact Z2 | ((with_reducible apply ZaA); first | (exact Zjn xs f caps p (HY.mk hf))) | exact OB_f | (with_reducible first | apply gNK | apply Zam | apply Zaf | apply Zas | apply Zav) | apply Zah Zad | apply gSel.ccons))
 (all_goals (first | (((refine Zao ?_; exact firstN_ge)); done)))
def ZeY : Nat → List Nat
 | 0 => [0, 1]
 | 1 => [3]
 | _ => []
theorem Zef (args : Array Value) (w : World) : (callFunc 91 args).run Tryz.prog w = .ok (.enter 91 args) w := Zab Tryz.func91 (by decide) rfl args w
set_option maxHeartbeats 1000000 in
theorem Zgv (x n : Int) : Con Tryz.prog 91 [.i x, .box [.i n]] (.bool (decide (x < 0) || decide (x ≥ n))) := by
 refine gCon ZeY Zad (rs := [.tmp 3]) (sl := [(0, .g (.i x)), (1, .g (.box [.i n]))]) Tryz.func91 rfl Tryz.ntmps91 rfl Zef rfl (by repeat constructor) ?_
 (repeat' (first | ((with_reducible apply gLI.cone); (. exact RF.mk ⟨rfl, rfl⟩)) | (with_reducible constructor) | exact Z2 | (with_reducible intro hc; (try simp only [HCs] at hc)) | exact OB_f | (with_reducible first | apply gNK | apply Zam | apply Zaf | apply Zas | apply Zav) | apply Zah Zad | apply gSel.ccons))
 (all_goals (first | (((refine Zao ?_; skip; (first | rfl | (simp_all; done) | (rw [Bool.eq_iff_iff]; (try simp only [BOa, Bool.true_eq_false, Bool.false_eq_true, true_iff, false_iff, iff_true, iff_false, not_and, not_or] at *); (first | omega | grind))))); done)))
def Zgr : Nat → List Nat
 | 0 => [0, 3]
 | 1 => [4]
 | _ => []
theorem ZcK (args : Array Value) (w : World) : (callFunc 56 args).run Tryz.prog w = .ok (.enter 56 args) w := Zab Tryz.func56 (by decide) rfl args w
set_option maxHeartbeats 1000000 in
theorem Ze7 (xs : List Int) (n : Int) : Con Tryz.prog 56 [.ints xs, .i n] (.bool (below xs n)) := by
 refine Con.fit ZcK fun hfit => ?_
 have hb_xs : xs.length ≤ 9223372036854775807 := GFits.ints (show GFits (.ints xs) from hfit 0 (ZL rfl))
 clear hfit
 refine gCon Zgr Zad (rs := [.tmp 4]) (sl := [(0, .g (.ints xs)), (1, .g (.i n))]) Tryz.func56 rfl Tryz.ntmps56 rfl ZcK rfl (by repeat constructor) ?_
 (repeat' (first | (with_reducible constructor) | exact Z2 | ((with_reducible apply ZaA); first | (exact ZbM xs 91 [.box [.i n]] (fun x => decide (x < 0) || decide (x ≥ n)) (HY.mk fun x => Zgv x n))) | exact OB_f | (with_reducible first | apply gNK | apply Zam | apply Zaf | apply Zas | apply Zav) | apply Zah Zad | apply gSel.ccons))
 (all_goals (first | (((refine Zao ?_; rw [Bool.not_not]; unfold below; refine Zkn fun j hj => ?_; rw [Bool.eq_iff_iff]; simp only [BOa]; first | omega | grind)); done)))
def ZlS : Nat → List Nat
 | 0 => [0, 1]
 | 1 => [0, 1, 7, 8, 9]
 | 2 => [0, 1, 7, 8, 9, 10]
 | 3 => [0, 1, 5, 6, 7, 8, 9]
 | 4 => [0, 1, 7, 8, 9, 33]
 | 5 => [4]
 | 6 => [0, 1, 7, 8, 9]
 | 7 => [4]
 | _ => []
theorem ZeJ (args : Array Value) (w : World) : (callFunc 89 args).run Tryz.prog w = .ok (.enter 89 args) w := Zab Tryz.func89 (by decide) rfl args w
set_option maxHeartbeats 1000000 in
theorem ZkE (xs : List Int) (n : Int) : Con Tryz.prog 89 [.ints xs, .i n] (.bool (Zbx xs n)) := by
 refine Con.fit ZeJ fun hfit => ?_
 have hb_xs : xs.length ≤ 9223372036854775807 := GFits.ints (show GFits (.ints xs) from hfit 0 (ZL rfl))
 clear hfit
 refine gCon ZlS Zad (rs := [.tmp 4]) (sl := [(0, .g (.ints xs)), (1, .g (.i n))]) Tryz.func89 rfl Tryz.ntmps89 rfl ZeJ rfl (by repeat constructor) ?_
 (repeat' (first | ((with_reducible apply gLI.cone); (. exact RF.mk ⟨rfl, rfl⟩)) | (with_reducible constructor) | exact Z2 | exact ZN | exact ZS | (with_reducible intro hc; (try simp only [HCs] at hc)) | exact OB_f | (with_reducible first | apply gNK | apply Zam | apply Zaf | apply Zaq | apply ZaC | apply Zai | apply CK_t | apply CK_f | apply ZaR | apply Zar | apply Zas | apply Zay | apply Zap | apply Zaw | apply Za3 | apply Zax | apply Za9 | apply Zav) | apply Zah Zad | (apply ZaF; exact RF.mk rfl) | (refine Zak (id := 0) (ι := Nat) (fun i => ⟨[(0, .g (.ints xs)), (1, .g (.i n)), (7, .g (.ints xs)), (8, .g (.i xs.length)), (9, .g (.i i))], []⟩) (fun i => (i ≤ xs.length) ∧ (∀ z, z < i → (fun i => decide (0 ≤ nth xs i) && decide (nth xs i < n) && (decide (i = 0) || decide (nth xs (i - 1) < nth xs i))) z = true)) (fun i => xs.length - i) (0) ?_ ?_ ?_; (. (apply gLX0 <;> (repeat' (first | (with_reducible constructor) | exact Z5 | exact RF.mk (by decide) | (with_reducible apply Zae) | exact ZE)))); (. (exact ⟨by omega, Zba⟩)); (rintro i ⟨h1, h2⟩; (show TX _ _ _ _ _ [(0, .g (.ints xs)), (1, .g (.i n)), (7, .g (.ints xs)), (8, .g (.i xs.length)), (9, .g (.i i))] [] _))) | apply gSel.ccons))
 (all_goals (first | (refine ZaJ (i + 1) ?_ ?_ ?_; (· (apply gLX0 <;> (repeat' (first | (with_reducible constructor) | exact Z5 | exact RF.mk (by decide) | (with_reducible apply Zae) | exact ZE)))); (· ((refine ⟨by omega, Zbc h2 ?_⟩; ((try simp only [BOa] at *); (first | omega | assumption | grind))))); (· exact ZW)) | (((first | (refine Zao ?_; (try unfold Zbx); first | rfl | exact Eq.symm (ZaS fun j hj => h2 j (by omega)) | (refine Eq.symm (ZaM i (by omega) ?_); ((try simp only [BOa] at *); (first | omega | assumption | grind))) | exact Eq.symm (Zcb fun j hj => h2 j (by omega)) | (refine Eq.symm (ZcD i (by omega) ?_); ((try simp only [BOa] at *); (first | omega | assumption | grind))) | ((try simp only [BOa] at *); (first | omega | assumption | grind))))); done)))
def Zj6 : Nat → List Nat
 | 0 => [1, 2]
 | 1 => [4]
 | _ => []
theorem Zej (args : Array Value) (w : World) : (callFunc 33 args).run Tryz.prog w = .ok (.enter 33 args) w := Zab Tryz.func33 (by decide) rfl args w
set_option maxHeartbeats 1000000 in
theorem Zjv (s l : List Int) (n : Int) : Con Tryz.prog 33 [.word s l, .i n] (.bool (ZaI s l n)) := by
 refine Con.fit Zej fun hfit => ?_
 have hb_s : s.length ≤ 9223372036854775807 := GFits.ints (GFits.cell (show GFits (.word s l) from hfit 0 (ZL rfl)) (.head _))
 have hb_l : l.length ≤ 9223372036854775807 := GFits.ints (GFits.cell (show GFits (.word s l) from hfit 0 (ZL rfl)) (.tail _ (.head _)))
 clear hfit
 refine gCon Zj6 Zad (rs := [.tmp 4]) (sl := [(0, .g (.word s l)), (1, .g (.i n))]) Tryz.func33 rfl Tryz.ntmps33 rfl Zej rfl (by repeat constructor) ?_
 (repeat' (first | ((with_reducible apply gLB.cone); (. exact RF.mk ⟨rfl, rfl⟩)) | (with_reducible constructor) | exact Z2 | exact ZS | exact ZF | ((with_reducible apply ZaA); first | apply Ze7) | (with_reducible intro hc; (try simp only [HCs] at hc)) | exact OB_f | (with_reducible first | apply gNK | apply Zam | apply Zaf | apply Zas | apply Zav) | apply Zah Zad | apply gSel.ccons))
 (all_goals (first | (((refine Zao ?_; (try unfold ZaI); (first | rfl | (simp_all; done) | (rw [Bool.eq_iff_iff]; (try simp only [BOa, Bool.true_eq_false, Bool.false_eq_true, true_iff, false_iff, iff_true, iff_false, not_and, not_or] at *); (first | omega | grind))))); done)))
def ZjF : Nat → List Nat
 | 0 => [1, 2]
 | 1 => [1, 2, 20]
 | 2 => [4]
 | 3 => [4]
 | _ => []
theorem Zdx (args : Array Value) (w : World) : (callFunc 69 args).run Tryz.prog w = .ok (.enter 69 args) w := Zab Tryz.func69 (by decide) rfl args w
set_option maxHeartbeats 1000000 in
theorem Zna (s l : List Int) (n : Int) (hn : NU (-1000000 ≤ n ∧ n ≤ 1000000)) : Con Tryz.prog 69 [.word s l, .i n] (.bool (ZaI s l n)) := by
 have hn := hn.e
 refine Con.fit Zdx fun hfit => ?_
 have hb_s : s.length ≤ 9223372036854775807 := GFits.ints (GFits.cell (show GFits (.word s l) from hfit 0 (ZL rfl)) (.head _))
 have hb_l : l.length ≤ 9223372036854775807 := GFits.ints (GFits.cell (show GFits (.word s l) from hfit 0 (ZL rfl)) (.tail _ (.head _)))
 clear hfit
 refine gCon ZjF Zad (rs := [.tmp 4]) (sl := [(0, .g (.word s l)), (1, .g (.i n))]) Tryz.func69 rfl Tryz.ntmps69 rfl Zdx rfl (by repeat constructor) ?_
 (repeat' (first | ((with_reducible apply gLB.cone); (. exact RF.mk ⟨rfl, rfl⟩)) | (with_reducible constructor) | exact Z2 | exact ZN | exact ZS | exact ZF | ((with_reducible apply ZaA); first | apply ZgG) | (with_reducible intro hc; (try simp only [HCs] at hc)) | exact OB_f | (with_reducible first | apply gNK | apply Zam | apply Zaf | apply ZaC | apply Zai | apply CK_t | apply ZaR | apply Zar | apply Zas | apply Zav) | apply Zah Zad | apply gSel.ccons))
 (all_goals (first | (((refine Zao ?_; (try unfold ZaI); (first | rfl | (simp_all; done) | (rw [Bool.eq_iff_iff]; (try simp only [BOa, Bool.true_eq_false, Bool.false_eq_true, true_iff, false_iff, iff_true, iff_false, not_and, not_or] at *); (first | omega | grind))))); done)))
def Zj8 : Nat → List Nat
 | 0 => [2, 3]
 | 1 => [4]
 | _ => []
theorem Zd4 (args : Array Value) (w : World) : (callFunc 37 args).run Tryz.prog w = .ok (.enter 37 args) w := Zab Tryz.func37 (by decide) rfl args w
set_option maxHeartbeats 1000000 in
theorem Zer (i o : Int) (s l : List Int) : Con Tryz.prog 37 [.sig i o, .word s l] (.bool (sigB i o && ZaI s l (Zaa i o))) := by
 refine Con.fit Zd4 fun hfit => ?_
 have hb_s : s.length ≤ 9223372036854775807 := GFits.ints (GFits.cell (show GFits (.word s l) from hfit 1 (ZL rfl)) (.head _))
 have hb_l : l.length ≤ 9223372036854775807 := GFits.ints (GFits.cell (show GFits (.word s l) from hfit 1 (ZL rfl)) (.tail _ (.head _)))
 clear hfit
 refine gCon Zj8 Zad (rs := [.tmp 4]) (sl := [(0, .g (.sig i o)), (1, .g (.word s l))]) Tryz.func37 rfl Tryz.ntmps37 rfl Zd4 rfl (by repeat constructor) ?_
 (repeat' (first | ((with_reducible apply gLB.cagg); (. exact RF.mk ⟨rfl, rfl, rfl⟩)) | (with_reducible constructor) | exact Z2 | exact NU.mk QC11 | ((with_reducible apply ZaA); first | apply ZdW | apply Zd5 | apply Zna) | (with_reducible intro hc; (try simp only [HCs] at hc)) | exact OB_f | exact ZK | (with_reducible first | apply gNK | apply Zam | apply Zaf | apply Zas | apply Zav) | apply Zah Zad | apply ZaQ Zad rfl | apply gSel.ccons))
 (all_goals (first | (((refine Zao ?_; skip; (first | rfl | (simp_all; done) | (rw [Bool.eq_iff_iff]; (try simp only [BOa, Bool.true_eq_false, Bool.false_eq_true, true_iff, false_iff, iff_true, iff_false, not_and, not_or] at *); (first | omega | grind))))); done)))
def ZhI : Nat → List Nat
 | 0 => [0]
 | 1 => [2]
 | _ => []
theorem ZfN (args : Array Value) (w : World) : (callFunc 103 args).run Tryz.prog w = .ok (.enter 103 args) w := Zab Tryz.func103 (by decide) rfl args w
set_option maxHeartbeats 1000000 in
theorem Zj4 (k : Int) : Con Tryz.prog 103 [.i k] (.bool (ZdU k)) := by
 refine gCon ZhI Zad (rs := [.tmp 2]) (sl := [(0, .g (.i k))]) Tryz.func103 rfl Tryz.ntmps103 rfl ZfN rfl (by repeat constructor) ?_
 (repeat' (first | (with_reducible constructor) | exact Z2 | (with_reducible intro hc; (try simp only [HCs] at hc)) | exact OB_f | (with_reducible first | apply gNK | apply Zam | apply Zaf | apply Zas | apply Zav) | apply Zah Zad | apply gSel.ccons))
 (all_goals (first | (((refine Zao ?_; (try unfold ZdU); (first | rfl | (simp_all; done) | (rw [Bool.eq_iff_iff]; (try simp only [BOa, Bool.true_eq_false, Bool.false_eq_true, true_iff, false_iff, iff_true, iff_false, not_and, not_or] at *); (first | omega | grind))))); done)))
def Zjq : Nat → List Nat
 | 0 => [0]
 | 1 => [2]
 | _ => []
theorem Zgo (args : Array Value) (w : World) : (callFunc 130 args).run Tryz.prog w = .ok (.enter 130 args) w := Zab Tryz.func130 (by decide) rfl args w
set_option maxHeartbeats 1000000 in
theorem Zl9 (k : Int) : Con Tryz.prog 130 [.i k] (.bool (ZdU k)) := by
 refine gCon Zjq Zad (rs := [.tmp 2]) (sl := [(0, .g (.i k))]) Tryz.func130 rfl Tryz.ntmps130 rfl Zgo rfl (by repeat constructor) ?_
 (repeat' (first | (with_reducible constructor) | exact Z2 | (with_reducible intro hc; (try simp only [HCs] at hc)) | exact OB_f | (with_reducible first | apply gNK | apply Zam | apply Zaf | apply Zas | apply Zav) | apply Zah Zad | apply gSel.ccons))
 (all_goals (first | (((refine Zao ?_; (try unfold ZdU); (first | rfl | (simp_all; done) | (rw [Bool.eq_iff_iff]; (try simp only [BOa, Bool.true_eq_false, Bool.false_eq_true, true_iff, false_iff, iff_true, iff_false, not_and, not_or] at *); (first | omega | grind))))); done)))
def Zh1 : Nat → List Nat
 | 0 => [2, 3]
 | 1 => [3, 28]
 | 2 => [4]
 | 3 => [4]
 | _ => []
theorem Zdi (args : Array Value) (w : World) : (callFunc 78 args).run Tryz.prog w = .ok (.enter 78 args) w := Zab Tryz.func78 (by decide) rfl args w
set_option maxHeartbeats 1000000 in
theorem Zlm (i o k : Int) (a b : List Int) (hs : HY (sigB i o = true)) : Con Tryz.prog 78 [.sig i o, .clause k a b] (.bool (ZbR (Zaa i o) k a b)) := by
 have hs := hs.e
 refine Con.fit Zdi fun hfit => ?_
 have hb_a : a.length ≤ 9223372036854775807 := GFits.ints (GFits.cell (show GFits (.clause k a b) from hfit 1 (ZL rfl)) (.tail _ (.head _)))
 have hb_b : b.length ≤ 9223372036854775807 := GFits.ints (GFits.cell (show GFits (.clause k a b) from hfit 1 (ZL rfl)) (.tail _ (.tail _ (.head _))))
 clear hfit
 refine gCon Zh1 Zad (rs := [.tmp 4]) (sl := [(0, .g (.sig i o)), (1, .g (.clause k a b))]) Tryz.func78 rfl Tryz.ntmps78 rfl Zdi rfl (by repeat constructor) ?_
 (repeat' (first | ((with_reducible apply gLB.cagg); (. exact RF.mk ⟨rfl, rfl, rfl⟩)) | ((with_reducible apply gLB.cone); (. exact RF.mk ⟨rfl, rfl⟩)) | (with_reducible constructor) | exact Z2 | exact NU.mk QC12 | exact ZS | exact ZF | ((with_reducible apply ZaA); first | apply ZaD | apply ZkE | apply Zj4) | (with_reducible intro hc; (try simp only [HCs] at hc)) | exact OB_f | exact ZK | (with_reducible first | apply gNK | apply Zam | apply Zaf | apply ZaC | apply Zai | apply CK_t | apply ZaR | apply Zar | apply Zas | apply Zav) | apply Zah Zad | apply ZaQ Zad rfl | apply gSel.ccons))
 (all_goals (first | (((refine Zao ?_; (rw [ZaW (by assumption)] at *); (try simp only [ZbR] at *); rw [Bool.eq_iff_iff]; (try simp only [BOa, Int.natCast_eq_zero, List.length_eq_zero_iff, Bool.true_eq_false, Bool.false_eq_true, true_iff, false_iff, iff_true, iff_false, true_and, and_true, false_and, and_false, not_and, not_or, Bool.not_eq_true, Bool.not_eq_false, Int.not_lt, Int.not_le] at *); first | done | omega | (simp_all; done) | grind)); done)))
def Zig : Nat → List Nat
 | 0 => [2, 3]
 | 1 => [2, 3, 14]
 | 2 => [4]
 | 3 => [3, 5]
 | 4 => [4]
 | _ => []
theorem Zdj (args : Array Value) (w : World) : (callFunc 104 args).run Tryz.prog w = .ok (.enter 104 args) w := Zab Tryz.func104 (by decide) rfl args w
set_option maxHeartbeats 1000000 in
theorem ZgI (i o k : Int) (a b : List Int) : Con Tryz.prog 104 [.sig i o, .clause k a b] (.bool (sigB i o && ZbR (Zaa i o) k a b)) := by
 refine Con.fit Zdj fun hfit => ?_
 have hb_a : a.length ≤ 9223372036854775807 := GFits.ints (GFits.cell (show GFits (.clause k a b) from hfit 1 (ZL rfl)) (.tail _ (.head _)))
 have hb_b : b.length ≤ 9223372036854775807 := GFits.ints (GFits.cell (show GFits (.clause k a b) from hfit 1 (ZL rfl)) (.tail _ (.tail _ (.head _))))
 clear hfit
 refine gCon Zig Zad (rs := [.tmp 4]) (sl := [(0, .g (.sig i o)), (1, .g (.clause k a b))]) Tryz.func104 rfl Tryz.ntmps104 rfl Zdj rfl (by repeat constructor) ?_
 (repeat' (first | ((with_reducible apply gLB.cagg); (. exact RF.mk ⟨rfl, rfl, rfl⟩)) | ((with_reducible apply gLB.cone); (. exact RF.mk ⟨rfl, rfl⟩)) | (with_reducible constructor) | exact Z2 | exact NU.mk QC11 | exact ZS | exact ZF | ((with_reducible apply ZaA); first | apply ZdW | apply Zd5 | apply Zdb | apply Zkl | apply Zl9) | (with_reducible intro hc; (try simp only [HCs] at hc)) | exact OB_f | (with_reducible first | apply gNK | apply Zam | apply Zaf | apply ZaC | apply Zai | apply CK_t | apply ZaR | apply Zar | apply Zas | apply Zav) | apply Zah Zad | apply gSel.ccons))
 (all_goals (first | (((refine Zao ?_; (try rw [Zkz (ZaE i o).1] at *); (try simp only [ZbR] at *); rw [Bool.eq_iff_iff]; (try simp only [BOa, Int.natCast_eq_zero, List.length_eq_zero_iff, Bool.true_eq_false, Bool.false_eq_true, true_iff, false_iff, iff_true, iff_false, true_and, and_true, false_and, and_false, not_and, not_or, Bool.not_eq_true, Bool.not_eq_false, Int.not_lt, Int.not_le] at *); first | done | omega | (simp_all; done) | grind)); done)))
end Go.Proofs.YtabfpoflhacknaaGreat

