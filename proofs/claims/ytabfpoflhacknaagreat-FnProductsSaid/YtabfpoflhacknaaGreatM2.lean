/- Contracts: clauses on words. No conditions but those that each theorem names. -/
import Derived.Test.YtabfpoflhacknaaGreatTab
import Derived.Test.YtabfpoflhacknaaGreatKG
import Derived.Test.YtabfpoflhacknaaGreatM1
import Derived.Test.YtabfpoflhacknaaGreatHM
import Derived.Test.YtabfpoflhacknaaGreatChecked
set_option linter.unusedSimpArgs false
set_option linter.unusedVariables false
namespace Go.Proofs.YtabfpoflhacknaaGreat
open Go.RowKit
open Shp
theorem QM20 {p : Prop} (h : p := by ((first | exact EQ.mk rfl | exact EQ.mk (by first | (simp; done) | fail) | (refine Zao ?_; cases p <;> simp_all; done)); done)) : p := h
def Zf7 : Nat → List Nat
 | 0 => [0, 1]
 | 1 => [0, 1, 7, 8]
 | 2 => [0, 1, 7, 8, 9]
 | 3 => [0, 1, 5, 7, 8]
 | 4 => [0, 1, 5, 7, 8, 16]
 | 5 => [4]
 | 6 => [0, 1, 7, 8]
 | 7 => [4]
 | _ => []
theorem Zcw (args : Array Value) (w : World) : (callFunc 82 args).run Tryz.prog w = .ok (.enter 82 args) w := Zab Tryz.func82 (by decide) rfl args w
set_option maxHeartbeats 1000000 in
theorem ZeB (xs : List (Int × List Int × List Int)) (f : FuncId) (caps : List GV) (p : Int × List Int × List Int → Bool) (hf : HY (∀ x : Int × List Int × List Int, Con Tryz.prog f (GV.clauseP x :: caps) (.bool (p x)))) : Con Tryz.prog 82 [.clauses xs, .fn f caps] (.i (ZcB xs.length fun i => p (nth xs i))) := by
 have hf := hf.e
 refine Con.fit Zcw fun hfit => ?_
 have hb_xs : xs.length ≤ 9223372036854775807 := GFits.lenm (show GFits (.clauses xs) from hfit 0 (ZL rfl))
 have hr_xs : ∀ r ∈ xs, r.2.1.length ≤ 9223372036854775807 ∧ r.2.2.length ≤ 9223372036854775807 := fun r hr => ⟨GFits.ints (GFits.cell (GFits.elm (show GFits (.clauses xs) from hfit 0 (ZL rfl)) r hr) (.tail _ (.head _))), GFits.ints (GFits.cell (GFits.elm (show GFits (.clauses xs) from hfit 0 (ZL rfl)) r hr) (.tail _ (.tail _ (.head _))))⟩
 clear hfit
 refine gCon Zf7 Zad (rs := [.tmp 4]) (sl := [(0, .g (.clauses xs)), (1, .g (.fn f caps))]) Tryz.func82 rfl Tryz.ntmps82 rfl Zcw rfl (by repeat constructor) ?_
 (repeat' (first | ((with_reducible apply gLI.cagg); (. exact RF.mk ⟨rfl, rfl, rfl⟩)) | (with_reducible constructor) | exact Z2 | exact ZN | exact ZS | ((with_reducible apply ZaA); first | (exact hf _)) | (with_reducible intro hc; (try simp only [HCs] at hc)) | exact OB_f | (with_reducible first | apply gNK | apply Zam | apply Zaf | apply Zaq | apply ZaC | apply Zai | apply ZaR | apply Zar | apply Zas | apply Zay | apply Zap | apply Zaw | apply Za3 | apply Zax | apply Za9 | apply Zav) | apply Zah Zad | (apply ZaF; exact RF.mk rfl) | (refine Zak (id := 0) (ι := Nat) (fun i => ⟨[(0, .g (.clauses xs)), (1, .g (.fn f caps)), (7, .g (.i xs.length)), (8, .g (.i i))], []⟩) (fun i => (i ≤ xs.length) ∧ (∀ z, z < i → (fun i => p (nth xs i)) z = false)) (fun i => xs.length - i) (0) ?_ ?_ ?_; (. (apply gLX0 <;> (repeat' (first | (with_reducible constructor) | exact Z5 | exact RF.mk (by decide) | (with_reducible apply Zae) | exact ZE)))); (. (exact ⟨by omega, Zcd⟩)); (rintro i ⟨h1, h2⟩; (show TX _ _ _ _ _ [(0, .g (.clauses xs)), (1, .g (.fn f caps)), (7, .g (.i xs.length)), (8, .g (.i i))] [] _))) | apply gSel.ccons))
 (all_goals (first | (refine ZaJ (i + 1) ?_ ?_ ?_; (· (apply gLX0 <;> (repeat' (first | (with_reducible constructor) | exact Z5 | exact RF.mk (by decide) | (with_reducible apply Zae) | exact ZE)))); (· ((refine ⟨by omega, Zcf h2 ?_⟩; ((try simp only [BOa] at *); (first | omega | assumption | grind))))); (· exact ZW)) | (((refine Zae (EQ.mk ?_); skip; first | exact Eq.symm (ZbW fun j hj => h2 j (by omega)) | (refine Eq.symm (Zbn i (by omega) ?_ h2); ((try simp only [BOa] at *); (first | omega | assumption | grind))))); done)))
def ZeU : Nat → List Nat
 | 0 => [0, 1]
 | 1 => [4]
 | _ => []
theorem Zb6 (args : Array Value) (w : World) : (callFunc 76 args).run Tryz.prog w = .ok (.enter 76 args) w := Zab Tryz.func76 (by decide) rfl args w
set_option maxHeartbeats 1000000 in
theorem Zf6 (xs : List (Int × List Int × List Int)) (f : FuncId) (caps : List GV) (p : Int × List Int × List Int → Bool) (hf : HY (∀ x : Int × List Int × List Int, Con Tryz.prog f (GV.clauseP x :: caps) (.bool (p x)))) : Con Tryz.prog 76 [.clauses xs, .fn f caps] (.bool (!allN xs.length fun i => !p (nth xs i))) := by
 have hf := hf.e
 refine Con.fit Zb6 fun hfit => ?_
 have hb_xs : xs.length ≤ 9223372036854775807 := GFits.lenm (show GFits (.clauses xs) from hfit 0 (ZL rfl))
 have hr_xs : ∀ r ∈ xs, r.2.1.length ≤ 9223372036854775807 ∧ r.2.2.length ≤ 9223372036854775807 := fun r hr => ⟨GFits.ints (GFits.cell (GFits.elm (show GFits (.clauses xs) from hfit 0 (ZL rfl)) r hr) (.tail _ (.head _))), GFits.ints (GFits.cell (GFits.elm (show GFits (.clauses xs) from hfit 0 (ZL rfl)) r hr) (.tail _ (.tail _ (.head _))))⟩
 clear hfit
 refine gCon ZeU Zad (rs := [.tmp 4]) (sl := [(0, .g (.clauses xs)), (1, .g (.fn f caps))]) Tryz.func76 rfl Tryz.ntmps76 rfl Zb6 rfl (by repeat constructor) ?_
 (repeat' (first | (with_reducible constructor) | exact Z2 | ((with_reducible apply ZaA); first | (exact ZeB xs f caps p (HY.mk hf))) | exact OB_f | (with_reducible first | apply gNK | apply Zam | apply Zaf | apply Zas | apply Zav) | apply Zah Zad | apply gSel.ccons))
 (all_goals (first | (((refine Zao ?_; exact firstN_ge)); done)))
def Ze3 : Nat → List Nat
 | 0 => [1, 2]
 | 1 => [3]
 | _ => []
theorem Zcc (args : Array Value) (w : World) : (callFunc 77 args).run Tryz.prog w = .ok (.enter 77 args) w := Zab Tryz.func77 (by decide) rfl args w
set_option maxHeartbeats 1000000 in
theorem Zg1 (i o k : Int) (a b : List Int) (hs : HY (sigB i o = true)) : Con Tryz.prog 77 [.clause k a b, .box [.i i, .i o]] (.bool (!ZbR (Zaa i o) k a b)) := by
 have hs := hs.e
 refine Con.fit Zcc fun hfit => ?_
 have hb_a : a.length ≤ 9223372036854775807 := GFits.ints (GFits.cell (show GFits (.clause k a b) from hfit 0 (ZL rfl)) (.tail _ (.head _)))
 have hb_b : b.length ≤ 9223372036854775807 := GFits.ints (GFits.cell (show GFits (.clause k a b) from hfit 0 (ZL rfl)) (.tail _ (.tail _ (.head _))))
 clear hfit
 refine gCon Ze3 Zad (rs := [.tmp 3]) (sl := [(0, .g (.clause k a b)), (1, .g (.box [.i i, .i o]))]) Tryz.func77 rfl Tryz.ntmps77 rfl Zcc rfl (by repeat constructor) ?_
 (repeat' (first | ((with_reducible apply gLB.cagg); (. exact RF.mk ⟨rfl, rfl, rfl⟩)) | ((with_reducible apply gLI.cagg); (. exact RF.mk ⟨rfl, rfl, rfl⟩)) | (with_reducible constructor) | exact Z2 | exact ZN | ((with_reducible apply ZaA); first | apply Zlm) | exact OB_f | (with_reducible first | apply gNK | apply Zam | apply Zaf | apply Zas) | apply Zah Zad | apply gSel.ccons))
 (all_goals (first | (((exact EQ.mk rfl)); done)))
def Zgs : Nat → List Nat
 | 0 => [1, 2]
 | 1 => [4]
 | _ => []
theorem ZcT (args : Array Value) (w : World) : (callFunc 41 args).run Tryz.prog w = .ok (.enter 41 args) w := Zab Tryz.func41 (by decide) rfl args w
set_option maxHeartbeats 1000000 in
theorem Ze8 (i o : Int) (cs : List (Int × List Int × List Int)) (hs : HY (sigB i o = true)) : Con Tryz.prog 41 [.sig i o, .clauses cs] (.bool (decide (cs.length ≤ 3) && allN cs.length (ZcV (Zaa i o) cs))) := by
 have hs := hs.e
 refine Con.fit ZcT fun hfit => ?_
 have hb_cs : cs.length ≤ 9223372036854775807 := GFits.lenm (show GFits (.clauses cs) from hfit 1 (ZL rfl))
 have hr_cs : ∀ r ∈ cs, r.2.1.length ≤ 9223372036854775807 ∧ r.2.2.length ≤ 9223372036854775807 := fun r hr => ⟨GFits.ints (GFits.cell (GFits.elm (show GFits (.clauses cs) from hfit 1 (ZL rfl)) r hr) (.tail _ (.head _))), GFits.ints (GFits.cell (GFits.elm (show GFits (.clauses cs) from hfit 1 (ZL rfl)) r hr) (.tail _ (.tail _ (.head _))))⟩
 clear hfit
 refine gCon Zgs Zad (rs := [.tmp 4]) (sl := [(0, .g (.sig i o)), (1, .g (.clauses cs))]) Tryz.func41 rfl Tryz.ntmps41 rfl ZcT rfl (by repeat constructor) ?_
 (repeat' (first | (with_reducible constructor) | exact Z2 | exact ZS | ((with_reducible apply ZaA); first | (exact Zf6 cs 77 [.box [.i i, .i o]] (fun x => !ZbR (Zaa i o) x.1 x.2.1 x.2.2) (HY.mk fun x => Zg1 i o x.1 x.2.1 x.2.2 (HY.mk hs)))) | (with_reducible intro hc; (try simp only [HCs] at hc)) | exact OB_f | (with_reducible first | apply gNK | apply Zam | apply Zaf | apply Zas | apply Zav) | apply Zah Zad | apply gSel.ccons))
 (all_goals (first | (((refine Zao ?_; (try simp only [Bool.not_not]); first | (rw [decide_eq_true (by omega)]; rfl) | (rw [decide_eq_false (by omega)]; rfl))); done)))
def Zhd : Nat → List Nat
 | 0 => [1, 2]
 | 1 => [1, 2, 13]
 | 2 => [4]
 | 3 => [1, 2, 5]
 | 4 => [1, 2, 5, 17]
 | 5 => [1, 2, 5]
 | 6 => [1, 2, 5, 26]
 | 7 => [4]
 | 8 => [4]
 | _ => []
theorem Zc2 (args : Array Value) (w : World) : (callFunc 80 args).run Tryz.prog w = .ok (.enter 80 args) w := Zab Tryz.func80 (by decide) rfl args w
set_option maxHeartbeats 1000000 in
theorem ZjV (i o : Int) (cs : List (Int × List Int × List Int)) : Con Tryz.prog 80 [.sig i o, .clauses cs] (.bool (ZaB i o cs)) := by
 refine Con.fit Zc2 fun hfit => ?_
 have hb_cs : cs.length ≤ 9223372036854775807 := GFits.lenm (show GFits (.clauses cs) from hfit 1 (ZL rfl))
 have hr_cs : ∀ r ∈ cs, r.2.1.length ≤ 9223372036854775807 ∧ r.2.2.length ≤ 9223372036854775807 := fun r hr => ⟨GFits.ints (GFits.cell (GFits.elm (show GFits (.clauses cs) from hfit 1 (ZL rfl)) r hr) (.tail _ (.head _))), GFits.ints (GFits.cell (GFits.elm (show GFits (.clauses cs) from hfit 1 (ZL rfl)) r hr) (.tail _ (.tail _ (.head _))))⟩
 clear hfit
 refine gCon Zhd Zad (rs := [.tmp 4]) (sl := [(0, .g (.sig i o)), (1, .g (.clauses cs))]) Tryz.func80 rfl Tryz.ntmps80 rfl Zc2 rfl (by repeat constructor) ?_
 (repeat' (first | ((with_reducible apply gLB.cagg); (. exact RF.mk ⟨rfl, rfl, rfl⟩)) | ((with_reducible apply gLI.cagg); (. exact RF.mk ⟨rfl, rfl, rfl⟩)) | (with_reducible constructor) | exact Z2 | exact ZN | exact ZS | ((with_reducible apply ZaA); first | apply Zd5 | apply ZgI) | (with_reducible intro hc; (try simp only [HCs] at hc)) | exact OB_f | exact ZK | (with_reducible first | apply gNK | apply Zam | apply Zaf | apply Zaq | apply ZaC | apply Zai | apply CK_t | apply ZaR | apply Zar | apply Zas | apply Zay | apply Zap | apply Zaw | apply Za3 | apply Zax | apply Za9 | apply Zav) | apply Zah Zad | apply ZaQ Zad rfl | (apply ZaF; exact RF.mk rfl) | (refine Zak (id := 0) (ι := Nat) (fun j => ⟨[(1, .g (.clauses cs)), (2, .ptr 0 0), (5, .g (.i j))], [(0, .box [.g (.i i), .g (.i o)])]⟩) (fun j => (j ≤ cs.length) ∧ (∀ z, z < j → (ZcV (Zaa i o) cs) z = true)) (fun j => cs.length - j) (0) ?_ ?_ ?_; (. (apply gLX1 <;> (repeat' (first | (with_reducible constructor) | exact Z5 | exact RF.mk (by decide) | (with_reducible apply Zae) | exact ZE)))); (. (exact ⟨by omega, Zba⟩)); (rintro j ⟨h1, h2⟩; (show TX _ _ _ _ _ [(1, .g (.clauses cs)), (2, .ptr 0 0), (5, .g (.i j))] [(0, .box [.g (.i i), .g (.i o)])] _))) | apply gSel.ccons))
 (all_goals (first | (refine ZaJ (j + 1) ?_ ?_ ?_; (· (apply gLX1 <;> (repeat' (first | (with_reducible constructor) | exact Z5 | exact RF.mk (by decide) | (with_reducible apply Zae) | exact ZE)))); (· ((refine ⟨by omega, Zbc h2 ?_⟩; unfold ZcV; simp_all))); (· exact ZW)) | (((refine Zao ?_; unfold ZaB; first | (rw [ZaS (fun j hj => h2 j (by omega))]; (rw [Bool.eq_iff_iff]; (try simp only [BOa, Int.natCast_eq_zero, List.length_eq_zero_iff, Bool.true_eq_false, Bool.false_eq_true, true_iff, false_iff, iff_true, iff_false, true_and, and_true, false_and, and_false, not_and, not_or, Bool.not_eq_true, Bool.not_eq_false, Int.not_lt, Int.not_le] at *); first | done | omega | (simp_all; done) | grind)) | (rw [ZaM j (by omega) (by unfold ZcV; simp_all)]; simp; done) | (rw [Bool.eq_iff_iff]; (try simp only [BOa, Int.natCast_eq_zero, List.length_eq_zero_iff, Bool.true_eq_false, Bool.false_eq_true, true_iff, false_iff, iff_true, iff_false, true_and, and_true, false_and, and_false, not_and, not_or, Bool.not_eq_true, Bool.not_eq_false, Int.not_lt, Int.not_le] at *); first | done | omega | (simp_all; done) | grind))); done)))
def Zjc : Nat → List Nat
 | 0 => [0, 1]
 | 1 => [0, 1, 7, 8]
 | 2 => [0, 1, 7, 8, 9]
 | 3 => [0, 1, 5, 7, 8]
 | 4 => [0, 1, 5, 7, 8, 16]
 | 5 => [4]
 | 6 => [0, 1, 7, 8]
 | 7 => [4]
 | _ => []
theorem ZdI (args : Array Value) (w : World) : (callFunc 43 args).run Tryz.prog w = .ok (.enter 43 args) w := Zab Tryz.func43 (by decide) rfl args w
set_option maxHeartbeats 1000000 in
theorem ZhM (xs : List Int) (x : Int) : Con Tryz.prog 43 [.ints xs, .i x] (.i (Za5 xs x)) := by
 refine Con.fit ZdI fun hfit => ?_
 have hb_xs : xs.length ≤ 9223372036854775807 := GFits.ints (show GFits (.ints xs) from hfit 0 (ZL rfl))
 clear hfit
 refine gCon Zjc Zad (rs := [.tmp 4]) (sl := [(0, .g (.ints xs)), (1, .g (.i x))]) Tryz.func43 rfl Tryz.ntmps43 rfl ZdI rfl (by repeat constructor) ?_
 (repeat' (first | ((with_reducible apply gLI.cone); (. exact RF.mk ⟨rfl, rfl⟩)) | (with_reducible constructor) | exact Z2 | exact ZN | exact ZS | (with_reducible intro hc; (try simp only [HCs] at hc)) | exact OB_f | (with_reducible first | apply gNK | apply Zam | apply Zaf | apply Zaq | apply ZaC | apply Zai | apply ZaR | apply Zar | apply Zas | apply Zay | apply Zap | apply Zaw | apply Za3 | apply Zax | apply Za9 | apply Zav) | apply Zah Zad | (apply ZaF; exact RF.mk rfl) | (refine Zak (id := 0) (ι := Nat) (fun i => ⟨[(0, .g (.ints xs)), (1, .g (.i x)), (7, .g (.i xs.length)), (8, .g (.i i))], []⟩) (fun i => (i ≤ xs.length) ∧ (∀ z, z < i → (fun i => nth xs i == x) z = false)) (fun i => xs.length - i) (0) ?_ ?_ ?_; (. (apply gLX0 <;> (repeat' (first | (with_reducible constructor) | exact Z5 | exact RF.mk (by decide) | (with_reducible apply Zae) | exact ZE)))); (. (exact ⟨by omega, Zcd⟩)); (rintro i ⟨h1, h2⟩; (show TX _ _ _ _ _ [(0, .g (.ints xs)), (1, .g (.i x)), (7, .g (.i xs.length)), (8, .g (.i i))] [] _))) | apply gSel.ccons))
 (all_goals (first | (refine ZaJ (i + 1) ?_ ?_ ?_; (· (apply gLX0 <;> (repeat' (first | (with_reducible constructor) | exact Z5 | exact RF.mk (by decide) | (with_reducible apply Zae) | exact ZE)))); (· ((refine ⟨by omega, Zcf h2 ?_⟩; ((try simp only [BOa] at *); (first | omega | assumption | grind))))); (· exact ZW)) | (((refine Zae (EQ.mk ?_); (try unfold Za5); first | exact Eq.symm (ZbW fun j hj => h2 j (by omega)) | (refine Eq.symm (Zbn i (by omega) ?_ h2); ((try simp only [BOa] at *); (first | omega | assumption | grind))))); done)))
def Zg2 : Nat → List Nat
 | 0 => [0, 1]
 | 1 => [4]
 | _ => []
theorem ZcS (args : Array Value) (w : World) : (callFunc 58 args).run Tryz.prog w = .ok (.enter 58 args) w := Zab Tryz.func58 (by decide) rfl args w
set_option maxHeartbeats 1000000 in
theorem Zaz (xs : List Int) (x : Int) : Con Tryz.prog 58 [.ints xs, .i x] (.bool (has xs x)) := by
 refine Con.fit ZcS fun hfit => ?_
 have hb_xs : xs.length ≤ 9223372036854775807 := GFits.ints (show GFits (.ints xs) from hfit 0 (ZL rfl))
 clear hfit
 refine gCon Zg2 Zad (rs := [.tmp 4]) (sl := [(0, .g (.ints xs)), (1, .g (.i x))]) Tryz.func58 rfl Tryz.ntmps58 rfl ZcS rfl (by repeat constructor) ?_
 (repeat' (first | (with_reducible constructor) | exact Z2 | ((with_reducible apply ZaA); first | apply ZhM) | exact OB_f | (with_reducible first | apply gNK | apply Zam | apply Zaf | apply Zas | apply Zav) | apply Zah Zad | apply gSel.ccons))
 (all_goals (first | (((refine Zao ?_; exact firstN_ge)); done)))
def ZiK : Nat → List Nat
 | 0 => [0, 1]
 | 1 => [0, 1, 5]
 | 2 => [0, 1, 5, 9]
 | 3 => [0, 1, 5]
 | 4 => [0, 1, 5, 17]
 | 5 => [4]
 | 6 => [4]
 | _ => []
theorem ZdB (args : Array Value) (w : World) : (callFunc 108 args).run Tryz.prog w = .ok (.enter 108 args) w := Zab Tryz.func108 (by decide) rfl args w
set_option maxHeartbeats 1000000 in
theorem ZhV (xs a : List Int) : Con Tryz.prog 108 [.ints xs, .ints a] (.bool (Zcg xs a)) := by
 refine Con.fit ZdB fun hfit => ?_
 have hb_xs : xs.length ≤ 9223372036854775807 := GFits.ints (show GFits (.ints xs) from hfit 0 (ZL rfl))
 have hb_a : a.length ≤ 9223372036854775807 := GFits.ints (show GFits (.ints a) from hfit 1 (ZL rfl))
 clear hfit
 refine gCon ZiK Zad (rs := [.tmp 4]) (sl := [(0, .g (.ints xs)), (1, .g (.ints a))]) Tryz.func108 rfl Tryz.ntmps108 rfl ZdB rfl (by repeat constructor) ?_
 (repeat' (first | ((with_reducible apply gLI.cone); (. exact RF.mk ⟨rfl, rfl⟩)) | (with_reducible constructor) | exact Z2 | exact ZN | exact ZS | ((with_reducible apply ZaA); first | apply Zd1) | (with_reducible intro hc; (try simp only [HCs] at hc)) | exact OB_f | (with_reducible first | apply gNK | apply Zam | apply Zaf | apply Zaq | apply ZaC | apply Zai | apply ZaR | apply Zar | apply Zas | apply Zay | apply Zap | apply Zaw | apply Za3 | apply Zax | apply Za9 | apply Zav) | apply Zah Zad | (apply ZaF; exact RF.mk rfl) | (refine Zak (id := 0) (ι := Nat) (fun i => ⟨[(0, .g (.ints xs)), (1, .g (.ints a)), (5, .g (.i i))], []⟩) (fun i => (i ≤ xs.length) ∧ (∀ z, z < i → (fun i => !has a (nth xs i)) z = true)) (fun i => xs.length - i) (0) ?_ ?_ ?_; (. (apply gLX0 <;> (repeat' (first | (with_reducible constructor) | exact Z5 | exact RF.mk (by decide) | (with_reducible apply Zae) | exact ZE)))); (. (exact ⟨by omega, Zba⟩)); (rintro i ⟨h1, h2⟩; (show TX _ _ _ _ _ [(0, .g (.ints xs)), (1, .g (.ints a)), (5, .g (.i i))] [] _))) | apply gSel.ccons))
 (all_goals (first | (refine ZaJ (i + 1) ?_ ?_ ?_; (· (apply gLX0 <;> (repeat' (first | (with_reducible constructor) | exact Z5 | exact RF.mk (by decide) | (with_reducible apply Zae) | exact ZE)))); (· ((refine ⟨by omega, Zbc h2 ?_⟩; ((try simp only [BOa] at *); (first | omega | assumption | grind))))); (· exact ZW)) | (((first | (refine Zao ?_; (try unfold Zcg); first | rfl | exact Eq.symm (ZaS fun j hj => h2 j (by omega)) | (refine Eq.symm (ZaM i (by omega) ?_); ((try simp only [BOa] at *); (first | omega | assumption | grind))) | exact Eq.symm (Zcb fun j hj => h2 j (by omega)) | (refine Eq.symm (ZcD i (by omega) ?_); ((try simp only [BOa] at *); (first | omega | assumption | grind))) | ((try simp only [BOa] at *); (first | omega | assumption | grind))))); done)))
def Zja : Nat → List Nat
 | 0 => [0, 1]
 | 1 => [0, 1, 5]
 | 2 => [0, 1, 5, 9]
 | 3 => [0, 1, 5]
 | 4 => [0, 1, 5, 18]
 | 5 => [4]
 | 6 => [4]
 | _ => []
theorem ZdQ (args : Array Value) (w : World) : (callFunc 105 args).run Tryz.prog w = .ok (.enter 105 args) w := Zab Tryz.func105 (by decide) rfl args w
set_option maxHeartbeats 1000000 in
theorem Zm9 (xs a : List Int) : Con Tryz.prog 105 [.ints xs, .ints a] (.bool (ZjZ xs a)) := by
 refine Con.fit ZdQ fun hfit => ?_
 have hb_xs : xs.length ≤ 9223372036854775807 := GFits.ints (show GFits (.ints xs) from hfit 0 (ZL rfl))
 have hb_a : a.length ≤ 9223372036854775807 := GFits.ints (show GFits (.ints a) from hfit 1 (ZL rfl))
 clear hfit
 refine gCon Zja Zad (rs := [.tmp 4]) (sl := [(0, .g (.ints xs)), (1, .g (.ints a))]) Tryz.func105 rfl Tryz.ntmps105 rfl ZdQ rfl (by repeat constructor) ?_
 (repeat' (first | ((with_reducible apply gLI.cone); (. exact RF.mk ⟨rfl, rfl⟩)) | (with_reducible constructor) | exact Z2 | exact ZN | exact ZS | ((with_reducible apply ZaA); first | apply Zd1) | (with_reducible intro hc; (try simp only [HCs] at hc)) | exact OB_f | (with_reducible first | apply gNK | apply Zam | apply Zaf | apply Zaq | apply ZaC | apply Zai | apply ZaR | apply Zar | apply Zas | apply Zay | apply Zap | apply Zaw | apply Za3 | apply Zax | apply Za9 | apply Zav) | apply Zah Zad | (apply ZaF; exact RF.mk rfl) | (refine Zak (id := 0) (ι := Nat) (fun i => ⟨[(0, .g (.ints xs)), (1, .g (.ints a)), (5, .g (.i i))], []⟩) (fun i => (i ≤ xs.length) ∧ (∀ z, z < i → (fun i => has a (nth xs i)) z = true)) (fun i => xs.length - i) (0) ?_ ?_ ?_; (. (apply gLX0 <;> (repeat' (first | (with_reducible constructor) | exact Z5 | exact RF.mk (by decide) | (with_reducible apply Zae) | exact ZE)))); (. (exact ⟨by omega, Zba⟩)); (rintro i ⟨h1, h2⟩; (show TX _ _ _ _ _ [(0, .g (.ints xs)), (1, .g (.ints a)), (5, .g (.i i))] [] _))) | apply gSel.ccons))
 (all_goals (first | (refine ZaJ (i + 1) ?_ ?_ ?_; (· (apply gLX0 <;> (repeat' (first | (with_reducible constructor) | exact Z5 | exact RF.mk (by decide) | (with_reducible apply Zae) | exact ZE)))); (· ((refine ⟨by omega, Zbc h2 ?_⟩; ((try simp only [BOa] at *); (first | omega | assumption | grind))))); (· exact ZW)) | (((first | (refine Zao ?_; (try unfold ZjZ); first | rfl | exact Eq.symm (ZaS fun j hj => h2 j (by omega)) | (refine Eq.symm (ZaM i (by omega) ?_); ((try simp only [BOa] at *); (first | omega | assumption | grind))) | exact Eq.symm (Zcb fun j hj => h2 j (by omega)) | (refine Eq.symm (ZcD i (by omega) ?_); ((try simp only [BOa] at *); (first | omega | assumption | grind))) | ((try simp only [BOa] at *); (first | omega | assumption | grind))))); done)))
def Zi0 : Nat → List Nat
 | 0 => [1, 2, 3]
 | 1 => [1, 2, 3, 7]
 | 2 => [1, 2, 3, 7, 12]
 | 3 => [1, 2, 3, 7]
 | 4 => [1, 2, 3, 7, 8]
 | 5 => [1, 2, 3, 7, 8, 20]
 | 6 => [1, 2, 3, 7, 8]
 | 7 => [1, 2, 3, 7, 39]
 | 8 => [6]
 | 9 => [6]
 | _ => []
theorem ZdE (args : Array Value) (w : World) : (callFunc 106 args).run Tryz.prog w = .ok (.enter 106 args) w := Zab Tryz.func106 (by decide) rfl args w
set_option maxHeartbeats 1000000 in
theorem ZmD (k : Int) (a b all : List Int) (back : Nat) (hb : NU (back < all.length ∨ all.length = 0)) : Con Tryz.prog 106 [.clause k a b, .ints all, .i back] (.bool (Zk0 all back a b)) := by
 have hb := hb.e
 refine Con.fit ZdE fun hfit => ?_
 have hb_a : a.length ≤ 9223372036854775807 := GFits.ints (GFits.cell (show GFits (.clause k a b) from hfit 0 (ZL rfl)) (.tail _ (.head _)))
 have hb_b : b.length ≤ 9223372036854775807 := GFits.ints (GFits.cell (show GFits (.clause k a b) from hfit 0 (ZL rfl)) (.tail _ (.tail _ (.head _))))
 have hb_all : all.length ≤ 9223372036854775807 := GFits.ints (show GFits (.ints all) from hfit 1 (ZL rfl))
 clear hfit
 refine gCon Zi0 Zad (rs := [.tmp 6]) (sl := [(0, .g (.clause k a b)), (1, .g (.ints all)), (2, .g (.i back))]) Tryz.func106 rfl Tryz.ntmps106 rfl ZdE rfl (by repeat constructor) ?_
 (repeat' (first | ((with_reducible apply gLB.cone); (. exact RF.mk ⟨rfl, rfl⟩)) | ((with_reducible apply gLI.cone); (. exact RF.mk ⟨rfl, rfl⟩)) | (with_reducible constructor) | exact Z2 | exact ZN | exact ZS | exact ZF | ((with_reducible apply ZaA); first | apply Zd1) | (with_reducible intro hc; (try simp only [HCs] at hc)) | exact OB_f | exact ZK | (with_reducible first | apply gNK | apply Zam | apply Zaf | apply Zaq | apply ZaC | apply Zai | apply CK_f | apply ZaR | apply Zar | apply Zas | apply Zay | apply Zap | apply Zaw | apply Za3 | apply Zax | apply Za9 | apply Zav) | apply Zah Zad | apply ZaQ Zad rfl | (apply ZaF; exact RF.mk rfl) | (refine Zak (id := 0) (ι := Nat) (fun j => ⟨[(1, .g (.ints all)), (2, .g (.i back)), (3, .ptr 0 0), (7, .g (.i j))], [(0, .box [.g (.i k), .g (.ints a), .g (.ints b)])]⟩) (fun j => (j ≤ all.length) ∧ (∀ z, z < j → (Zhl all back a b) z = true)) (fun j => all.length - j) (0) ?_ ?_ ?_; (. (apply gLX1 <;> (repeat' (first | (with_reducible constructor) | exact Z5 | exact RF.mk (by decide) | (with_reducible apply Zae) | exact ZE)))); (. (exact ⟨by omega, Zba⟩)); (rintro j ⟨h1, h2⟩; (show TX _ _ _ _ _ [(1, .g (.ints all)), (2, .g (.i back)), (3, .ptr 0 0), (7, .g (.i j))] [(0, .box [.g (.i k), .g (.ints a), .g (.ints b)])] _))) | apply gSel.ccons))
 (all_goals (first | (refine ZaJ (j + 1) ?_ ?_ ?_; (· (apply gLX1 <;> (repeat' (first | (with_reducible constructor) | exact Z5 | exact RF.mk (by decide) | (with_reducible apply Zae) | exact ZE)))); (· ((refine ⟨by omega, Zbc h2 ?_⟩; unfold Zhl; first | (rw [if_pos (by omega)]; simp_all; done) | (rw [if_neg (by omega)]; simp_all; done)))); (· exact ZW)) | (((refine Zao ?_; unfold Zk0; first | (rw [ZaS (fun j hj => h2 j (by omega))]) | (rw [ZaM j (by omega) (by unfold Zhl; first | (rw [if_pos (by omega)]; simp_all; done) | (rw [if_neg (by omega)]; simp_all; done))]))); done)))
def Zht : Nat → List Nat
 | 0 => [2, 3, 4]
 | 1 => [2, 3, 12]
 | 2 => [6]
 | 3 => [2, 3, 7]
 | 4 => [2, 3, 7, 16]
 | 5 => [2, 3, 7]
 | 6 => [2, 3, 7, 34]
 | 7 => [6]
 | 8 => [6]
 | _ => []
theorem Zc1 (args : Array Value) (w : World) : (callFunc 107 args).run Tryz.prog w = .ok (.enter 107 args) w := Zab Tryz.func107 (by decide) rfl args w
set_option maxHeartbeats 1000000 in
theorem ZjS (k : Int) (a b s l : List Int) (all : List Int) (ha : HY (all = s ++ l)) : Con Tryz.prog 107 [.clause k a b, .word s l, .ints all] (.bool (ansH s l a b)) := by
 have ha := ha.e
 refine Con.fit Zc1 fun hfit => ?_
 have hb_a : a.length ≤ 9223372036854775807 := GFits.ints (GFits.cell (show GFits (.clause k a b) from hfit 0 (ZL rfl)) (.tail _ (.head _)))
 have hb_b : b.length ≤ 9223372036854775807 := GFits.ints (GFits.cell (show GFits (.clause k a b) from hfit 0 (ZL rfl)) (.tail _ (.tail _ (.head _))))
 have hb_s : s.length ≤ 9223372036854775807 := GFits.ints (GFits.cell (show GFits (.word s l) from hfit 1 (ZL rfl)) (.head _))
 have hb_l : l.length ≤ 9223372036854775807 := GFits.ints (GFits.cell (show GFits (.word s l) from hfit 1 (ZL rfl)) (.tail _ (.head _)))
 have hb_all : all.length ≤ 9223372036854775807 := GFits.ints (show GFits (.ints all) from hfit 2 (ZL rfl))
 clear hfit
 refine gCon Zht Zad (rs := [.tmp 6]) (sl := [(0, .g (.clause k a b)), (1, .g (.word s l)), (2, .g (.ints all))]) Tryz.func107 rfl Tryz.ntmps107 rfl Zc1 rfl (by repeat constructor) ?_
 (repeat' (first | ((with_reducible apply gLB.cone); (. exact RF.mk ⟨rfl, rfl⟩)) | ((with_reducible apply gLI.cone); (. exact RF.mk ⟨rfl, rfl⟩)) | (with_reducible constructor) | exact Z2 | exact ZN | exact ZS | exact ZF | exact ZU | ((with_reducible apply ZaA); first | apply Zd1 | apply ZhV) | (with_reducible intro hc; (try simp only [HCs] at hc)) | exact OB_f | exact ZK | (with_reducible first | apply gNK | apply Zam | apply Zaf | apply Zaq | apply ZaC | apply Zai | apply CK_f | apply ZaR | apply Zar | apply Zas | apply Zay | apply Zap | apply Zaw | apply Za3 | apply Zax | apply Za9 | apply Zav) | apply Zah Zad | apply ZaQ Zad rfl | (apply ZaF; exact RF.mk rfl) | (refine Zak (id := 0) (ι := Nat) (fun j => ⟨[(2, .g (.ints all)), (3, .ptr 0 0), (7, .g (.i j))], [(0, .box [.g (.i k), .g (.ints a), .g (.ints b)])]⟩) (fun j => (j ≤ all.length) ∧ (∀ z, z < j → (ZgR all a b) z = true)) (fun j => all.length - j) (0) ?_ ?_ ?_; (. (apply gLX1 <;> (repeat' (first | (with_reducible constructor) | exact Z5 | exact RF.mk (by decide) | (with_reducible apply Zae) | exact ZE)))); (. (exact ⟨by omega, Zba⟩)); (rintro j ⟨h1, h2⟩; (show TX _ _ _ _ _ [(2, .g (.ints all)), (3, .ptr 0 0), (7, .g (.i j))] [(0, .box [.g (.i k), .g (.ints a), .g (.ints b)])] _))) | apply gSel.ccons))
 (all_goals (first | (refine ZaJ (j + 1) ?_ ?_ ?_; (· (apply gLX1 <;> (repeat' (first | (with_reducible constructor) | exact Z5 | exact RF.mk (by decide) | (with_reducible apply Zae) | exact ZE)))); (· ((refine ⟨by omega, Zbc h2 ?_⟩; unfold ZgR; (try simp only [Int.toNat_natCast, Nat.zero_add, Nat.add_zero, Int.toNat_sub, Int.pred_toNat, Int.toNat_zero, Int.natCast_zero, Nat.sub_zero, Int.sub_zero, ← Int.natCast_emod, Int.natCast_eq_zero] at *); simp_all))); (· exact ZW)) | (((refine Zao ?_; unfold ansH; rw [← ha]; first | (rw [ZaS (fun j hj => h2 j (by omega))]; simp_all; done) | (rw [ZaM j (by omega) (by unfold ZgR; (try simp only [Int.toNat_natCast, Nat.zero_add, Nat.add_zero, Int.toNat_sub, Int.pred_toNat, Int.toNat_zero, Int.natCast_zero, Nat.sub_zero, Int.sub_zero, ← Int.natCast_emod, Int.natCast_eq_zero] at *); simp_all)]; simp_all; done) | (simp_all; done))); done)))
def Zi5 : Nat → List Nat
 | 0 => [3, 4, 5]
 | 1 => [4, 5, 17]
 | 2 => [6]
 | 3 => [4, 5, 7]
 | 4 => [4, 5, 7, 25]
 | 5 => [4, 5, 7, 25, 26]
 | 6 => [6]
 | 7 => [4, 5, 7, 25, 32]
 | 8 => [6]
 | 9 => [4, 5, 7, 25, 40]
 | 10 => [6]
 | 11 => [4, 5, 7, 25, 46]
 | 12 => [6]
 | 13 => [4, 5, 7, 25, 53]
 | 14 => [6]
 | 15 => [4, 5, 7, 60]
 | 16 => [6]
 | 17 => [6]
 | _ => []
theorem ZdL (args : Array Value) (w : World) : (callFunc 81 args).run Tryz.prog w = .ok (.enter 81 args) w := Zab Tryz.func81 (by decide) rfl args w
set_option maxHeartbeats 1000000 in
theorem Zmq (i o k : Int) (a b s l : List Int) : Con Tryz.prog 81 [.sig i o, .clause k a b, .word s l] (.bool (ZgN i o k a b s l)) := by
 refine Con.fit ZdL fun hfit => ?_
 have hb_a : a.length ≤ 9223372036854775807 := GFits.ints (GFits.cell (show GFits (.clause k a b) from hfit 1 (ZL rfl)) (.tail _ (.head _)))
 have hb_b : b.length ≤ 9223372036854775807 := GFits.ints (GFits.cell (show GFits (.clause k a b) from hfit 1 (ZL rfl)) (.tail _ (.tail _ (.head _))))
 have hb_s : s.length ≤ 9223372036854775807 := GFits.ints (GFits.cell (show GFits (.word s l) from hfit 2 (ZL rfl)) (.head _))
 have hb_l : l.length ≤ 9223372036854775807 := GFits.ints (GFits.cell (show GFits (.word s l) from hfit 2 (ZL rfl)) (.tail _ (.head _)))
 clear hfit
 have hw : ZaI s l (Zaa i o) = true → 1 ≤ l.length ∧ l.length ≤ 600 ∧ s.length ≤ 600 := ZfY
 refine gCon Zi5 Zad (rs := [.tmp 6]) (sl := [(0, .g (.sig i o)), (1, .g (.clause k a b)), (2, .g (.word s l))]) Tryz.func81 rfl Tryz.ntmps81 rfl ZdL rfl (by repeat constructor) ?_
 (repeat' (first | ((with_reducible apply gLB.cagg); (. exact RF.mk ⟨rfl, rfl, rfl⟩)) | ((with_reducible apply gLB.cone); (. exact RF.mk ⟨rfl, rfl⟩)) | (with_reducible constructor) | exact Z2 | exact NU.mk (by first | exact ZO | (first | omega | (have q := hw (by first | (simp_all; done) | fail); omega) | (have q := hw (by first | (simp_all; done) | fail); simp only [List.length_append]; omega))) | exact ZS | exact ZF | exact ZC | ((with_reducible apply ZaA); first | apply Zer | apply Zgb | apply ZgI | apply Zm9 | apply ZmD | apply ZjS | apply ZhV) | (with_reducible intro hc; (try simp only [HCs] at hc)) | exact OB_f | exact ZK | (with_reducible first | apply gNK | apply Zam | apply Zaf | apply ZaC | apply Zai | apply CK_t | apply ZaR | apply Zar | apply Zas | apply Zaw | apply Za3 | apply Zav) | apply Zah Zad | apply ZaQ Zad rfl | (apply ZaF; exact RF.mk rfl) | apply gSel.ccons))
 (all_goals (first | (((refine Zao ?_; unfold ZgN Zb7; first | (simp_all; done) | (rcases hc with hc | hc <;> simp_all; done))); done)))
def Zgp : Nat → List Nat
 | 0 => [0, 1]
 | 1 => [3]
 | _ => []
theorem Zfa (args : Array Value) (w : World) : (callFunc 109 args).run Tryz.prog w = .ok (.enter 109 args) w := Zab Tryz.func109 (by decide) rfl args w
set_option maxHeartbeats 1000000 in
theorem Zde (x k : Int) (a b : List Int) : Con Tryz.prog 109 [.i x, .box [.i k, .ints a, .ints b]] (.bool (has a x)) := by
 refine gCon Zgp Zad (rs := [.tmp 3]) (sl := [(0, .g (.i x)), (1, .g (.box [.i k, .ints a, .ints b]))]) Tryz.func109 rfl Tryz.ntmps109 rfl Zfa rfl (by repeat constructor) ?_
 (repeat' (first | ((with_reducible apply gLI.cone); (. exact RF.mk ⟨rfl, rfl⟩)) | (with_reducible constructor) | exact Z2 | exact ZF | ((with_reducible apply ZaA); first | apply Zaz) | exact OB_f | (with_reducible first | apply gNK | apply Zam | apply Zaf | apply Zas) | apply Zah Zad | apply gSel.ccons))
 (all_goals (first | (((exact EQ.mk rfl)); done)))
def ZgS : Nat → List Nat
 | 0 => [0, 1]
 | 1 => [3]
 | _ => []
theorem Zfh (args : Array Value) (w : World) : (callFunc 110 args).run Tryz.prog w = .ok (.enter 110 args) w := Zab Tryz.func110 (by decide) rfl args w
set_option maxHeartbeats 1000000 in
theorem ZeX (x k : Int) (a b : List Int) : Con Tryz.prog 110 [.i x, .box [.i k, .ints a, .ints b]] (.bool (has b x)) := by
 refine gCon ZgS Zad (rs := [.tmp 3]) (sl := [(0, .g (.i x)), (1, .g (.box [.i k, .ints a, .ints b]))]) Tryz.func110 rfl Tryz.ntmps110 rfl Zfh rfl (by repeat constructor) ?_
 (repeat' (first | ((with_reducible apply gLI.cone); (. exact RF.mk ⟨rfl, rfl⟩)) | (with_reducible constructor) | exact Z2 | exact ZF | ((with_reducible apply ZaA); first | apply Zaz) | exact OB_f | (with_reducible first | apply gNK | apply Zam | apply Zaf | apply Zas) | apply Zah Zad | apply gSel.ccons))
 (all_goals (first | (((exact EQ.mk rfl)); done)))
def Zgk : Nat → List Nat
 | 0 => [0, 1]
 | 1 => [3]
 | _ => []
theorem Ze2 (args : Array Value) (w : World) : (callFunc 111 args).run Tryz.prog w = .ok (.enter 111 args) w := Zab Tryz.func111 (by decide) rfl args w
set_option maxHeartbeats 1000000 in
theorem ZiU (x k : Int) (a b : List Int) : Con Tryz.prog 111 [.i x, .box [.fn 109 [.box [.i k, .ints a, .ints b]]]] (.bool (!has a x)) := by
 refine gCon Zgk Zad (rs := [.tmp 3]) (sl := [(0, .g (.i x)), (1, .g (.box [.fn 109 [.box [.i k, .ints a, .ints b]]]))]) Tryz.func111 rfl Tryz.ntmps111 rfl Ze2 rfl (by repeat constructor) ?_
 (repeat' (first | ((with_reducible apply gLI.cone); (. exact RF.mk ⟨rfl, rfl⟩)) | (with_reducible constructor) | exact Z2 | ((with_reducible apply ZaA); first | (exact Zde _ _ _ _)) | exact OB_f | (with_reducible first | apply gNK | apply Zam | apply Zaf | apply Zas) | apply Zah Zad | apply gSel.ccons))
 (all_goals (first | (((exact EQ.mk rfl)); done)))
def Zji : Nat → List Nat
 | 0 => [2, 3]
 | 1 => [2, 3, 5]
 | 2 => [2, 3, 5, 6]
 | 3 => [2, 3, 5, 6, 7]
 | 4 => [2, 3, 5, 6, 7, 8]
 | 5 => [3, 5, 6, 7, 8, 30]
 | 6 => [3, 5, 6, 7, 8, 30, 31]
 | 7 => [4]
 | 8 => [3, 5, 6, 7, 8, 30, 37]
 | 9 => [5, 6, 8, 9]
 | 10 => [5, 6, 8, 9, 42]
 | 11 => [5, 6, 8, 9]
 | 12 => [5, 6, 8, 9, 60]
 | 13 => [4]
 | 14 => [4]
 | 15 => [3, 5, 6, 7, 8, 30, 61]
 | 16 => [3, 5, 6, 10]
 | 17 => [3, 5, 6, 10, 69, 70, 71]
 | 18 => [3, 5, 6, 10, 69, 70, 71, 72]
 | 19 => [3, 5, 6, 10, 12, 69, 70, 71]
 | 20 => [3, 5, 6, 10, 69, 70, 71]
 | 21 => [3, 5, 6, 10, 69, 70, 71]
 | 22 => [4]
 | 23 => [3, 5, 6, 7, 8, 30, 96]
 | 24 => [4]
 | 25 => [3, 5, 6, 7, 8, 30, 102]
 | 26 => [4]
 | 27 => [3, 5, 6, 8, 109]
 | 28 => [4]
 | 29 => [4]
 | _ => []
theorem ZdN (args : Array Value) (w : World) : (callFunc 84 args).run Tryz.prog w = .ok (.enter 84 args) w := Zab Tryz.func84 (by decide) rfl args w
set_option maxHeartbeats 1000000 in
theorem ZmW (k : Int) (a b s l : List Int) (hl : HY (1 ≤ l.length ∧ l.length ≤ 600)) (hs : HY (s.length ≤ 600)) : Con Tryz.prog 84 [.clause k a b, .word s l] (.bool (Zb7 k a b s l)) := by
 have hl := hl.e
 have hs := hs.e
 refine Con.fit ZdN fun hfit => ?_
 have hb_a : a.length ≤ 9223372036854775807 := GFits.ints (GFits.cell (show GFits (.clause k a b) from hfit 0 (ZL rfl)) (.tail _ (.head _)))
 have hb_b : b.length ≤ 9223372036854775807 := GFits.ints (GFits.cell (show GFits (.clause k a b) from hfit 0 (ZL rfl)) (.tail _ (.tail _ (.head _))))
 have hb_s : s.length ≤ 9223372036854775807 := GFits.ints (GFits.cell (show GFits (.word s l) from hfit 1 (ZL rfl)) (.head _))
 have hb_l : l.length ≤ 9223372036854775807 := GFits.ints (GFits.cell (show GFits (.word s l) from hfit 1 (ZL rfl)) (.tail _ (.head _)))
 clear hfit
 refine gCon Zji Zad (rs := [.tmp 4]) (sl := [(0, .g (.clause k a b)), (1, .g (.word s l))]) Tryz.func84 rfl Tryz.ntmps84 rfl ZdN rfl (by repeat constructor) ?_
 (repeat' (first | ((with_reducible apply gLB.cone); (. exact RF.mk ⟨rfl, rfl⟩)) | ((with_reducible apply gLI.cone); (. exact RF.mk ⟨rfl, rfl⟩)) | (with_reducible constructor) | exact Z3 | exact ZN | exact ZS | exact ZF | exact ZC | ((with_reducible apply ZaA); first | (exact ZbM _ 109 [.box [.i k, .ints a, .ints b]] (fun x => has a x) (HY.mk fun x => Zde x k a b)) | (exact ZbM _ 110 [.box [.i k, .ints a, .ints b]] (fun x => has b x) (HY.mk fun x => ZeX x k a b)) | (exact ZbM _ 111 [.box [.fn 109 [.box [.i k, .ints a, .ints b]]]] (fun x => !has a x) (HY.mk fun x => ZiU x k a b)) | (exact Zde _ _ _ _) | (exact ZeX _ _ _ _)) | (with_reducible intro hc; (try simp only [HCs] at hc)) | exact OB_f | exact ZK | (with_reducible first | apply gNK | apply Zam | apply Zaf | apply Zaq | apply ZaC | apply Zai | apply CK_f | apply ZaR | apply Zar | apply Zas | apply Zay | apply Zap | apply Zaw | apply Za3 | apply Zax | apply Za9 | apply Zav) | apply Zah Zad | apply ZaQ Zad rfl | (apply ZaF; exact RF.mk rfl) | (refine Zak (id := 1) (ι := Nat) (fun j => ⟨[(5, .ptr 1 0), (6, .fn 110 [.ptr 2 0]), (8, .own 0 0 (wayH s l).length), (9, .g (.i (j + 1)))], [(0, .arr 1 true ((wayH s l).map GV.i)), (1, .box [.fn 109 [.ptr 2 0]]), (2, .box [.g (.i k), .g (.ints a), .g (.ints b)])]⟩) (fun j => (j ≤ s.length + l.length) ∧ (∀ q, q < j → Zjl (wayH s l) a b q = true)) (fun j => s.length + l.length - j) (0) ?_ ?_ ?_; (. (apply gLX3 <;> (repeat' (first | (with_reducible constructor) | exact Z5 | exact RF.mk (by decide) | (with_reducible apply Zae) | exact ZE)))); (. (exact ⟨by omega, Zba⟩)); (rintro j ⟨h1, h2⟩; have wl := Znr (s := s) (l := l); have nj : ((0 : Int) + ((j : Int) + 1 - 1)).toNat = j := (by omega); have nj2 : ((0 : Int) + ((j : Int) + 1)).toNat = j + 1 := (by omega); (show TX _ _ _ _ _ [(5, .ptr 1 0), (6, .fn 110 [.ptr 2 0]), (8, .own 0 0 (wayH s l).length), (9, .g (.i (j + 1)))] [(0, .arr 1 true ((wayH s l).map GV.i)), (1, .box [.fn 109 [.ptr 2 0]]), (2, .box [.g (.i k), .g (.ints a), .g (.ints b)])] _))) | (refine Zak (id := 3) (ι := Nat × Bool) (fun ⟨j, p⟩ => ⟨[(3, .ptr 3 0), (5, .ptr 1 0), (6, .fn 110 [.ptr 2 0]), (10, .g (.bool p)), (69, .own 0 0 (s.length + l.length)), (70, .g (.i ((s.length : Int) + l.length))), (71, .g (.i j))], [(0, .arr 1 true ((s ++ l).map GV.i)), (1, .box [.fn 109 [.ptr 2 0]]), (2, .box [.g (.i k), .g (.ints a), .g (.ints b)]), (3, .box [.g (.ints s), .g (.ints l)])]⟩) (fun ⟨j, p⟩ => (j ≤ s.length + l.length) ∧ (Zjg a b p ((s ++ l).drop j) = Zjg a b false (s ++ l))) (fun ⟨j, p⟩ => s.length + l.length - j) (0, false) ?_ ?_ ?_; (. (apply gLX4 <;> (repeat' (first | (with_reducible constructor) | exact Z5 | exact RF.mk (by decide) | (with_reducible apply Zae) | exact ZE)); (all_goals exact QM20))); (. (exact ⟨by omega, rfl⟩)); (rintro ⟨j, p⟩ ⟨h1, h2⟩; (show TX _ _ _ _ _ [(3, .ptr 3 0), (5, .ptr 1 0), (6, .fn 110 [.ptr 2 0]), (10, .g (.bool p)), (69, .own 0 0 (s.length + l.length)), (70, .g (.i ((s.length : Int) + l.length))), (71, .g (.i j))] [(0, .arr 1 true ((s ++ l).map GV.i)), (1, .box [.fn 109 [.ptr 2 0]]), (2, .box [.g (.i k), .g (.ints a), .g (.ints b)]), (3, .box [.g (.ints s), .g (.ints l)])] _))) | apply gSel.ccons))
 (all_goals (first | (refine ZaJ (j + 1) ?_ ?_ ?_; (· (apply gLX3 <;> (repeat' (first | (with_reducible constructor) | exact Z5 | exact RF.mk (by decide) | (with_reducible apply Zae) | exact ZE)))); (· ((have wl := Znr (s := s) (l := l); refine ⟨by omega, Zbc h2 ?_⟩; unfold Zjl; (try simp only [show ((j : Int) + 1 - 1).toNat = j by omega, show ((j : Int) + 1).toNat = j + 1 by omega] at *); (try simp only [Int.toNat_natCast, Nat.zero_add, Nat.add_zero, Int.toNat_sub, Int.pred_toNat, Int.toNat_zero, Int.natCast_zero, Nat.sub_zero, Int.sub_zero, ← Int.natCast_emod, Int.natCast_eq_zero] at *); simp_all))); (· (((try dsimp only); have wl := Znr (s := s) (l := l); omega)))) | (refine ZaJ (j + 1, (p || has a (nth (s ++ l) j)) && !has b (nth (s ++ l) j)) ?_ ?_ ?_; (· (apply gLX4 <;> (repeat' (first | (with_reducible constructor) | exact Z5 | exact RF.mk (by decide) | (with_reducible apply Zae) | exact ZE)); (all_goals exact QM20))); (· ((refine ⟨by omega, ?_⟩; rw [← Zpo (by rw [List.length_append]; omega)]; exact h2))); (· exact ZW)) | (((refine Zao ?_; (try subst k); first | exact ZxU hl.1 | exact Zuz hl.1 h2 (by omega) | (refine ZvL (j := j) hl.1 ?_ (by omega); unfold Zjl; simp_all; done) | (rw [← ZyX h2 (by omega)]; first | (rw [show p = false by assumption]; rfl) | (rw [show p = true by assumption]; rfl)) | exact ZAh | exact ZxZ | exact Zz5 hl.1 | (rw [← ZAs (by assumption) (by assumption) (by assumption) (by assumption) (by assumption) (by assumption)]; unfold Zcg; rw [hc]; rfl))); done)))
def ZeV : Nat → List Nat
 | 0 => [1, 2]
 | 1 => [3]
 | _ => []
theorem Zb8 (args : Array Value) (w : World) : (callFunc 83 args).run Tryz.prog w = .ok (.enter 83 args) w := Zab Tryz.func83 (by decide) rfl args w
set_option maxHeartbeats 1000000 in
theorem Zgd (k : Int) (a b s l : List Int) (hl : HY (1 ≤ l.length ∧ l.length ≤ 600)) (hs : HY (s.length ≤ 600)) : Con Tryz.prog 83 [.clause k a b, .box [.ints s, .ints l]] (.bool (!Zb7 k a b s l)) := by
 have hl := hl.e
 have hs := hs.e
 refine Con.fit Zb8 fun hfit => ?_
 have hb_a : a.length ≤ 9223372036854775807 := GFits.ints (GFits.cell (show GFits (.clause k a b) from hfit 0 (ZL rfl)) (.tail _ (.head _)))
 have hb_b : b.length ≤ 9223372036854775807 := GFits.ints (GFits.cell (show GFits (.clause k a b) from hfit 0 (ZL rfl)) (.tail _ (.tail _ (.head _))))
 clear hfit
 refine gCon ZeV Zad (rs := [.tmp 3]) (sl := [(0, .g (.clause k a b)), (1, .g (.box [.ints s, .ints l]))]) Tryz.func83 rfl Tryz.ntmps83 rfl Zb8 rfl (by repeat constructor) ?_
 (repeat' (first | ((with_reducible apply gLB.cagg); (. exact RF.mk ⟨rfl, rfl, rfl⟩)) | ((with_reducible apply gLI.cagg); (. exact RF.mk ⟨rfl, rfl, rfl⟩)) | (with_reducible constructor) | exact Z2 | exact ZN | ((with_reducible apply ZaA); first | apply ZmW) | exact OB_f | (with_reducible first | apply gNK | apply Zam | apply Zaf | apply Zas) | apply Zah Zad | apply gSel.ccons))
 (all_goals (first | (((exact EQ.mk rfl)); done)))
def Zf0 : Nat → List Nat
 | 0 => [1, 3, 5]
 | 1 => [1, 5, 22]
 | 2 => [6]
 | 3 => [6]
 | _ => []
theorem Zcx (args : Array Value) (w : World) : (callFunc 46 args).run Tryz.prog w = .ok (.enter 46 args) w := Zab Tryz.func46 (by decide) rfl args w
set_option maxHeartbeats 1000000 in
theorem ZhY (i o : Int) (cs : List (Int × List Int × List Int)) (s l : List Int) : Con Tryz.prog 46 [.sig i o, .clauses cs, .word s l] (.i (ZcE i o cs s l)) := by
 refine Con.fit Zcx fun hfit => ?_
 have hb_cs : cs.length ≤ 9223372036854775807 := GFits.lenm (show GFits (.clauses cs) from hfit 1 (ZL rfl))
 have hr_cs : ∀ r ∈ cs, r.2.1.length ≤ 9223372036854775807 ∧ r.2.2.length ≤ 9223372036854775807 := fun r hr => ⟨GFits.ints (GFits.cell (GFits.elm (show GFits (.clauses cs) from hfit 1 (ZL rfl)) r hr) (.tail _ (.head _))), GFits.ints (GFits.cell (GFits.elm (show GFits (.clauses cs) from hfit 1 (ZL rfl)) r hr) (.tail _ (.tail _ (.head _))))⟩
 have hb_s : s.length ≤ 9223372036854775807 := GFits.ints (GFits.cell (show GFits (.word s l) from hfit 2 (ZL rfl)) (.head _))
 have hb_l : l.length ≤ 9223372036854775807 := GFits.ints (GFits.cell (show GFits (.word s l) from hfit 2 (ZL rfl)) (.tail _ (.head _)))
 clear hfit
 have hw : ZaI s l (Zaa i o) = true → 1 ≤ l.length ∧ l.length ≤ 600 ∧ s.length ≤ 600 := ZfY
 have hlp : sigB i o = true → pw (i + o) = Zaa i o := fun h => (ZaW h).symm
 refine gCon Zf0 Zad (rs := [.tmp 6]) (sl := [(0, .g (.sig i o)), (1, .g (.clauses cs)), (2, .g (.word s l))]) Tryz.func46 rfl Tryz.ntmps46 rfl Zcx rfl (by repeat constructor) ?_
 (repeat' (first | ((with_reducible apply gLB.cagg); (. exact RF.mk ⟨rfl, rfl, rfl⟩)) | (with_reducible constructor) | exact Z2 | exact NU.mk (by first | exact ZO | (first | omega | (have q := hw (by assumption); omega) | (have q := Zks (by assumption); omega))) | ((with_reducible apply ZaA); first | (exact ZeB cs 83 [.box [.ints s, .ints l]] (fun x => !Zb7 x.1 x.2.1 x.2.2 s l) (HY.mk fun x => Zgd x.1 x.2.1 x.2.2 s l (HY.mk (by have q := ZfY (by assumption); omega)) (HY.mk (by have q := ZfY (by assumption); omega)))) | apply Zec | apply Zjv | apply ZaD | apply Ze8) | (with_reducible intro hc; (try simp only [HCs] at hc)) | exact OB_f | exact ZK | (with_reducible first | apply gNK | apply Zam | apply Zaf | apply ZaC | apply Zai | apply CK_t | apply ZaR | apply Zar | apply Zas | apply Zav) | apply Zah Zad | apply ZaQ Zad rfl | apply gSel.ccons))
 (all_goals (first | (((refine Zae (EQ.mk ?_); (try rw [hlp (by assumption)] at *); first | exact Zf1 (by assumption) (by assumption) | exact ZdZ (.inr (by assumption)) | exact ZdZ (.inl (Znd (by assumption))) | exact ZdZ (.inl (ZmQ (by assumption))) | (refine Zf1 ?_ (by assumption); unfold ZaB; simp_all; done))); done)))
def Zf5 : Nat → List Nat
 | 0 => [1, 3, 5]
 | 1 => [1, 3, 5, 17]
 | 2 => [6]
 | 3 => [1, 3, 5, 7]
 | 4 => [1, 3, 5, 7, 21]
 | 5 => [1, 3, 5, 7]
 | 6 => [1, 3, 5, 7, 31]
 | 7 => [6]
 | 8 => [6]
 | _ => []
theorem Zcv (args : Array Value) (w : World) : (callFunc 45 args).run Tryz.prog w = .ok (.enter 45 args) w := Zab Tryz.func45 (by decide) rfl args w
set_option maxHeartbeats 1000000 in
theorem Zh5 (i o : Int) (cs : List (Int × List Int × List Int)) (s l : List Int) : Con Tryz.prog 45 [.sig i o, .clauses cs, .word s l] (.i (ZcE i o cs s l)) := by
 refine Con.fit Zcv fun hfit => ?_
 have hb_cs : cs.length ≤ 9223372036854775807 := GFits.lenm (show GFits (.clauses cs) from hfit 1 (ZL rfl))
 have hr_cs : ∀ r ∈ cs, r.2.1.length ≤ 9223372036854775807 ∧ r.2.2.length ≤ 9223372036854775807 := fun r hr => ⟨GFits.ints (GFits.cell (GFits.elm (show GFits (.clauses cs) from hfit 1 (ZL rfl)) r hr) (.tail _ (.head _))), GFits.ints (GFits.cell (GFits.elm (show GFits (.clauses cs) from hfit 1 (ZL rfl)) r hr) (.tail _ (.tail _ (.head _))))⟩
 have hb_s : s.length ≤ 9223372036854775807 := GFits.ints (GFits.cell (show GFits (.word s l) from hfit 2 (ZL rfl)) (.head _))
 have hb_l : l.length ≤ 9223372036854775807 := GFits.ints (GFits.cell (show GFits (.word s l) from hfit 2 (ZL rfl)) (.tail _ (.head _)))
 clear hfit
 refine gCon Zf5 Zad (rs := [.tmp 6]) (sl := [(0, .g (.sig i o)), (1, .g (.clauses cs)), (2, .g (.word s l))]) Tryz.func45 rfl Tryz.ntmps45 rfl Zcv rfl (by repeat constructor) ?_
 (repeat' (first | ((with_reducible apply gLB.cagg); (. exact RF.mk ⟨rfl, rfl, rfl⟩)) | ((with_reducible apply gLI.cagg); (. exact RF.mk ⟨rfl, rfl, rfl⟩)) | (with_reducible constructor) | exact Z2 | exact ZN | exact ZS | ((with_reducible apply ZaA); first | apply Zer | apply ZjV | apply Zmq) | (with_reducible intro hc; (try simp only [HCs] at hc)) | exact OB_f | exact ZK | (with_reducible first | apply gNK | apply Zam | apply Zaf | apply Zaq | apply ZaC | apply Zai | apply CK_t | apply ZaR | apply Zar | apply Zas | apply Zay | apply Zap | apply Zaw | apply Za3 | apply Zax | apply Za9 | apply Zav) | apply Zah Zad | apply ZaQ Zad rfl | (apply ZaF; exact RF.mk rfl) | (refine Zak (id := 0) (ι := Nat) (fun j => ⟨[(1, .g (.clauses cs)), (3, .ptr 0 0), (5, .ptr 1 0), (7, .g (.i j))], [(0, .box [.g (.i i), .g (.i o)]), (1, .box [.g (.ints s), .g (.ints l)])]⟩) (fun j => (j ≤ cs.length) ∧ (∀ z, z < j → Ze6 cs s l z = false)) (fun j => cs.length - j) (0) ?_ ?_ ?_; (. (apply gLX2 <;> (repeat' (first | (with_reducible constructor) | exact Z5 | exact RF.mk (by decide) | (with_reducible apply Zae) | exact ZE)))); (. (exact ⟨by omega, Zcd⟩)); (rintro j ⟨h1, h2⟩; (show TX _ _ _ _ _ [(1, .g (.clauses cs)), (3, .ptr 0 0), (5, .ptr 1 0), (7, .g (.i j))] [(0, .box [.g (.i i), .g (.i o)]), (1, .box [.g (.ints s), .g (.ints l)])] _))) | apply gSel.ccons))
 (all_goals (first | (refine ZaJ (j + 1) ?_ ?_ ?_; (· (apply gLX2 <;> (repeat' (first | (with_reducible constructor) | exact Z5 | exact RF.mk (by decide) | (with_reducible apply Zae) | exact ZE)))); (· ((have hws := (show sigB i o = true ∧ ZaI s l (Zaa i o) = true by assumption).2; refine ⟨by omega, Zcf h2 ?_⟩; rw [Zmd (by assumption) hws (by omega)] at hc; simpa using hc))); (· exact ZW)) | (((refine Zae (EQ.mk ?_); first | exact ZdZ (.inl (by assumption)) | (have hws := (show sigB i o = true ∧ ZaI s l (Zaa i o) = true by assumption).2; rw [← Zf1 (by assumption) hws]; first | exact Eq.symm (ZbW fun z hz => h2 z (by omega)) | (refine Eq.symm (Zbn j (by omega) ?_ h2); rw [Zmd (by assumption) hws (by omega)] at hc; simpa using hc)) | (have hs := Znf (by assumption); refine ZdZ (.inr ?_); rcases hc with hc | hc; (rw [hs] at hc; cases hc); exact hc))); done)))
def ZiQ : Nat → List Nat
 | 0 => [1, 3, 5]
 | 1 => [6]
 | _ => []
theorem ZdC (args : Array Value) (w : World) : (callFunc 19 args).run Tryz.prog w = .ok (.enter 19 args) w := Zab Tryz.func19 (by decide) rfl args w
set_option maxHeartbeats 1000000 in
theorem Zml (i o : Int) (cs : List (Int × List Int × List Int)) (s l : List Int) : Con Tryz.prog 19 [.sig i o, .clauses cs, .word s l] (.bool (decide (ZcE i o cs s l = -1))) := by
 refine Con.fit ZdC fun hfit => ?_
 have hb_cs : cs.length ≤ 9223372036854775807 := GFits.lenm (show GFits (.clauses cs) from hfit 1 (ZL rfl))
 have hr_cs : ∀ r ∈ cs, r.2.1.length ≤ 9223372036854775807 ∧ r.2.2.length ≤ 9223372036854775807 := fun r hr => ⟨GFits.ints (GFits.cell (GFits.elm (show GFits (.clauses cs) from hfit 1 (ZL rfl)) r hr) (.tail _ (.head _))), GFits.ints (GFits.cell (GFits.elm (show GFits (.clauses cs) from hfit 1 (ZL rfl)) r hr) (.tail _ (.tail _ (.head _))))⟩
 have hb_s : s.length ≤ 9223372036854775807 := GFits.ints (GFits.cell (show GFits (.word s l) from hfit 2 (ZL rfl)) (.head _))
 have hb_l : l.length ≤ 9223372036854775807 := GFits.ints (GFits.cell (show GFits (.word s l) from hfit 2 (ZL rfl)) (.tail _ (.head _)))
 clear hfit
 refine gCon ZiQ Zad (rs := [.tmp 6]) (sl := [(0, .g (.sig i o)), (1, .g (.clauses cs)), (2, .g (.word s l))]) Tryz.func19 rfl Tryz.ntmps19 rfl ZdC rfl (by repeat constructor) ?_
 (repeat' (first | ((with_reducible apply gLB.cagg); (. exact RF.mk ⟨rfl, rfl, rfl⟩)) | (with_reducible constructor) | exact Z2 | ((with_reducible apply ZaA); first | apply ZhY) | exact OB_f | (with_reducible first | apply gNK | apply Zam | apply Zaf | apply Zas) | apply Zah Zad | apply gSel.ccons))
 (all_goals (first | (((refine Zao ?_; first | rfl | (rw [Bool.eq_iff_iff]; simp))); done)))
def Zi9 : Nat → List Nat
 | 0 => [1, 3, 5]
 | 1 => [6]
 | _ => []
theorem Zdz (args : Array Value) (w : World) : (callFunc 18 args).run Tryz.prog w = .ok (.enter 18 args) w := Zab Tryz.func18 (by decide) rfl args w
set_option maxHeartbeats 1000000 in
theorem Zm7 (i o : Int) (cs : List (Int × List Int × List Int)) (s l : List Int) : Con Tryz.prog 18 [.sig i o, .clauses cs, .word s l] (.bool (decide (ZcE i o cs s l = -1))) := by
 refine Con.fit Zdz fun hfit => ?_
 have hb_cs : cs.length ≤ 9223372036854775807 := GFits.lenm (show GFits (.clauses cs) from hfit 1 (ZL rfl))
 have hr_cs : ∀ r ∈ cs, r.2.1.length ≤ 9223372036854775807 ∧ r.2.2.length ≤ 9223372036854775807 := fun r hr => ⟨GFits.ints (GFits.cell (GFits.elm (show GFits (.clauses cs) from hfit 1 (ZL rfl)) r hr) (.tail _ (.head _))), GFits.ints (GFits.cell (GFits.elm (show GFits (.clauses cs) from hfit 1 (ZL rfl)) r hr) (.tail _ (.tail _ (.head _))))⟩
 have hb_s : s.length ≤ 9223372036854775807 := GFits.ints (GFits.cell (show GFits (.word s l) from hfit 2 (ZL rfl)) (.head _))
 have hb_l : l.length ≤ 9223372036854775807 := GFits.ints (GFits.cell (show GFits (.word s l) from hfit 2 (ZL rfl)) (.tail _ (.head _)))
 clear hfit
 refine gCon Zi9 Zad (rs := [.tmp 6]) (sl := [(0, .g (.sig i o)), (1, .g (.clauses cs)), (2, .g (.word s l))]) Tryz.func18 rfl Tryz.ntmps18 rfl Zdz rfl (by repeat constructor) ?_
 (repeat' (first | ((with_reducible apply gLB.cagg); (. exact RF.mk ⟨rfl, rfl, rfl⟩)) | (with_reducible constructor) | exact Z2 | ((with_reducible apply ZaA); first | apply Zh5) | exact OB_f | (with_reducible first | apply gNK | apply Zam | apply Zaf | apply Zas) | apply Zah Zad | apply gSel.ccons))
 (all_goals (first | (((refine Zao ?_; first | rfl | (rw [Bool.eq_iff_iff]; simp))); done)))
def ZhB : Nat → List Nat
 | 0 => [0, 1, 2]
 | 1 => [0, 1, 2, 14]
 | 2 => [6]
 | 3 => [1, 2, 15, 16, 17]
 | 4 => [1, 2, 15, 16, 17, 18]
 | 5 => [1, 2, 7, 8, 15, 16, 17]
 | 6 => [1, 2, 8, 9, 15, 16, 17]
 | 7 => [1, 2, 15, 16, 17, 30]
 | 8 => [6]
 | 9 => [1, 2, 15, 16, 17]
 | 10 => [6]
 | _ => []
theorem Zc0 (args : Array Value) (w : World) : (callFunc 47 args).run Tryz.prog w = .ok (.enter 47 args) w := Zab Tryz.func47 (by decide) rfl args w
set_option maxHeartbeats 1000000 in
theorem ZjU (xs ys : List (List Int)) (f : FuncId) (caps : List GV) (p : List Int → List Int → Bool) (hf : HY (∀ x y : List Int, Con Tryz.prog f (.ints x :: .ints y :: caps) (.bool (p x y)))) : Con Tryz.prog 47 [.rows xs, .rows ys, .fn f caps] (.bool (decide (xs.length = ys.length) && allN xs.length fun i => p (nth xs i) (nth ys i))) := by
 have hf := hf.e
 refine Con.fit Zc0 fun hfit => ?_
 have hb_xs : xs.length ≤ 9223372036854775807 := GFits.lenm (show GFits (.rows xs) from hfit 0 (ZL rfl))
 have hr_xs : ∀ r ∈ xs, r.length ≤ 9223372036854775807 := fun r hr => GFits.ints (GFits.elm (show GFits (.rows xs) from hfit 0 (ZL rfl)) r hr)
 have hb_ys : ys.length ≤ 9223372036854775807 := GFits.lenm (show GFits (.rows ys) from hfit 1 (ZL rfl))
 have hr_ys : ∀ r ∈ ys, r.length ≤ 9223372036854775807 := fun r hr => GFits.ints (GFits.elm (show GFits (.rows ys) from hfit 1 (ZL rfl)) r hr)
 clear hfit
 refine gCon ZhB Zad (rs := [.tmp 6]) (sl := [(0, .g (.rows xs)), (1, .g (.rows ys)), (2, .g (.fn f caps))]) Tryz.func47 rfl Tryz.ntmps47 rfl Zc0 rfl (by repeat constructor) ?_
 (repeat' (first | ((with_reducible apply gLI.cone); (. exact RF.mk ⟨rfl, rfl⟩)) | (with_reducible constructor) | exact Z2 | exact ZN | exact ZS | ((with_reducible apply ZaA); first | (exact hf _ _)) | (with_reducible intro hc; (try simp only [HCs] at hc)) | exact OB_f | (with_reducible first | apply gNK | apply Zam | apply Zaf | apply Zaq | apply ZaC | apply Zai | apply ZaR | apply Zar | apply Zas | apply Zay | apply Zap | apply Zaw | apply Za3 | apply Zax | apply Za9 | apply Zav) | apply Zah Zad | (apply ZaF; exact RF.mk rfl) | (refine Zak (id := 0) (ι := Nat) (fun i => ⟨[(1, .g (.rows ys)), (2, .g (.fn f caps)), (15, .g (.rows xs)), (16, .g (.i xs.length)), (17, .g (.i i))], []⟩) (fun i => (i ≤ xs.length) ∧ (∀ z, z < i → (fun i => p (nth xs i) (nth ys i)) z = true) ∧ (xs.length = ys.length)) (fun i => xs.length - i) (0) ?_ ?_ ?_; (. (apply gLX0 <;> (repeat' (first | (with_reducible constructor) | exact Z5 | exact RF.mk (by decide) | (with_reducible apply Zae) | exact ZE)))); (. (exact ⟨by omega, Zba, by omega⟩)); (rintro i ⟨h1, h2, h3⟩; (show TX _ _ _ _ _ [(1, .g (.rows ys)), (2, .g (.fn f caps)), (15, .g (.rows xs)), (16, .g (.i xs.length)), (17, .g (.i i))] [] _))) | apply gSel.ccons))
 (all_goals (first | (refine ZaJ (i + 1) ?_ ?_ ?_; (· (apply gLX0 <;> (repeat' (first | (with_reducible constructor) | exact Z5 | exact RF.mk (by decide) | (with_reducible apply Zae) | exact ZE)))); (· ((refine ⟨by omega, Zbc h2 ?_, h3⟩; ((try simp only [BOa] at *); (first | omega | assumption | grind))))); (· exact ZW)) | (((refine Zao ?_; first | (rw [decide_eq_false (by omega)]; simp; done) | (rw [decide_eq_true (by omega), ZaS (fun j hj => h2 j (by omega))]; simp; done) | (rw [ZaM i (by omega) (by first | (simp_all; done) | fail)]; simp; done))); done)))
def Zgu : Nat → List Nat
 | 0 => [0, 1, 2]
 | 1 => [0, 1, 2, 14]
 | 2 => [6]
 | 3 => [1, 2, 15, 16, 17]
 | 4 => [1, 2, 15, 16, 17, 18]
 | 5 => [1, 2, 7, 8, 15, 16, 17]
 | 6 => [1, 2, 8, 9, 15, 16, 17]
 | 7 => [1, 2, 15, 16, 17, 30]
 | 8 => [6]
 | 9 => [1, 2, 15, 16, 17]
 | 10 => [6]
 | _ => []
set_option maxRecDepth 100000 in
theorem ZcO (args : Array Value) (w : World) : (callFunc 49 args).run Tryz.prog w = .ok (.enter 49 args) w := Zab Tryz.func49 (by decide) rfl args w
set_option maxHeartbeats 1000000 in
theorem ZjA (xs ys : List (List Int × List Int)) (f : FuncId) (caps : List GV) (p : List Int × List Int → List Int × List Int → Bool) (hf : HY (∀ x y : List Int × List Int, Con Tryz.prog f (.pairP x :: .pairP y :: caps) (.bool (p x y)))) : Con Tryz.prog 49 [.pairs xs, .pairs ys, .fn f caps] (.bool (decide (xs.length = ys.length) && allN xs.length fun i => p (nth xs i) (nth ys i))) := by
 have hf := hf.e
 refine Con.fit ZcO fun hfit => ?_
 have hb_xs : xs.length ≤ 9223372036854775807 := GFits.lenm (show GFits (.pairs xs) from hfit 0 (ZL rfl))
 have hr_xs : ∀ r ∈ xs, r.1.length ≤ 9223372036854775807 ∧ r.2.length ≤ 9223372036854775807 := fun r hr => ⟨GFits.ints (GFits.cell (GFits.elm (show GFits (.pairs xs) from hfit 0 (ZL rfl)) r hr) (.head _)), GFits.ints (GFits.cell (GFits.elm (show GFits (.pairs xs) from hfit 0 (ZL rfl)) r hr) (.tail _ (.head _)))⟩
 have hb_ys : ys.length ≤ 9223372036854775807 := GFits.lenm (show GFits (.pairs ys) from hfit 1 (ZL rfl))
 have hr_ys : ∀ r ∈ ys, r.1.length ≤ 9223372036854775807 ∧ r.2.length ≤ 9223372036854775807 := fun r hr => ⟨GFits.ints (GFits.cell (GFits.elm (show GFits (.pairs ys) from hfit 1 (ZL rfl)) r hr) (.head _)), GFits.ints (GFits.cell (GFits.elm (show GFits (.pairs ys) from hfit 1 (ZL rfl)) r hr) (.tail _ (.head _)))⟩
 clear hfit
 refine gCon Zgu Zad (rs := [.tmp 6]) (sl := [(0, .g (.pairs xs)), (1, .g (.pairs ys)), (2, .g (.fn f caps))]) Tryz.func49 rfl Tryz.ntmps49 rfl ZcO rfl (by repeat constructor) ?_
 (repeat' (first | ((with_reducible apply gLB.cagg); (. exact RF.mk ⟨rfl, rfl, rfl⟩)) | ((with_reducible apply gLI.cagg); (. exact RF.mk ⟨rfl, rfl, rfl⟩)) | (with_reducible constructor) | exact Z3 | exact ZN | exact ZS | ((with_reducible apply ZaA); first | (exact hf _ _)) | (with_reducible intro hc; (try simp only [HCs] at hc)) | exact OB_f | (with_reducible first | apply gNK | apply Zam | apply Zaf | apply Zaq | apply ZaC | apply Zai | apply ZaR | apply Zar | apply Zas | apply Zay | apply Zap | apply Zaw | apply Za3 | apply Zax | apply Za9 | apply Zav) | apply Zah Zad | (apply ZaF; exact RF.mk rfl) | (refine Zak (id := 0) (ι := Nat) (fun i => ⟨[(1, .g (.pairs ys)), (2, .g (.fn f caps)), (15, .g (.pairs xs)), (16, .g (.i xs.length)), (17, .g (.i i))], []⟩) (fun i => (i ≤ xs.length) ∧ (∀ z, z < i → (fun i => p (nth xs i) (nth ys i)) z = true) ∧ (xs.length = ys.length)) (fun i => xs.length - i) (0) ?_ ?_ ?_; (. (apply gLX0 <;> (repeat' (first | (with_reducible constructor) | exact Z5 | exact RF.mk (by decide) | (with_reducible apply Zae) | exact ZE)))); (. (exact ⟨by omega, Zba, by omega⟩)); (rintro i ⟨h1, h2, h3⟩; (show TX _ _ _ _ _ [(1, .g (.pairs ys)), (2, .g (.fn f caps)), (15, .g (.pairs xs)), (16, .g (.i xs.length)), (17, .g (.i i))] [] _))) | apply gSel.ccons))
 (all_goals (first | (refine ZaJ (i + 1) ?_ ?_ ?_; (· (apply gLX0 <;> (repeat' (first | (with_reducible constructor) | exact Z5 | exact RF.mk (by decide) | (with_reducible apply Zae) | exact ZE)))); (· ((refine ⟨by omega, Zbc h2 ?_, h3⟩; ((try simp only [BOa] at *); (first | omega | assumption | grind))))); (· exact ZW)) | (((refine Zao ?_; first | (rw [decide_eq_false (by omega)]; simp; done) | (rw [decide_eq_true (by omega), ZaS (fun j hj => h2 j (by omega))]; simp; done) | (rw [ZaM i (by omega) (by first | (simp_all; done) | fail)]; simp; done))); done)))
def Zh9 : Nat → List Nat
 | 0 => [2, 3]
 | 1 => [4]
 | _ => []
theorem Zda (args : Array Value) (w : World) : (callFunc 50 args).run Tryz.prog w = .ok (.enter 50 args) w := Zab Tryz.func50 (by decide) rfl args w
set_option maxHeartbeats 1000000 in
theorem Zlj (a b c d : List Int) : Con Tryz.prog 50 [.pair a b, .pair c d] (.bool (decide (a = c) && decide (b = d))) := by
 refine Con.fit Zda fun hfit => ?_
 have hb_a : a.length ≤ 9223372036854775807 := GFits.ints (GFits.cell (show GFits (.pair a b) from hfit 0 (ZL rfl)) (.head _))
 have hb_b : b.length ≤ 9223372036854775807 := GFits.ints (GFits.cell (show GFits (.pair a b) from hfit 0 (ZL rfl)) (.tail _ (.head _)))
 have hb_c : c.length ≤ 9223372036854775807 := GFits.ints (GFits.cell (show GFits (.pair c d) from hfit 1 (ZL rfl)) (.head _))
 have hb_d : d.length ≤ 9223372036854775807 := GFits.ints (GFits.cell (show GFits (.pair c d) from hfit 1 (ZL rfl)) (.tail _ (.head _)))
 clear hfit
 refine gCon Zh9 Zad (rs := [.tmp 4]) (sl := [(0, .g (.pair a b)), (1, .g (.pair c d))]) Tryz.func50 rfl Tryz.ntmps50 rfl Zda rfl (by repeat constructor) ?_
 (repeat' (first | ((with_reducible apply gLB.cone); (. exact RF.mk ⟨rfl, rfl⟩)) | (with_reducible constructor) | exact Z2 | exact ZF | ((with_reducible apply ZaA); first | apply ZhR) | (with_reducible intro hc; (try simp only [HCs] at hc)) | exact OB_f | (with_reducible first | apply gNK | apply Zam | apply Zaf | apply Zas | apply Zav) | apply Zah Zad | apply gSel.ccons))
 (all_goals (first | (((first | (refine Zao ?_; first | (simp_all; done) | (rw [Bool.eq_iff_iff]; simp only [Bool.and_eq_true, Bool.or_eq_true, decide_eq_true_eq, Bool.false_eq_true, false_iff, true_iff, iff_false, iff_true, not_and, not_or, Bool.not_eq_true, decide_eq_false_iff_not, beq_iff_eq, bne_iff_ne, ne_eq, Bool.not_eq_true', Bool.not_eq_false', Int.not_le, Int.not_lt]; omega)) | ((repeat (first | apply ZkA | apply Zbb | apply ZbL | apply Zby | apply Zau)); all_goals (first | exact EQ.mk rfl | exact EQ.mk (by first | (simp; done) | fail) | exact EQ.mk (by first | (simp_all; done) | fail))))); done)))
def ZiI : Nat → List Nat
 | 0 => [3, 4, 5]
 | 1 => [4, 5, 21]
 | 2 => [6]
 | 3 => [6]
 | _ => []
theorem ZdJ (args : Array Value) (w : World) : (callFunc 20 args).run Tryz.prog w = .ok (.enter 20 args) w := Zab Tryz.func20 (by decide) rfl args w
set_option maxHeartbeats 1000000 in
theorem Zmr (i o : Int) (n : List (List Int)) (ps : List (List Int × List Int)) (n2 : List (List Int)) (ps2 : List (List Int × List Int)) : Con Tryz.prog 20 [.sig i o, .det n ps, .det n2 ps2] (.bool (Zno i o n ps n2 ps2)) := by
 refine Con.fit ZdJ fun hfit => ?_
 have hb_n : n.length ≤ 9223372036854775807 := GFits.lenm (GFits.cell (show GFits (.det n ps) from hfit 1 (ZL rfl)) (.head _))
 have hr_n : ∀ r ∈ n, r.length ≤ 9223372036854775807 := fun r hr => GFits.ints (GFits.elm (GFits.cell (show GFits (.det n ps) from hfit 1 (ZL rfl)) (.head _)) r hr)
 have hb_ps : ps.length ≤ 9223372036854775807 := GFits.lenm (GFits.cell (show GFits (.det n ps) from hfit 1 (ZL rfl)) (.tail _ (.head _)))
 have hr_ps : ∀ r ∈ ps, r.1.length ≤ 9223372036854775807 ∧ r.2.length ≤ 9223372036854775807 := fun r hr => ⟨GFits.ints (GFits.cell (GFits.elm (GFits.cell (show GFits (.det n ps) from hfit 1 (ZL rfl)) (.tail _ (.head _))) r hr) (.head _)), GFits.ints (GFits.cell (GFits.elm (GFits.cell (show GFits (.det n ps) from hfit 1 (ZL rfl)) (.tail _ (.head _))) r hr) (.tail _ (.head _)))⟩
 have hb_n2 : n2.length ≤ 9223372036854775807 := GFits.lenm (GFits.cell (show GFits (.det n2 ps2) from hfit 2 (ZL rfl)) (.head _))
 have hr_n2 : ∀ r ∈ n2, r.length ≤ 9223372036854775807 := fun r hr => GFits.ints (GFits.elm (GFits.cell (show GFits (.det n2 ps2) from hfit 2 (ZL rfl)) (.head _)) r hr)
 have hb_ps2 : ps2.length ≤ 9223372036854775807 := GFits.lenm (GFits.cell (show GFits (.det n2 ps2) from hfit 2 (ZL rfl)) (.tail _ (.head _)))
 have hr_ps2 : ∀ r ∈ ps2, r.1.length ≤ 9223372036854775807 ∧ r.2.length ≤ 9223372036854775807 := fun r hr => ⟨GFits.ints (GFits.cell (GFits.elm (GFits.cell (show GFits (.det n2 ps2) from hfit 2 (ZL rfl)) (.tail _ (.head _))) r hr) (.head _)), GFits.ints (GFits.cell (GFits.elm (GFits.cell (show GFits (.det n2 ps2) from hfit 2 (ZL rfl)) (.tail _ (.head _))) r hr) (.tail _ (.head _)))⟩
 clear hfit
 refine gCon ZiI Zad (rs := [.tmp 6]) (sl := [(0, .g (.sig i o)), (1, .g (.det n ps)), (2, .g (.det n2 ps2))]) Tryz.func20 rfl Tryz.ntmps20 rfl ZdJ rfl (by repeat constructor) ?_
 (repeat' (first | ((with_reducible apply gLB.cagg); (. exact RF.mk ⟨rfl, rfl, rfl⟩)) | ((with_reducible apply gLB.cone); (. exact RF.mk ⟨rfl, rfl⟩)) | (with_reducible constructor) | exact Z2 | exact ZN | exact ZF | ((with_reducible apply ZaA); first | (exact ZjU n n2 48 [] (fun x y => decide (x = y)) (HY.mk fun x y => ZhR x y)) | (exact ZjA ps ps2 50 [] (fun x y => decide (x.1 = y.1) && decide (x.2 = y.2)) (HY.mk fun x y => Zlj x.1 x.2 y.1 y.2)) | apply Zec | apply Zhx) | (with_reducible intro hc; (try simp only [HCs] at hc)) | exact OB_f | (with_reducible first | apply gNK | apply Zam | apply Zaf | apply ZaC | apply Zai | apply CK_t | apply ZaR | apply Zar | apply Zas | apply Zav) | apply Zah Zad | apply gSel.ccons))
 (all_goals (first | (((refine Zao ?_; first | exact Zip (.inl (by assumption)) | exact Zip (.inr (.inl (by assumption))) | exact Zip (.inr (.inr (.inl (by assumption)))) | exact Zip (.inr (.inr (.inr (.inl (Zwv (by assumption)))))) | (rw [ZlG]; exact Zrq (by assumption) (by assumption) (Ztj (by assumption))))); done)))
end Go.Proofs.YtabfpoflhacknaaGreat

