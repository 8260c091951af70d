/- Contracts of the laws' own functions over data: sizes, copies, equality. No conditions but those that each theorem names. -/
import Derived.Test.YtjjidamlmebaaaaGreatTab
import Derived.Test.YtjjidamlmebaaaaGreatKG
import Derived.Test.YtjjidamlmebaaaaGreatTM
import Derived.Test.YtjjidamlmebaaaaGreatW1
import Derived.Test.YtjjidamlmebaaaaGreatChecked
set_option linter.unusedSimpArgs false
set_option linter.unusedVariables false
namespace Go.Proofs.YtjjidamlmebaaaaGreat
open Go.RowKit
open Shp
theorem QT10 {p : Prop} (h : p := by ((try (first | exact EQ.mk (by simp only [List.map_replicate]; rfl) | exact EQ.mk (by first | (simp; done) | fail))); done)) : p := h
def Zhk : Nat → List Nat
 | 0 => [0, 1]
 | 1 => [1]
 | 2 => [1, 10]
 | 3 => [4]
 | 4 => [4]
 | _ => []
theorem Zcw (args : Array Value) (w : World) : (callFunc 42 args).run Tryz.prog w = .ok (.enter 42 args) w := Zaa Tryz.func42 (by decide) rfl args w
set_option maxHeartbeats 1000000 in
theorem ZfV (xs : List Int) (l : Int) (hl : NU (0 ≤ l ∧ l ≤ 1048576)) : Con Tryz.prog 42 [.ints xs, .i l] (.i (Zbd xs l)) := by
 have hl := hl.e
 refine Con.fit Zcw fun hfit => ?_
 have hb_xs : xs.length ≤ 9223372036854775807 := GFits.ints (show GFits (.ints xs) from hfit 0 (ZL rfl))
 clear hfit
 refine gCon Zhk Zab (rs := [.tmp 4]) (sl := [(0, .g (.ints xs)), (1, .g (.i l))]) Tryz.func42 rfl Tryz.ntmps42 rfl Zcw rfl (by repeat constructor) ?_
 (repeat' (first | (with_reducible constructor) | exact Z2 | exact ZN | exact ZS | (with_reducible intro hc; (try simp only [HCs] at hc)) | exact OB_f | (with_reducible first | apply gNK | apply Zaj | apply Zae | apply Zar | apply Zag | apply ZaG | apply Zak | apply Zai | apply Zao) | apply Zaf Zab | apply gSel.ccons))
 (all_goals (first | (((refine Zad (EQ.mk ?_); unfold Zbd Zbt; dsimp only; split <;> omega)); done)))
def Zhn : Nat → List Nat
 | 0 => [0]
 | 1 => [0, 3]
 | 2 => [0, 3, 4]
 | 3 => [0, 3, 4, 11]
 | 4 => [0, 3, 4]
 | 5 => [0, 3, 4]
 | 6 => [2]
 | _ => []
theorem ZcJ (args : Array Value) (w : World) : (callFunc 47 args).run Tryz.prog w = .ok (.enter 47 args) w := Zaa Tryz.func47 (by decide) rfl args w
set_option maxHeartbeats 1000000 in
theorem Zfu (xs : List Int) (hs : HY (ZeP xs)) : Con Tryz.prog 47 [.ints xs] (.ints xs) := by
 have hs := hs.e
 refine Con.fit ZcJ fun hfit => ?_
 have hb_xs : xs.length ≤ 9223372036854775807 := GFits.ints (show GFits (.ints xs) from hfit 0 (ZL rfl))
 clear hfit
 have hs1 : xs.length ≤ 1048576 := hs
 refine gCon Zhn Zab (rs := [.tmp 2]) (sl := [(0, .g (.ints xs))]) Tryz.func47 rfl Tryz.ntmps47 rfl ZcJ rfl (by repeat constructor) ?_
 (repeat' (first | ((with_reducible apply gLI.cone); (. exact RF.mk ⟨rfl, rfl⟩)) | (with_reducible constructor) | exact Z3 | exact ZN | exact ZS | exact ZC | (with_reducible intro hc; (try simp only [HCs] at hc)) | exact OB_f | exact ZM | (with_reducible first | apply gNK | apply Zaj | apply Zae | apply Zam | apply Zag | apply ZaG | apply Zak | apply Zai | apply Zas | apply Zal | apply Zau | apply Zat | apply Zao) | apply Zaf Zab | (apply ZaB; exact RF.mk rfl) | (refine Zah (id := 0) (ι := Nat × (List Int)) (fun ⟨i, ys⟩ => ⟨[(0, .g (.ints xs)), (3, .own 0 0 xs.length), (4, .g (.i i))], [(0, .arr 1 true (ys.map GV.i))]⟩) (fun ⟨i, ys⟩ => (i ≤ xs.length) ∧ (ys.length = xs.length) ∧ (ys.take i = xs.take i)) (fun ⟨i, ys⟩ => xs.length - i) (0, List.replicate xs.length 0) ?_ ?_ ?_; (. (apply gLX1 <;> (repeat' (first | (with_reducible constructor) | exact Z5 | exact RF.mk (by decide) | (with_reducible apply Zad) | exact ZE)))); (. (exact ⟨by omega, by simp, by simp⟩)); (rintro ⟨i, ys⟩ ⟨h1, h2, h3⟩; (show TX _ _ _ _ _ [(0, .g (.ints xs)), (3, .own 0 0 xs.length), (4, .g (.i i))] [(0, .arr 1 true (ys.map GV.i))] _))) | apply gSel.ccons))
 (all_goals (first | (refine ZaA (i + 1, ys.set i (nth xs i)) ?_ ?_ ?_; (· (apply gLX1 <;> (repeat' (first | (with_reducible constructor) | exact Z5 | exact RF.mk (by decide) | (with_reducible apply Zad) | exact ZE)))); (· ((refine ⟨by omega, by simp [h2], ?_⟩; rw [ZkG (by omega), h3, ZaF (by omega)]))); (· exact ZW)) | (((refine Za1 (Zap (EQ.mk ?_)); rw [← List.take_length (l := xs), ← List.take_length (l := ys), show ys.length = i by omega, h3, show xs.length = i by omega])); done)))
def ZjW : Nat → List Nat
 | 0 => [1, 2]
 | 1 => [1, 2, 3]
 | 2 => [1, 2, 3]
 | 3 => [2, 3]
 | 4 => [2]
 | _ => []
theorem Zhs (args : Array Value) (w : World) : (callFunc 8 args).run Tryz.prog w = .ok (.enter 8 args) w := Zaa Tryz.func8 (by decide) rfl args w
set_option maxHeartbeats 1000000 in
theorem ZnG (inp : Int) (out : Int) : Con Tryz.prog 8 [.sig inp out] (.sig inp out) := by
 refine gCon ZjW Zab (rs := [.cell 2 27]) (sl := [(0, .g (.sig inp out))]) Tryz.func8 rfl Tryz.ntmps8 rfl Zhs rfl (by repeat constructor) ?_
 (repeat' (first | ((with_reducible apply gLB.cagg); (. exact RF.mk ⟨rfl, rfl, rfl⟩)) | ((with_reducible apply gLB.cone); (. exact RF.mk ⟨rfl, rfl⟩)) | (with_reducible constructor) | exact Z3 | exact ZF | exact OB_f | (with_reducible first | apply gNK | apply Zaj | apply Zae | apply Zai) | apply Zaf Zab | apply gSel.ccons))
 (all_goals (first | (((first | (refine Zax ?_; first | (simp_all; done) | (rw [Bool.eq_iff_iff]; simp only [Bool.and_eq_true, Bool.or_eq_true, decide_eq_true_eq, Bool.false_eq_true, false_iff, true_iff, iff_false, iff_true, not_and, not_or, Bool.not_eq_true, decide_eq_false_iff_not, beq_iff_eq, bne_iff_ne, ne_eq, Bool.not_eq_true', Bool.not_eq_false', Int.not_le, Int.not_lt]; omega)) | ((repeat (first | apply ZbK | apply ZaP | apply ZbT | apply Za1 | apply Zap)); all_goals (first | exact EQ.mk rfl | exact EQ.mk (by first | (simp; done) | fail) | exact EQ.mk (by first | (simp_all; done) | fail))))); done)))
def ZiY : Nat → List Nat
 | 0 => [1, 2]
 | 1 => [1, 2]
 | 2 => [1, 2, 10]
 | 3 => [4]
 | 4 => [1]
 | 5 => [1, 16]
 | 6 => [4]
 | 7 => [4]
 | _ => []
theorem Zdp (args : Array Value) (w : World) : (callFunc 52 args).run Tryz.prog w = .ok (.enter 52 args) w := Zaa Tryz.func52 (by decide) rfl args w
set_option maxHeartbeats 1000000 in
theorem Zl9 (ask : List Int) (give : List Int) (l : Int) (hl : NU (0 ≤ l ∧ l ≤ 1048576)) : Con Tryz.prog 52 [.pair ask give, .i l] (.i (Zet (ask, give) l)) := by
 have hl := hl.e
 refine Con.fit Zdp fun hfit => ?_
 have hb_ask : ask.length ≤ 9223372036854775807 := GFits.ints (GFits.cell (show GFits (.pair ask give) from hfit 0 (ZL rfl)) (.head _))
 have hb_give : give.length ≤ 9223372036854775807 := GFits.ints (GFits.cell (show GFits (.pair ask give) from hfit 0 (ZL rfl)) (.tail _ (.head _)))
 clear hfit
 refine gCon ZiY Zab (rs := [.tmp 4]) (sl := [(0, .g (.pair ask give)), (1, .g (.i l))]) Tryz.func52 rfl Tryz.ntmps52 rfl Zdp rfl (by repeat constructor) ?_
 (repeat' (first | ((with_reducible apply gLB.cone); (. exact RF.mk ⟨rfl, rfl⟩)) | (with_reducible constructor) | exact Z2 | exact NU.mk (by first | exact ZO | (first | omega | (have q0 := ZbY ask (l) (by assumption) (by omega); first | omega | (have q1 := ZbY give (Zbd ask (l)) (by assumption) (by omega); omega)))) | exact ZF | ((with_reducible apply Zaw); first | apply ZfV) | (with_reducible intro hc; (try simp only [HCs] at hc)) | exact OB_f | (with_reducible first | apply gNK | apply Zaj | apply Zae | apply Zar | apply Zag | apply ZaG | apply Zak | apply Zai | apply Zao) | apply Zaf Zab | apply gSel.ccons))
 (all_goals (first | (((refine Zad (EQ.mk ?_); unfold Zet Zbt; dsimp only; repeat' split; all_goals omega)); done)))
def Zi4 : Nat → List Nat
 | 0 => [1, 2]
 | 1 => [1, 2, 3]
 | 2 => [1, 2, 3]
 | 3 => [2, 3]
 | 4 => [2]
 | _ => []
theorem Zdr (args : Array Value) (w : World) : (callFunc 63 args).run Tryz.prog w = .ok (.enter 63 args) w := Zaa Tryz.func63 (by decide) rfl args w
set_option maxHeartbeats 1000000 in
theorem Zmy (ask : List Int) (give : List Int) (hs : HY (Zpo (ask, give))) : Con Tryz.prog 63 [.pair ask give] (.pair ask give) := by
 have hs := hs.e
 refine Con.fit Zdr fun hfit => ?_
 have hb_ask : ask.length ≤ 9223372036854775807 := GFits.ints (GFits.cell (show GFits (.pair ask give) from hfit 0 (ZL rfl)) (.head _))
 have hb_give : give.length ≤ 9223372036854775807 := GFits.ints (GFits.cell (show GFits (.pair ask give) from hfit 0 (ZL rfl)) (.tail _ (.head _)))
 clear hfit
 refine gCon Zi4 Zab (rs := [.cell 2 95]) (sl := [(0, .g (.pair ask give))]) Tryz.func63 rfl Tryz.ntmps63 rfl Zdr rfl (by repeat constructor) ?_
 (repeat' (first | ((with_reducible apply gLB.cagg); (. exact RF.mk ⟨rfl, rfl, rfl⟩)) | ((with_reducible apply gLB.cone); (. exact RF.mk ⟨rfl, rfl⟩)) | (with_reducible constructor) | exact Z3 | exact ZF | exact ZC | ((with_reducible apply Zaw); first | apply Zfu) | exact OB_f | (with_reducible first | apply gNK | apply Zaj | apply Zae | apply Zai | apply Zao) | apply Zaf Zab | exact HY.mk hs.1 | exact HY.mk hs.2 | apply gSel.ccons))
 (all_goals (first | (((first | (refine Zax ?_; first | (simp_all; done) | (rw [Bool.eq_iff_iff]; simp only [Bool.and_eq_true, Bool.or_eq_true, decide_eq_true_eq, Bool.false_eq_true, false_iff, true_iff, iff_false, iff_true, not_and, not_or, Bool.not_eq_true, decide_eq_false_iff_not, beq_iff_eq, bne_iff_ne, ne_eq, Bool.not_eq_true', Bool.not_eq_false', Int.not_le, Int.not_lt]; omega)) | ((repeat (first | apply ZbK | apply ZaP | apply ZbT | apply Za1 | apply Zap)); all_goals (first | exact EQ.mk rfl | exact EQ.mk (by first | (simp; done) | fail) | exact EQ.mk (by first | (simp_all; done) | fail))))); done)))
def Zi2 : Nat → List Nat
 | 0 => [2, 3]
 | 1 => [2, 3, 10]
 | 2 => [4]
 | 3 => [16]
 | 4 => [4]
 | 5 => [4]
 | _ => []
theorem ZdD (args : Array Value) (w : World) : (callFunc 75 args).run Tryz.prog w = .ok (.enter 75 args) w := Zaa Tryz.func75 (by decide) rfl args w
set_option maxHeartbeats 1000000 in
theorem Zmw (ask : List Int) (give : List Int) (ask' : List Int) (give' : List Int) : Con Tryz.prog 75 [.pair ask give, .pair ask' give'] (.bool (decide (ask = ask') && decide (give = give'))) := by
 refine Con.fit ZdD fun hfit => ?_
 have hb_ask : ask.length ≤ 9223372036854775807 := GFits.ints (GFits.cell (show GFits (.pair ask give) from hfit 0 (ZL rfl)) (.head _))
 have hb_give : give.length ≤ 9223372036854775807 := GFits.ints (GFits.cell (show GFits (.pair ask give) from hfit 0 (ZL rfl)) (.tail _ (.head _)))
 have hb_ask' : ask'.length ≤ 9223372036854775807 := GFits.ints (GFits.cell (show GFits (.pair ask' give') from hfit 1 (ZL rfl)) (.head _))
 have hb_give' : give'.length ≤ 9223372036854775807 := GFits.ints (GFits.cell (show GFits (.pair ask' give') from hfit 1 (ZL rfl)) (.tail _ (.head _)))
 clear hfit
 refine gCon Zi2 Zab (rs := [.tmp 4]) (sl := [(0, .g (.pair ask give)), (1, .g (.pair ask' give'))]) Tryz.func75 rfl Tryz.ntmps75 rfl ZdD rfl (by repeat constructor) ?_
 (repeat' (first | ((with_reducible apply gLB.cone); (. exact RF.mk ⟨rfl, rfl⟩)) | (with_reducible constructor) | exact Z2 | exact ZF | ((with_reducible apply Zaw); first | apply ZfN) | (with_reducible intro hc; (try simp only [HCs] at hc)) | exact OB_f | (with_reducible first | apply gNK | apply Zaj | apply Zae | apply Zar | apply Zag | apply ZaG | apply Zak | apply Zai | apply Zao) | apply Zaf Zab | apply gSel.ccons))
 (all_goals (first | (((refine Zax ?_; simp_all; done)); done)))
def Zgn : Nat → List Nat
 | 0 => [0, 1]
 | 1 => [0, 1]
 | 2 => [0, 1, 11]
 | 3 => [4]
 | 4 => [0, 1, 5]
 | 5 => [0, 1, 5, 15]
 | 6 => [0, 1, 5]
 | 7 => [0, 1, 5]
 | 8 => [0, 1, 5, 25]
 | 9 => [4]
 | 10 => [4]
 | _ => []
theorem Zck (args : Array Value) (w : World) : (callFunc 28 args).run Tryz.prog w = .ok (.enter 28 args) w := Zaa Tryz.func28 (by decide) rfl args w
set_option maxHeartbeats 1000000 in
theorem ZiV (xs : List (List Int)) (l : Int) (hl : NU (0 ≤ l ∧ l ≤ 1048576)) : Con Tryz.prog 28 [.rows xs, .i l] (.i (ZbA xs l)) := by
 have hl := hl.e
 refine Con.fit Zck fun hfit => ?_
 have hb_xs : xs.length ≤ 9223372036854775807 := GFits.lenm (show GFits (.rows xs) from hfit 0 (ZL rfl))
 have hr_xs : ∀ r ∈ xs, r.length ≤ 9223372036854775807 := fun r hr => GFits.ints (GFits.elm (show GFits (.rows xs) from hfit 0 (ZL rfl)) r hr)
 clear hfit
 refine gCon Zgn Zab (rs := [.tmp 4]) (sl := [(0, .g (.rows xs)), (1, .g (.i l))]) Tryz.func28 rfl Tryz.ntmps28 rfl Zck rfl (by repeat constructor) ?_
 (repeat' (first | ((with_reducible apply gLI.cone); (. exact RF.mk ⟨rfl, rfl⟩)) | (with_reducible constructor) | exact Z2 | exact ZN | exact ZS | ((with_reducible apply Zaw); first | apply ZfV) | (with_reducible intro hc; (try simp only [HCs] at hc)) | exact OB_f | (with_reducible first | apply gNK | apply Zaj | apply Zae | apply Zam | apply Zar | apply Zag | apply ZaG | apply Zak | apply Zai | apply Zas | apply Zal | apply Zau | apply ZaO | apply Zat | apply ZaR | apply Zao) | apply Zaf Zab | (apply ZaB; exact RF.mk rfl) | (refine Zah (id := 0) (ι := Nat × Int) (fun ⟨i, lf⟩ => ⟨[(0, .g (.rows xs)), (1, .g (.i lf)), (5, .g (.i i))], []⟩) (fun ⟨i, lf⟩ => (i ≤ xs.length) ∧ (0 ≤ lf ∧ lf ≤ 1048576) ∧ (szGo Zbd (xs.drop i) lf = ZbA xs l)) (fun ⟨i, lf⟩ => xs.length - i) (0, l - xs.length) ?_ ?_ ?_; (. (apply gLX0 <;> (repeat' (first | (with_reducible constructor) | exact Z5 | exact RF.mk (by decide) | (with_reducible apply Zad) | exact ZE)))); (. ((refine ⟨by omega, by omega, ?_⟩; unfold ZbA Zbt; rw [if_neg (by omega)]; rfl))); (rintro ⟨i, lf⟩ ⟨h1, h2, h3⟩; (show TX _ _ _ _ _ [(0, .g (.rows xs)), (1, .g (.i lf)), (5, .g (.i i))] [] _))) | apply gSel.ccons))
 (all_goals (first | (refine ZaA (i + 1, Zbd (nth xs i) lf) ?_ ?_ ?_; (· (apply gLX0 <;> (repeat' (first | (with_reducible constructor) | exact Z5 | exact RF.mk (by decide) | (with_reducible apply Zad) | exact ZE)))); (· ((have hc2 : 0 ≤ Zbd (nth xs i) lf := hc; have q := ZbY (nth xs i) lf hc2 (by omega); refine ⟨by omega, ⟨hc, by omega⟩, ?_⟩; rw [Zga (by omega)] at h3; rw [← h3]; simp only [szGo]; unfold Zbt; rw [if_neg (by omega)]))); (· exact ZW)) | (((refine Zad (EQ.mk ?_); first | (rw [← h3, Zga (by omega)]; simp only [szGo]; unfold Zbt; rw [if_pos (show Zbd (nth xs i) lf < 0 from hc)]) | (rw [← h3, List.drop_eq_nil_of_le (by omega)]; rfl) | (unfold ZbA Zbt; rw [if_pos (by omega)]))); done)))
def Zgk : Nat → List Nat
 | 0 => [0]
 | 1 => [0, 3]
 | 2 => [0, 3, 4]
 | 3 => [0, 3, 4, 11]
 | 4 => [0, 3, 4]
 | 5 => [0, 3, 4]
 | 6 => [2]
 | _ => []
theorem Zcl (args : Array Value) (w : World) : (callFunc 32 args).run Tryz.prog w = .ok (.enter 32 args) w := Zaa Tryz.func32 (by decide) rfl args w
set_option maxHeartbeats 1000000 in
theorem Zi5 (xs : List (List Int)) (hs : HY (ZhS xs)) : Con Tryz.prog 32 [.rows xs] (.rows xs) := by
 have hs := hs.e
 refine Con.fit Zcl fun hfit => ?_
 have hb_xs : xs.length ≤ 9223372036854775807 := GFits.lenm (show GFits (.rows xs) from hfit 0 (ZL rfl))
 have hr_xs : ∀ r ∈ xs, r.length ≤ 9223372036854775807 := fun r hr => GFits.ints (GFits.elm (show GFits (.rows xs) from hfit 0 (ZL rfl)) r hr)
 clear hfit
 have hs1 := hs.1
 refine gCon Zgk Zab (rs := [.tmp 2]) (sl := [(0, .g (.rows xs))]) Tryz.func32 rfl Tryz.ntmps32 rfl Zcl rfl (by repeat constructor) ?_
 (repeat' (first | ((with_reducible apply gLI.cone); (. exact RF.mk ⟨rfl, rfl⟩)) | (with_reducible constructor) | exact Z3 | exact ZN | exact ZS | exact ZC | ((with_reducible apply Zaw); first | apply Zfu) | (with_reducible intro hc; (try simp only [HCs] at hc)) | exact OB_f | exact DEC.mk (by decide) | exact ZM | (with_reducible first | apply gNK | apply Zaj | apply Zae | apply Zam | apply Zag | apply ZaG | apply Zak | apply Zai | apply Zas | apply Zal | apply Zau | apply Zat | apply Zao) | apply Zaf Zab | (apply ZaB; exact RF.mk rfl) | exact HY.mk (hs.2 _ (ZaE (by omega))) | (refine Zah (id := 0) (ι := Nat × (List (List Int))) (fun ⟨i, ys⟩ => ⟨[(0, .g (.rows xs)), (3, .own 0 0 xs.length), (4, .g (.i i))], [(0, .arr 1 true (ys.map GV.ints))]⟩) (fun ⟨i, ys⟩ => (i ≤ xs.length) ∧ (ys.length = xs.length) ∧ (ys.take i = xs.take i)) (fun ⟨i, ys⟩ => xs.length - i) (0, List.replicate xs.length default) ?_ ?_ ?_; (. (apply gLX1 <;> (repeat' (first | (with_reducible constructor) | exact Z5 | exact RF.mk (by decide) | (with_reducible apply Zad) | exact ZE)); (all_goals exact QT10))); (. (exact ⟨by omega, by simp, by simp⟩)); (rintro ⟨i, ys⟩ ⟨h1, h2, h3⟩; (show TX _ _ _ _ _ [(0, .g (.rows xs)), (3, .own 0 0 xs.length), (4, .g (.i i))] [(0, .arr 1 true (ys.map GV.ints))] _))) | apply gSel.ccons))
 (all_goals (first | (refine ZaA (i + 1, ys.set i (nth xs i)) ?_ ?_ ?_; (· (apply gLX1 <;> (repeat' (first | (with_reducible constructor) | exact Z5 | exact RF.mk (by decide) | (with_reducible apply Zad) | exact ZE)); (all_goals exact QT10))); (· ((refine ⟨by omega, by simp [h2], ?_⟩; rw [ZkG (by omega), h3, ZaF (by omega)]))); (· exact ZW)) | (((refine Za1 (Zap (EQ.mk ?_)); rw [← List.take_length (l := xs), ← List.take_length (l := ys), show ys.length = i by omega, h3, show xs.length = i by omega])); done)))
def Zgq : Nat → List Nat
 | 0 => [0, 1]
 | 1 => [0, 1, 10]
 | 2 => [4]
 | 3 => [0, 1, 5]
 | 4 => [0, 1, 5, 14]
 | 5 => [0, 1, 5]
 | 6 => [0, 1, 5, 26]
 | 7 => [4]
 | 8 => [4]
 | _ => []
theorem Zcm (args : Array Value) (w : World) : (callFunc 38 args).run Tryz.prog w = .ok (.enter 38 args) w := Zaa Tryz.func38 (by decide) rfl args w
set_option maxHeartbeats 1000000 in
theorem Zi3 (xs ys : List (List Int)) : Con Tryz.prog 38 [.rows xs, .rows ys] (.bool (decide (xs = ys))) := by
 refine Con.fit Zcm fun hfit => ?_
 have hb_xs : xs.length ≤ 9223372036854775807 := GFits.lenm (show GFits (.rows xs) from hfit 0 (ZL rfl))
 have hr_xs : ∀ r ∈ xs, r.length ≤ 9223372036854775807 := fun r hr => GFits.ints (GFits.elm (show GFits (.rows xs) from hfit 0 (ZL rfl)) r hr)
 have hb_ys : ys.length ≤ 9223372036854775807 := GFits.lenm (show GFits (.rows ys) from hfit 1 (ZL rfl))
 have hr_ys : ∀ r ∈ ys, r.length ≤ 9223372036854775807 := fun r hr => GFits.ints (GFits.elm (show GFits (.rows ys) from hfit 1 (ZL rfl)) r hr)
 clear hfit
 refine gCon Zgq Zab (rs := [.tmp 4]) (sl := [(0, .g (.rows xs)), (1, .g (.rows ys))]) Tryz.func38 rfl Tryz.ntmps38 rfl Zcm rfl (by repeat constructor) ?_
 (repeat' (first | ((with_reducible apply gLI.cone); (. exact RF.mk ⟨rfl, rfl⟩)) | (with_reducible constructor) | exact Z2 | exact ZN | exact ZS | ((with_reducible apply Zaw); first | apply ZfN) | (with_reducible intro hc; (try simp only [HCs] at hc)) | exact OB_f | exact ZK | (with_reducible first | apply gNK | apply Zaj | apply Zae | apply Zam | apply Zar | apply Zag | apply ZaG | apply Zak | apply Zai | apply Zas | apply Zal | apply Zau | apply ZaO | apply Zat | apply ZaR | apply Zao) | apply Zaf Zab | apply Za4 Zab rfl | (apply ZaB; exact RF.mk rfl) | (refine Zah (id := 0) (ι := Nat) (fun i => ⟨[(0, .g (.rows xs)), (1, .g (.rows ys)), (5, .g (.i i))], []⟩) (fun i => (i ≤ xs.length) ∧ (∀ z, z < i → (fun i => decide (nth xs i = nth ys i)) z = true) ∧ (xs.length = ys.length)) (fun i => xs.length - i) (0) ?_ ?_ ?_; (. (apply gLX0 <;> (repeat' (first | (with_reducible constructor) | exact Z5 | exact RF.mk (by decide) | (with_reducible apply Zad) | exact ZE)))); (. (exact ⟨by omega, Za6, by omega⟩)); (rintro i ⟨h1, h2, h3⟩; (show TX _ _ _ _ _ [(0, .g (.rows xs)), (1, .g (.rows ys)), (5, .g (.i i))] [] _))) | apply gSel.ccons))
 (all_goals (first | (refine ZaA (i + 1) ?_ ?_ ?_; (· (apply gLX0 <;> (repeat' (first | (with_reducible constructor) | exact Z5 | exact RF.mk (by decide) | (with_reducible apply Zad) | exact ZE)))); (· ((refine ⟨by omega, Za8 h2 ?_, h3⟩; ((try simp only [BOa] at *); (first | omega | assumption | grind))))); (· exact ZW)) | (((refine Zax ?_; first | (rw [eq_comm, decide_eq_false_iff_not]; intro e; subst e; first | exact absurd rfl (by assumption) | simp_all | grind) | (rw [← ZcA (by omega)]; refine (ZaV fun j hj => h2 j (by omega)).symm))); done)))
end Go.Proofs.YtjjidamlmebaaaaGreat

