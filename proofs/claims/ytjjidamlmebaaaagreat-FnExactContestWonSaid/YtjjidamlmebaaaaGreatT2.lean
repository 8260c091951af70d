/- Contracts of the laws' own functions over data: sizes, copies, equality. No conditions but those that each theorem names. -/
import Derived.Test.YtjjidamlmebaaaaGreatTab
import Derived.Test.YtjjidamlmebaaaaGreatKG
import Derived.Test.YtjjidamlmebaaaaGreatT1
import Derived.Test.YtjjidamlmebaaaaGreatChecked
set_option linter.unusedSimpArgs false
set_option linter.unusedVariables false
namespace Go.Proofs.YtjjidamlmebaaaaGreat
open Go.RowKit
open Shp
theorem QT20 {p : Prop} (h : p := by ((try (first | exact EQ.mk (by simp only [List.map_replicate]; rfl) | exact EQ.mk (by first | (simp; done) | fail))); done)) : p := h
def Zio : Nat → List Nat
 | 0 => [0, 1]
 | 1 => [0, 1]
 | 2 => [0, 1, 11]
 | 3 => [4]
 | 4 => [0, 1, 5]
 | 5 => [0, 1, 5, 15]
 | 6 => [0, 1, 5]
 | 7 => [0, 1, 5]
 | 8 => [0, 1, 5, 25]
 | 9 => [4]
 | 10 => [4]
 | _ => []
theorem ZcU (args : Array Value) (w : World) : (callFunc 29 args).run Tryz.prog w = .ok (.enter 29 args) w := Zaa Tryz.func29 (by decide) rfl args w
set_option maxHeartbeats 1000000 in
theorem Zk9 (xs : List (List Int × List Int)) (l : Int) (hl : NU (0 ≤ l ∧ l ≤ 1048576)) : Con Tryz.prog 29 [.pairs xs, .i l] (.i (Zef xs l)) := by
 have hl := hl.e
 refine Con.fit ZcU fun hfit => ?_
 have hb_xs : xs.length ≤ 9223372036854775807 := GFits.lenm (show GFits (.pairs xs) from hfit 0 (ZL rfl))
 have hr_xs : ∀ r ∈ xs, r.1.length ≤ 9223372036854775807 ∧ r.2.length ≤ 9223372036854775807 := fun r hr => ⟨GFits.ints (GFits.cell (GFits.elm (show GFits (.pairs xs) from hfit 0 (ZL rfl)) r hr) (.head _)), GFits.ints (GFits.cell (GFits.elm (show GFits (.pairs xs) from hfit 0 (ZL rfl)) r hr) (.tail _ (.head _)))⟩
 clear hfit
 refine gCon Zio Zab (rs := [.tmp 4]) (sl := [(0, .g (.pairs xs)), (1, .g (.i l))]) Tryz.func29 rfl Tryz.ntmps29 rfl ZcU rfl (by repeat constructor) ?_
 (repeat' (first | ((with_reducible apply gLI.cagg); (. exact RF.mk ⟨rfl, rfl, rfl⟩)) | (with_reducible constructor) | exact Z2 | exact ZN | exact ZS | ((with_reducible apply Zaw); first | apply Zl9) | (with_reducible intro hc; (try simp only [HCs] at hc)) | exact OB_f | (with_reducible first | apply gNK | apply Zaj | apply Zae | apply Zam | apply Zar | apply Zag | apply ZaG | apply Zak | apply Zai | apply Zas | apply Zal | apply Zau | apply ZaO | apply Zat | apply ZaR | apply Zao) | apply Zaf Zab | (apply ZaB; exact RF.mk rfl) | (refine Zah (id := 0) (ι := Nat × Int) (fun ⟨i, lf⟩ => ⟨[(0, .g (.pairs xs)), (1, .g (.i lf)), (5, .g (.i i))], []⟩) (fun ⟨i, lf⟩ => (i ≤ xs.length) ∧ (0 ≤ lf ∧ lf ≤ 1048576) ∧ (szGo Zet (xs.drop i) lf = Zef xs l)) (fun ⟨i, lf⟩ => xs.length - i) (0, l - xs.length) ?_ ?_ ?_; (. (apply gLX0 <;> (repeat' (first | (with_reducible constructor) | exact Z5 | exact RF.mk (by decide) | (with_reducible apply Zad) | exact ZE)))); (. ((refine ⟨by omega, by omega, ?_⟩; unfold Zef Zbt; rw [if_neg (by omega)]; rfl))); (rintro ⟨i, lf⟩ ⟨h1, h2, h3⟩; (show TX _ _ _ _ _ [(0, .g (.pairs xs)), (1, .g (.i lf)), (5, .g (.i i))] [] _))) | apply gSel.ccons))
 (all_goals (first | (refine ZaA (i + 1, Zet (nth xs i) lf) ?_ ?_ ?_; (· (apply gLX0 <;> (repeat' (first | (with_reducible constructor) | exact Z5 | exact RF.mk (by decide) | (with_reducible apply Zad) | exact ZE)))); (· ((have hc2 : 0 ≤ Zet (nth xs i) lf := hc; have q := Zk6 (nth xs i) lf hc2 (by omega); refine ⟨by omega, ⟨hc, by omega⟩, ?_⟩; rw [Zga (by omega)] at h3; rw [← h3]; simp only [szGo]; unfold Zbt; rw [if_neg (by omega)]))); (· exact ZW)) | (((refine Zad (EQ.mk ?_); first | (rw [← h3, Zga (by omega)]; simp only [szGo]; unfold Zbt; rw [if_pos (show Zet (nth xs i) lf < 0 from hc)]) | (rw [← h3, List.drop_eq_nil_of_le (by omega)]; rfl) | (unfold Zef Zbt; rw [if_pos (by omega)]))); done)))
def Zij : Nat → List Nat
 | 0 => [0]
 | 1 => [0, 3]
 | 2 => [0, 3, 4]
 | 3 => [0, 3, 4, 11]
 | 4 => [0, 3, 4]
 | 5 => [0, 3, 4]
 | 6 => [2]
 | _ => []
theorem Zc5 (args : Array Value) (w : World) : (callFunc 33 args).run Tryz.prog w = .ok (.enter 33 args) w := Zaa Tryz.func33 (by decide) rfl args w
set_option maxHeartbeats 1000000 in
theorem ZlR (xs : List (List Int × List Int)) (hs : HY (Zmo xs)) : Con Tryz.prog 33 [.pairs xs] (.pairs xs) := by
 have hs := hs.e
 refine Con.fit Zc5 fun hfit => ?_
 have hb_xs : xs.length ≤ 9223372036854775807 := GFits.lenm (show GFits (.pairs xs) from hfit 0 (ZL rfl))
 have hr_xs : ∀ r ∈ xs, r.1.length ≤ 9223372036854775807 ∧ r.2.length ≤ 9223372036854775807 := fun r hr => ⟨GFits.ints (GFits.cell (GFits.elm (show GFits (.pairs xs) from hfit 0 (ZL rfl)) r hr) (.head _)), GFits.ints (GFits.cell (GFits.elm (show GFits (.pairs xs) from hfit 0 (ZL rfl)) r hr) (.tail _ (.head _)))⟩
 clear hfit
 have hs1 := hs.1
 refine gCon Zij Zab (rs := [.tmp 2]) (sl := [(0, .g (.pairs xs))]) Tryz.func33 rfl Tryz.ntmps33 rfl Zc5 rfl (by repeat constructor) ?_
 (repeat' (first | ((with_reducible apply gLI.cagg); (. exact RF.mk ⟨rfl, rfl, rfl⟩)) | (with_reducible constructor) | exact Z3 | exact ZN | exact ZS | exact ZC | ((with_reducible apply Zaw); first | apply Zmy) | (with_reducible intro hc; (try simp only [HCs] at hc)) | exact OB_f | exact DEC.mk (by decide) | exact ZT | (with_reducible first | apply gNK | apply Zaj | apply Zae | apply Zam | apply Zag | apply ZaG | apply Zak | apply Zai | apply Zas | apply Zal | apply Zau | apply Zat | apply Zao) | apply Zaf Zab | (apply ZaB; exact RF.mk rfl) | exact HY.mk (hs.2 _ (ZaE (by omega))) | (refine Zah (id := 0) (ι := Nat × (List (List Int × List Int))) (fun ⟨i, ys⟩ => ⟨[(0, .g (.pairs xs)), (3, .own 0 0 xs.length), (4, .g (.i i))], [(0, .arr 2 true (ys.map GV.pairP))]⟩) (fun ⟨i, ys⟩ => (i ≤ xs.length) ∧ (ys.length = xs.length) ∧ (ys.take i = xs.take i)) (fun ⟨i, ys⟩ => xs.length - i) (0, List.replicate xs.length default) ?_ ?_ ?_; (. (apply gLX1 <;> (repeat' (first | (with_reducible constructor) | exact Z5 | exact RF.mk (by decide) | (with_reducible apply Zad) | exact ZE)); (all_goals exact QT20))); (. (exact ⟨by omega, by simp, by simp⟩)); (rintro ⟨i, ys⟩ ⟨h1, h2, h3⟩; (show TX _ _ _ _ _ [(0, .g (.pairs xs)), (3, .own 0 0 xs.length), (4, .g (.i i))] [(0, .arr 2 true (ys.map GV.pairP))] _))) | apply gSel.ccons))
 (all_goals (first | (refine ZaA (i + 1, ys.set i (nth xs i)) ?_ ?_ ?_; (· (apply gLX1 <;> (repeat' (first | (with_reducible constructor) | exact Z5 | exact RF.mk (by decide) | (with_reducible apply Zad) | exact ZE)); (all_goals exact QT20))); (· ((refine ⟨by omega, by simp [h2], ?_⟩; rw [ZkG (by omega), h3, ZaF (by omega)]))); (· exact ZW)) | (((refine Za1 (Zap (EQ.mk ?_)); rw [← List.take_length (l := xs), ← List.take_length (l := ys), show ys.length = i by omega, h3, show xs.length = i by omega])); done)))
def Ziy : Nat → List Nat
 | 0 => [0, 1]
 | 1 => [0, 1, 10]
 | 2 => [4]
 | 3 => [0, 1, 5]
 | 4 => [0, 1, 5, 14]
 | 5 => [0, 1, 5]
 | 6 => [0, 1, 5, 26]
 | 7 => [4]
 | 8 => [4]
 | _ => []
theorem ZcS (args : Array Value) (w : World) : (callFunc 39 args).run Tryz.prog w = .ok (.enter 39 args) w := Zaa Tryz.func39 (by decide) rfl args w
set_option maxHeartbeats 1000000 in
theorem Zlg (xs ys : List (List Int × List Int)) : Con Tryz.prog 39 [.pairs xs, .pairs ys] (.bool (decide (xs = ys))) := by
 refine Con.fit ZcS fun hfit => ?_
 have hb_xs : xs.length ≤ 9223372036854775807 := GFits.lenm (show GFits (.pairs xs) from hfit 0 (ZL rfl))
 have hr_xs : ∀ r ∈ xs, r.1.length ≤ 9223372036854775807 ∧ r.2.length ≤ 9223372036854775807 := fun r hr => ⟨GFits.ints (GFits.cell (GFits.elm (show GFits (.pairs xs) from hfit 0 (ZL rfl)) r hr) (.head _)), GFits.ints (GFits.cell (GFits.elm (show GFits (.pairs xs) from hfit 0 (ZL rfl)) r hr) (.tail _ (.head _)))⟩
 have hb_ys : ys.length ≤ 9223372036854775807 := GFits.lenm (show GFits (.pairs ys) from hfit 1 (ZL rfl))
 have hr_ys : ∀ r ∈ ys, r.1.length ≤ 9223372036854775807 ∧ r.2.length ≤ 9223372036854775807 := fun r hr => ⟨GFits.ints (GFits.cell (GFits.elm (show GFits (.pairs ys) from hfit 1 (ZL rfl)) r hr) (.head _)), GFits.ints (GFits.cell (GFits.elm (show GFits (.pairs ys) from hfit 1 (ZL rfl)) r hr) (.tail _ (.head _)))⟩
 clear hfit
 refine gCon Ziy Zab (rs := [.tmp 4]) (sl := [(0, .g (.pairs xs)), (1, .g (.pairs ys))]) Tryz.func39 rfl Tryz.ntmps39 rfl ZcS rfl (by repeat constructor) ?_
 (repeat' (first | ((with_reducible apply gLI.cagg); (. exact RF.mk ⟨rfl, rfl, rfl⟩)) | (with_reducible constructor) | exact Z2 | exact ZN | exact ZS | ((with_reducible apply Zaw); first | apply Zmw) | (with_reducible intro hc; (try simp only [HCs] at hc)) | exact OB_f | exact ZK | (with_reducible first | apply gNK | apply Zaj | apply Zae | apply Zam | apply Zar | apply Zag | apply ZaG | apply Zak | apply Zai | apply Zas | apply Zal | apply Zau | apply ZaO | apply Zat | apply ZaR | apply Zao) | apply Zaf Zab | apply Za4 Zab rfl | (apply ZaB; exact RF.mk rfl) | (refine Zah (id := 0) (ι := Nat) (fun i => ⟨[(0, .g (.pairs xs)), (1, .g (.pairs ys)), (5, .g (.i i))], []⟩) (fun i => (i ≤ xs.length) ∧ (∀ z, z < i → (fun i => decide (nth xs i = nth ys i)) z = true) ∧ (xs.length = ys.length)) (fun i => xs.length - i) (0) ?_ ?_ ?_; (. (apply gLX0 <;> (repeat' (first | (with_reducible constructor) | exact Z5 | exact RF.mk (by decide) | (with_reducible apply Zad) | exact ZE)))); (. (exact ⟨by omega, Za6, by omega⟩)); (rintro i ⟨h1, h2, h3⟩; (show TX _ _ _ _ _ [(0, .g (.pairs xs)), (1, .g (.pairs ys)), (5, .g (.i i))] [] _))) | apply gSel.ccons))
 (all_goals (first | (refine ZaA (i + 1) ?_ ?_ ?_; (· (apply gLX0 <;> (repeat' (first | (with_reducible constructor) | exact Z5 | exact RF.mk (by decide) | (with_reducible apply Zad) | exact ZE)))); (· ((refine ⟨by omega, Za8 h2 ?_, h3⟩; ((try simp only [BOa] at *); (first | omega | assumption | grind))))); (· exact ZW)) | (((refine Zax ?_; first | (rw [eq_comm, decide_eq_false_iff_not]; intro e; subst e; first | exact absurd rfl (by assumption) | simp_all | grind) | (rw [← ZcA (by omega)]; refine (ZaV fun j hj => h2 j (by omega)).symm))); done)))
def ZjX : Nat → List Nat
 | 0 => [1, 2]
 | 1 => [1, 2]
 | 2 => [1, 2, 10]
 | 3 => [4]
 | 4 => [1]
 | 5 => [1, 16]
 | 6 => [4]
 | 7 => [4]
 | _ => []
theorem Zd4 (args : Array Value) (w : World) : (callFunc 12 args).run Tryz.prog w = .ok (.enter 12 args) w := Zaa Tryz.func12 (by decide) rfl args w
set_option maxHeartbeats 1000000 in
theorem Zns (next : List (List Int)) (pairs : List (List Int × List Int)) (l : Int) (hl : NU (0 ≤ l ∧ l ≤ 1048576)) : Con Tryz.prog 12 [.det next pairs, .i l] (.i (Zpy (next, pairs) l)) := by
 have hl := hl.e
 refine Con.fit Zd4 fun hfit => ?_
 have hb_next : next.length ≤ 9223372036854775807 := GFits.lenm (GFits.cell (show GFits (.det next pairs) from hfit 0 (ZL rfl)) (.head _))
 have hr_next : ∀ r ∈ next, r.length ≤ 9223372036854775807 := fun r hr => GFits.ints (GFits.elm (GFits.cell (show GFits (.det next pairs) from hfit 0 (ZL rfl)) (.head _)) r hr)
 have hb_pairs : pairs.length ≤ 9223372036854775807 := GFits.lenm (GFits.cell (show GFits (.det next pairs) from hfit 0 (ZL rfl)) (.tail _ (.head _)))
 have hr_pairs : ∀ r ∈ pairs, r.1.length ≤ 9223372036854775807 ∧ r.2.length ≤ 9223372036854775807 := fun r hr => ⟨GFits.ints (GFits.cell (GFits.elm (GFits.cell (show GFits (.det next pairs) from hfit 0 (ZL rfl)) (.tail _ (.head _))) r hr) (.head _)), GFits.ints (GFits.cell (GFits.elm (GFits.cell (show GFits (.det next pairs) from hfit 0 (ZL rfl)) (.tail _ (.head _))) r hr) (.tail _ (.head _)))⟩
 clear hfit
 refine gCon ZjX Zab (rs := [.tmp 4]) (sl := [(0, .g (.det next pairs)), (1, .g (.i l))]) Tryz.func12 rfl Tryz.ntmps12 rfl Zd4 rfl (by repeat constructor) ?_
 (repeat' (first | ((with_reducible apply gLB.cone); (. exact RF.mk ⟨rfl, rfl⟩)) | (with_reducible constructor) | exact Z2 | exact NU.mk (by first | exact ZO | (first | omega | (have q0 := ZgR next (l) (by assumption) (by omega); first | omega | (have q1 := Zjq pairs (ZbA next (l)) (by assumption) (by omega); omega)))) | exact ZF | ((with_reducible apply Zaw); first | apply ZiV | apply Zk9) | (with_reducible intro hc; (try simp only [HCs] at hc)) | exact OB_f | (with_reducible first | apply gNK | apply Zaj | apply Zae | apply Zar | apply Zag | apply ZaG | apply Zak | apply Zai | apply Zao) | apply Zaf Zab | apply gSel.ccons))
 (all_goals (first | (((refine Zad (EQ.mk ?_); unfold Zpy Zbt; dsimp only; repeat' split; all_goals omega)); done)))
def Zkz : Nat → List Nat
 | 0 => [1, 2]
 | 1 => [1, 2, 3]
 | 2 => [1, 2, 3]
 | 3 => [2, 3]
 | 4 => [2]
 | _ => []
theorem ZdT (args : Array Value) (w : World) : (callFunc 14 args).run Tryz.prog w = .ok (.enter 14 args) w := Zaa Tryz.func14 (by decide) rfl args w
set_option maxHeartbeats 1000000 in
theorem Zn0 (next : List (List Int)) (pairs : List (List Int × List Int)) (hs : HY (Zw7 (next, pairs))) : Con Tryz.prog 14 [.det next pairs] (.det next pairs) := by
 have hs := hs.e
 refine Con.fit ZdT fun hfit => ?_
 have hb_next : next.length ≤ 9223372036854775807 := GFits.lenm (GFits.cell (show GFits (.det next pairs) from hfit 0 (ZL rfl)) (.head _))
 have hr_next : ∀ r ∈ next, r.length ≤ 9223372036854775807 := fun r hr => GFits.ints (GFits.elm (GFits.cell (show GFits (.det next pairs) from hfit 0 (ZL rfl)) (.head _)) r hr)
 have hb_pairs : pairs.length ≤ 9223372036854775807 := GFits.lenm (GFits.cell (show GFits (.det next pairs) from hfit 0 (ZL rfl)) (.tail _ (.head _)))
 have hr_pairs : ∀ r ∈ pairs, r.1.length ≤ 9223372036854775807 ∧ r.2.length ≤ 9223372036854775807 := fun r hr => ⟨GFits.ints (GFits.cell (GFits.elm (GFits.cell (show GFits (.det next pairs) from hfit 0 (ZL rfl)) (.tail _ (.head _))) r hr) (.head _)), GFits.ints (GFits.cell (GFits.elm (GFits.cell (show GFits (.det next pairs) from hfit 0 (ZL rfl)) (.tail _ (.head _))) r hr) (.tail _ (.head _)))⟩
 clear hfit
 refine gCon Zkz Zab (rs := [.cell 2 41]) (sl := [(0, .g (.det next pairs))]) Tryz.func14 rfl Tryz.ntmps14 rfl ZdT rfl (by repeat constructor) ?_
 (repeat' (first | ((with_reducible apply gLB.cagg); (. exact RF.mk ⟨rfl, rfl, rfl⟩)) | ((with_reducible apply gLB.cone); (. exact RF.mk ⟨rfl, rfl⟩)) | (with_reducible constructor) | exact Z3 | exact ZF | exact ZC | ((with_reducible apply Zaw); first | apply Zi5 | apply ZlR) | exact OB_f | (with_reducible first | apply gNK | apply Zaj | apply Zae | apply Zai | apply Zao) | apply Zaf Zab | exact HY.mk hs.1 | exact HY.mk hs.2 | apply gSel.ccons))
 (all_goals (first | (((first | (refine Zax ?_; first | (simp_all; done) | (rw [Bool.eq_iff_iff]; simp only [Bool.and_eq_true, Bool.or_eq_true, decide_eq_true_eq, Bool.false_eq_true, false_iff, true_iff, iff_false, iff_true, not_and, not_or, Bool.not_eq_true, decide_eq_false_iff_not, beq_iff_eq, bne_iff_ne, ne_eq, Bool.not_eq_true', Bool.not_eq_false', Int.not_le, Int.not_lt]; omega)) | ((repeat (first | apply ZbK | apply ZaP | apply ZbT | apply Za1 | apply Zap)); all_goals (first | exact EQ.mk rfl | exact EQ.mk (by first | (simp; done) | fail) | exact EQ.mk (by first | (simp_all; done) | fail))))); done)))
def ZjS : Nat → List Nat
 | 0 => [2, 3]
 | 1 => [2, 3, 10]
 | 2 => [4]
 | 3 => [16]
 | 4 => [4]
 | 5 => [4]
 | _ => []
theorem ZdZ (args : Array Value) (w : World) : (callFunc 16 args).run Tryz.prog w = .ok (.enter 16 args) w := Zaa Tryz.func16 (by decide) rfl args w
set_option maxHeartbeats 1000000 in
theorem ZnD (next : List (List Int)) (pairs : List (List Int × List Int)) (next' : List (List Int)) (pairs' : List (List Int × List Int)) : Con Tryz.prog 16 [.det next pairs, .det next' pairs'] (.bool (decide (next = next') && decide (pairs = pairs'))) := by
 refine Con.fit ZdZ fun hfit => ?_
 have hb_next : next.length ≤ 9223372036854775807 := GFits.lenm (GFits.cell (show GFits (.det next pairs) from hfit 0 (ZL rfl)) (.head _))
 have hr_next : ∀ r ∈ next, r.length ≤ 9223372036854775807 := fun r hr => GFits.ints (GFits.elm (GFits.cell (show GFits (.det next pairs) from hfit 0 (ZL rfl)) (.head _)) r hr)
 have hb_pairs : pairs.length ≤ 9223372036854775807 := GFits.lenm (GFits.cell (show GFits (.det next pairs) from hfit 0 (ZL rfl)) (.tail _ (.head _)))
 have hr_pairs : ∀ r ∈ pairs, r.1.length ≤ 9223372036854775807 ∧ r.2.length ≤ 9223372036854775807 := fun r hr => ⟨GFits.ints (GFits.cell (GFits.elm (GFits.cell (show GFits (.det next pairs) from hfit 0 (ZL rfl)) (.tail _ (.head _))) r hr) (.head _)), GFits.ints (GFits.cell (GFits.elm (GFits.cell (show GFits (.det next pairs) from hfit 0 (ZL rfl)) (.tail _ (.head _))) r hr) (.tail _ (.head _)))⟩
 have hb_next' : next'.length ≤ 9223372036854775807 := GFits.lenm (GFits.cell (show GFits (.det next' pairs') from hfit 1 (ZL rfl)) (.head _))
 have hr_next' : ∀ r ∈ next', r.length ≤ 9223372036854775807 := fun r hr => GFits.ints (GFits.elm (GFits.cell (show GFits (.det next' pairs') from hfit 1 (ZL rfl)) (.head _)) r hr)
 have hb_pairs' : pairs'.length ≤ 9223372036854775807 := GFits.lenm (GFits.cell (show GFits (.det next' pairs') from hfit 1 (ZL rfl)) (.tail _ (.head _)))
 have hr_pairs' : ∀ r ∈ pairs', r.1.length ≤ 9223372036854775807 ∧ r.2.length ≤ 9223372036854775807 := fun r hr => ⟨GFits.ints (GFits.cell (GFits.elm (GFits.cell (show GFits (.det next' pairs') from hfit 1 (ZL rfl)) (.tail _ (.head _))) r hr) (.head _)), GFits.ints (GFits.cell (GFits.elm (GFits.cell (show GFits (.det next' pairs') from hfit 1 (ZL rfl)) (.tail _ (.head _))) r hr) (.tail _ (.head _)))⟩
 clear hfit
 refine gCon ZjS Zab (rs := [.tmp 4]) (sl := [(0, .g (.det next pairs)), (1, .g (.det next' pairs'))]) Tryz.func16 rfl Tryz.ntmps16 rfl ZdZ rfl (by repeat constructor) ?_
 (repeat' (first | ((with_reducible apply gLB.cone); (. exact RF.mk ⟨rfl, rfl⟩)) | (with_reducible constructor) | exact Z2 | exact ZF | ((with_reducible apply Zaw); first | apply Zi3 | apply Zlg) | (with_reducible intro hc; (try simp only [HCs] at hc)) | exact OB_f | (with_reducible first | apply gNK | apply Zaj | apply Zae | apply Zar | apply Zag | apply ZaG | apply Zak | apply Zai | apply Zao) | apply Zaf Zab | apply gSel.ccons))
 (all_goals (first | (((refine Zax ?_; simp_all; done)); done)))
end Go.Proofs.YtjjidamlmebaaaaGreat

