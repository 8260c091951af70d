/- Contracts: machines, automata, their runs. No conditions but those that each theorem names. -/
import Derived.Test.YtabfpoflhacknaaGreatTab
import Derived.Test.YtabfpoflhacknaaGreatKG
import Derived.Test.YtabfpoflhacknaaGreatC1
import Derived.Test.YtabfpoflhacknaaGreatD0
import Derived.Test.YtabfpoflhacknaaGreatChecked
set_option linter.unusedSimpArgs false
set_option linter.unusedVariables false
namespace Go.Proofs.YtabfpoflhacknaaGreat
open Go.RowKit
open Shp
theorem QM12 {p : Prop} (h : p := by unfold ZhP; (try simp only [pw, Int.one_mul] at *); rw [Bool.eq_false_iff]; intro hx; ((try simp only [BOa] at *); (first | omega | assumption | grind))) : p := h
theorem QM11 {p : Prop} (h : p := by unfold Zfe; (try simp only [pw, Int.one_mul] at *); rw [Bool.eq_false_iff]; intro hx; ((try simp only [BOa] at *); (first | omega | assumption | grind))) : p := h
theorem QM10 {p : Prop} (h : p := by first | exact ZO | (first | omega | (have q := ZkF (by assumption); omega) | (have q := ZaE i o; omega))) : p := h
def ZlO : Nat → List Nat
 | 0 => [1, 2, 3]
 | 1 => [1, 2, 3, 7]
 | 2 => [1, 2, 3, 7, 11]
 | 3 => [1, 2, 3, 7]
 | 4 => [1, 2, 3, 7]
 | 5 => [6]
 | _ => []
theorem ZeH (args : Array Value) (w : World) : (callFunc 98 args).run Tryz.prog w = .ok (.enter 98 args) w := Zab Tryz.func98 (by decide) rfl args w
set_option maxHeartbeats 1000000 in
theorem Zkx (n : List (List Int)) (q : Int) (xs : List Int) (W : Int) (ps : List (List Int × List Int)) (hg : HY (GoOk n W)) (hx : HY (below xs W = true)) (hq : NU (0 ≤ q ∧ q < n.length)) : Con Tryz.prog 98 [.det n ps, .i q, .ints xs] (.i (goN n q xs)) := by
 have hg := hg.e
 have hx := hx.e
 have hq := hq.e
 refine Con.fit ZeH fun hfit => ?_
 have hb_n : n.length ≤ 9223372036854775807 := GFits.lenm (GFits.cell (show GFits (.det n ps) from hfit 0 (ZL rfl)) (.head _))
 have hr_n : ∀ r ∈ n, r.length ≤ 9223372036854775807 := fun r hr => GFits.ints (GFits.elm (GFits.cell (show GFits (.det n ps) from hfit 0 (ZL rfl)) (.head _)) r hr)
 have hb_ps : ps.length ≤ 9223372036854775807 := GFits.lenm (GFits.cell (show GFits (.det n ps) from hfit 0 (ZL rfl)) (.tail _ (.head _)))
 have hr_ps : ∀ r ∈ ps, r.1.length ≤ 9223372036854775807 ∧ r.2.length ≤ 9223372036854775807 := fun r hr => ⟨GFits.ints (GFits.cell (GFits.elm (GFits.cell (show GFits (.det n ps) from hfit 0 (ZL rfl)) (.tail _ (.head _))) r hr) (.head _)), GFits.ints (GFits.cell (GFits.elm (GFits.cell (show GFits (.det n ps) from hfit 0 (ZL rfl)) (.tail _ (.head _))) r hr) (.tail _ (.head _)))⟩
 have hb_xs : xs.length ≤ 9223372036854775807 := GFits.ints (show GFits (.ints xs) from hfit 2 (ZL rfl))
 clear hfit
 refine gCon ZlO Zad (rs := [.tmp 6]) (sl := [(0, .g (.det n ps)), (1, .g (.i q)), (2, .g (.ints xs))]) Tryz.func98 rfl Tryz.ntmps98 rfl ZeH rfl (by repeat constructor) ?_
 (repeat' (first | ((with_reducible apply gLB.cone); (. exact RF.mk ⟨rfl, rfl⟩)) | ((with_reducible apply gLI.cone); (. exact RF.mk ⟨rfl, rfl⟩)) | (with_reducible constructor) | exact Z2 | exact ZN | exact ZS | exact ZF | (with_reducible intro hc; (try simp only [HCs] at hc)) | exact OB_f | exact ZK | (with_reducible first | apply gNK | apply Zam | apply Zaf | apply Zaq | apply Zai | apply ZaR | apply Zar | apply Zas | apply Zay | apply Zap | apply Zaw | apply Zax | apply Zav) | apply Zah Zad | apply ZaQ Zad rfl | (apply ZaF; exact RF.mk rfl) | (refine Zak (id := 0) (ι := Nat × Int) (fun ⟨i, p⟩ => ⟨[(1, .g (.i p)), (2, .g (.ints xs)), (3, .ptr 0 0), (7, .g (.i i))], [(0, .box [.g (.rows n), .g (.pairs ps)])]⟩) (fun ⟨i, p⟩ => (i ≤ xs.length) ∧ (0 ≤ p ∧ p < n.length) ∧ (goN n p (xs.drop i) = goN n q xs)) (fun ⟨i, p⟩ => xs.length - i) (0, q) ?_ ?_ ?_; (. (apply gLX1 <;> (repeat' (first | (with_reducible constructor) | exact Z5 | exact RF.mk (by decide) | (with_reducible apply Zae) | exact ZE)))); (. (exact ⟨by omega, hq, rfl⟩)); (rintro ⟨i, p⟩ ⟨h1, h2, h3⟩; have z1 : i < xs.length → 0 ≤ nth xs i ∧ nth xs i < W := fun h => below_iff.1 hx i h; have z2 := hg.row h2.1 h2.2; (show TX _ _ _ _ _ [(1, .g (.i p)), (2, .g (.ints xs)), (3, .ptr 0 0), (7, .g (.i i))] [(0, .box [.g (.rows n), .g (.pairs ps)])] _))) | apply gSel.ccons))
 (all_goals (first | (refine ZaJ (i + 1, nth (nth n p.toNat) (nth xs i).toNat) ?_ ?_ ?_; (· (apply gLX1 <;> (repeat' (first | (with_reducible constructor) | exact Z5 | exact RF.mk (by decide) | (with_reducible apply Zae) | exact ZE)))); (· ((have z3 := z1 (by omega); exact ⟨by omega, hg.step h2 z3, by rw [← ZoP (by omega)]; exact h3⟩))); (· exact ZW)) | (((refine Zae (EQ.mk ?_); rw [← h3, ZqU (by omega)])); done)))
def ZiL : Nat → List Nat
 | 0 => [0, 1, 2]
 | 1 => [0, 1, 9, 10, 11]
 | 2 => [0, 1, 9, 10, 11, 12]
 | 3 => [0, 1, 8, 9, 10, 11]
 | 4 => [0, 1, 9, 10, 11]
 | 5 => [0, 1, 9, 10, 11]
 | 6 => [6]
 | _ => []
theorem ZdG (args : Array Value) (w : World) : (callFunc 66 args).run Tryz.prog w = .ok (.enter 66 args) w := Zab Tryz.func66 (by decide) rfl args w
set_option maxHeartbeats 1000000 in
theorem ZhL (n : List (List Int)) (q : Int) (xs : List Int) (W : Int) (hg : HY (GoOk n W)) (hx : HY (below xs W = true)) (hq : NU (0 ≤ q ∧ q < n.length)) : Con Tryz.prog 66 [.rows n, .i q, .ints xs] (.i (goN n q xs)) := by
 have hg := hg.e
 have hx := hx.e
 have hq := hq.e
 refine Con.fit ZdG fun hfit => ?_
 have hb_n : n.length ≤ 9223372036854775807 := GFits.lenm (show GFits (.rows n) from hfit 0 (ZL rfl))
 have hr_n : ∀ r ∈ n, r.length ≤ 9223372036854775807 := fun r hr => GFits.ints (GFits.elm (show GFits (.rows n) from hfit 0 (ZL rfl)) r hr)
 have hb_xs : xs.length ≤ 9223372036854775807 := GFits.ints (show GFits (.ints xs) from hfit 2 (ZL rfl))
 clear hfit
 refine gCon ZiL Zad (rs := [.tmp 6]) (sl := [(0, .g (.rows n)), (1, .g (.i q)), (2, .g (.ints xs))]) Tryz.func66 rfl Tryz.ntmps66 rfl ZdG rfl (by repeat constructor) ?_
 (repeat' (first | ((with_reducible apply gLI.cone); (. exact RF.mk ⟨rfl, rfl⟩)) | (with_reducible constructor) | exact Z2 | exact ZN | exact ZS | (with_reducible intro hc; (try simp only [HCs] at hc)) | exact OB_f | (with_reducible first | apply gNK | apply Zam | apply Zaf | apply Zaq | apply Zai | apply ZaR | apply Zar | apply Zas | apply Zay | apply Zap | apply Zaw | apply Zax | apply Zav) | apply Zah Zad | (apply ZaF; exact RF.mk rfl) | (refine Zak (id := 0) (ι := Nat × Int) (fun ⟨i, p⟩ => ⟨[(0, .g (.rows n)), (1, .g (.i p)), (9, .g (.ints xs)), (10, .g (.i xs.length)), (11, .g (.i i))], []⟩) (fun ⟨i, p⟩ => (i ≤ xs.length) ∧ (0 ≤ p ∧ p < n.length) ∧ (goN n p (xs.drop i) = goN n q xs)) (fun ⟨i, p⟩ => xs.length - i) (0, q) ?_ ?_ ?_; (. (apply gLX0 <;> (repeat' (first | (with_reducible constructor) | exact Z5 | exact RF.mk (by decide) | (with_reducible apply Zae) | exact ZE)))); (. (exact ⟨by omega, hq, rfl⟩)); (rintro ⟨i, p⟩ ⟨h1, h2, h3⟩; have z1 : i < xs.length → 0 ≤ nth xs i ∧ nth xs i < W := fun h => below_iff.1 hx i h; have z2 := hg.row h2.1 h2.2; (show TX _ _ _ _ _ [(0, .g (.rows n)), (1, .g (.i p)), (9, .g (.ints xs)), (10, .g (.i xs.length)), (11, .g (.i i))] [] _))) | apply gSel.ccons))
 (all_goals (first | (refine ZaJ (i + 1, nth (nth n p.toNat) (nth xs i).toNat) ?_ ?_ ?_; (· (apply gLX0 <;> (repeat' (first | (with_reducible constructor) | exact Z5 | exact RF.mk (by decide) | (with_reducible apply Zae) | exact ZE)))); (· ((have z3 := z1 (by omega); exact ⟨by omega, hg.step h2 z3, by rw [← ZoP (by omega)]; exact h3⟩))); (· exact ZW)) | (((refine Zae (EQ.mk ?_); rw [← h3, ZqU (by omega)])); done)))
def ZkZ : Nat → List Nat
 | 0 => [0, 1]
 | 1 => [4]
 | _ => []
theorem ZeF (args : Array Value) (w : World) : (callFunc 70 args).run Tryz.prog w = .ok (.enter 70 args) w := Zab Tryz.func70 (by decide) rfl args w
set_option maxHeartbeats 1000000 in
theorem ZhF (xs : List Int) (n : Int) : Con Tryz.prog 70 [.ints xs, .i n] (.bool (setN xs n)) := by
 refine Con.fit ZeF fun hfit => ?_
 have hb_xs : xs.length ≤ 9223372036854775807 := GFits.ints (show GFits (.ints xs) from hfit 0 (ZL rfl))
 clear hfit
 refine gCon ZkZ Zad (rs := [.tmp 4]) (sl := [(0, .g (.ints xs)), (1, .g (.i n))]) Tryz.func70 rfl Tryz.ntmps70 rfl ZeF rfl (by repeat constructor) ?_
 (repeat' (first | (with_reducible constructor) | exact Z2 | exact NU.mk (by first | exact ZO | (first | exact ZO | (simp only [Bool.and_eq_true, decide_eq_true_eq] at *; omega))) | ((with_reducible apply ZaA); first | apply Zdb | apply Zkl) | (with_reducible intro hc; (try simp only [HCs] at hc)) | exact OB_f | (with_reducible first | apply gNK | apply Zam | apply Zaf | apply Zas | apply Zav) | apply Zah Zad | apply gSel.ccons))
 (all_goals (first | (((refine Zao ?_; skip; (try simp only [setN] at *); rw [Bool.eq_iff_iff]; (try simp only [BOa, Int.natCast_eq_zero, List.length_eq_zero_iff, Bool.true_eq_false, Bool.false_eq_true, true_iff, false_iff, iff_true, iff_false, true_and, and_true, false_and, and_false, not_and, not_or, Bool.not_eq_true, Bool.not_eq_false, Int.not_lt, Int.not_le] at *); first | done | omega | (simp_all; done) | grind)); done)))
def ZiZ : Nat → List Nat
 | 0 => [0, 1]
 | 1 => [0, 1, 13]
 | 2 => [4]
 | 3 => [0, 1, 5]
 | 4 => [0, 1, 5, 17]
 | 5 => [0, 1, 5]
 | 6 => [0, 1, 5, 37]
 | 7 => [4]
 | 8 => [4]
 | _ => []
theorem ZdK (args : Array Value) (w : World) : (callFunc 61 args).run Tryz.prog w = .ok (.enter 61 args) w := Zab Tryz.func61 (by decide) rfl args w
set_option maxHeartbeats 1000000 in
theorem ZhS (ps : List (List Int × List Int)) (n : Int) : Con Tryz.prog 61 [.pairs ps, .i n] (.bool (decide (0 ≤ n) && decide (n ≤ 256) && ZeG ps n)) := by
 refine Con.fit ZdK fun hfit => ?_
 have hb_ps : ps.length ≤ 9223372036854775807 := GFits.lenm (show GFits (.pairs ps) from hfit 0 (ZL rfl))
 have hr_ps : ∀ r ∈ ps, r.1.length ≤ 9223372036854775807 ∧ r.2.length ≤ 9223372036854775807 := fun r hr => ⟨GFits.ints (GFits.cell (GFits.elm (show GFits (.pairs ps) from hfit 0 (ZL rfl)) r hr) (.head _)), GFits.ints (GFits.cell (GFits.elm (show GFits (.pairs ps) from hfit 0 (ZL rfl)) r hr) (.tail _ (.head _)))⟩
 clear hfit
 refine gCon ZiZ Zad (rs := [.tmp 4]) (sl := [(0, .g (.pairs ps)), (1, .g (.i n))]) Tryz.func61 rfl Tryz.ntmps61 rfl ZdK rfl (by repeat constructor) ?_
 (repeat' (first | ((with_reducible apply gLI.cone); (. exact RF.mk ⟨rfl, rfl⟩)) | (with_reducible constructor) | exact Z2 | exact ZN | exact ZS | exact ZF | ((with_reducible apply ZaA); first | apply Zdb | apply ZhF) | (with_reducible intro hc; (try simp only [HCs] at hc)) | exact OB_f | (with_reducible first | apply gNK | apply Zam | apply Zaf | apply Zaq | apply ZaC | apply Zai | apply CK_t | apply ZaR | apply Zar | apply Zas | apply Zay | apply Zap | apply Zaw | apply Za3 | apply Zax | apply Za9 | apply Zav) | apply Zah Zad | (apply ZaF; exact RF.mk rfl) | (refine Zak (id := 0) (ι := Nat) (fun j => ⟨[(0, .g (.pairs ps)), (1, .g (.i n)), (5, .g (.i j))], []⟩) (fun j => (j ≤ ps.length) ∧ (∀ z, z < j → (Zfe ps n) z = true)) (fun j => ps.length - j) (0) ?_ ?_ ?_; (. (apply gLX0 <;> (repeat' (first | (with_reducible constructor) | exact Z5 | exact RF.mk (by decide) | (with_reducible apply Zae) | exact ZE)))); (. (exact ⟨by omega, Zba⟩)); (rintro j ⟨h1, h2⟩; have e1 : ∀ s, setN s n = Zbx s n := fun s => Zkq (by omega) (by omega); simp only [e1]; (show TX _ _ _ _ _ [(0, .g (.pairs ps)), (1, .g (.i n)), (5, .g (.i j))] [] _))) | apply gSel.ccons))
 (all_goals (first | (refine ZaJ (j + 1) ?_ ?_ ?_; (· (apply gLX0 <;> (repeat' (first | (with_reducible constructor) | exact Z5 | exact RF.mk (by decide) | (with_reducible apply Zae) | exact ZE)))); (· ((refine ⟨by omega, Zbc h2 ?_⟩; simp only [e1] at *; unfold Zfe; simp_all))); (· exact ZW)) | (((first | (simp only [e1] at *; (refine Zao ?_; unfold ZeG; first | (rw [ZaS (fun j hj => h2 j (by omega))]; (rw [Bool.eq_iff_iff]; (try simp only [BOa, Int.natCast_eq_zero, List.length_eq_zero_iff, Bool.true_eq_false, Bool.false_eq_true, true_iff, false_iff, iff_true, iff_false, true_and, and_true, false_and, and_false, not_and, not_or, Bool.not_eq_true, Bool.not_eq_false, Int.not_lt, Int.not_le] at *); first | done | omega | (simp_all; done) | grind)) | (rw [ZaM j (by omega) QM11]; simp; done) | (rw [Bool.eq_iff_iff]; (try simp only [BOa, Int.natCast_eq_zero, List.length_eq_zero_iff, Bool.true_eq_false, Bool.false_eq_true, true_iff, false_iff, iff_true, iff_false, true_and, and_true, false_and, and_false, not_and, not_or, Bool.not_eq_true, Bool.not_eq_false, Int.not_lt, Int.not_le] at *); first | done | omega | (simp_all; done) | grind))) | (refine Zao ?_; unfold ZeG; rw [decide_eq_false (by omega : ¬ ps.length ≤ 4)]; simp; done) | (refine Zao ?_; (rw [Bool.eq_iff_iff]; (try simp only [BOa, Int.natCast_eq_zero, List.length_eq_zero_iff, Bool.true_eq_false, Bool.false_eq_true, true_iff, false_iff, iff_true, iff_false, true_and, and_true, false_and, and_false, not_and, not_or, Bool.not_eq_true, Bool.not_eq_false, Int.not_lt, Int.not_le] at *); first | done | omega | (simp_all; done) | grind)))); done)))
def Zij : Nat → List Nat
 | 0 => [0, 1]
 | 1 => [0, 1, 7, 8, 9]
 | 2 => [0, 1, 7, 8, 9, 10]
 | 3 => [0, 1, 6, 7, 8, 9]
 | 4 => [0, 1, 7, 8, 9, 24]
 | 5 => [4]
 | 6 => [0, 1, 7, 8, 9]
 | 7 => [4]
 | _ => []
theorem Zdh (args : Array Value) (w : World) : (callFunc 55 args).run Tryz.prog w = .ok (.enter 55 args) w := Zab Tryz.func55 (by decide) rfl args w
set_option maxHeartbeats 1000000 in
theorem Zlh (ps : List (List Int × List Int)) (n : Int) : Con Tryz.prog 55 [.pairs ps, .i n] (.bool (ZeG ps n)) := by
 refine Con.fit Zdh fun hfit => ?_
 have hb_ps : ps.length ≤ 9223372036854775807 := GFits.lenm (show GFits (.pairs ps) from hfit 0 (ZL rfl))
 have hr_ps : ∀ r ∈ ps, r.1.length ≤ 9223372036854775807 ∧ r.2.length ≤ 9223372036854775807 := fun r hr => ⟨GFits.ints (GFits.cell (GFits.elm (show GFits (.pairs ps) from hfit 0 (ZL rfl)) r hr) (.head _)), GFits.ints (GFits.cell (GFits.elm (show GFits (.pairs ps) from hfit 0 (ZL rfl)) r hr) (.tail _ (.head _)))⟩
 clear hfit
 refine gCon Zij Zad (rs := [.tmp 4]) (sl := [(0, .g (.pairs ps)), (1, .g (.i n))]) Tryz.func55 rfl Tryz.ntmps55 rfl Zdh rfl (by repeat constructor) ?_
 (repeat' (first | ((with_reducible apply gLB.cone); (. exact RF.mk ⟨rfl, rfl⟩)) | ((with_reducible apply gLI.cagg); (. exact RF.mk ⟨rfl, rfl, rfl⟩)) | (with_reducible constructor) | exact Z3 | exact ZN | exact ZS | exact ZF | ((with_reducible apply ZaA); first | apply ZkE) | (with_reducible intro hc; (try simp only [HCs] at hc)) | exact OB_f | (with_reducible first | apply gNK | apply Zam | apply Zaf | apply Zaq | apply ZaC | apply Zai | apply CK_t | apply ZaR | apply Zar | apply Zas | apply Zay | apply Zap | apply Zaw | apply Za3 | apply Zax | apply Za9 | apply Zav) | apply Zah Zad | (apply ZaF; exact RF.mk rfl) | (refine Zak (id := 0) (ι := Nat) (fun j => ⟨[(0, .g (.pairs ps)), (1, .g (.i n)), (7, .g (.pairs ps)), (8, .g (.i ps.length)), (9, .g (.i j))], []⟩) (fun j => (j ≤ ps.length) ∧ (∀ z, z < j → (Zfe ps n) z = true)) (fun j => ps.length - j) (0) ?_ ?_ ?_; (. (apply gLX0 <;> (repeat' (first | (with_reducible constructor) | exact Z5 | exact RF.mk (by decide) | (with_reducible apply Zae) | exact ZE)))); (. (exact ⟨by omega, Zba⟩)); (rintro j ⟨h1, h2⟩; (show TX _ _ _ _ _ [(0, .g (.pairs ps)), (1, .g (.i n)), (7, .g (.pairs ps)), (8, .g (.i ps.length)), (9, .g (.i j))] [] _))) | apply gSel.ccons))
 (all_goals (first | (refine ZaJ (j + 1) ?_ ?_ ?_; (· (apply gLX0 <;> (repeat' (first | (with_reducible constructor) | exact Z5 | exact RF.mk (by decide) | (with_reducible apply Zae) | exact ZE)))); (· ((refine ⟨by omega, Zbc h2 ?_⟩; (try unfold Zfe); (try simp only [pw, Int.one_mul] at *); ((try simp only [BOa] at *); (first | omega | assumption | grind))))); (· exact ZW)) | (((refine Zao ?_; unfold ZeG; first | (rw [ZaS (fun j hj => h2 j (by omega))]; (rw [Bool.eq_iff_iff]; (try simp only [BOa, Int.natCast_eq_zero, List.length_eq_zero_iff, Bool.true_eq_false, Bool.false_eq_true, true_iff, false_iff, iff_true, iff_false, true_and, and_true, false_and, and_false, not_and, not_or, Bool.not_eq_true, Bool.not_eq_false, Int.not_lt, Int.not_le] at *); first | done | omega | (simp_all; done) | grind)) | (rw [ZaM j (by omega) QM11]; simp; done) | (rw [Bool.eq_iff_iff]; (try simp only [BOa, Int.natCast_eq_zero, List.length_eq_zero_iff, Bool.true_eq_false, Bool.false_eq_true, true_iff, false_iff, iff_true, iff_false, true_and, and_true, false_and, and_false, not_and, not_or, Bool.not_eq_true, Bool.not_eq_false, Int.not_lt, Int.not_le] at *); first | done | omega | (simp_all; done) | grind))); done)))
def ZlB : Nat → List Nat
 | 0 => [2, 3]
 | 1 => [2, 3, 5]
 | 2 => [2, 3, 5, 17]
 | 3 => [4]
 | 4 => [2, 3, 5, 6]
 | 5 => [2, 3, 5, 6, 22]
 | 6 => [2, 3, 5, 6]
 | 7 => [2, 3, 5, 6, 43]
 | 8 => [4]
 | 9 => [4]
 | _ => []
theorem ZeM (args : Array Value) (w : World) : (callFunc 27 args).run Tryz.prog w = .ok (.enter 27 args) w := Zab Tryz.func27 (by decide) rfl args w
set_option maxHeartbeats 1000000 in
theorem Zku (i o : Int) (n : List (List Int)) (ps : List (List Int × List Int)) : Con Tryz.prog 27 [.sig i o, .det n ps] (.bool (detB i o n ps)) := by
 refine Con.fit ZeM fun hfit => ?_
 have hb_n : n.length ≤ 9223372036854775807 := GFits.lenm (GFits.cell (show GFits (.det n ps) from hfit 1 (ZL rfl)) (.head _))
 have hr_n : ∀ r ∈ n, r.length ≤ 9223372036854775807 := fun r hr => GFits.ints (GFits.elm (GFits.cell (show GFits (.det n ps) from hfit 1 (ZL rfl)) (.head _)) r hr)
 have hb_ps : ps.length ≤ 9223372036854775807 := GFits.lenm (GFits.cell (show GFits (.det n ps) from hfit 1 (ZL rfl)) (.tail _ (.head _)))
 have hr_ps : ∀ r ∈ ps, r.1.length ≤ 9223372036854775807 ∧ r.2.length ≤ 9223372036854775807 := fun r hr => ⟨GFits.ints (GFits.cell (GFits.elm (GFits.cell (show GFits (.det n ps) from hfit 1 (ZL rfl)) (.tail _ (.head _))) r hr) (.head _)), GFits.ints (GFits.cell (GFits.elm (GFits.cell (show GFits (.det n ps) from hfit 1 (ZL rfl)) (.tail _ (.head _))) r hr) (.tail _ (.head _)))⟩
 clear hfit
 refine gCon ZlB Zad (rs := [.tmp 4]) (sl := [(0, .g (.sig i o)), (1, .g (.det n ps))]) Tryz.func27 rfl Tryz.ntmps27 rfl ZeM rfl (by repeat constructor) ?_
 (repeat' (first | ((with_reducible apply gLB.cagg); (. exact RF.mk ⟨rfl, rfl, rfl⟩)) | ((with_reducible apply gLB.cone); (. exact RF.mk ⟨rfl, rfl⟩)) | ((with_reducible apply gLI.cone); (. exact RF.mk ⟨rfl, rfl⟩)) | (with_reducible constructor) | exact Z2 | exact NU.mk QM10 | exact ZS | exact ZF | ((with_reducible apply ZaA); first | apply ZdW | apply Zd5 | apply Zdb | apply ZgG | apply ZhS) | (with_reducible intro hc; (try simp only [HCs] at hc)) | exact OB_f | exact ZK | (with_reducible first | apply gNK | apply Zam | apply Zaf | apply Zaq | apply ZaC | apply Zai | apply CK_t | apply ZaR | apply Zar | apply Zas | apply Zay | apply Zap | apply Zaw | apply Za3 | apply Zax | apply Za9 | apply Zav) | apply Zah Zad | apply ZaQ Zad rfl | (apply ZaF; exact RF.mk rfl) | (refine Zak (id := 0) (ι := Nat) (fun j => ⟨[(2, .ptr 0 0), (3, .ptr 1 0), (5, .g (.i n.length)), (6, .g (.i j))], [(0, .box [.g (.i i), .g (.i o)]), (1, .box [.g (.rows n), .g (.pairs ps)])]⟩) (fun j => (j ≤ n.length) ∧ (∀ z, z < j → (ZhP i o n) z = true)) (fun j => n.length - j) (0) ?_ ?_ ?_; (. (apply gLX2 <;> (repeat' (first | (with_reducible constructor) | exact Z5 | exact RF.mk (by decide) | (with_reducible apply Zae) | exact EQ.mk QM10)))); (. (exact ⟨by omega, Zba⟩)); (rintro j ⟨h1, h2⟩; (show TX _ _ _ _ _ [(2, .ptr 0 0), (3, .ptr 1 0), (5, .g (.i n.length)), (6, .g (.i j))] [(0, .box [.g (.i i), .g (.i o)]), (1, .box [.g (.rows n), .g (.pairs ps)])] _))) | apply gSel.ccons))
 (all_goals (first | (refine ZaJ (j + 1) ?_ ?_ ?_; (· (apply gLX2 <;> (repeat' (first | (with_reducible constructor) | exact Z5 | exact RF.mk (by decide) | (with_reducible apply Zae) | exact EQ.mk QM10)))); (· ((refine ⟨by omega, Zbc h2 ?_⟩; (try unfold ZhP); (try simp only [pw, Int.one_mul] at *); ((try simp only [BOa] at *); (first | omega | assumption | grind))))); (· exact ZW)) | (((refine Zao ?_; unfold detB; first | (rw [ZaS (fun j hj => h2 j (by omega))]; (rw [Bool.eq_iff_iff]; (try simp only [BOa, Int.natCast_eq_zero, List.length_eq_zero_iff, Bool.true_eq_false, Bool.false_eq_true, true_iff, false_iff, iff_true, iff_false, true_and, and_true, false_and, and_false, not_and, not_or, Bool.not_eq_true, Bool.not_eq_false, Int.not_lt, Int.not_le] at *); first | done | omega | (simp_all; done) | grind)) | (rw [ZaM j (by omega) QM12]; simp; done) | (rw [Bool.eq_iff_iff]; (try simp only [BOa, Int.natCast_eq_zero, List.length_eq_zero_iff, Bool.true_eq_false, Bool.false_eq_true, true_iff, false_iff, iff_true, iff_false, true_and, and_true, false_and, and_false, not_and, not_or, Bool.not_eq_true, Bool.not_eq_false, Int.not_lt, Int.not_le] at *); first | done | omega | (simp_all; done) | grind))); done)))
def Zlb : Nat → List Nat
 | 0 => [2, 3]
 | 1 => [2, 3, 5]
 | 2 => [2, 3, 5, 23]
 | 3 => [4]
 | 4 => [2, 5, 25, 26, 27]
 | 5 => [2, 5, 25, 26, 27, 28]
 | 6 => [2, 5, 7, 25, 26, 27]
 | 7 => [2, 5, 25, 26, 27, 41]
 | 8 => [4]
 | 9 => [2, 5, 25, 26, 27]
 | 10 => [4]
 | _ => []
theorem ZeD (args : Array Value) (w : World) : (callFunc 25 args).run Tryz.prog w = .ok (.enter 25 args) w := Zab Tryz.func25 (by decide) rfl args w
set_option maxHeartbeats 1000000 in
theorem Zhx (i o : Int) (n : List (List Int)) (ps : List (List Int × List Int)) (hs : HY (sigB i o = true)) : Con Tryz.prog 25 [.sig i o, .det n ps] (.bool (detB i o n ps)) := by
 have hs := hs.e
 refine Con.fit ZeD fun hfit => ?_
 have hb_n : n.length ≤ 9223372036854775807 := GFits.lenm (GFits.cell (show GFits (.det n ps) from hfit 1 (ZL rfl)) (.head _))
 have hr_n : ∀ r ∈ n, r.length ≤ 9223372036854775807 := fun r hr => GFits.ints (GFits.elm (GFits.cell (show GFits (.det n ps) from hfit 1 (ZL rfl)) (.head _)) r hr)
 have hb_ps : ps.length ≤ 9223372036854775807 := GFits.lenm (GFits.cell (show GFits (.det n ps) from hfit 1 (ZL rfl)) (.tail _ (.head _)))
 have hr_ps : ∀ r ∈ ps, r.1.length ≤ 9223372036854775807 ∧ r.2.length ≤ 9223372036854775807 := fun r hr => ⟨GFits.ints (GFits.cell (GFits.elm (GFits.cell (show GFits (.det n ps) from hfit 1 (ZL rfl)) (.tail _ (.head _))) r hr) (.head _)), GFits.ints (GFits.cell (GFits.elm (GFits.cell (show GFits (.det n ps) from hfit 1 (ZL rfl)) (.tail _ (.head _))) r hr) (.tail _ (.head _)))⟩
 clear hfit
 refine gCon Zlb Zad (rs := [.tmp 4]) (sl := [(0, .g (.sig i o)), (1, .g (.det n ps))]) Tryz.func25 rfl Tryz.ntmps25 rfl ZeD rfl (by repeat constructor) ?_
 (repeat' (first | ((with_reducible apply gLB.cagg); (. exact RF.mk ⟨rfl, rfl, rfl⟩)) | ((with_reducible apply gLB.cone); (. exact RF.mk ⟨rfl, rfl⟩)) | ((with_reducible apply gLI.cone); (. exact RF.mk ⟨rfl, rfl⟩)) | (with_reducible constructor) | exact Z2 | exact NU.mk QM10 | exact ZS | exact ZF | ((with_reducible apply ZaA); first | apply ZaD | apply Zlh | apply Ze7) | (with_reducible intro hc; (try simp only [HCs] at hc)) | exact OB_f | (with_reducible first | apply gNK | apply Zam | apply Zaf | apply Zaq | apply ZaC | apply Zai | apply CK_t | apply ZaR | apply Zar | apply Zas | apply Zay | apply Zap | apply Zaw | apply Za3 | apply Zax | apply Za9 | apply Zav) | apply Zah Zad | (apply ZaF; exact RF.mk rfl) | (refine Zak (id := 0) (ι := Nat) (fun j => ⟨[(2, .ptr 0 0), (5, .g (.i n.length)), (25, .g (.rows n)), (26, .g (.i n.length)), (27, .g (.i j))], [(0, .box [.g (.i i), .g (.i o)])]⟩) (fun j => (j ≤ n.length) ∧ (∀ z, z < j → (ZhP i o n) z = true)) (fun j => n.length - j) (0) ?_ ?_ ?_; (. (apply gLX1 <;> (repeat' (first | (with_reducible constructor) | exact Z5 | exact RF.mk (by decide) | (with_reducible apply Zae) | exact EQ.mk QM10)))); (. (exact ⟨by omega, Zba⟩)); (rintro j ⟨h1, h2⟩; (show TX _ _ _ _ _ [(2, .ptr 0 0), (5, .g (.i n.length)), (25, .g (.rows n)), (26, .g (.i n.length)), (27, .g (.i j))] [(0, .box [.g (.i i), .g (.i o)])] _))) | apply gSel.ccons))
 (all_goals (first | (refine ZaJ (j + 1) ?_ ?_ ?_; (· (apply gLX1 <;> (repeat' (first | (with_reducible constructor) | exact Z5 | exact RF.mk (by decide) | (with_reducible apply Zae) | exact EQ.mk QM10)))); (· ((refine ⟨by omega, Zbc h2 ?_⟩; unfold ZhP; rw [(ZkF hs).2.2.2.2.2.2.2.2.2.2.1]; ((try simp only [BOa] at *); (first | omega | assumption | grind))))); (· exact ZW)) | (((have hl := (ZkF hs).2.2.2.2.2.2.2.2.2.2.1; (refine Zao ?_; unfold detB; first | (rw [ZaS (fun j hj => h2 j (by omega))]; (rw [Bool.eq_iff_iff]; (try simp only [BOa, Int.natCast_eq_zero, List.length_eq_zero_iff, Bool.true_eq_false, Bool.false_eq_true, true_iff, false_iff, iff_true, iff_false, true_and, and_true, false_and, and_false, not_and, not_or, Bool.not_eq_true, Bool.not_eq_false, Int.not_lt, Int.not_le] at *); first | done | omega | (simp_all; done) | grind)) | (rw [ZaM j (by omega) QM12]; simp; done) | (rw [Bool.eq_iff_iff]; (try simp only [BOa, Int.natCast_eq_zero, List.length_eq_zero_iff, Bool.true_eq_false, Bool.false_eq_true, true_iff, false_iff, iff_true, iff_false, true_and, and_true, false_and, and_false, not_and, not_or, Bool.not_eq_true, Bool.not_eq_false, Int.not_lt, Int.not_le] at *); first | done | omega | (simp_all; done) | grind)))); done)))
end Go.Proofs.YtabfpoflhacknaaGreat

