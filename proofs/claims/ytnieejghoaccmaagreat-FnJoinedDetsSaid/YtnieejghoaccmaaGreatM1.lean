/- Contracts: machines, automata, their runs. No conditions but those that each theorem names. -/
import Derived.Test.YtnieejghoaccmaaGreatTab
import Derived.Test.YtnieejghoaccmaaGreatKG
import Derived.Test.YtnieejghoaccmaaGreatC1
import Derived.Test.YtnieejghoaccmaaGreatMG
import Derived.Test.YtnieejghoaccmaaGreatChecked
set_option linter.unusedSimpArgs false
set_option linter.unusedVariables false
namespace Go.Proofs.YtnieejghoaccmaaGreat
open Go.RowKit
open Shp
theorem QM12 {p : Prop} (h : p := by unfold Zhf; (try simp only [pw, Int.one_mul] at *); rw [Bool.eq_false_iff]; intro hx; ((try simp only [BOa] at *); (first | omega | assumption | grind))) : p := h
theorem QM11 {p : Prop} (h : p := by unfold ZeW; (try simp only [pw, Int.one_mul] at *); rw [Bool.eq_false_iff]; intro hx; ((try simp only [BOa] at *); (first | omega | assumption | grind))) : p := h
theorem QM10 {p : Prop} (h : p := by first | exact ZO | (first | omega | (have q := Zj2 (by assumption); omega) | (have q := Zaw i o; omega))) : p := h
def Zkn : Nat → List Nat
 | 0 => [1, 2, 3]
 | 1 => [1, 2, 3, 7]
 | 2 => [1, 2, 3, 7, 11]
 | 3 => [1, 2, 3, 7]
 | 4 => [1, 2, 3, 7]
 | 5 => [6]
 | _ => []
theorem Zen (args : Array Value) (w : World) : (callFunc 71 args).run Tryz.prog w = .ok (.enter 71 args) w := Zab Tryz.func71 (by decide) rfl args w
set_option maxHeartbeats 1000000 in
theorem ZjG (n : List (List Int)) (q : Int) (xs : List Int) (W : Int) (ps : List (List Int × List Int)) (hg : HY (GoOk n W)) (hx : HY (below xs W = true)) (hq : NU (0 ≤ q ∧ q < n.length)) : Con Tryz.prog 71 [.det n ps, .i q, .ints xs] (.i (goN n q xs)) := by
 have hg := hg.e
 have hx := hx.e
 have hq := hq.e
 refine Con.fit Zen fun hfit => ?_
 have hb_n : n.length ≤ 9223372036854775807 := GFits.lenm (GFits.cell (show GFits (.det n ps) from hfit 0 (ZL rfl)) (.head _))
 have hr_n : ∀ r ∈ n, r.length ≤ 9223372036854775807 := fun r hr => GFits.ints (GFits.elm (GFits.cell (show GFits (.det n ps) from hfit 0 (ZL rfl)) (.head _)) r hr)
 have hb_ps : ps.length ≤ 9223372036854775807 := GFits.lenm (GFits.cell (show GFits (.det n ps) from hfit 0 (ZL rfl)) (.tail _ (.head _)))
 have hr_ps : ∀ r ∈ ps, r.1.length ≤ 9223372036854775807 ∧ r.2.length ≤ 9223372036854775807 := fun r hr => ⟨GFits.ints (GFits.cell (GFits.elm (GFits.cell (show GFits (.det n ps) from hfit 0 (ZL rfl)) (.tail _ (.head _))) r hr) (.head _)), GFits.ints (GFits.cell (GFits.elm (GFits.cell (show GFits (.det n ps) from hfit 0 (ZL rfl)) (.tail _ (.head _))) r hr) (.tail _ (.head _)))⟩
 have hb_xs : xs.length ≤ 9223372036854775807 := GFits.ints (show GFits (.ints xs) from hfit 2 (ZL rfl))
 clear hfit
 refine gCon Zkn Zac (rs := [.tmp 6]) (sl := [(0, .g (.det n ps)), (1, .g (.i q)), (2, .g (.ints xs))]) Tryz.func71 rfl Tryz.ntmps71 rfl Zen rfl (by repeat constructor) ?_
 (repeat' (first | ((with_reducible apply gLB.cone); (. exact RF.mk ⟨rfl, rfl⟩)) | ((with_reducible apply gLI.cone); (. exact RF.mk ⟨rfl, rfl⟩)) | (with_reducible constructor) | exact Z2 | exact ZN | exact ZS | exact ZF | (with_reducible intro hc; (try simp only [HCs] at hc)) | exact OB_f | exact ZK | (with_reducible first | apply gNK | apply Zao | apply Zaf | apply Zal | apply Zai | apply ZaQ | apply Zam | apply Zap | apply Zau | apply Zak | apply Zas | apply Zav | apply Zat) | apply Zah Zac | apply ZaK Zac rfl | (apply ZaD; exact RF.mk rfl) | (refine Zaq (id := 0) (ι := Nat × Int) (fun ⟨i, p⟩ => ⟨[(1, .g (.i p)), (2, .g (.ints xs)), (3, .ptr 0 0), (7, .g (.i i))], [(0, .box [.g (.rows n), .g (.pairs ps)])]⟩) (fun ⟨i, p⟩ => (i ≤ xs.length) ∧ (0 ≤ p ∧ p < n.length) ∧ (goN n p (xs.drop i) = goN n q xs)) (fun ⟨i, p⟩ => xs.length - i) (0, q) ?_ ?_ ?_; (. (apply gLX1 <;> (repeat' (first | (with_reducible constructor) | exact Z5 | exact RF.mk (by decide) | (with_reducible apply Zae) | exact ZE)))); (. (exact ⟨by omega, hq, rfl⟩)); (rintro ⟨i, p⟩ ⟨h1, h2, h3⟩; have z1 : i < xs.length → 0 ≤ nth xs i ∧ nth xs i < W := fun h => below_iff.1 hx i h; have z2 := hg.row h2.1 h2.2; (show TX _ _ _ _ _ [(1, .g (.i p)), (2, .g (.ints xs)), (3, .ptr 0 0), (7, .g (.i i))] [(0, .box [.g (.rows n), .g (.pairs ps)])] _))) | apply gSel.ccons))
 (all_goals (first | (refine ZaR (i + 1, nth (nth n p.toNat) (nth xs i).toNat) ?_ ?_ ?_; (· (apply gLX1 <;> (repeat' (first | (with_reducible constructor) | exact Z5 | exact RF.mk (by decide) | (with_reducible apply Zae) | exact ZE)))); (· ((have z3 := z1 (by omega); exact ⟨by omega, hg.step h2 z3, by rw [← Znh (by omega)]; exact h3⟩))); (· exact ZW)) | (((refine Zae (EQ.mk ?_); rw [← h3, ZqB (by omega)])); done)))
def Zh7 : Nat → List Nat
 | 0 => [0, 1, 2]
 | 1 => [0, 1, 9, 10, 11]
 | 2 => [0, 1, 9, 10, 11, 12]
 | 3 => [0, 1, 8, 9, 10, 11]
 | 4 => [0, 1, 9, 10, 11]
 | 5 => [0, 1, 9, 10, 11]
 | 6 => [6]
 | _ => []
theorem ZdD (args : Array Value) (w : World) : (callFunc 48 args).run Tryz.prog w = .ok (.enter 48 args) w := Zab Tryz.func48 (by decide) rfl args w
set_option maxHeartbeats 1000000 in
theorem Zhg (n : List (List Int)) (q : Int) (xs : List Int) (W : Int) (hg : HY (GoOk n W)) (hx : HY (below xs W = true)) (hq : NU (0 ≤ q ∧ q < n.length)) : Con Tryz.prog 48 [.rows n, .i q, .ints xs] (.i (goN n q xs)) := by
 have hg := hg.e
 have hx := hx.e
 have hq := hq.e
 refine Con.fit ZdD fun hfit => ?_
 have hb_n : n.length ≤ 9223372036854775807 := GFits.lenm (show GFits (.rows n) from hfit 0 (ZL rfl))
 have hr_n : ∀ r ∈ n, r.length ≤ 9223372036854775807 := fun r hr => GFits.ints (GFits.elm (show GFits (.rows n) from hfit 0 (ZL rfl)) r hr)
 have hb_xs : xs.length ≤ 9223372036854775807 := GFits.ints (show GFits (.ints xs) from hfit 2 (ZL rfl))
 clear hfit
 refine gCon Zh7 Zac (rs := [.tmp 6]) (sl := [(0, .g (.rows n)), (1, .g (.i q)), (2, .g (.ints xs))]) Tryz.func48 rfl Tryz.ntmps48 rfl ZdD rfl (by repeat constructor) ?_
 (repeat' (first | ((with_reducible apply gLI.cone); (. exact RF.mk ⟨rfl, rfl⟩)) | (with_reducible constructor) | exact Z2 | exact ZN | exact ZS | (with_reducible intro hc; (try simp only [HCs] at hc)) | exact OB_f | (with_reducible first | apply gNK | apply Zao | apply Zaf | apply Zal | apply Zai | apply ZaQ | apply Zam | apply Zap | apply Zau | apply Zak | apply Zas | apply Zav | apply Zat) | apply Zah Zac | (apply ZaD; exact RF.mk rfl) | (refine Zaq (id := 0) (ι := Nat × Int) (fun ⟨i, p⟩ => ⟨[(0, .g (.rows n)), (1, .g (.i p)), (9, .g (.ints xs)), (10, .g (.i xs.length)), (11, .g (.i i))], []⟩) (fun ⟨i, p⟩ => (i ≤ xs.length) ∧ (0 ≤ p ∧ p < n.length) ∧ (goN n p (xs.drop i) = goN n q xs)) (fun ⟨i, p⟩ => xs.length - i) (0, q) ?_ ?_ ?_; (. (apply gLX0 <;> (repeat' (first | (with_reducible constructor) | exact Z5 | exact RF.mk (by decide) | (with_reducible apply Zae) | exact ZE)))); (. (exact ⟨by omega, hq, rfl⟩)); (rintro ⟨i, p⟩ ⟨h1, h2, h3⟩; have z1 : i < xs.length → 0 ≤ nth xs i ∧ nth xs i < W := fun h => below_iff.1 hx i h; have z2 := hg.row h2.1 h2.2; (show TX _ _ _ _ _ [(0, .g (.rows n)), (1, .g (.i p)), (9, .g (.ints xs)), (10, .g (.i xs.length)), (11, .g (.i i))] [] _))) | apply gSel.ccons))
 (all_goals (first | (refine ZaR (i + 1, nth (nth n p.toNat) (nth xs i).toNat) ?_ ?_ ?_; (· (apply gLX0 <;> (repeat' (first | (with_reducible constructor) | exact Z5 | exact RF.mk (by decide) | (with_reducible apply Zae) | exact ZE)))); (· ((have z3 := z1 (by omega); exact ⟨by omega, hg.step h2 z3, by rw [← Znh (by omega)]; exact h3⟩))); (· exact ZW)) | (((refine Zae (EQ.mk ?_); rw [← h3, ZqB (by omega)])); done)))
def Zla : Nat → List Nat
 | 0 => [0, 1]
 | 1 => [4]
 | _ => []
theorem Zeo (args : Array Value) (w : World) : (callFunc 52 args).run Tryz.prog w = .ok (.enter 52 args) w := Zab Tryz.func52 (by decide) rfl args w
set_option maxHeartbeats 1000000 in
theorem Zg1 (xs : List Int) (n : Int) : Con Tryz.prog 52 [.ints xs, .i n] (.bool (setN xs n)) := by
 refine Con.fit Zeo fun hfit => ?_
 have hb_xs : xs.length ≤ 9223372036854775807 := GFits.ints (show GFits (.ints xs) from hfit 0 (ZL rfl))
 clear hfit
 refine gCon Zla Zac (rs := [.tmp 4]) (sl := [(0, .g (.ints xs)), (1, .g (.i n))]) Tryz.func52 rfl Tryz.ntmps52 rfl Zeo rfl (by repeat constructor) ?_
 (repeat' (first | (with_reducible constructor) | exact Z2 | exact NU.mk (by first | exact ZO | (first | exact ZO | (simp only [Bool.and_eq_true, decide_eq_true_eq] at *; omega))) | ((with_reducible apply ZaP); first | apply Zdb | apply ZjF) | (with_reducible intro hc; (try simp only [HCs] at hc)) | exact OB_f | (with_reducible first | apply gNK | apply Zao | apply Zaf | apply Zap | apply Zat) | apply Zah Zac | apply gSel.ccons))
 (all_goals (first | (((refine Zar ?_; skip; (try simp only [setN] at *); rw [Bool.eq_iff_iff]; (try simp only [BOa, Int.natCast_eq_zero, List.length_eq_zero_iff, Bool.true_eq_false, Bool.false_eq_true, true_iff, false_iff, iff_true, iff_false, true_and, and_true, false_and, and_false, not_and, not_or, Bool.not_eq_true, Bool.not_eq_false, Int.not_lt, Int.not_le] at *); first | done | omega | (simp_all; done) | grind)); done)))
def ZiG : Nat → List Nat
 | 0 => [0, 1]
 | 1 => [0, 1, 13]
 | 2 => [4]
 | 3 => [0, 1, 5]
 | 4 => [0, 1, 5, 17]
 | 5 => [0, 1, 5]
 | 6 => [0, 1, 5, 37]
 | 7 => [4]
 | 8 => [4]
 | _ => []
theorem Zdz (args : Array Value) (w : World) : (callFunc 43 args).run Tryz.prog w = .ok (.enter 43 args) w := Zab Tryz.func43 (by decide) rfl args w
set_option maxHeartbeats 1000000 in
theorem Zhj (ps : List (List Int × List Int)) (n : Int) : Con Tryz.prog 43 [.pairs ps, .i n] (.bool (decide (0 ≤ n) && decide (n ≤ 256) && Zei ps n)) := by
 refine Con.fit Zdz fun hfit => ?_
 have hb_ps : ps.length ≤ 9223372036854775807 := GFits.lenm (show GFits (.pairs ps) from hfit 0 (ZL rfl))
 have hr_ps : ∀ r ∈ ps, r.1.length ≤ 9223372036854775807 ∧ r.2.length ≤ 9223372036854775807 := fun r hr => ⟨GFits.ints (GFits.cell (GFits.elm (show GFits (.pairs ps) from hfit 0 (ZL rfl)) r hr) (.head _)), GFits.ints (GFits.cell (GFits.elm (show GFits (.pairs ps) from hfit 0 (ZL rfl)) r hr) (.tail _ (.head _)))⟩
 clear hfit
 refine gCon ZiG Zac (rs := [.tmp 4]) (sl := [(0, .g (.pairs ps)), (1, .g (.i n))]) Tryz.func43 rfl Tryz.ntmps43 rfl Zdz rfl (by repeat constructor) ?_
 (repeat' (first | ((with_reducible apply gLI.cone); (. exact RF.mk ⟨rfl, rfl⟩)) | (with_reducible constructor) | exact Z2 | exact ZN | exact ZS | exact ZF | ((with_reducible apply ZaP); first | apply Zdb | apply Zg1) | (with_reducible intro hc; (try simp only [HCs] at hc)) | exact OB_f | (with_reducible first | apply gNK | apply Zao | apply Zaf | apply Zal | apply Zan | apply Zai | apply CK_t | apply ZaQ | apply Zam | apply Zap | apply Zau | apply Zak | apply Zas | apply ZaG | apply Zav | apply ZaM | apply Zat) | apply Zah Zac | (apply ZaD; exact RF.mk rfl) | (refine Zaq (id := 0) (ι := Nat) (fun j => ⟨[(0, .g (.pairs ps)), (1, .g (.i n)), (5, .g (.i j))], []⟩) (fun j => (j ≤ ps.length) ∧ (∀ z, z < j → (ZeW ps n) z = true)) (fun j => ps.length - j) (0) ?_ ?_ ?_; (. (apply gLX0 <;> (repeat' (first | (with_reducible constructor) | exact Z5 | exact RF.mk (by decide) | (with_reducible apply Zae) | exact ZE)))); (. (exact ⟨by omega, ZbT⟩)); (rintro j ⟨h1, h2⟩; have e1 : ∀ s, setN s n = ZbS s n := fun s => ZjT (by omega) (by omega); simp only [e1]; (show TX _ _ _ _ _ [(0, .g (.pairs ps)), (1, .g (.i n)), (5, .g (.i j))] [] _))) | apply gSel.ccons))
 (all_goals (first | (refine ZaR (j + 1) ?_ ?_ ?_; (· (apply gLX0 <;> (repeat' (first | (with_reducible constructor) | exact Z5 | exact RF.mk (by decide) | (with_reducible apply Zae) | exact ZE)))); (· ((refine ⟨by omega, ZbM h2 ?_⟩; simp only [e1] at *; unfold ZeW; simp_all))); (· exact ZW)) | (((first | (simp only [e1] at *; (refine Zar ?_; unfold Zei; first | (rw [Zbh (fun j hj => h2 j (by omega))]; (rw [Bool.eq_iff_iff]; (try simp only [BOa, Int.natCast_eq_zero, List.length_eq_zero_iff, Bool.true_eq_false, Bool.false_eq_true, true_iff, false_iff, iff_true, iff_false, true_and, and_true, false_and, and_false, not_and, not_or, Bool.not_eq_true, Bool.not_eq_false, Int.not_lt, Int.not_le] at *); first | done | omega | (simp_all; done) | grind)) | (rw [Za5 j (by omega) QM11]; simp; done) | (rw [Bool.eq_iff_iff]; (try simp only [BOa, Int.natCast_eq_zero, List.length_eq_zero_iff, Bool.true_eq_false, Bool.false_eq_true, true_iff, false_iff, iff_true, iff_false, true_and, and_true, false_and, and_false, not_and, not_or, Bool.not_eq_true, Bool.not_eq_false, Int.not_lt, Int.not_le] at *); first | done | omega | (simp_all; done) | grind))) | (refine Zar ?_; unfold Zei; rw [decide_eq_false (by omega : ¬ ps.length ≤ 4)]; simp; done) | (refine Zar ?_; (rw [Bool.eq_iff_iff]; (try simp only [BOa, Int.natCast_eq_zero, List.length_eq_zero_iff, Bool.true_eq_false, Bool.false_eq_true, true_iff, false_iff, iff_true, iff_false, true_and, and_true, false_and, and_false, not_and, not_or, Bool.not_eq_true, Bool.not_eq_false, Int.not_lt, Int.not_le] at *); first | done | omega | (simp_all; done) | grind)))); done)))
def ZhG : Nat → List Nat
 | 0 => [0, 1]
 | 1 => [0, 1, 7, 8, 9]
 | 2 => [0, 1, 7, 8, 9, 10]
 | 3 => [0, 1, 6, 7, 8, 9]
 | 4 => [0, 1, 7, 8, 9, 24]
 | 5 => [4]
 | 6 => [0, 1, 7, 8, 9]
 | 7 => [4]
 | _ => []
theorem Zdi (args : Array Value) (w : World) : (callFunc 37 args).run Tryz.prog w = .ok (.enter 37 args) w := Zab Tryz.func37 (by decide) rfl args w
set_option maxHeartbeats 1000000 in
theorem ZkY (ps : List (List Int × List Int)) (n : Int) : Con Tryz.prog 37 [.pairs ps, .i n] (.bool (Zei ps n)) := by
 refine Con.fit Zdi fun hfit => ?_
 have hb_ps : ps.length ≤ 9223372036854775807 := GFits.lenm (show GFits (.pairs ps) from hfit 0 (ZL rfl))
 have hr_ps : ∀ r ∈ ps, r.1.length ≤ 9223372036854775807 ∧ r.2.length ≤ 9223372036854775807 := fun r hr => ⟨GFits.ints (GFits.cell (GFits.elm (show GFits (.pairs ps) from hfit 0 (ZL rfl)) r hr) (.head _)), GFits.ints (GFits.cell (GFits.elm (show GFits (.pairs ps) from hfit 0 (ZL rfl)) r hr) (.tail _ (.head _)))⟩
 clear hfit
 refine gCon ZhG Zac (rs := [.tmp 4]) (sl := [(0, .g (.pairs ps)), (1, .g (.i n))]) Tryz.func37 rfl Tryz.ntmps37 rfl Zdi rfl (by repeat constructor) ?_
 (repeat' (first | ((with_reducible apply gLB.cone); (. exact RF.mk ⟨rfl, rfl⟩)) | ((with_reducible apply gLI.cagg); (. exact RF.mk ⟨rfl, rfl, rfl⟩)) | (with_reducible constructor) | exact Z3 | exact ZN | exact ZS | exact ZF | ((with_reducible apply ZaP); first | apply Zov) | (with_reducible intro hc; (try simp only [HCs] at hc)) | exact OB_f | (with_reducible first | apply gNK | apply Zao | apply Zaf | apply Zal | apply Zan | apply Zai | apply CK_t | apply ZaQ | apply Zam | apply Zap | apply Zau | apply Zak | apply Zas | apply ZaG | apply Zav | apply ZaM | apply Zat) | apply Zah Zac | (apply ZaD; exact RF.mk rfl) | (refine Zaq (id := 0) (ι := Nat) (fun j => ⟨[(0, .g (.pairs ps)), (1, .g (.i n)), (7, .g (.pairs ps)), (8, .g (.i ps.length)), (9, .g (.i j))], []⟩) (fun j => (j ≤ ps.length) ∧ (∀ z, z < j → (ZeW ps n) z = true)) (fun j => ps.length - j) (0) ?_ ?_ ?_; (. (apply gLX0 <;> (repeat' (first | (with_reducible constructor) | exact Z5 | exact RF.mk (by decide) | (with_reducible apply Zae) | exact ZE)))); (. (exact ⟨by omega, ZbT⟩)); (rintro j ⟨h1, h2⟩; (show TX _ _ _ _ _ [(0, .g (.pairs ps)), (1, .g (.i n)), (7, .g (.pairs ps)), (8, .g (.i ps.length)), (9, .g (.i j))] [] _))) | apply gSel.ccons))
 (all_goals (first | (refine ZaR (j + 1) ?_ ?_ ?_; (· (apply gLX0 <;> (repeat' (first | (with_reducible constructor) | exact Z5 | exact RF.mk (by decide) | (with_reducible apply Zae) | exact ZE)))); (· ((refine ⟨by omega, ZbM h2 ?_⟩; (try unfold ZeW); (try simp only [pw, Int.one_mul] at *); ((try simp only [BOa] at *); (first | omega | assumption | grind))))); (· exact ZW)) | (((refine Zar ?_; unfold Zei; first | (rw [Zbh (fun j hj => h2 j (by omega))]; (rw [Bool.eq_iff_iff]; (try simp only [BOa, Int.natCast_eq_zero, List.length_eq_zero_iff, Bool.true_eq_false, Bool.false_eq_true, true_iff, false_iff, iff_true, iff_false, true_and, and_true, false_and, and_false, not_and, not_or, Bool.not_eq_true, Bool.not_eq_false, Int.not_lt, Int.not_le] at *); first | done | omega | (simp_all; done) | grind)) | (rw [Za5 j (by omega) QM11]; simp; done) | (rw [Bool.eq_iff_iff]; (try simp only [BOa, Int.natCast_eq_zero, List.length_eq_zero_iff, Bool.true_eq_false, Bool.false_eq_true, true_iff, false_iff, iff_true, iff_false, true_and, and_true, false_and, and_false, not_and, not_or, Bool.not_eq_true, Bool.not_eq_false, Int.not_lt, Int.not_le] at *); first | done | omega | (simp_all; done) | grind))); done)))
def Zku : Nat → List Nat
 | 0 => [2, 3]
 | 1 => [2, 3, 5]
 | 2 => [2, 3, 5, 17]
 | 3 => [4]
 | 4 => [2, 3, 5, 6]
 | 5 => [2, 3, 5, 6, 22]
 | 6 => [2, 3, 5, 6]
 | 7 => [2, 3, 5, 6, 43]
 | 8 => [4]
 | 9 => [4]
 | _ => []
theorem Zeq (args : Array Value) (w : World) : (callFunc 20 args).run Tryz.prog w = .ok (.enter 20 args) w := Zab Tryz.func20 (by decide) rfl args w
set_option maxHeartbeats 1000000 in
theorem ZgA (i o : Int) (n : List (List Int)) (ps : List (List Int × List Int)) : Con Tryz.prog 20 [.sig i o, .det n ps] (.bool (detB i o n ps)) := by
 refine Con.fit Zeq fun hfit => ?_
 have hb_n : n.length ≤ 9223372036854775807 := GFits.lenm (GFits.cell (show GFits (.det n ps) from hfit 1 (ZL rfl)) (.head _))
 have hr_n : ∀ r ∈ n, r.length ≤ 9223372036854775807 := fun r hr => GFits.ints (GFits.elm (GFits.cell (show GFits (.det n ps) from hfit 1 (ZL rfl)) (.head _)) r hr)
 have hb_ps : ps.length ≤ 9223372036854775807 := GFits.lenm (GFits.cell (show GFits (.det n ps) from hfit 1 (ZL rfl)) (.tail _ (.head _)))
 have hr_ps : ∀ r ∈ ps, r.1.length ≤ 9223372036854775807 ∧ r.2.length ≤ 9223372036854775807 := fun r hr => ⟨GFits.ints (GFits.cell (GFits.elm (GFits.cell (show GFits (.det n ps) from hfit 1 (ZL rfl)) (.tail _ (.head _))) r hr) (.head _)), GFits.ints (GFits.cell (GFits.elm (GFits.cell (show GFits (.det n ps) from hfit 1 (ZL rfl)) (.tail _ (.head _))) r hr) (.tail _ (.head _)))⟩
 clear hfit
 refine gCon Zku Zac (rs := [.tmp 4]) (sl := [(0, .g (.sig i o)), (1, .g (.det n ps))]) Tryz.func20 rfl Tryz.ntmps20 rfl Zeq rfl (by repeat constructor) ?_
 (repeat' (first | ((with_reducible apply gLB.cagg); (. exact RF.mk ⟨rfl, rfl, rfl⟩)) | ((with_reducible apply gLB.cone); (. exact RF.mk ⟨rfl, rfl⟩)) | ((with_reducible apply gLI.cone); (. exact RF.mk ⟨rfl, rfl⟩)) | (with_reducible constructor) | exact Z2 | exact NU.mk QM10 | exact ZS | exact ZF | ((with_reducible apply ZaP); first | apply Za2 | apply ZdS | apply Zdb | apply Zf2 | apply Zhj) | (with_reducible intro hc; (try simp only [HCs] at hc)) | exact OB_f | exact ZK | (with_reducible first | apply gNK | apply Zao | apply Zaf | apply Zal | apply Zan | apply Zai | apply CK_t | apply ZaQ | apply Zam | apply Zap | apply Zau | apply Zak | apply Zas | apply ZaG | apply Zav | apply ZaM | apply Zat) | apply Zah Zac | apply ZaK Zac rfl | (apply ZaD; exact RF.mk rfl) | (refine Zaq (id := 0) (ι := Nat) (fun j => ⟨[(2, .ptr 0 0), (3, .ptr 1 0), (5, .g (.i n.length)), (6, .g (.i j))], [(0, .box [.g (.i i), .g (.i o)]), (1, .box [.g (.rows n), .g (.pairs ps)])]⟩) (fun j => (j ≤ n.length) ∧ (∀ z, z < j → (Zhf i o n) z = true)) (fun j => n.length - j) (0) ?_ ?_ ?_; (. (apply gLX2 <;> (repeat' (first | (with_reducible constructor) | exact Z5 | exact RF.mk (by decide) | (with_reducible apply Zae) | exact EQ.mk QM10)))); (. (exact ⟨by omega, ZbT⟩)); (rintro j ⟨h1, h2⟩; (show TX _ _ _ _ _ [(2, .ptr 0 0), (3, .ptr 1 0), (5, .g (.i n.length)), (6, .g (.i j))] [(0, .box [.g (.i i), .g (.i o)]), (1, .box [.g (.rows n), .g (.pairs ps)])] _))) | apply gSel.ccons))
 (all_goals (first | (refine ZaR (j + 1) ?_ ?_ ?_; (· (apply gLX2 <;> (repeat' (first | (with_reducible constructor) | exact Z5 | exact RF.mk (by decide) | (with_reducible apply Zae) | exact EQ.mk QM10)))); (· ((refine ⟨by omega, ZbM h2 ?_⟩; (try unfold Zhf); (try simp only [pw, Int.one_mul] at *); ((try simp only [BOa] at *); (first | omega | assumption | grind))))); (· exact ZW)) | (((refine Zar ?_; unfold detB; first | (rw [Zbh (fun j hj => h2 j (by omega))]; (rw [Bool.eq_iff_iff]; (try simp only [BOa, Int.natCast_eq_zero, List.length_eq_zero_iff, Bool.true_eq_false, Bool.false_eq_true, true_iff, false_iff, iff_true, iff_false, true_and, and_true, false_and, and_false, not_and, not_or, Bool.not_eq_true, Bool.not_eq_false, Int.not_lt, Int.not_le] at *); first | done | omega | (simp_all; done) | grind)) | (rw [Za5 j (by omega) QM12]; simp; done) | (rw [Bool.eq_iff_iff]; (try simp only [BOa, Int.natCast_eq_zero, List.length_eq_zero_iff, Bool.true_eq_false, Bool.false_eq_true, true_iff, false_iff, iff_true, iff_false, true_and, and_true, false_and, and_false, not_and, not_or, Bool.not_eq_true, Bool.not_eq_false, Int.not_lt, Int.not_le] at *); first | done | omega | (simp_all; done) | grind))); done)))
def Zk5 : Nat → List Nat
 | 0 => [2, 3]
 | 1 => [2, 3, 5]
 | 2 => [2, 3, 5, 23]
 | 3 => [4]
 | 4 => [2, 5, 25, 26, 27]
 | 5 => [2, 5, 25, 26, 27, 28]
 | 6 => [2, 5, 7, 25, 26, 27]
 | 7 => [2, 5, 25, 26, 27, 41]
 | 8 => [4]
 | 9 => [2, 5, 25, 26, 27]
 | 10 => [4]
 | _ => []
theorem Zel (args : Array Value) (w : World) : (callFunc 18 args).run Tryz.prog w = .ok (.enter 18 args) w := Zab Tryz.func18 (by decide) rfl args w
set_option maxHeartbeats 1000000 in
theorem ZgF (i o : Int) (n : List (List Int)) (ps : List (List Int × List Int)) (hs : HY (sigB i o = true)) : Con Tryz.prog 18 [.sig i o, .det n ps] (.bool (detB i o n ps)) := by
 have hs := hs.e
 refine Con.fit Zel fun hfit => ?_
 have hb_n : n.length ≤ 9223372036854775807 := GFits.lenm (GFits.cell (show GFits (.det n ps) from hfit 1 (ZL rfl)) (.head _))
 have hr_n : ∀ r ∈ n, r.length ≤ 9223372036854775807 := fun r hr => GFits.ints (GFits.elm (GFits.cell (show GFits (.det n ps) from hfit 1 (ZL rfl)) (.head _)) r hr)
 have hb_ps : ps.length ≤ 9223372036854775807 := GFits.lenm (GFits.cell (show GFits (.det n ps) from hfit 1 (ZL rfl)) (.tail _ (.head _)))
 have hr_ps : ∀ r ∈ ps, r.1.length ≤ 9223372036854775807 ∧ r.2.length ≤ 9223372036854775807 := fun r hr => ⟨GFits.ints (GFits.cell (GFits.elm (GFits.cell (show GFits (.det n ps) from hfit 1 (ZL rfl)) (.tail _ (.head _))) r hr) (.head _)), GFits.ints (GFits.cell (GFits.elm (GFits.cell (show GFits (.det n ps) from hfit 1 (ZL rfl)) (.tail _ (.head _))) r hr) (.tail _ (.head _)))⟩
 clear hfit
 refine gCon Zk5 Zac (rs := [.tmp 4]) (sl := [(0, .g (.sig i o)), (1, .g (.det n ps))]) Tryz.func18 rfl Tryz.ntmps18 rfl Zel rfl (by repeat constructor) ?_
 (repeat' (first | ((with_reducible apply gLB.cagg); (. exact RF.mk ⟨rfl, rfl, rfl⟩)) | ((with_reducible apply gLB.cone); (. exact RF.mk ⟨rfl, rfl⟩)) | ((with_reducible apply gLI.cone); (. exact RF.mk ⟨rfl, rfl⟩)) | (with_reducible constructor) | exact Z2 | exact NU.mk QM10 | exact ZS | exact ZF | ((with_reducible apply ZaP); first | apply Zfv | apply ZkY | apply ZeJ) | (with_reducible intro hc; (try simp only [HCs] at hc)) | exact OB_f | (with_reducible first | apply gNK | apply Zao | apply Zaf | apply Zal | apply Zan | apply Zai | apply CK_t | apply ZaQ | apply Zam | apply Zap | apply Zau | apply Zak | apply Zas | apply ZaG | apply Zav | apply ZaM | apply Zat) | apply Zah Zac | (apply ZaD; exact RF.mk rfl) | (refine Zaq (id := 0) (ι := Nat) (fun j => ⟨[(2, .ptr 0 0), (5, .g (.i n.length)), (25, .g (.rows n)), (26, .g (.i n.length)), (27, .g (.i j))], [(0, .box [.g (.i i), .g (.i o)])]⟩) (fun j => (j ≤ n.length) ∧ (∀ z, z < j → (Zhf i o n) z = true)) (fun j => n.length - j) (0) ?_ ?_ ?_; (. (apply gLX1 <;> (repeat' (first | (with_reducible constructor) | exact Z5 | exact RF.mk (by decide) | (with_reducible apply Zae) | exact EQ.mk QM10)))); (. (exact ⟨by omega, ZbT⟩)); (rintro j ⟨h1, h2⟩; (show TX _ _ _ _ _ [(2, .ptr 0 0), (5, .g (.i n.length)), (25, .g (.rows n)), (26, .g (.i n.length)), (27, .g (.i j))] [(0, .box [.g (.i i), .g (.i o)])] _))) | apply gSel.ccons))
 (all_goals (first | (refine ZaR (j + 1) ?_ ?_ ?_; (· (apply gLX1 <;> (repeat' (first | (with_reducible constructor) | exact Z5 | exact RF.mk (by decide) | (with_reducible apply Zae) | exact EQ.mk QM10)))); (· ((refine ⟨by omega, ZbM h2 ?_⟩; unfold Zhf; rw [(Zj2 hs).2.2.2.2.2.2.2.2.2.2.1]; ((try simp only [BOa] at *); (first | omega | assumption | grind))))); (· exact ZW)) | (((have hl := (Zj2 hs).2.2.2.2.2.2.2.2.2.2.1; (refine Zar ?_; unfold detB; first | (rw [Zbh (fun j hj => h2 j (by omega))]; (rw [Bool.eq_iff_iff]; (try simp only [BOa, Int.natCast_eq_zero, List.length_eq_zero_iff, Bool.true_eq_false, Bool.false_eq_true, true_iff, false_iff, iff_true, iff_false, true_and, and_true, false_and, and_false, not_and, not_or, Bool.not_eq_true, Bool.not_eq_false, Int.not_lt, Int.not_le] at *); first | done | omega | (simp_all; done) | grind)) | (rw [Za5 j (by omega) QM12]; simp; done) | (rw [Bool.eq_iff_iff]; (try simp only [BOa, Int.natCast_eq_zero, List.length_eq_zero_iff, Bool.true_eq_false, Bool.false_eq_true, true_iff, false_iff, iff_true, iff_false, true_and, and_true, false_and, and_false, not_and, not_or, Bool.not_eq_true, Bool.not_eq_false, Int.not_lt, Int.not_le] at *); first | done | omega | (simp_all; done) | grind)))); done)))
end Go.Proofs.YtnieejghoaccmaaGreat

