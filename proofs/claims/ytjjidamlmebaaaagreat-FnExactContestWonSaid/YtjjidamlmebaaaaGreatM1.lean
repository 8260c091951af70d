/- Contracts: machines, automata, their runs. No conditions but those that each theorem names. -/
import Derived.Test.YtjjidamlmebaaaaGreatTab
import Derived.Test.YtjjidamlmebaaaaGreatKG
import Derived.Test.YtjjidamlmebaaaaGreatC1
import Derived.Test.YtjjidamlmebaaaaGreatHM
import Derived.Test.YtjjidamlmebaaaaGreatChecked
set_option linter.unusedSimpArgs false
set_option linter.unusedVariables false
namespace Go.Proofs.YtjjidamlmebaaaaGreat
open Go.RowKit
open Shp
theorem QM12 {p : Prop} (h : p := by unfold ZgL; (try simp only [pw, Int.one_mul] at *); rw [Bool.eq_false_iff]; intro hx; ((try simp only [BOa] at *); (first | omega | assumption | grind))) : p := h
theorem QM11 {p : Prop} (h : p := by unfold ZdQ; (try simp only [pw, Int.one_mul] at *); rw [Bool.eq_false_iff]; intro hx; ((try simp only [BOa] at *); (first | omega | assumption | grind))) : p := h
theorem QM10 {p : Prop} (h : p := by first | exact ZO | (first | omega | (have q := Zdx (by assumption); omega) | (have q := ZiZ i o; omega))) : p := h
def Zgl : Nat → List Nat
 | 0 => [1]
 | 1 => [2]
 | _ => []
theorem ZeZ (args : Array Value) (w : World) : (callFunc 89 args).run Tryz.prog w = .ok (.enter 89 args) w := Zaa Tryz.func89 (by decide) rfl args w
set_option maxHeartbeats 1000000 in
theorem Zi7 (i o : Int) (hn : NU (-10 ≤ i ∧ i ≤ 10)) : Con Tryz.prog 89 [.sig i o] (.i (pw i)) := by
 have hn := hn.e
 refine gCon Zgl Zab (rs := [.tmp 2]) (sl := [(0, .g (.sig i o))]) Tryz.func89 rfl Tryz.ntmps89 rfl ZeZ rfl (by repeat constructor) ?_
 (repeat' (first | ((with_reducible apply gLB.cone); (. exact RF.mk ⟨rfl, rfl⟩)) | (with_reducible constructor) | exact Z2 | exact ZN | exact ZF | ((with_reducible apply Zaw); first | apply Zcp) | exact OB_f | (with_reducible first | apply gNK | apply Zaj | apply Zae | apply Zai) | apply Zaf Zab | apply gSel.ccons))
 (all_goals (first | (((first | (refine Zax ?_; first | (simp_all; done) | (rw [Bool.eq_iff_iff]; simp only [Bool.and_eq_true, Bool.or_eq_true, decide_eq_true_eq, Bool.false_eq_true, false_iff, true_iff, iff_false, iff_true, not_and, not_or, Bool.not_eq_true, decide_eq_false_iff_not, beq_iff_eq, bne_iff_ne, ne_eq, Bool.not_eq_true', Bool.not_eq_false', Int.not_le, Int.not_lt]; omega)) | ((repeat (first | apply ZbK | apply ZaP | apply ZbT | apply Za1 | apply Zap)); all_goals (first | exact EQ.mk rfl | exact EQ.mk (by first | (simp; done) | fail) | exact EQ.mk (by first | (simp_all; done) | fail))))); done)))
def ZjQ : Nat → List Nat
 | 0 => [0, 1]
 | 1 => [4]
 | _ => []
theorem ZdW (args : Array Value) (w : World) : (callFunc 88 args).run Tryz.prog w = .ok (.enter 88 args) w := Zaa Tryz.func88 (by decide) rfl args w
set_option maxHeartbeats 1000000 in
theorem Zjh (xs : List Int) (n : Int) : Con Tryz.prog 88 [.ints xs, .i n] (.bool (setN xs n)) := by
 refine Con.fit ZdW fun hfit => ?_
 have hb_xs : xs.length ≤ 9223372036854775807 := GFits.ints (show GFits (.ints xs) from hfit 0 (ZL rfl))
 clear hfit
 refine gCon ZjQ Zab (rs := [.tmp 4]) (sl := [(0, .g (.ints xs)), (1, .g (.i n))]) Tryz.func88 rfl Tryz.ntmps88 rfl ZdW rfl (by repeat constructor) ?_
 (repeat' (first | (with_reducible constructor) | exact Z2 | exact NU.mk (by first | exact ZO | (first | exact ZO | (simp only [Bool.and_eq_true, decide_eq_true_eq] at *; omega))) | ((with_reducible apply Zaw); first | apply Zby | apply Zjm) | (with_reducible intro hc; (try simp only [HCs] at hc)) | exact OB_f | (with_reducible first | apply gNK | apply Zaj | apply Zae | apply Zai | apply Zao) | apply Zaf Zab | apply gSel.ccons))
 (all_goals (first | (((refine Zax ?_; skip; (try simp only [setN] at *); rw [Bool.eq_iff_iff]; (try simp only [BOa, Int.natCast_eq_zero, List.length_eq_zero_iff, Bool.true_eq_false, Bool.false_eq_true, true_iff, false_iff, iff_true, iff_false, true_and, and_true, false_and, and_false, not_and, not_or, Bool.not_eq_true, Bool.not_eq_false, Int.not_lt, Int.not_le] at *); first | done | omega | (simp_all; done) | grind)); done)))
def ZhP : Nat → List Nat
 | 0 => [0, 1]
 | 1 => [0, 1, 13]
 | 2 => [4]
 | 3 => [0, 1, 5]
 | 4 => [0, 1, 5, 17]
 | 5 => [0, 1, 5]
 | 6 => [0, 1, 5, 37]
 | 7 => [4]
 | 8 => [4]
 | _ => []
theorem Zc7 (args : Array Value) (w : World) : (callFunc 56 args).run Tryz.prog w = .ok (.enter 56 args) w := Zaa Tryz.func56 (by decide) rfl args w
set_option maxHeartbeats 1000000 in
theorem ZgM (ps : List (List Int × List Int)) (n : Int) : Con Tryz.prog 56 [.pairs ps, .i n] (.bool (decide (0 ≤ n) && decide (n ≤ 256) && ZbR ps n)) := by
 refine Con.fit Zc7 fun hfit => ?_
 have hb_ps : ps.length ≤ 9223372036854775807 := GFits.lenm (show GFits (.pairs ps) from hfit 0 (ZL rfl))
 have hr_ps : ∀ r ∈ ps, r.1.length ≤ 9223372036854775807 ∧ r.2.length ≤ 9223372036854775807 := fun r hr => ⟨GFits.ints (GFits.cell (GFits.elm (show GFits (.pairs ps) from hfit 0 (ZL rfl)) r hr) (.head _)), GFits.ints (GFits.cell (GFits.elm (show GFits (.pairs ps) from hfit 0 (ZL rfl)) r hr) (.tail _ (.head _)))⟩
 clear hfit
 refine gCon ZhP Zab (rs := [.tmp 4]) (sl := [(0, .g (.pairs ps)), (1, .g (.i n))]) Tryz.func56 rfl Tryz.ntmps56 rfl Zc7 rfl (by repeat constructor) ?_
 (repeat' (first | ((with_reducible apply gLI.cone); (. exact RF.mk ⟨rfl, rfl⟩)) | (with_reducible constructor) | exact Z2 | exact ZN | exact ZS | exact ZF | ((with_reducible apply Zaw); first | apply Zby | apply Zjh) | (with_reducible intro hc; (try simp only [HCs] at hc)) | exact OB_f | (with_reducible first | apply gNK | apply Zaj | apply Zae | apply Zam | apply Zar | apply Zag | apply CK_t | apply ZaG | apply Zak | apply Zai | apply Zas | apply Zal | apply Zau | apply ZaO | apply Zat | apply ZaR | apply Zao) | apply Zaf Zab | (apply ZaB; exact RF.mk rfl) | (refine Zah (id := 0) (ι := Nat) (fun j => ⟨[(0, .g (.pairs ps)), (1, .g (.i n)), (5, .g (.i j))], []⟩) (fun j => (j ≤ ps.length) ∧ (∀ z, z < j → (ZdQ ps n) z = true)) (fun j => ps.length - j) (0) ?_ ?_ ?_; (. (apply gLX0 <;> (repeat' (first | (with_reducible constructor) | exact Z5 | exact RF.mk (by decide) | (with_reducible apply Zad) | exact ZE)))); (. (exact ⟨by omega, Za6⟩)); (rintro j ⟨h1, h2⟩; have e1 : ∀ s, setN s n = Zbc s n := fun s => Zn5 (by omega) (by omega); simp only [e1]; (show TX _ _ _ _ _ [(0, .g (.pairs ps)), (1, .g (.i n)), (5, .g (.i j))] [] _))) | apply gSel.ccons))
 (all_goals (first | (refine ZaA (j + 1) ?_ ?_ ?_; (· (apply gLX0 <;> (repeat' (first | (with_reducible constructor) | exact Z5 | exact RF.mk (by decide) | (with_reducible apply Zad) | exact ZE)))); (· ((refine ⟨by omega, Za8 h2 ?_⟩; simp only [e1] at *; unfold ZdQ; simp_all))); (· exact ZW)) | (((first | (simp only [e1] at *; (refine Zax ?_; unfold ZbR; first | (rw [ZaV (fun j hj => h2 j (by omega))]; (rw [Bool.eq_iff_iff]; (try simp only [BOa, Int.natCast_eq_zero, List.length_eq_zero_iff, Bool.true_eq_false, Bool.false_eq_true, true_iff, false_iff, iff_true, iff_false, true_and, and_true, false_and, and_false, not_and, not_or, Bool.not_eq_true, Bool.not_eq_false, Int.not_lt, Int.not_le] at *); first | done | omega | (simp_all; done) | grind)) | (rw [Za5 j (by omega) QM11]; simp; done) | (rw [Bool.eq_iff_iff]; (try simp only [BOa, Int.natCast_eq_zero, List.length_eq_zero_iff, Bool.true_eq_false, Bool.false_eq_true, true_iff, false_iff, iff_true, iff_false, true_and, and_true, false_and, and_false, not_and, not_or, Bool.not_eq_true, Bool.not_eq_false, Int.not_lt, Int.not_le] at *); first | done | omega | (simp_all; done) | grind))) | (refine Zax ?_; unfold ZbR; rw [decide_eq_false (by omega : ¬ ps.length ≤ 4)]; simp; done) | (refine Zax ?_; (rw [Bool.eq_iff_iff]; (try simp only [BOa, Int.natCast_eq_zero, List.length_eq_zero_iff, Bool.true_eq_false, Bool.false_eq_true, true_iff, false_iff, iff_true, iff_false, true_and, and_true, false_and, and_false, not_and, not_or, Bool.not_eq_true, Bool.not_eq_false, Int.not_lt, Int.not_le] at *); first | done | omega | (simp_all; done) | grind)))); done)))
def Zhr : Nat → List Nat
 | 0 => [0, 1]
 | 1 => [0, 1, 7, 8, 9]
 | 2 => [0, 1, 7, 8, 9, 10]
 | 3 => [0, 1, 6, 7, 8, 9]
 | 4 => [0, 1, 7, 8, 9, 24]
 | 5 => [4]
 | 6 => [0, 1, 7, 8, 9]
 | 7 => [4]
 | _ => []
theorem ZcI (args : Array Value) (w : World) : (callFunc 64 args).run Tryz.prog w = .ok (.enter 64 args) w := Zaa Tryz.func64 (by decide) rfl args w
set_option maxHeartbeats 1000000 in
theorem ZdN (ps : List (List Int × List Int)) (n : Int) : Con Tryz.prog 64 [.pairs ps, .i n] (.bool (ZbR ps n)) := by
 refine Con.fit ZcI fun hfit => ?_
 have hb_ps : ps.length ≤ 9223372036854775807 := GFits.lenm (show GFits (.pairs ps) from hfit 0 (ZL rfl))
 have hr_ps : ∀ r ∈ ps, r.1.length ≤ 9223372036854775807 ∧ r.2.length ≤ 9223372036854775807 := fun r hr => ⟨GFits.ints (GFits.cell (GFits.elm (show GFits (.pairs ps) from hfit 0 (ZL rfl)) r hr) (.head _)), GFits.ints (GFits.cell (GFits.elm (show GFits (.pairs ps) from hfit 0 (ZL rfl)) r hr) (.tail _ (.head _)))⟩
 clear hfit
 refine gCon Zhr Zab (rs := [.tmp 4]) (sl := [(0, .g (.pairs ps)), (1, .g (.i n))]) Tryz.func64 rfl Tryz.ntmps64 rfl ZcI rfl (by repeat constructor) ?_
 (repeat' (first | ((with_reducible apply gLB.cone); (. exact RF.mk ⟨rfl, rfl⟩)) | ((with_reducible apply gLI.cagg); (. exact RF.mk ⟨rfl, rfl, rfl⟩)) | (with_reducible constructor) | exact Z3 | exact ZN | exact ZS | exact ZF | ((with_reducible apply Zaw); first | apply Zjz) | (with_reducible intro hc; (try simp only [HCs] at hc)) | exact OB_f | (with_reducible first | apply gNK | apply Zaj | apply Zae | apply Zam | apply Zar | apply Zag | apply CK_t | apply ZaG | apply Zak | apply Zai | apply Zas | apply Zal | apply Zau | apply ZaO | apply Zat | apply ZaR | apply Zao) | apply Zaf Zab | (apply ZaB; exact RF.mk rfl) | (refine Zah (id := 0) (ι := Nat) (fun j => ⟨[(0, .g (.pairs ps)), (1, .g (.i n)), (7, .g (.pairs ps)), (8, .g (.i ps.length)), (9, .g (.i j))], []⟩) (fun j => (j ≤ ps.length) ∧ (∀ z, z < j → (ZdQ ps n) z = true)) (fun j => ps.length - j) (0) ?_ ?_ ?_; (. (apply gLX0 <;> (repeat' (first | (with_reducible constructor) | exact Z5 | exact RF.mk (by decide) | (with_reducible apply Zad) | exact ZE)))); (. (exact ⟨by omega, Za6⟩)); (rintro j ⟨h1, h2⟩; (show TX _ _ _ _ _ [(0, .g (.pairs ps)), (1, .g (.i n)), (7, .g (.pairs ps)), (8, .g (.i ps.length)), (9, .g (.i j))] [] _))) | apply gSel.ccons))
 (all_goals (first | (refine ZaA (j + 1) ?_ ?_ ?_; (· (apply gLX0 <;> (repeat' (first | (with_reducible constructor) | exact Z5 | exact RF.mk (by decide) | (with_reducible apply Zad) | exact ZE)))); (· ((refine ⟨by omega, Za8 h2 ?_⟩; (try unfold ZdQ); (try simp only [pw, Int.one_mul] at *); ((try simp only [BOa] at *); (first | omega | assumption | grind))))); (· exact ZW)) | (((refine Zax ?_; unfold ZbR; first | (rw [ZaV (fun j hj => h2 j (by omega))]; (rw [Bool.eq_iff_iff]; (try simp only [BOa, Int.natCast_eq_zero, List.length_eq_zero_iff, Bool.true_eq_false, Bool.false_eq_true, true_iff, false_iff, iff_true, iff_false, true_and, and_true, false_and, and_false, not_and, not_or, Bool.not_eq_true, Bool.not_eq_false, Int.not_lt, Int.not_le] at *); first | done | omega | (simp_all; done) | grind)) | (rw [Za5 j (by omega) QM11]; simp; done) | (rw [Bool.eq_iff_iff]; (try simp only [BOa, Int.natCast_eq_zero, List.length_eq_zero_iff, Bool.true_eq_false, Bool.false_eq_true, true_iff, false_iff, iff_true, iff_false, true_and, and_true, false_and, and_false, not_and, not_or, Bool.not_eq_true, Bool.not_eq_false, Int.not_lt, Int.not_le] at *); first | done | omega | (simp_all; done) | grind))); done)))
def Zj9 : Nat → List Nat
 | 0 => [2, 3]
 | 1 => [2, 3, 5]
 | 2 => [2, 3, 5, 17]
 | 3 => [4]
 | 4 => [2, 3, 5, 6]
 | 5 => [2, 3, 5, 6, 22]
 | 6 => [2, 3, 5, 6]
 | 7 => [2, 3, 5, 6, 43]
 | 8 => [4]
 | 9 => [4]
 | _ => []
theorem ZdY (args : Array Value) (w : World) : (callFunc 30 args).run Tryz.prog w = .ok (.enter 30 args) w := Zaa Tryz.func30 (by decide) rfl args w
set_option maxHeartbeats 1000000 in
theorem Zjg (i o : Int) (n : List (List Int)) (ps : List (List Int × List Int)) : Con Tryz.prog 30 [.sig i o, .det n ps] (.bool (detB i o n ps)) := by
 refine Con.fit ZdY fun hfit => ?_
 have hb_n : n.length ≤ 9223372036854775807 := GFits.lenm (GFits.cell (show GFits (.det n ps) from hfit 1 (ZL rfl)) (.head _))
 have hr_n : ∀ r ∈ n, r.length ≤ 9223372036854775807 := fun r hr => GFits.ints (GFits.elm (GFits.cell (show GFits (.det n ps) from hfit 1 (ZL rfl)) (.head _)) r hr)
 have hb_ps : ps.length ≤ 9223372036854775807 := GFits.lenm (GFits.cell (show GFits (.det n ps) from hfit 1 (ZL rfl)) (.tail _ (.head _)))
 have hr_ps : ∀ r ∈ ps, r.1.length ≤ 9223372036854775807 ∧ r.2.length ≤ 9223372036854775807 := fun r hr => ⟨GFits.ints (GFits.cell (GFits.elm (GFits.cell (show GFits (.det n ps) from hfit 1 (ZL rfl)) (.tail _ (.head _))) r hr) (.head _)), GFits.ints (GFits.cell (GFits.elm (GFits.cell (show GFits (.det n ps) from hfit 1 (ZL rfl)) (.tail _ (.head _))) r hr) (.tail _ (.head _)))⟩
 clear hfit
 refine gCon Zj9 Zab (rs := [.tmp 4]) (sl := [(0, .g (.sig i o)), (1, .g (.det n ps))]) Tryz.func30 rfl Tryz.ntmps30 rfl ZdY rfl (by repeat constructor) ?_
 (repeat' (first | ((with_reducible apply gLB.cagg); (. exact RF.mk ⟨rfl, rfl, rfl⟩)) | ((with_reducible apply gLB.cone); (. exact RF.mk ⟨rfl, rfl⟩)) | ((with_reducible apply gLI.cone); (. exact RF.mk ⟨rfl, rfl⟩)) | (with_reducible constructor) | exact Z2 | exact NU.mk QM10 | exact ZS | exact ZF | ((with_reducible apply Zaw); first | apply ZiW | apply Zgp | apply Zby | apply Zj8 | apply ZgM) | (with_reducible intro hc; (try simp only [HCs] at hc)) | exact OB_f | exact ZK | (with_reducible first | apply gNK | apply Zaj | apply Zae | apply Zam | apply Zar | apply Zag | apply CK_t | apply ZaG | apply Zak | apply Zai | apply Zas | apply Zal | apply Zau | apply ZaO | apply Zat | apply ZaR | apply Zao) | apply Zaf Zab | apply Za4 Zab rfl | (apply ZaB; exact RF.mk rfl) | (refine Zah (id := 0) (ι := Nat) (fun j => ⟨[(2, .ptr 0 0), (3, .ptr 1 0), (5, .g (.i n.length)), (6, .g (.i j))], [(0, .box [.g (.i i), .g (.i o)]), (1, .box [.g (.rows n), .g (.pairs ps)])]⟩) (fun j => (j ≤ n.length) ∧ (∀ z, z < j → (ZgL i o n) z = true)) (fun j => n.length - j) (0) ?_ ?_ ?_; (. (apply gLX2 <;> (repeat' (first | (with_reducible constructor) | exact Z5 | exact RF.mk (by decide) | (with_reducible apply Zad) | exact EQ.mk QM10)))); (. (exact ⟨by omega, Za6⟩)); (rintro j ⟨h1, h2⟩; (show TX _ _ _ _ _ [(2, .ptr 0 0), (3, .ptr 1 0), (5, .g (.i n.length)), (6, .g (.i j))] [(0, .box [.g (.i i), .g (.i o)]), (1, .box [.g (.rows n), .g (.pairs ps)])] _))) | apply gSel.ccons))
 (all_goals (first | (refine ZaA (j + 1) ?_ ?_ ?_; (· (apply gLX2 <;> (repeat' (first | (with_reducible constructor) | exact Z5 | exact RF.mk (by decide) | (with_reducible apply Zad) | exact EQ.mk QM10)))); (· ((refine ⟨by omega, Za8 h2 ?_⟩; (try unfold ZgL); (try simp only [pw, Int.one_mul] at *); ((try simp only [BOa] at *); (first | omega | assumption | grind))))); (· exact ZW)) | (((refine Zax ?_; unfold detB; first | (rw [ZaV (fun j hj => h2 j (by omega))]; (rw [Bool.eq_iff_iff]; (try simp only [BOa, Int.natCast_eq_zero, List.length_eq_zero_iff, Bool.true_eq_false, Bool.false_eq_true, true_iff, false_iff, iff_true, iff_false, true_and, and_true, false_and, and_false, not_and, not_or, Bool.not_eq_true, Bool.not_eq_false, Int.not_lt, Int.not_le] at *); first | done | omega | (simp_all; done) | grind)) | (rw [Za5 j (by omega) QM12]; simp; done) | (rw [Bool.eq_iff_iff]; (try simp only [BOa, Int.natCast_eq_zero, List.length_eq_zero_iff, Bool.true_eq_false, Bool.false_eq_true, true_iff, false_iff, iff_true, iff_false, true_and, and_true, false_and, and_false, not_and, not_or, Bool.not_eq_true, Bool.not_eq_false, Int.not_lt, Int.not_le] at *); first | done | omega | (simp_all; done) | grind))); done)))
def ZjK : Nat → List Nat
 | 0 => [2, 3]
 | 1 => [2, 3, 5]
 | 2 => [2, 3, 5, 23]
 | 3 => [4]
 | 4 => [2, 5, 25, 26, 27]
 | 5 => [2, 5, 25, 26, 27, 28]
 | 6 => [2, 5, 7, 25, 26, 27]
 | 7 => [2, 5, 25, 26, 27, 41]
 | 8 => [4]
 | 9 => [2, 5, 25, 26, 27]
 | 10 => [4]
 | _ => []
theorem Zd6 (args : Array Value) (w : World) : (callFunc 35 args).run Tryz.prog w = .ok (.enter 35 args) w := Zaa Tryz.func35 (by decide) rfl args w
set_option maxHeartbeats 1000000 in
theorem ZnX (i o : Int) (n : List (List Int)) (ps : List (List Int × List Int)) (hs : HY (sigB i o = true)) : Con Tryz.prog 35 [.sig i o, .det n ps] (.bool (detB i o n ps)) := by
 have hs := hs.e
 refine Con.fit Zd6 fun hfit => ?_
 have hb_n : n.length ≤ 9223372036854775807 := GFits.lenm (GFits.cell (show GFits (.det n ps) from hfit 1 (ZL rfl)) (.head _))
 have hr_n : ∀ r ∈ n, r.length ≤ 9223372036854775807 := fun r hr => GFits.ints (GFits.elm (GFits.cell (show GFits (.det n ps) from hfit 1 (ZL rfl)) (.head _)) r hr)
 have hb_ps : ps.length ≤ 9223372036854775807 := GFits.lenm (GFits.cell (show GFits (.det n ps) from hfit 1 (ZL rfl)) (.tail _ (.head _)))
 have hr_ps : ∀ r ∈ ps, r.1.length ≤ 9223372036854775807 ∧ r.2.length ≤ 9223372036854775807 := fun r hr => ⟨GFits.ints (GFits.cell (GFits.elm (GFits.cell (show GFits (.det n ps) from hfit 1 (ZL rfl)) (.tail _ (.head _))) r hr) (.head _)), GFits.ints (GFits.cell (GFits.elm (GFits.cell (show GFits (.det n ps) from hfit 1 (ZL rfl)) (.tail _ (.head _))) r hr) (.tail _ (.head _)))⟩
 clear hfit
 refine gCon ZjK Zab (rs := [.tmp 4]) (sl := [(0, .g (.sig i o)), (1, .g (.det n ps))]) Tryz.func35 rfl Tryz.ntmps35 rfl Zd6 rfl (by repeat constructor) ?_
 (repeat' (first | ((with_reducible apply gLB.cagg); (. exact RF.mk ⟨rfl, rfl, rfl⟩)) | ((with_reducible apply gLB.cone); (. exact RF.mk ⟨rfl, rfl⟩)) | ((with_reducible apply gLI.cone); (. exact RF.mk ⟨rfl, rfl⟩)) | (with_reducible constructor) | exact Z2 | exact NU.mk QM10 | exact ZS | exact ZF | ((with_reducible apply Zaw); first | apply ZiO | apply ZdN | apply Zit) | (with_reducible intro hc; (try simp only [HCs] at hc)) | exact OB_f | (with_reducible first | apply gNK | apply Zaj | apply Zae | apply Zam | apply Zar | apply Zag | apply CK_t | apply ZaG | apply Zak | apply Zai | apply Zas | apply Zal | apply Zau | apply ZaO | apply Zat | apply ZaR | apply Zao) | apply Zaf Zab | (apply ZaB; exact RF.mk rfl) | (refine Zah (id := 0) (ι := Nat) (fun j => ⟨[(2, .ptr 0 0), (5, .g (.i n.length)), (25, .g (.rows n)), (26, .g (.i n.length)), (27, .g (.i j))], [(0, .box [.g (.i i), .g (.i o)])]⟩) (fun j => (j ≤ n.length) ∧ (∀ z, z < j → (ZgL i o n) z = true)) (fun j => n.length - j) (0) ?_ ?_ ?_; (. (apply gLX1 <;> (repeat' (first | (with_reducible constructor) | exact Z5 | exact RF.mk (by decide) | (with_reducible apply Zad) | exact EQ.mk QM10)))); (. (exact ⟨by omega, Za6⟩)); (rintro j ⟨h1, h2⟩; (show TX _ _ _ _ _ [(2, .ptr 0 0), (5, .g (.i n.length)), (25, .g (.rows n)), (26, .g (.i n.length)), (27, .g (.i j))] [(0, .box [.g (.i i), .g (.i o)])] _))) | apply gSel.ccons))
 (all_goals (first | (refine ZaA (j + 1) ?_ ?_ ?_; (· (apply gLX1 <;> (repeat' (first | (with_reducible constructor) | exact Z5 | exact RF.mk (by decide) | (with_reducible apply Zad) | exact EQ.mk QM10)))); (· ((refine ⟨by omega, Za8 h2 ?_⟩; unfold ZgL; rw [(Zdx hs).2.2.2.2.2.2.2.2.2.2.1]; ((try simp only [BOa] at *); (first | omega | assumption | grind))))); (· exact ZW)) | (((have hl := (Zdx hs).2.2.2.2.2.2.2.2.2.2.1; (refine Zax ?_; unfold detB; first | (rw [ZaV (fun j hj => h2 j (by omega))]; (rw [Bool.eq_iff_iff]; (try simp only [BOa, Int.natCast_eq_zero, List.length_eq_zero_iff, Bool.true_eq_false, Bool.false_eq_true, true_iff, false_iff, iff_true, iff_false, true_and, and_true, false_and, and_false, not_and, not_or, Bool.not_eq_true, Bool.not_eq_false, Int.not_lt, Int.not_le] at *); first | done | omega | (simp_all; done) | grind)) | (rw [Za5 j (by omega) QM12]; simp; done) | (rw [Bool.eq_iff_iff]; (try simp only [BOa, Int.natCast_eq_zero, List.length_eq_zero_iff, Bool.true_eq_false, Bool.false_eq_true, true_iff, false_iff, iff_true, iff_false, true_and, and_true, false_and, and_false, not_and, not_or, Bool.not_eq_true, Bool.not_eq_false, Int.not_lt, Int.not_le] at *); first | done | omega | (simp_all; done) | grind)))); done)))
end Go.Proofs.YtjjidamlmebaaaaGreat

