/- Contracts: machines, automata, their runs. No conditions but those that each theorem names. -/
import Derived.Test.YtnieejghoaccmaaTab
import Derived.Test.YtnieejghoaccmaaKG
import Derived.Test.YtnieejghoaccmaaC1
import Derived.Test.YtnieejghoaccmaaMM
import Derived.Test.YtnieejghoaccmaaChecked
set_option linter.unusedSimpArgs false
set_option linter.unusedVariables false
namespace Go.Proofs.Ytnieejghoaccmaa
open Go.RowKit
open Shp
theorem QM13 {p : Prop} (h : p := by first | exact ZO | (first | exact ZO | (simp only [Bool.and_eq_true, decide_eq_true_eq] at *; omega))) : p := h
theorem QM12 {p : Prop} (h : p := by unfold Zgi; (try simp only [pw, Int.one_mul] at *); rw [Bool.eq_false_iff]; intro hx; ((try simp only [BOa] at *); (first | omega | assumption | grind))) : p := h
theorem QM11 {p : Prop} (h : p := by unfold Zea; (try simp only [pw, Int.one_mul] at *); rw [Bool.eq_false_iff]; intro hx; ((try simp only [BOa] at *); (first | omega | assumption | grind))) : p := h
theorem QM10 {p : Prop} (h : p := by first | exact ZO | (first | omega | (have q := Zhg (by assumption); omega) | (have q := ZaJ i o; omega))) : p := h
def Zjf : Nat → List Nat
 | 0 => [1, 2, 3]
 | 1 => [1, 2, 3, 7]
 | 2 => [1, 2, 3, 7, 11]
 | 3 => [1, 2, 3, 7]
 | 4 => [1, 2, 3, 7]
 | 5 => [6]
 | _ => []
theorem ZdK (args : Array Value) (w : World) : (callFunc 33 args).run Try.prog w = .ok (.enter 33 args) w := Zab Try.func33 (by decide) rfl args w
set_option maxHeartbeats 1000000 in
theorem ZfV (n : List (List Int)) (q : Int) (xs : List Int) (W : Int) (ps : List (List Int × List Int)) (hg : HY (GoOk n W)) (hx : HY (below xs W = true)) (hq : NU (0 ≤ q ∧ q < n.length)) : Con Try.prog 33 [.det n ps, .i q, .ints xs] (.i (goN n q xs)) := by
 have hg := hg.e
 have hx := hx.e
 have hq := hq.e
 refine Con.fit ZdK fun hfit => ?_
 have hb_n : n.length ≤ 9223372036854775807 := GFits.lenm (GFits.cell (show GFits (.det n ps) from hfit 0 (ZL rfl)) (.head _))
 have hr_n : ∀ r ∈ n, r.length ≤ 9223372036854775807 := fun r hr => GFits.ints (GFits.elm (GFits.cell (show GFits (.det n ps) from hfit 0 (ZL rfl)) (.head _)) r hr)
 have hb_ps : ps.length ≤ 9223372036854775807 := GFits.lenm (GFits.cell (show GFits (.det n ps) from hfit 0 (ZL rfl)) (.tail _ (.head _)))
 have hr_ps : ∀ r ∈ ps, r.1.length ≤ 9223372036854775807 ∧ r.2.length ≤ 9223372036854775807 := fun r hr => ⟨GFits.ints (GFits.cell (GFits.elm (GFits.cell (show GFits (.det n ps) from hfit 0 (ZL rfl)) (.tail _ (.head _))) r hr) (.head _)), GFits.ints (GFits.cell (GFits.elm (GFits.cell (show GFits (.det n ps) from hfit 0 (ZL rfl)) (.tail _ (.head _))) r hr) (.tail _ (.head _)))⟩
 have hb_xs : xs.length ≤ 9223372036854775807 := GFits.ints (show GFits (.ints xs) from hfit 2 (ZL rfl))
 clear hfit
 refine gCon Zjf Zac (rs := [.tmp 6]) (sl := [(0, .g (.det n ps)), (1, .g (.i q)), (2, .g (.ints xs))]) Try.func33 rfl Try.ntmps33 rfl ZdK rfl (by repeat constructor) ?_
 (repeat' (first | ((with_reducible apply gLB.cagg); (. exact RF.mk ⟨rfl, rfl, rfl⟩)) | ((with_reducible apply gLB.cone); (. exact RF.mk ⟨rfl, rfl⟩)) | ((with_reducible apply gLI.cagg); (. exact RF.mk ⟨rfl, rfl, rfl⟩)) | ((with_reducible apply gLI.cone); (. exact RF.mk ⟨rfl, rfl⟩)) | ((with_reducible apply gAF.cbuildA); (. exact RF.mk rfl); (. exact RF.mk ⟨rfl, rfl, rfl, rfl⟩)) | (with_reducible constructor) | exact Z4 | exact ZN | exact ZI | exact ZS | exact ZF | exact ZG | exact ZC | exact ZP | exact ZQ | (with_reducible apply Zay) | (apply ZaB) | (with_reducible apply Zaf) | exact ZU | (with_reducible apply ZaC) | (apply Zaw) | (with_reducible intro hc; (try simp only [HCs] at hc)) | exact OB_f | exact DEC.mk (by decide) | exact ZM | exact ZT | exact ZK | (with_reducible first | apply gNK | apply ZaH | apply Zal | apply Zaj | apply Zai | apply Zam | apply CK_t | apply CK_f | apply ZaQ | apply Zar | apply ZaF | apply Zau | apply Zah | apply Zag | apply Zak | apply Zav | apply ZaA | apply Zax | apply Zaz | apply Zat | apply Zas | apply ZaR | apply ZaG | apply ZaE | apply ZaP) | apply Zaq Zac | apply Zao Zac rfl | (apply ZaD; exact RF.mk rfl) | exact EQ.mk rfl | (refine ZaN (id := 0) (ι := Nat × Int) (fun ⟨i, p⟩ => ⟨[(1, .g (.i p)), (2, .g (.ints xs)), (3, .ptr 0 0), (7, .g (.i i))], [(0, .box [.g (.rows n), .g (.pairs ps)])]⟩) (fun ⟨i, p⟩ => (i ≤ xs.length) ∧ (0 ≤ p ∧ p < n.length) ∧ (goN n p (xs.drop i) = goN n q xs)) (fun ⟨i, p⟩ => xs.length - i) (0, q) ?_ ?_ ?_; (. (apply gLX1 <;> (repeat' (first | (with_reducible constructor) | exact Z5 | exact RF.mk (by decide) | (with_reducible apply Zan) | exact ZE)))); (. (exact ⟨by omega, hq, rfl⟩)); (rintro ⟨i, p⟩ ⟨h1, h2, h3⟩; have z1 : i < xs.length → 0 ≤ nth xs i ∧ nth xs i < W := fun h => below_iff.1 hx i h; have z2 := hg.row h2.1 h2.2; (show TX _ _ _ _ _ [(1, .g (.i p)), (2, .g (.ints xs)), (3, .ptr 0 0), (7, .g (.i i))] [(0, .box [.g (.rows n), .g (.pairs ps)])] _))) | exact gSel.cnil _ | apply gSel.ccons | apply gCG.cagg))
 (all_goals (first | (refine Zbf (i + 1, nth (nth n p.toNat) (nth xs i).toNat) ?_ ?_ ?_; (· (apply gLX1 <;> (repeat' (first | (with_reducible constructor) | exact Z5 | exact RF.mk (by decide) | (with_reducible apply Zan) | exact ZE)))); (· ((have z3 := z1 (by omega); exact ⟨by omega, hg.step h2 z3, by rw [← ZlI (by omega)]; exact h3⟩))); (· exact ZW)) | (((refine Zan (EQ.mk ?_); rw [← h3, Zoq (by omega)])); done)))
def Zhz : Nat → List Nat
 | 0 => [0, 1, 2]
 | 1 => [0, 1, 9, 10, 11]
 | 2 => [0, 1, 9, 10, 11, 12]
 | 3 => [0, 1, 8, 9, 10, 11]
 | 4 => [0, 1, 9, 10, 11]
 | 5 => [0, 1, 9, 10, 11]
 | 6 => [6]
 | _ => []
theorem ZcT (args : Array Value) (w : World) : (callFunc 32 args).run Try.prog w = .ok (.enter 32 args) w := Zab Try.func32 (by decide) rfl args w
set_option maxHeartbeats 1000000 in
theorem Zd6 (n : List (List Int)) (q : Int) (xs : List Int) (W : Int) (hg : HY (GoOk n W)) (hx : HY (below xs W = true)) (hq : NU (0 ≤ q ∧ q < n.length)) : Con Try.prog 32 [.rows n, .i q, .ints xs] (.i (goN n q xs)) := by
 have hg := hg.e
 have hx := hx.e
 have hq := hq.e
 refine Con.fit ZcT fun hfit => ?_
 have hb_n : n.length ≤ 9223372036854775807 := GFits.lenm (show GFits (.rows n) from hfit 0 (ZL rfl))
 have hr_n : ∀ r ∈ n, r.length ≤ 9223372036854775807 := fun r hr => GFits.ints (GFits.elm (show GFits (.rows n) from hfit 0 (ZL rfl)) r hr)
 have hb_xs : xs.length ≤ 9223372036854775807 := GFits.ints (show GFits (.ints xs) from hfit 2 (ZL rfl))
 clear hfit
 refine gCon Zhz Zac (rs := [.tmp 6]) (sl := [(0, .g (.rows n)), (1, .g (.i q)), (2, .g (.ints xs))]) Try.func32 rfl Try.ntmps32 rfl ZcT rfl (by repeat constructor) ?_
 (repeat' (first | ((with_reducible apply gLB.cagg); (. exact RF.mk ⟨rfl, rfl, rfl⟩)) | ((with_reducible apply gLB.cone); (. exact RF.mk ⟨rfl, rfl⟩)) | ((with_reducible apply gLI.cagg); (. exact RF.mk ⟨rfl, rfl, rfl⟩)) | ((with_reducible apply gLI.cone); (. exact RF.mk ⟨rfl, rfl⟩)) | ((with_reducible apply gAF.cbuildA); (. exact RF.mk rfl); (. exact RF.mk ⟨rfl, rfl, rfl, rfl⟩)) | (with_reducible constructor) | exact Z4 | exact ZN | exact ZI | exact ZS | exact ZF | exact ZG | exact ZC | exact ZP | exact ZQ | (with_reducible apply Zay) | (apply ZaB) | (with_reducible apply Zaf) | exact ZU | (with_reducible apply ZaC) | (apply Zaw) | (with_reducible intro hc; (try simp only [HCs] at hc)) | exact OB_f | exact DEC.mk (by decide) | exact ZM | exact ZT | exact ZK | (with_reducible first | apply gNK | apply ZaH | apply Zal | apply Zaj | apply Zai | apply Zam | apply CK_t | apply CK_f | apply ZaQ | apply Zar | apply ZaF | apply Zau | apply Zah | apply Zag | apply Zak | apply Zav | apply ZaA | apply Zax | apply Zaz | apply Zat | apply Zas | apply ZaR | apply ZaG | apply ZaE | apply ZaP) | apply Zaq Zac | apply Zao Zac rfl | (apply ZaD; exact RF.mk rfl) | exact EQ.mk rfl | (refine ZaN (id := 0) (ι := Nat × Int) (fun ⟨i, p⟩ => ⟨[(0, .g (.rows n)), (1, .g (.i p)), (9, .g (.ints xs)), (10, .g (.i xs.length)), (11, .g (.i i))], []⟩) (fun ⟨i, p⟩ => (i ≤ xs.length) ∧ (0 ≤ p ∧ p < n.length) ∧ (goN n p (xs.drop i) = goN n q xs)) (fun ⟨i, p⟩ => xs.length - i) (0, q) ?_ ?_ ?_; (. (apply gLX0 <;> (repeat' (first | (with_reducible constructor) | exact Z5 | exact RF.mk (by decide) | (with_reducible apply Zan) | exact ZE)))); (. (exact ⟨by omega, hq, rfl⟩)); (rintro ⟨i, p⟩ ⟨h1, h2, h3⟩; have z1 : i < xs.length → 0 ≤ nth xs i ∧ nth xs i < W := fun h => below_iff.1 hx i h; have z2 := hg.row h2.1 h2.2; (show TX _ _ _ _ _ [(0, .g (.rows n)), (1, .g (.i p)), (9, .g (.ints xs)), (10, .g (.i xs.length)), (11, .g (.i i))] [] _))) | exact gSel.cnil _ | apply gSel.ccons | apply gCG.cagg))
 (all_goals (first | (refine Zbf (i + 1, nth (nth n p.toNat) (nth xs i).toNat) ?_ ?_ ?_; (· (apply gLX0 <;> (repeat' (first | (with_reducible constructor) | exact Z5 | exact RF.mk (by decide) | (with_reducible apply Zan) | exact ZE)))); (· ((have z3 := z1 (by omega); exact ⟨by omega, hg.step h2 z3, by rw [← ZlI (by omega)]; exact h3⟩))); (· exact ZW)) | (((refine Zan (EQ.mk ?_); rw [← h3, Zoq (by omega)])); done)))
def ZiL : Nat → List Nat
 | 0 => [0, 1]
 | 1 => [4]
 | _ => []
theorem ZdI (args : Array Value) (w : World) : (callFunc 51 args).run Try.prog w = .ok (.enter 51 args) w := Zab Try.func51 (by decide) rfl args w
set_option maxHeartbeats 1000000 in
theorem Zih (xs : List Int) (n : Int) : Con Try.prog 51 [.ints xs, .i n] (.bool (setN xs n)) := by
 refine Con.fit ZdI fun hfit => ?_
 have hb_xs : xs.length ≤ 9223372036854775807 := GFits.ints (show GFits (.ints xs) from hfit 0 (ZL rfl))
 clear hfit
 refine gCon ZiL Zac (rs := [.tmp 4]) (sl := [(0, .g (.ints xs)), (1, .g (.i n))]) Try.func51 rfl Try.ntmps51 rfl ZdI rfl (by repeat constructor) ?_
 (repeat' (first | ((with_reducible apply gLB.cagg); (. exact RF.mk ⟨rfl, rfl, rfl⟩)) | ((with_reducible apply gLB.cone); (. exact RF.mk ⟨rfl, rfl⟩)) | ((with_reducible apply gLI.cagg); (. exact RF.mk ⟨rfl, rfl, rfl⟩)) | ((with_reducible apply gLI.cone); (. exact RF.mk ⟨rfl, rfl⟩)) | ((with_reducible apply gAF.cbuildA); (. exact RF.mk rfl); (. exact RF.mk ⟨rfl, rfl, rfl, rfl⟩)) | (with_reducible constructor) | exact Z4 | exact NU.mk QM13 | exact ZI | exact ZS | exact ZF | exact ZG | exact ZC | ((with_reducible apply ZaT); (. exact ZA); (. exact NU.mk QM13)) | exact ZQ | (with_reducible apply Zay) | (apply ZaB) | (with_reducible apply Zaf) | ((with_reducible apply ZaU); (. exact NU.mk QM13); (. rfl)) | (with_reducible apply ZaC) | (apply Zaw) | ((with_reducible apply Za0); first | apply ZcE | apply Zif) | (with_reducible intro hc; (try simp only [HCs] at hc)) | exact OB_f | exact DEC.mk (by decide) | exact ZM | exact ZT | exact ZK | (with_reducible first | apply gNK | apply ZaH | apply Zal | apply Zaj | apply Zai | apply Zam | apply CK_t | apply CK_f | apply ZaQ | apply Zar | apply ZaF | apply Zau | apply Zah | apply Zag | apply Zak | apply Zav | apply ZaA | apply Zax | apply Zaz | apply Zat | apply Zas | apply ZaR | apply ZaG | apply ZaE | apply ZaP) | apply Zaq Zac | apply Zao Zac rfl | (apply ZaD; exact RF.mk rfl) | exact EQ.mk rfl | exact gSel.cnil _ | apply gSel.ccons | apply gCG.cagg))
 (all_goals (first | (((refine ZaY ?_; skip; (try simp only [setN] at *); rw [Bool.eq_iff_iff]; (try simp only [BOa, Int.natCast_eq_zero, List.length_eq_zero_iff, Bool.true_eq_false, Bool.false_eq_true, true_iff, false_iff, iff_true, iff_false, true_and, and_true, false_and, and_false, not_and, not_or, Bool.not_eq_true, Bool.not_eq_false, Int.not_lt, Int.not_le] at *); first | done | omega | (simp_all; done) | grind)); done)))
def ZhF : Nat → List Nat
 | 0 => [0, 1]
 | 1 => [0, 1, 13]
 | 2 => [4]
 | 3 => [0, 1, 5]
 | 4 => [0, 1, 5, 17]
 | 5 => [0, 1, 5]
 | 6 => [0, 1, 5, 37]
 | 7 => [4]
 | 8 => [4]
 | _ => []
theorem Zc3 (args : Array Value) (w : World) : (callFunc 29 args).run Try.prog w = .ok (.enter 29 args) w := Zab Try.func29 (by decide) rfl args w
set_option maxHeartbeats 1000000 in
theorem Zkv (ps : List (List Int × List Int)) (n : Int) : Con Try.prog 29 [.pairs ps, .i n] (.bool (decide (0 ≤ n) && decide (n ≤ 256) && ZeJ ps n)) := by
 refine Con.fit Zc3 fun hfit => ?_
 have hb_ps : ps.length ≤ 9223372036854775807 := GFits.lenm (show GFits (.pairs ps) from hfit 0 (ZL rfl))
 have hr_ps : ∀ r ∈ ps, r.1.length ≤ 9223372036854775807 ∧ r.2.length ≤ 9223372036854775807 := fun r hr => ⟨GFits.ints (GFits.cell (GFits.elm (show GFits (.pairs ps) from hfit 0 (ZL rfl)) r hr) (.head _)), GFits.ints (GFits.cell (GFits.elm (show GFits (.pairs ps) from hfit 0 (ZL rfl)) r hr) (.tail _ (.head _)))⟩
 clear hfit
 refine gCon ZhF Zac (rs := [.tmp 4]) (sl := [(0, .g (.pairs ps)), (1, .g (.i n))]) Try.func29 rfl Try.ntmps29 rfl Zc3 rfl (by repeat constructor) ?_
 (repeat' (first | ((with_reducible apply gLB.cagg); (. exact RF.mk ⟨rfl, rfl, rfl⟩)) | ((with_reducible apply gLB.cone); (. exact RF.mk ⟨rfl, rfl⟩)) | ((with_reducible apply gLI.cagg); (. exact RF.mk ⟨rfl, rfl, rfl⟩)) | ((with_reducible apply gLI.cone); (. exact RF.mk ⟨rfl, rfl⟩)) | ((with_reducible apply gAF.cbuildA); (. exact RF.mk rfl); (. exact RF.mk ⟨rfl, rfl, rfl, rfl⟩)) | (with_reducible constructor) | exact Z4 | exact ZN | exact ZI | exact ZS | exact ZF | exact ZG | exact ZC | exact ZP | exact ZQ | (with_reducible apply Zay) | (apply ZaB) | (with_reducible apply Zaf) | exact ZU | (with_reducible apply ZaC) | (apply Zaw) | ((with_reducible apply Za0); first | apply ZcE | apply Zih) | (with_reducible intro hc; (try simp only [HCs] at hc)) | exact OB_f | exact DEC.mk (by decide) | exact ZM | exact ZT | exact ZK | (with_reducible first | apply gNK | apply ZaH | apply Zal | apply Zaj | apply Zai | apply Zam | apply CK_t | apply CK_f | apply ZaQ | apply Zar | apply ZaF | apply Zau | apply Zah | apply Zag | apply Zak | apply Zav | apply ZaA | apply Zax | apply Zaz | apply Zat | apply Zas | apply ZaR | apply ZaG | apply ZaE | apply ZaP) | apply Zaq Zac | apply Zao Zac rfl | (apply ZaD; exact RF.mk rfl) | exact EQ.mk rfl | (refine ZaN (id := 0) (ι := Nat) (fun j => ⟨[(0, .g (.pairs ps)), (1, .g (.i n)), (5, .g (.i j))], []⟩) (fun j => (j ≤ ps.length) ∧ (∀ z, z < j → (Zea ps n) z = true)) (fun j => ps.length - j) (0) ?_ ?_ ?_; (. (apply gLX0 <;> (repeat' (first | (with_reducible constructor) | exact Z5 | exact RF.mk (by decide) | (with_reducible apply Zan) | exact ZE)))); (. (exact ⟨by omega, ZbJ⟩)); (rintro j ⟨h1, h2⟩; have e1 : ∀ s, setN s n = Zb5 s n := fun s => Zip (by omega) (by omega); simp only [e1]; (show TX _ _ _ _ _ [(0, .g (.pairs ps)), (1, .g (.i n)), (5, .g (.i j))] [] _))) | exact gSel.cnil _ | apply gSel.ccons | apply gCG.cagg))
 (all_goals (first | (refine Zbf (j + 1) ?_ ?_ ?_; (· (apply gLX0 <;> (repeat' (first | (with_reducible constructor) | exact Z5 | exact RF.mk (by decide) | (with_reducible apply Zan) | exact ZE)))); (· ((refine ⟨by omega, ZbL h2 ?_⟩; simp only [e1] at *; unfold Zea; simp_all))); (· exact ZW)) | (((first | (simp only [e1] at *; (refine ZaY ?_; unfold ZeJ; first | (rw [Zba (fun j hj => h2 j (by omega))]; (rw [Bool.eq_iff_iff]; (try simp only [BOa, Int.natCast_eq_zero, List.length_eq_zero_iff, Bool.true_eq_false, Bool.false_eq_true, true_iff, false_iff, iff_true, iff_false, true_and, and_true, false_and, and_false, not_and, not_or, Bool.not_eq_true, Bool.not_eq_false, Int.not_lt, Int.not_le] at *); first | done | omega | (simp_all; done) | grind)) | (rw [Za8 j (by omega) QM11]; simp; done) | (rw [Bool.eq_iff_iff]; (try simp only [BOa, Int.natCast_eq_zero, List.length_eq_zero_iff, Bool.true_eq_false, Bool.false_eq_true, true_iff, false_iff, iff_true, iff_false, true_and, and_true, false_and, and_false, not_and, not_or, Bool.not_eq_true, Bool.not_eq_false, Int.not_lt, Int.not_le] at *); first | done | omega | (simp_all; done) | grind))) | (refine ZaY ?_; unfold ZeJ; rw [decide_eq_false (by omega : ¬ ps.length ≤ 4)]; simp; done) | (refine ZaY ?_; (rw [Bool.eq_iff_iff]; (try simp only [BOa, Int.natCast_eq_zero, List.length_eq_zero_iff, Bool.true_eq_false, Bool.false_eq_true, true_iff, false_iff, iff_true, iff_false, true_and, and_true, false_and, and_false, not_and, not_or, Bool.not_eq_true, Bool.not_eq_false, Int.not_lt, Int.not_le] at *); first | done | omega | (simp_all; done) | grind)))); done)))
def Zgo : Nat → List Nat
 | 0 => [0, 1]
 | 1 => [0, 1, 7, 8, 9]
 | 2 => [0, 1, 7, 8, 9, 10]
 | 3 => [0, 1, 6, 7, 8, 9]
 | 4 => [0, 1, 7, 8, 9, 24]
 | 5 => [4]
 | 6 => [0, 1, 7, 8, 9]
 | 7 => [4]
 | _ => []
theorem ZcD (args : Array Value) (w : World) : (callFunc 43 args).run Try.prog w = .ok (.enter 43 args) w := Zab Try.func43 (by decide) rfl args w
set_option maxHeartbeats 1000000 in
theorem ZiU (ps : List (List Int × List Int)) (n : Int) : Con Try.prog 43 [.pairs ps, .i n] (.bool (ZeJ ps n)) := by
 refine Con.fit ZcD fun hfit => ?_
 have hb_ps : ps.length ≤ 9223372036854775807 := GFits.lenm (show GFits (.pairs ps) from hfit 0 (ZL rfl))
 have hr_ps : ∀ r ∈ ps, r.1.length ≤ 9223372036854775807 ∧ r.2.length ≤ 9223372036854775807 := fun r hr => ⟨GFits.ints (GFits.cell (GFits.elm (show GFits (.pairs ps) from hfit 0 (ZL rfl)) r hr) (.head _)), GFits.ints (GFits.cell (GFits.elm (show GFits (.pairs ps) from hfit 0 (ZL rfl)) r hr) (.tail _ (.head _)))⟩
 clear hfit
 refine gCon Zgo Zac (rs := [.tmp 4]) (sl := [(0, .g (.pairs ps)), (1, .g (.i n))]) Try.func43 rfl Try.ntmps43 rfl ZcD rfl (by repeat constructor) ?_
 (repeat' (first | ((with_reducible apply gLB.cagg); (. exact RF.mk ⟨rfl, rfl, rfl⟩)) | ((with_reducible apply gLB.cone); (. exact RF.mk ⟨rfl, rfl⟩)) | ((with_reducible apply gLI.cagg); (. exact RF.mk ⟨rfl, rfl, rfl⟩)) | ((with_reducible apply gLI.cone); (. exact RF.mk ⟨rfl, rfl⟩)) | ((with_reducible apply gAF.cbuildA); (. exact RF.mk rfl); (. exact RF.mk ⟨rfl, rfl, rfl, rfl⟩)) | (with_reducible constructor) | exact Z4 | exact ZN | exact ZI | exact ZS | exact ZF | exact ZG | exact ZC | exact ZP | exact ZQ | (with_reducible apply Zay) | (apply ZaB) | (with_reducible apply Zaf) | exact ZU | (with_reducible apply ZaC) | (apply Zaw) | ((with_reducible apply Za0); first | apply ZmL) | (with_reducible intro hc; (try simp only [HCs] at hc)) | exact OB_f | exact DEC.mk (by decide) | exact ZM | exact ZT | exact ZK | (with_reducible first | apply gNK | apply ZaH | apply Zal | apply Zaj | apply Zai | apply Zam | apply CK_t | apply CK_f | apply ZaQ | apply Zar | apply ZaF | apply Zau | apply Zah | apply Zag | apply Zak | apply Zav | apply ZaA | apply Zax | apply Zaz | apply Zat | apply Zas | apply ZaR | apply ZaG | apply ZaE | apply ZaP) | apply Zaq Zac | apply Zao Zac rfl | (apply ZaD; exact RF.mk rfl) | exact EQ.mk rfl | (refine ZaN (id := 0) (ι := Nat) (fun j => ⟨[(0, .g (.pairs ps)), (1, .g (.i n)), (7, .g (.pairs ps)), (8, .g (.i ps.length)), (9, .g (.i j))], []⟩) (fun j => (j ≤ ps.length) ∧ (∀ z, z < j → (Zea ps n) z = true)) (fun j => ps.length - j) (0) ?_ ?_ ?_; (. (apply gLX0 <;> (repeat' (first | (with_reducible constructor) | exact Z5 | exact RF.mk (by decide) | (with_reducible apply Zan) | exact ZE)))); (. (exact ⟨by omega, ZbJ⟩)); (rintro j ⟨h1, h2⟩; (show TX _ _ _ _ _ [(0, .g (.pairs ps)), (1, .g (.i n)), (7, .g (.pairs ps)), (8, .g (.i ps.length)), (9, .g (.i j))] [] _))) | exact gSel.cnil _ | apply gSel.ccons | apply gCG.cagg))
 (all_goals (first | (refine Zbf (j + 1) ?_ ?_ ?_; (· (apply gLX0 <;> (repeat' (first | (with_reducible constructor) | exact Z5 | exact RF.mk (by decide) | (with_reducible apply Zan) | exact ZE)))); (· ((refine ⟨by omega, ZbL h2 ?_⟩; (try unfold Zea); (try simp only [pw, Int.one_mul] at *); ((try simp only [BOa] at *); (first | omega | assumption | grind))))); (· exact ZW)) | (((refine ZaY ?_; unfold ZeJ; first | (rw [Zba (fun j hj => h2 j (by omega))]; (rw [Bool.eq_iff_iff]; (try simp only [BOa, Int.natCast_eq_zero, List.length_eq_zero_iff, Bool.true_eq_false, Bool.false_eq_true, true_iff, false_iff, iff_true, iff_false, true_and, and_true, false_and, and_false, not_and, not_or, Bool.not_eq_true, Bool.not_eq_false, Int.not_lt, Int.not_le] at *); first | done | omega | (simp_all; done) | grind)) | (rw [Za8 j (by omega) QM11]; simp; done) | (rw [Bool.eq_iff_iff]; (try simp only [BOa, Int.natCast_eq_zero, List.length_eq_zero_iff, Bool.true_eq_false, Bool.false_eq_true, true_iff, false_iff, iff_true, iff_false, true_and, and_true, false_and, and_false, not_and, not_or, Bool.not_eq_true, Bool.not_eq_false, Int.not_lt, Int.not_le] at *); first | done | omega | (simp_all; done) | grind))); done)))
def Zjn : Nat → List Nat
 | 0 => [2, 3]
 | 1 => [2, 3, 5]
 | 2 => [2, 3, 5, 17]
 | 3 => [4]
 | 4 => [2, 3, 5, 6]
 | 5 => [2, 3, 5, 6, 22]
 | 6 => [2, 3, 5, 6]
 | 7 => [2, 3, 5, 6, 43]
 | 8 => [4]
 | 9 => [4]
 | _ => []
theorem ZdE (args : Array Value) (w : World) : (callFunc 9 args).run Try.prog w = .ok (.enter 9 args) w := Zab Try.func9 (by decide) rfl args w
set_option maxHeartbeats 1000000 in
theorem ZeA (i o : Int) (n : List (List Int)) (ps : List (List Int × List Int)) : Con Try.prog 9 [.sig i o, .det n ps] (.bool (detB i o n ps)) := by
 refine Con.fit ZdE fun hfit => ?_
 have hb_n : n.length ≤ 9223372036854775807 := GFits.lenm (GFits.cell (show GFits (.det n ps) from hfit 1 (ZL rfl)) (.head _))
 have hr_n : ∀ r ∈ n, r.length ≤ 9223372036854775807 := fun r hr => GFits.ints (GFits.elm (GFits.cell (show GFits (.det n ps) from hfit 1 (ZL rfl)) (.head _)) r hr)
 have hb_ps : ps.length ≤ 9223372036854775807 := GFits.lenm (GFits.cell (show GFits (.det n ps) from hfit 1 (ZL rfl)) (.tail _ (.head _)))
 have hr_ps : ∀ r ∈ ps, r.1.length ≤ 9223372036854775807 ∧ r.2.length ≤ 9223372036854775807 := fun r hr => ⟨GFits.ints (GFits.cell (GFits.elm (GFits.cell (show GFits (.det n ps) from hfit 1 (ZL rfl)) (.tail _ (.head _))) r hr) (.head _)), GFits.ints (GFits.cell (GFits.elm (GFits.cell (show GFits (.det n ps) from hfit 1 (ZL rfl)) (.tail _ (.head _))) r hr) (.tail _ (.head _)))⟩
 clear hfit
 refine gCon Zjn Zac (rs := [.tmp 4]) (sl := [(0, .g (.sig i o)), (1, .g (.det n ps))]) Try.func9 rfl Try.ntmps9 rfl ZdE rfl (by repeat constructor) ?_
 (repeat' (first | ((with_reducible apply gLB.cagg); (. exact RF.mk ⟨rfl, rfl, rfl⟩)) | ((with_reducible apply gLB.cone); (. exact RF.mk ⟨rfl, rfl⟩)) | ((with_reducible apply gLI.cagg); (. exact RF.mk ⟨rfl, rfl, rfl⟩)) | ((with_reducible apply gLI.cone); (. exact RF.mk ⟨rfl, rfl⟩)) | ((with_reducible apply gAF.cbuildA); (. exact RF.mk rfl); (. exact RF.mk ⟨rfl, rfl, rfl, rfl⟩)) | (with_reducible constructor) | exact Z4 | exact NU.mk QM10 | exact ZI | exact ZS | exact ZF | exact ZG | exact ZC | ((with_reducible apply ZaT); (. exact ZA); (. exact NU.mk QM10)) | exact ZQ | (with_reducible apply Zay) | (apply ZaB) | (with_reducible apply Zaf) | ((with_reducible apply ZaU); (. exact NU.mk QM10); (. rfl)) | (with_reducible apply ZaC) | (apply Zaw) | ((with_reducible apply Za0); first | apply Za2 | apply Zdd | apply ZcE | apply Zds | apply Zkv) | (with_reducible intro hc; (try simp only [HCs] at hc)) | exact OB_f | exact DEC.mk (by decide) | exact ZM | exact ZT | exact ZK | (with_reducible first | apply gNK | apply ZaH | apply Zal | apply Zaj | apply Zai | apply Zam | apply CK_t | apply CK_f | apply ZaQ | apply Zar | apply ZaF | apply Zau | apply Zah | apply Zag | apply Zak | apply Zav | apply ZaA | apply Zax | apply Zaz | apply Zat | apply Zas | apply ZaR | apply ZaG | apply ZaE | apply ZaP) | apply Zaq Zac | apply Zao Zac rfl | (apply ZaD; exact RF.mk rfl) | exact EQ.mk rfl | (refine ZaN (id := 0) (ι := Nat) (fun j => ⟨[(2, .ptr 0 0), (3, .ptr 1 0), (5, .g (.i n.length)), (6, .g (.i j))], [(0, .box [.g (.i i), .g (.i o)]), (1, .box [.g (.rows n), .g (.pairs ps)])]⟩) (fun j => (j ≤ n.length) ∧ (∀ z, z < j → (Zgi i o n) z = true)) (fun j => n.length - j) (0) ?_ ?_ ?_; (. (apply gLX2 <;> (repeat' (first | (with_reducible constructor) | exact Z5 | exact RF.mk (by decide) | (with_reducible apply Zan) | exact EQ.mk QM10)))); (. (exact ⟨by omega, ZbJ⟩)); (rintro j ⟨h1, h2⟩; (show TX _ _ _ _ _ [(2, .ptr 0 0), (3, .ptr 1 0), (5, .g (.i n.length)), (6, .g (.i j))] [(0, .box [.g (.i i), .g (.i o)]), (1, .box [.g (.rows n), .g (.pairs ps)])] _))) | exact gSel.cnil _ | apply gSel.ccons | apply gCG.cagg))
 (all_goals (first | (refine Zbf (j + 1) ?_ ?_ ?_; (· (apply gLX2 <;> (repeat' (first | (with_reducible constructor) | exact Z5 | exact RF.mk (by decide) | (with_reducible apply Zan) | exact EQ.mk QM10)))); (· ((refine ⟨by omega, ZbL h2 ?_⟩; (try unfold Zgi); (try simp only [pw, Int.one_mul] at *); ((try simp only [BOa] at *); (first | omega | assumption | grind))))); (· exact ZW)) | (((refine ZaY ?_; unfold detB; first | (rw [Zba (fun j hj => h2 j (by omega))]; (rw [Bool.eq_iff_iff]; (try simp only [BOa, Int.natCast_eq_zero, List.length_eq_zero_iff, Bool.true_eq_false, Bool.false_eq_true, true_iff, false_iff, iff_true, iff_false, true_and, and_true, false_and, and_false, not_and, not_or, Bool.not_eq_true, Bool.not_eq_false, Int.not_lt, Int.not_le] at *); first | done | omega | (simp_all; done) | grind)) | (rw [Za8 j (by omega) QM12]; simp; done) | (rw [Bool.eq_iff_iff]; (try simp only [BOa, Int.natCast_eq_zero, List.length_eq_zero_iff, Bool.true_eq_false, Bool.false_eq_true, true_iff, false_iff, iff_true, iff_false, true_and, and_true, false_and, and_false, not_and, not_or, Bool.not_eq_true, Bool.not_eq_false, Int.not_lt, Int.not_le] at *); first | done | omega | (simp_all; done) | grind))); done)))
def Zjk : Nat → List Nat
 | 0 => [2, 3]
 | 1 => [2, 3, 5]
 | 2 => [2, 3, 5, 23]
 | 3 => [4]
 | 4 => [2, 5, 25, 26, 27]
 | 5 => [2, 5, 25, 26, 27, 28]
 | 6 => [2, 5, 7, 25, 26, 27]
 | 7 => [2, 5, 25, 26, 27, 41]
 | 8 => [4]
 | 9 => [2, 5, 25, 26, 27]
 | 10 => [4]
 | _ => []
theorem ZdG (args : Array Value) (w : World) : (callFunc 19 args).run Try.prog w = .ok (.enter 19 args) w := Zab Try.func19 (by decide) rfl args w
set_option maxHeartbeats 1000000 in
theorem ZiD (i o : Int) (n : List (List Int)) (ps : List (List Int × List Int)) (hs : HY (sigB i o = true)) : Con Try.prog 19 [.sig i o, .det n ps] (.bool (detB i o n ps)) := by
 have hs := hs.e
 refine Con.fit ZdG fun hfit => ?_
 have hb_n : n.length ≤ 9223372036854775807 := GFits.lenm (GFits.cell (show GFits (.det n ps) from hfit 1 (ZL rfl)) (.head _))
 have hr_n : ∀ r ∈ n, r.length ≤ 9223372036854775807 := fun r hr => GFits.ints (GFits.elm (GFits.cell (show GFits (.det n ps) from hfit 1 (ZL rfl)) (.head _)) r hr)
 have hb_ps : ps.length ≤ 9223372036854775807 := GFits.lenm (GFits.cell (show GFits (.det n ps) from hfit 1 (ZL rfl)) (.tail _ (.head _)))
 have hr_ps : ∀ r ∈ ps, r.1.length ≤ 9223372036854775807 ∧ r.2.length ≤ 9223372036854775807 := fun r hr => ⟨GFits.ints (GFits.cell (GFits.elm (GFits.cell (show GFits (.det n ps) from hfit 1 (ZL rfl)) (.tail _ (.head _))) r hr) (.head _)), GFits.ints (GFits.cell (GFits.elm (GFits.cell (show GFits (.det n ps) from hfit 1 (ZL rfl)) (.tail _ (.head _))) r hr) (.tail _ (.head _)))⟩
 clear hfit
 refine gCon Zjk Zac (rs := [.tmp 4]) (sl := [(0, .g (.sig i o)), (1, .g (.det n ps))]) Try.func19 rfl Try.ntmps19 rfl ZdG rfl (by repeat constructor) ?_
 (repeat' (first | ((with_reducible apply gLB.cagg); (. exact RF.mk ⟨rfl, rfl, rfl⟩)) | ((with_reducible apply gLB.cone); (. exact RF.mk ⟨rfl, rfl⟩)) | ((with_reducible apply gLI.cagg); (. exact RF.mk ⟨rfl, rfl, rfl⟩)) | ((with_reducible apply gLI.cone); (. exact RF.mk ⟨rfl, rfl⟩)) | ((with_reducible apply gAF.cbuildA); (. exact RF.mk rfl); (. exact RF.mk ⟨rfl, rfl, rfl, rfl⟩)) | (with_reducible constructor) | exact Z4 | exact NU.mk QM10 | exact ZI | exact ZS | exact ZF | exact ZG | exact ZC | ((with_reducible apply ZaT); (. exact ZA); (. exact NU.mk QM10)) | exact ZQ | (with_reducible apply Zay) | (apply ZaB) | (with_reducible apply Zaf) | ((with_reducible apply ZaU); (. exact NU.mk QM10); (. rfl)) | (with_reducible apply ZaC) | (apply Zaw) | ((with_reducible apply Za0); first | apply Zc4 | apply Zcy | apply ZiU) | (with_reducible intro hc; (try simp only [HCs] at hc)) | exact OB_f | exact DEC.mk (by decide) | exact ZM | exact ZT | exact ZK | (with_reducible first | apply gNK | apply ZaH | apply Zal | apply Zaj | apply Zai | apply Zam | apply CK_t | apply CK_f | apply ZaQ | apply Zar | apply ZaF | apply Zau | apply Zah | apply Zag | apply Zak | apply Zav | apply ZaA | apply Zax | apply Zaz | apply Zat | apply Zas | apply ZaR | apply ZaG | apply ZaE | apply ZaP) | apply Zaq Zac | apply Zao Zac rfl | (apply ZaD; exact RF.mk rfl) | exact EQ.mk rfl | (refine ZaN (id := 0) (ι := Nat) (fun j => ⟨[(2, .ptr 0 0), (5, .g (.i n.length)), (25, .g (.rows n)), (26, .g (.i n.length)), (27, .g (.i j))], [(0, .box [.g (.i i), .g (.i o)])]⟩) (fun j => (j ≤ n.length) ∧ (∀ z, z < j → (Zgi i o n) z = true)) (fun j => n.length - j) (0) ?_ ?_ ?_; (. (apply gLX1 <;> (repeat' (first | (with_reducible constructor) | exact Z5 | exact RF.mk (by decide) | (with_reducible apply Zan) | exact EQ.mk QM10)))); (. (exact ⟨by omega, ZbJ⟩)); (rintro j ⟨h1, h2⟩; (show TX _ _ _ _ _ [(2, .ptr 0 0), (5, .g (.i n.length)), (25, .g (.rows n)), (26, .g (.i n.length)), (27, .g (.i j))] [(0, .box [.g (.i i), .g (.i o)])] _))) | exact gSel.cnil _ | apply gSel.ccons | apply gCG.cagg))
 (all_goals (first | (refine Zbf (j + 1) ?_ ?_ ?_; (· (apply gLX1 <;> (repeat' (first | (with_reducible constructor) | exact Z5 | exact RF.mk (by decide) | (with_reducible apply Zan) | exact EQ.mk QM10)))); (· ((refine ⟨by omega, ZbL h2 ?_⟩; unfold Zgi; rw [(Zhg hs).2.2.2.2.2.2.2.2.2.2.1]; ((try simp only [BOa] at *); (first | omega | assumption | grind))))); (· exact ZW)) | (((have hl := (Zhg hs).2.2.2.2.2.2.2.2.2.2.1; (refine ZaY ?_; unfold detB; first | (rw [Zba (fun j hj => h2 j (by omega))]; (rw [Bool.eq_iff_iff]; (try simp only [BOa, Int.natCast_eq_zero, List.length_eq_zero_iff, Bool.true_eq_false, Bool.false_eq_true, true_iff, false_iff, iff_true, iff_false, true_and, and_true, false_and, and_false, not_and, not_or, Bool.not_eq_true, Bool.not_eq_false, Int.not_lt, Int.not_le] at *); first | done | omega | (simp_all; done) | grind)) | (rw [Za8 j (by omega) QM12]; simp; done) | (rw [Bool.eq_iff_iff]; (try simp only [BOa, Int.natCast_eq_zero, List.length_eq_zero_iff, Bool.true_eq_false, Bool.false_eq_true, true_iff, false_iff, iff_true, iff_false, true_and, and_true, false_and, and_false, not_and, not_or, Bool.not_eq_true, Bool.not_eq_false, Int.not_lt, Int.not_le] at *); first | done | omega | (simp_all; done) | grind)))); done)))
def ZhJ : Nat → List Nat
 | 0 => [2, 3, 4]
 | 1 => [2, 4, 22]
 | 2 => [6]
 | 3 => [6]
 | _ => []
theorem ZcP (args : Array Value) (w : World) : (callFunc 12 args).run Try.prog w = .ok (.enter 12 args) w := Zab Try.func12 (by decide) rfl args w
set_option maxHeartbeats 1000000 in
theorem Zj4 (i o : Int) (n : List (List Int)) (ps : List (List Int × List Int)) (xs : List Int) : Con Try.prog 12 [.sig i o, .det n ps, .ints xs] (.i (atD i o n ps xs)) := by
 refine Con.fit ZcP fun hfit => ?_
 have hb_n : n.length ≤ 9223372036854775807 := GFits.lenm (GFits.cell (show GFits (.det n ps) from hfit 1 (ZL rfl)) (.head _))
 have hr_n : ∀ r ∈ n, r.length ≤ 9223372036854775807 := fun r hr => GFits.ints (GFits.elm (GFits.cell (show GFits (.det n ps) from hfit 1 (ZL rfl)) (.head _)) r hr)
 have hb_ps : ps.length ≤ 9223372036854775807 := GFits.lenm (GFits.cell (show GFits (.det n ps) from hfit 1 (ZL rfl)) (.tail _ (.head _)))
 have hr_ps : ∀ r ∈ ps, r.1.length ≤ 9223372036854775807 ∧ r.2.length ≤ 9223372036854775807 := fun r hr => ⟨GFits.ints (GFits.cell (GFits.elm (GFits.cell (show GFits (.det n ps) from hfit 1 (ZL rfl)) (.tail _ (.head _))) r hr) (.head _)), GFits.ints (GFits.cell (GFits.elm (GFits.cell (show GFits (.det n ps) from hfit 1 (ZL rfl)) (.tail _ (.head _))) r hr) (.tail _ (.head _)))⟩
 have hb_xs : xs.length ≤ 9223372036854775807 := GFits.ints (show GFits (.ints xs) from hfit 2 (ZL rfl))
 clear hfit
 refine gCon ZhJ Zac (rs := [.tmp 6]) (sl := [(0, .g (.sig i o)), (1, .g (.det n ps)), (2, .g (.ints xs))]) Try.func12 rfl Try.ntmps12 rfl ZcP rfl (by repeat constructor) ?_
 (repeat' (first | ((with_reducible apply gLB.cagg); (. exact RF.mk ⟨rfl, rfl, rfl⟩)) | ((with_reducible apply gLB.cone); (. exact RF.mk ⟨rfl, rfl⟩)) | ((with_reducible apply gLI.cagg); (. exact RF.mk ⟨rfl, rfl, rfl⟩)) | ((with_reducible apply gLI.cone); (. exact RF.mk ⟨rfl, rfl⟩)) | ((with_reducible apply gAF.cbuildA); (. exact RF.mk rfl); (. exact RF.mk ⟨rfl, rfl, rfl, rfl⟩)) | (with_reducible constructor) | exact Z4 | exact NU.mk QM10 | exact ZI | exact ZS | exact ZF | exact ZG | exact ZC | ((with_reducible apply ZaT); (. exact ZA); (. exact NU.mk QM10)) | exact ZQ | (with_reducible apply Zay) | (apply ZaB) | (with_reducible apply Zaf) | ((with_reducible apply ZaU); (. exact NU.mk QM10); (. rfl)) | (with_reducible apply ZaC) | (apply Zaw) | ((with_reducible apply Za0); first | (exact ZfV n 0 xs (Zaa i o) ps (HY.mk (ZbT (by assumption))) (HY.mk (by assumption)) (NU.mk (by have q := ZfL (by assumption); omega))) | apply ZeA | apply Za2 | apply Zds) | (with_reducible intro hc; (try simp only [HCs] at hc)) | exact OB_f | exact DEC.mk (by decide) | exact ZM | exact ZT | exact ZK | (with_reducible first | apply gNK | apply ZaH | apply Zal | apply Zaj | apply Zai | apply Zam | apply CK_t | apply CK_f | apply ZaQ | apply Zar | apply ZaF | apply Zau | apply Zah | apply Zag | apply Zak | apply Zav | apply ZaA | apply Zax | apply Zaz | apply Zat | apply Zas | apply ZaR | apply ZaG | apply ZaE | apply ZaP) | apply Zaq Zac | apply Zao Zac rfl | (apply ZaD; exact RF.mk rfl) | exact EQ.mk rfl | exact gSel.cnil _ | apply gSel.ccons | apply gCG.cagg))
 (all_goals (first | (((refine Zan (EQ.mk ?_); unfold atD; (repeat split) <;> (try simp only [BOa, Int.natCast_eq_zero, List.length_eq_zero_iff, Bool.true_eq_false, Bool.false_eq_true, true_iff, false_iff, iff_true, iff_false, true_and, and_true, false_and, and_false, not_and, not_or, Bool.not_eq_true, Bool.not_eq_false, Int.not_lt, Int.not_le] at *) <;> first | rfl | assumption | (exfalso; first | omega | (simp_all; done) | (simp_all; omega) | grind) | omega)); done)))
def Zhf : Nat → List Nat
 | 0 => [2, 3, 4]
 | 1 => [2, 4, 27]
 | 2 => [6]
 | 3 => [6]
 | _ => []
theorem ZcY (args : Array Value) (w : World) : (callFunc 11 args).run Try.prog w = .ok (.enter 11 args) w := Zab Try.func11 (by decide) rfl args w
set_option maxHeartbeats 1000000 in
theorem Zj9 (i o : Int) (n : List (List Int)) (ps : List (List Int × List Int)) (xs : List Int) : Con Try.prog 11 [.sig i o, .det n ps, .ints xs] (.i (atD i o n ps xs)) := by
 refine Con.fit ZcY fun hfit => ?_
 have hb_n : n.length ≤ 9223372036854775807 := GFits.lenm (GFits.cell (show GFits (.det n ps) from hfit 1 (ZL rfl)) (.head _))
 have hr_n : ∀ r ∈ n, r.length ≤ 9223372036854775807 := fun r hr => GFits.ints (GFits.elm (GFits.cell (show GFits (.det n ps) from hfit 1 (ZL rfl)) (.head _)) r hr)
 have hb_ps : ps.length ≤ 9223372036854775807 := GFits.lenm (GFits.cell (show GFits (.det n ps) from hfit 1 (ZL rfl)) (.tail _ (.head _)))
 have hr_ps : ∀ r ∈ ps, r.1.length ≤ 9223372036854775807 ∧ r.2.length ≤ 9223372036854775807 := fun r hr => ⟨GFits.ints (GFits.cell (GFits.elm (GFits.cell (show GFits (.det n ps) from hfit 1 (ZL rfl)) (.tail _ (.head _))) r hr) (.head _)), GFits.ints (GFits.cell (GFits.elm (GFits.cell (show GFits (.det n ps) from hfit 1 (ZL rfl)) (.tail _ (.head _))) r hr) (.tail _ (.head _)))⟩
 have hb_xs : xs.length ≤ 9223372036854775807 := GFits.ints (show GFits (.ints xs) from hfit 2 (ZL rfl))
 clear hfit
 refine gCon Zhf Zac (rs := [.tmp 6]) (sl := [(0, .g (.sig i o)), (1, .g (.det n ps)), (2, .g (.ints xs))]) Try.func11 rfl Try.ntmps11 rfl ZcY rfl (by repeat constructor) ?_
 (repeat' (first | ((with_reducible apply gLB.cagg); (. exact RF.mk ⟨rfl, rfl, rfl⟩)) | ((with_reducible apply gLB.cone); (. exact RF.mk ⟨rfl, rfl⟩)) | ((with_reducible apply gLI.cagg); (. exact RF.mk ⟨rfl, rfl, rfl⟩)) | ((with_reducible apply gLI.cone); (. exact RF.mk ⟨rfl, rfl⟩)) | ((with_reducible apply gAF.cbuildA); (. exact RF.mk rfl); (. exact RF.mk ⟨rfl, rfl, rfl, rfl⟩)) | (with_reducible constructor) | exact Z4 | exact NU.mk QM10 | exact ZI | exact ZS | exact ZF | exact ZG | exact ZC | ((with_reducible apply ZaT); (. exact ZA); (. exact NU.mk QM10)) | exact ZQ | (with_reducible apply Zay) | (apply ZaB) | (with_reducible apply Zaf) | ((with_reducible apply ZaU); (. exact NU.mk QM10); (. rfl)) | (with_reducible apply ZaC) | (apply Zaw) | ((with_reducible apply Za0); first | (exact Zd6 n 0 xs (Zaa i o) (HY.mk (ZbT (by assumption))) (HY.mk (by rw [(Zhg (by assumption)).2.2.2.2.2.2.2.2.2.2.1]; assumption)) (NU.mk (by have q := ZfL (by assumption); omega))) | apply Zir | apply ZiD | apply Zc4 | apply Zcy) | (with_reducible intro hc; (try simp only [HCs] at hc)) | exact OB_f | exact DEC.mk (by decide) | exact ZM | exact ZT | exact ZK | (with_reducible first | apply gNK | apply ZaH | apply Zal | apply Zaj | apply Zai | apply Zam | apply CK_t | apply CK_f | apply ZaQ | apply Zar | apply ZaF | apply Zau | apply Zah | apply Zag | apply Zak | apply Zav | apply ZaA | apply Zax | apply Zaz | apply Zat | apply Zas | apply ZaR | apply ZaG | apply ZaE | apply ZaP) | apply Zaq Zac | apply Zao Zac rfl | (apply ZaD; exact RF.mk rfl) | exact EQ.mk rfl | exact HY.mk (by assumption) | exact gSel.cnil _ | apply gSel.ccons | apply gCG.cagg))
 (all_goals (first | ((first | (rw [← (Zhg (by assumption)).2.2.2.2.2.2.2.2.2.2.1] at *; (refine Zan (EQ.mk ?_); unfold atD; (repeat split) <;> (try simp only [BOa, Int.natCast_eq_zero, List.length_eq_zero_iff, Bool.true_eq_false, Bool.false_eq_true, true_iff, false_iff, iff_true, iff_false, true_and, and_true, false_and, and_false, not_and, not_or, Bool.not_eq_true, Bool.not_eq_false, Int.not_lt, Int.not_le] at *) <;> first | rfl | assumption | (exfalso; first | omega | (simp_all; done) | (simp_all; omega) | grind) | omega)) | (refine Zan (EQ.mk ?_); unfold atD; (repeat split) <;> (try simp only [BOa, Int.natCast_eq_zero, List.length_eq_zero_iff, Bool.true_eq_false, Bool.false_eq_true, true_iff, false_iff, iff_true, iff_false, true_and, and_true, false_and, and_false, not_and, not_or, Bool.not_eq_true, Bool.not_eq_false, Int.not_lt, Int.not_le] at *) <;> first | rfl | assumption | (exfalso; first | omega | (simp_all; done) | (simp_all; omega) | grind) | omega) | (refine Zan (EQ.mk ?_); unfold atD detB; (repeat split) <;> (try simp only [BOa, Int.natCast_eq_zero, List.length_eq_zero_iff, Bool.true_eq_false, Bool.false_eq_true, true_iff, false_iff, iff_true, iff_false, true_and, and_true, false_and, and_false, not_and, not_or, Bool.not_eq_true, Bool.not_eq_false, Int.not_lt, Int.not_le] at *) <;> first | rfl | assumption | (exfalso; first | omega | (simp_all; done) | (simp_all; omega) | grind) | omega)); done)))
end Go.Proofs.Ytnieejghoaccmaa

