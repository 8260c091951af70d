/- Contracts: sets that meet, pairs that are broken, what an automaton accepts. No conditions but those that each theorem names. -/
import Derived.Test.YtnieejghoaccmaaGreatTab
import Derived.Test.YtnieejghoaccmaaGreatKG
import Derived.Test.YtnieejghoaccmaaGreatM9
import Derived.Test.YtnieejghoaccmaaGreatBS
import Derived.Test.YtnieejghoaccmaaGreatMX
import Derived.Test.YtnieejghoaccmaaGreatChecked
set_option linter.unusedSimpArgs false
set_option linter.unusedVariables false
namespace Go.Proofs.YtnieejghoaccmaaGreat
open Go.RowKit
open Shp
theorem QMA2 {p : Prop} (h : p := by first | exact ZO | (first | omega | (have q := ha k (by omega); omega))) : p := h
theorem QMA1 {p : Prop} (h : p := by ((first | exact EQ.mk rfl | exact EQ.mk (by first | (simp [Zdj]; done) | fail) | (refine EQ.mk ?_; first | (rw [Zih (by omega) (by assumption)]; done) | (rw [Zih (by omega) (by assumption)]; simp; done) | (rw [Znk (by omega) (by assumption)]; done)) | (refine Zax (EQ.mk ?_); first | exact (Zih (by omega) (by assumption)).symm | exact (Znk (by omega) (by assumption)).symm)); done)) : p := h
theorem QMA0 {p : Prop} (h : p := by ((first | exact EQ.mk rfl | exact EQ.mk (by first | (simp [brkZ]; done) | fail) | (refine EQ.mk ?_; first | (rw [Zka (by assumption) (by assumption)]; done) | (rw [Zka (by assumption) (by assumption)]; simp; done) | (rw [Zn2 (by assumption)]; done) | (rw [Zn1 (by assumption)]; done)) | (refine Zax (EQ.mk ?_); first | exact (Zka (by assumption) (by assumption)).symm | exact (Zn2 (by assumption)).symm | exact (Zn1 (by assumption)).symm)); done)) : p := h
def Zja : Nat → List Nat
 | 0 => [0, 1]
 | 1 => [0, 1, 5]
 | 2 => [0, 1, 5, 9]
 | 3 => [0, 1, 5]
 | 4 => [0, 1, 5, 17]
 | 5 => [4]
 | 6 => [4]
 | _ => []
theorem ZdQ (args : Array Value) (w : World) : (callFunc 94 args).run Tryz.prog w = .ok (.enter 94 args) w := Zab Tryz.func94 (by decide) rfl args w
set_option maxHeartbeats 1000000 in
theorem ZmX (xs : List Int) (n : Int) : Con Tryz.prog 94 [.ints xs, .i n] (.bool (has xs n)) := by
 refine Con.fit ZdQ fun hfit => ?_
 have hb_xs : xs.length ≤ 9223372036854775807 := GFits.ints (show GFits (.ints xs) from hfit 0 (ZL rfl))
 clear hfit
 refine gCon Zja Zac (rs := [.tmp 4]) (sl := [(0, .g (.ints xs)), (1, .g (.i n))]) Tryz.func94 rfl Tryz.ntmps94 rfl ZdQ rfl (by repeat constructor) ?_
 (repeat' (first | ((with_reducible apply gLI.cone); (. exact RF.mk ⟨rfl, rfl⟩)) | (with_reducible constructor) | exact Z2 | exact ZN | exact ZS | (with_reducible intro hc; (try simp only [HCs] at hc)) | exact OB_f | (with_reducible first | apply gNK | apply Zao | apply Zaf | apply Zal | apply Zan | apply Zai | apply ZaQ | apply Zam | apply Zap | apply Zau | apply Zak | apply Zas | apply ZaG | apply Zav | apply ZaM | apply Zat) | apply Zah Zac | (apply ZaD; exact RF.mk rfl) | (refine Zaq (id := 0) (ι := Nat) (fun i => ⟨[(0, .g (.ints xs)), (1, .g (.i n)), (5, .g (.i i))], []⟩) (fun i => (i ≤ xs.length) ∧ (∀ z, z < i → (fun i => !(nth xs i == n)) z = true)) (fun i => xs.length - i) (0) ?_ ?_ ?_; (. (apply gLX0 <;> (repeat' (first | (with_reducible constructor) | exact Z5 | exact RF.mk (by decide) | (with_reducible apply Zae) | exact ZE)))); (. (exact ⟨by omega, ZbT⟩)); (rintro i ⟨h1, h2⟩; (show TX _ _ _ _ _ [(0, .g (.ints xs)), (1, .g (.i n)), (5, .g (.i i))] [] _))) | apply gSel.ccons))
 (all_goals (first | (refine ZaR (i + 1) ?_ ?_ ?_; (· (apply gLX0 <;> (repeat' (first | (with_reducible constructor) | exact Z5 | exact RF.mk (by decide) | (with_reducible apply Zae) | exact ZE)))); (· ((refine ⟨by omega, ZbM h2 ?_⟩; ((try simp only [BOa] at *); (first | omega | assumption | grind))))); (· exact ZW)) | (((first | (refine Zar ?_; (try unfold has); first | rfl | exact Eq.symm (Zbh fun j hj => h2 j (by omega)) | (refine Eq.symm (Za5 i (by omega) ?_); ((try simp only [BOa] at *); (first | omega | assumption | grind))) | exact Eq.symm (Zc3 fun j hj => h2 j (by omega)) | (refine Eq.symm (ZdN i (by omega) ?_); ((try simp only [BOa] at *); (first | omega | assumption | grind))) | ((try simp only [BOa] at *); (first | omega | assumption | grind))))); done)))
def Zhx : Nat → List Nat
 | 0 => [0, 1]
 | 1 => [0, 1, 5]
 | 2 => [0, 1, 5, 9]
 | 3 => [0, 1, 5]
 | 4 => [0, 1, 5, 17]
 | 5 => [4]
 | 6 => [4]
 | _ => []
theorem Zde (args : Array Value) (w : World) : (callFunc 70 args).run Tryz.prog w = .ok (.enter 70 args) w := Zab Tryz.func70 (by decide) rfl args w
set_option maxHeartbeats 1000000 in
theorem ZkL (xs ys : List Int) : Con Tryz.prog 70 [.ints xs, .ints ys] (.bool (ZcJ ys xs)) := by
 refine Con.fit Zde fun hfit => ?_
 have hb_xs : xs.length ≤ 9223372036854775807 := GFits.ints (show GFits (.ints xs) from hfit 0 (ZL rfl))
 have hb_ys : ys.length ≤ 9223372036854775807 := GFits.ints (show GFits (.ints ys) from hfit 1 (ZL rfl))
 clear hfit
 refine gCon Zhx Zac (rs := [.tmp 4]) (sl := [(0, .g (.ints xs)), (1, .g (.ints ys))]) Tryz.func70 rfl Tryz.ntmps70 rfl Zde rfl (by repeat constructor) ?_
 (repeat' (first | ((with_reducible apply gLI.cone); (. exact RF.mk ⟨rfl, rfl⟩)) | (with_reducible constructor) | exact Z2 | exact ZN | exact ZS | ((with_reducible apply ZaP); first | apply ZmX) | (with_reducible intro hc; (try simp only [HCs] at hc)) | exact OB_f | (with_reducible first | apply gNK | apply Zao | apply Zaf | apply Zal | apply Zan | apply Zai | apply ZaQ | apply Zam | apply Zap | apply Zau | apply Zak | apply Zas | apply ZaG | apply Zav | apply ZaM | apply Zat) | apply Zah Zac | (apply ZaD; exact RF.mk rfl) | (refine Zaq (id := 0) (ι := Nat) (fun i => ⟨[(0, .g (.ints xs)), (1, .g (.ints ys)), (5, .g (.i i))], []⟩) (fun i => (i ≤ xs.length) ∧ (∀ z, z < i → (fun i => !has ys (nth xs i)) z = true)) (fun i => xs.length - i) (0) ?_ ?_ ?_; (. (apply gLX0 <;> (repeat' (first | (with_reducible constructor) | exact Z5 | exact RF.mk (by decide) | (with_reducible apply Zae) | exact ZE)))); (. (exact ⟨by omega, ZbT⟩)); (rintro i ⟨h1, h2⟩; (show TX _ _ _ _ _ [(0, .g (.ints xs)), (1, .g (.ints ys)), (5, .g (.i i))] [] _))) | apply gSel.ccons))
 (all_goals (first | (refine ZaR (i + 1) ?_ ?_ ?_; (· (apply gLX0 <;> (repeat' (first | (with_reducible constructor) | exact Z5 | exact RF.mk (by decide) | (with_reducible apply Zae) | exact ZE)))); (· ((refine ⟨by omega, ZbM h2 ?_⟩; ((try simp only [BOa] at *); (first | omega | assumption | grind))))); (· exact ZW)) | (((refine Zar ?_; first | exact (ZsA (i := i) (by omega) (by assumption)).symm | exact (Zu4 (i := i) (by omega) h2).symm)); done)))
def Zju : Nat → List Nat
 | 0 => [0, 1]
 | 1 => [0, 1, 5]
 | 2 => [1, 5, 11, 12, 13]
 | 3 => [1, 5, 11, 12, 13, 14]
 | 4 => [1, 5, 7, 11, 12, 13]
 | 5 => [1, 5, 7, 9, 11, 12, 13]
 | 6 => [1, 5, 7, 11, 12, 13, 24]
 | 7 => [1, 5, 11, 12, 13]
 | 8 => [1, 5, 11, 12, 13]
 | 9 => [4]
 | _ => []
theorem ZdY (args : Array Value) (w : World) : (callFunc 66 args).run Tryz.prog w = .ok (.enter 66 args) w := Zab Tryz.func66 (by decide) rfl args w
set_option maxHeartbeats 1000000 in
theorem ZmH (xs ys : List Int) (hy : HY (Asc ys)) (hl : NU (xs.length ≤ 600 ∧ ys.length ≤ 600)) : Con Tryz.prog 66 [.ints xs, .ints ys] (.ints (Zdj xs ys)) := by
 have hy := hy.e
 have hl := hl.e
 refine Con.fit ZdY fun hfit => ?_
 have hb_xs : xs.length ≤ 9223372036854775807 := GFits.ints (show GFits (.ints xs) from hfit 0 (ZL rfl))
 have hb_ys : ys.length ≤ 9223372036854775807 := GFits.ints (show GFits (.ints ys) from hfit 1 (ZL rfl))
 clear hfit
 refine gCon Zju Zac (rs := [.tmp 4]) (sl := [(0, .g (.ints xs)), (1, .g (.ints ys))]) Tryz.func66 rfl Tryz.ntmps66 rfl ZdY rfl (by repeat constructor) ?_
 (repeat' (first | ((with_reducible apply gLI.cone); (. exact RF.mk ⟨rfl, rfl⟩)) | (with_reducible constructor) | exact Z2 | exact ZN | exact ZS | exact ZC | ((with_reducible apply ZaP); first | (exact Zok ys _ (HY.mk hy) (NU.mk (by omega)))) | (with_reducible intro hc; (try simp only [HCs] at hc)) | exact OB_f | (with_reducible first | apply gNK | apply Zao | apply Zaf | apply Zal | apply Zai | apply ZaQ | apply Zam | apply Zap | apply Zau | apply Zak | apply Zas | apply Zav | apply Zat) | apply Zah Zac | (apply ZaD; exact RF.mk rfl) | (refine Zaq (id := 0) (ι := Nat) (fun i => ⟨[(1, .g (.ints ys)), (5, .own 0 0 (Zdj (xs.take i) ys).length), (11, .g (.ints xs)), (12, .g (.i xs.length)), (13, .g (.i i))], [(0, .arr 1 true ((Zdj (xs.take i) ys).map GV.i))]⟩) (fun i => (i ≤ xs.length)) (fun i => xs.length - i) (0) ?_ ?_ ?_; (. (apply gLX1 <;> (repeat' (first | (with_reducible constructor) | exact Z5 | exact RF.mk (by decide) | (with_reducible apply Zae) | exact ZE)); (all_goals exact QMA1))); (. (omega)); (rintro i h1; have z1 := Zi6 (xs := xs.take i) (ys := ys); have z2 : (xs.take i).length ≤ i := (by rw [List.length_take]; omega); (show TX _ _ _ _ _ [(1, .g (.ints ys)), (5, .own 0 0 (Zdj (xs.take i) ys).length), (11, .g (.ints xs)), (12, .g (.i xs.length)), (13, .g (.i i))] [(0, .arr 1 true ((Zdj (xs.take i) ys).map GV.i))] _))) | apply gSel.ccons))
 (all_goals (first | (refine ZaR (i + 1) ?_ ?_ ?_; (· (apply gLX1 <;> (repeat' (first | (with_reducible constructor) | exact Z5 | exact RF.mk (by decide) | (with_reducible apply Zae) | exact ZE)); (all_goals exact QMA1))); (· (omega)); (· exact ZW)) | (((refine ZbV (Zax (EQ.mk ?_)); first | rw [List.take_of_length_le (by omega)] | (rw [List.take_of_length_le (Nat.le_refl _), List.take_of_length_le (by omega)]))); done)))
def Zk3 : Nat → List Nat
 | 0 => [0, 1]
 | 1 => [4]
 | _ => []
theorem Zem (args : Array Value) (w : World) : (callFunc 47 args).run Tryz.prog w = .ok (.enter 47 args) w := Zab Tryz.func47 (by decide) rfl args w
set_option maxHeartbeats 1000000 in
theorem ZoV (xs ys : List Int) (hy : HY (Asc ys)) (hl : NU (xs.length ≤ 600 ∧ ys.length ≤ 600)) : Con Tryz.prog 47 [.ints xs, .ints ys] (.bool (ZcJ xs ys)) := by
 have hy := hy.e
 have hl := hl.e
 refine Con.fit Zem fun hfit => ?_
 have hb_xs : xs.length ≤ 9223372036854775807 := GFits.ints (show GFits (.ints xs) from hfit 0 (ZL rfl))
 have hb_ys : ys.length ≤ 9223372036854775807 := GFits.ints (show GFits (.ints ys) from hfit 1 (ZL rfl))
 clear hfit
 have z1 := Zi6 (xs := xs) (ys := ys)
 refine gCon Zk3 Zac (rs := [.tmp 4]) (sl := [(0, .g (.ints xs)), (1, .g (.ints ys))]) Tryz.func47 rfl Tryz.ntmps47 rfl Zem rfl (by repeat constructor) ?_
 (repeat' (first | (with_reducible constructor) | exact Z2 | exact ZN | exact ZS | ((with_reducible apply ZaP); first | apply ZmH) | exact OB_f | (with_reducible first | apply gNK | apply Zao | apply Zaf | apply Zap | apply Zat) | apply Zah Zac | apply gSel.ccons))
 (all_goals (first | (((refine Zar ?_; exact ZrT)); done)))
def ZgN : Nat → List Nat
 | 0 => [0, 1]
 | 1 => [0, 1, 5]
 | 2 => [0, 1, 5, 6]
 | 3 => [0, 1, 5, 6, 11]
 | 4 => [0, 1, 5, 6]
 | 5 => [0, 1, 5, 6, 30]
 | 6 => [0, 1, 5, 6]
 | 7 => [4]
 | _ => []
theorem ZcQ (args : Array Value) (w : World) : (callFunc 53 args).run Tryz.prog w = .ok (.enter 53 args) w := Zab Tryz.func53 (by decide) rfl args w
set_option maxHeartbeats 1000000 in
theorem Zjb (ps : List (List Int × List Int)) (met : List Int) (hp : NU (ps.length ≤ 4)) : Con Tryz.prog 53 [.pairs ps, .ints met] (.ints (brkZ ps met ps.length)) := by
 have hp := hp.e
 refine Con.fit ZcQ fun hfit => ?_
 have hb_ps : ps.length ≤ 9223372036854775807 := GFits.lenm (show GFits (.pairs ps) from hfit 0 (ZL rfl))
 have hr_ps : ∀ r ∈ ps, r.1.length ≤ 9223372036854775807 ∧ r.2.length ≤ 9223372036854775807 := fun r hr => ⟨GFits.ints (GFits.cell (GFits.elm (show GFits (.pairs ps) from hfit 0 (ZL rfl)) r hr) (.head _)), GFits.ints (GFits.cell (GFits.elm (show GFits (.pairs ps) from hfit 0 (ZL rfl)) r hr) (.tail _ (.head _)))⟩
 have hb_met : met.length ≤ 9223372036854775807 := GFits.ints (show GFits (.ints met) from hfit 1 (ZL rfl))
 clear hfit
 refine gCon ZgN Zac (rs := [.tmp 4]) (sl := [(0, .g (.pairs ps)), (1, .g (.ints met))]) Tryz.func53 rfl Tryz.ntmps53 rfl ZcQ rfl (by repeat constructor) ?_
 (repeat' (first | ((with_reducible apply gLI.cone); (. exact RF.mk ⟨rfl, rfl⟩)) | (with_reducible constructor) | exact Z2 | exact ZN | exact ZS | exact ZF | exact ZC | ((with_reducible apply ZaP); first | apply ZkL) | (with_reducible intro hc; (try simp only [HCs] at hc)) | exact OB_f | (with_reducible first | apply gNK | apply Zao | apply Zaf | apply Zal | apply Zai | apply CK_f | apply ZaQ | apply Zam | apply Zap | apply Zau | apply Zak | apply Zas | apply Zav | apply Zat) | apply Zah Zac | (apply ZaD; exact RF.mk rfl) | (refine Zaq (id := 0) (ι := Nat) (fun k => ⟨[(0, .g (.pairs ps)), (1, .g (.ints met)), (5, .own 0 0 (brkZ ps met k).length), (6, .g (.i k))], [(0, .arr 1 true ((brkZ ps met k).map GV.i))]⟩) (fun k => (k ≤ ps.length)) (fun k => ps.length - k) (0) ?_ ?_ ?_; (. (apply gLX1 <;> (repeat' (first | (with_reducible constructor) | exact Z5 | exact RF.mk (by decide) | (with_reducible apply Zae) | exact ZE)); (all_goals exact QMA0))); (. (omega)); (rintro k h1; have z1 := Zkb (ps := ps) (met := met) (k := k); (show TX _ _ _ _ _ [(0, .g (.pairs ps)), (1, .g (.ints met)), (5, .own 0 0 (brkZ ps met k).length), (6, .g (.i k))] [(0, .arr 1 true ((brkZ ps met k).map GV.i))] _))) | apply gSel.ccons))
 (all_goals (first | (refine ZaR (k + 1) ?_ ?_ ?_; (· (apply gLX1 <;> (repeat' (first | (with_reducible constructor) | exact Z5 | exact RF.mk (by decide) | (with_reducible apply Zae) | exact ZE)); (all_goals exact QMA0))); (· (omega)); (· exact ZW)) | (((refine ZbV (Zax (EQ.mk ?_)); first | rw [show k = ps.length by omega] | (rw [List.take_of_length_le (Nat.le_refl _), show k = ps.length by omega]))); done)))
def ZhK : Nat → List Nat
 | 0 => [0, 1]
 | 1 => [0, 1, 5]
 | 2 => [1, 5, 9, 10, 11]
 | 3 => [1, 5, 9, 10, 11, 12]
 | 4 => [1, 5, 6, 7, 9, 10, 11]
 | 5 => [1, 5, 6, 9, 10, 11, 26]
 | 6 => [1, 5, 9, 10, 11]
 | 7 => [1, 5, 9, 10, 11]
 | 8 => [4]
 | _ => []
theorem Zc2 (args : Array Value) (w : World) : (callFunc 28 args).run Tryz.prog w = .ok (.enter 28 args) w := Zab Tryz.func28 (by decide) rfl args w
set_option maxHeartbeats 1000000 in
theorem ZkE (ps : List (List Int × List Int)) (met : List Int) (hp : NU (ps.length ≤ 4)) (ha : HY (∀ k, k < ps.length → (Asc (nth ps k).1 ∧ (nth ps k).1.length ≤ 600) ∧ Asc (nth ps k).2 ∧ (nth ps k).2.length ≤ 600)) (hm : NU (met.length ≤ 600)) : Con Tryz.prog 28 [.pairs ps, .ints met] (.ints (brkZ ps met ps.length)) := by
 have hp := hp.e
 have ha := ha.e
 have hm := hm.e
 refine Con.fit Zc2 fun hfit => ?_
 have hb_ps : ps.length ≤ 9223372036854775807 := GFits.lenm (show GFits (.pairs ps) from hfit 0 (ZL rfl))
 have hr_ps : ∀ r ∈ ps, r.1.length ≤ 9223372036854775807 ∧ r.2.length ≤ 9223372036854775807 := fun r hr => ⟨GFits.ints (GFits.cell (GFits.elm (show GFits (.pairs ps) from hfit 0 (ZL rfl)) r hr) (.head _)), GFits.ints (GFits.cell (GFits.elm (show GFits (.pairs ps) from hfit 0 (ZL rfl)) r hr) (.tail _ (.head _)))⟩
 have hb_met : met.length ≤ 9223372036854775807 := GFits.ints (show GFits (.ints met) from hfit 1 (ZL rfl))
 clear hfit
 refine gCon ZhK Zac (rs := [.tmp 4]) (sl := [(0, .g (.pairs ps)), (1, .g (.ints met))]) Tryz.func28 rfl Tryz.ntmps28 rfl Zc2 rfl (by repeat constructor) ?_
 (repeat' (first | ((with_reducible apply gLB.cone); (. exact RF.mk ⟨rfl, rfl⟩)) | ((with_reducible apply gLI.cagg); (. exact RF.mk ⟨rfl, rfl, rfl⟩)) | (with_reducible constructor) | exact Z3 | exact NU.mk QMA2 | exact ZS | exact ZF | exact ZC | ((with_reducible apply ZaP); first | apply ZoV) | (with_reducible intro hc; (try simp only [HCs] at hc)) | exact OB_f | (with_reducible first | apply gNK | apply Zao | apply Zaf | apply Zal | apply Zai | apply CK_f | apply ZaQ | apply Zam | apply Zap | apply Zau | apply Zak | apply Zas | apply Zav | apply Zat) | apply Zah Zac | (apply ZaD; exact RF.mk rfl) | exact HY.mk (ha k (by omega)).1.1 | exact HY.mk (ha k (by omega)).2.1 | (refine Zaq (id := 0) (ι := Nat) (fun k => ⟨[(1, .g (.ints met)), (5, .own 0 0 (brkZ ps met k).length), (9, .g (.pairs ps)), (10, .g (.i ps.length)), (11, .g (.i k))], [(0, .arr 1 true ((brkZ ps met k).map GV.i))]⟩) (fun k => (k ≤ ps.length)) (fun k => ps.length - k) (0) ?_ ?_ ?_; (. (apply gLX1 <;> (repeat' (first | (with_reducible constructor) | exact Z5 | exact RF.mk (by decide) | (with_reducible apply Zae) | exact EQ.mk QMA2)); (all_goals exact QMA0))); (. (omega)); (rintro k h1; have z1 := Zkb (ps := ps) (met := met) (k := k); (show TX _ _ _ _ _ [(1, .g (.ints met)), (5, .own 0 0 (brkZ ps met k).length), (9, .g (.pairs ps)), (10, .g (.i ps.length)), (11, .g (.i k))] [(0, .arr 1 true ((brkZ ps met k).map GV.i))] _))) | apply gSel.ccons))
 (all_goals (first | (refine ZaR (k + 1) ?_ ?_ ?_; (· (apply gLX1 <;> (repeat' (first | (with_reducible constructor) | exact Z5 | exact RF.mk (by decide) | (with_reducible apply Zae) | exact EQ.mk QMA2)); (all_goals exact QMA0))); (· (omega)); (· exact ZW)) | (((refine ZbV (Zax (EQ.mk ?_)); first | rw [show k = ps.length by omega] | (rw [List.take_of_length_le (Nat.le_refl _), show k = ps.length by omega]))); done)))
def ZiF : Nat → List Nat
 | 0 => [0, 1]
 | 1 => [4]
 | _ => []
theorem ZdA (args : Array Value) (w : World) : (callFunc 31 args).run Tryz.prog w = .ok (.enter 31 args) w := Zab Tryz.func31 (by decide) rfl args w
set_option maxHeartbeats 1000000 in
theorem ZlJ (ps : List (List Int × List Int)) (met : List Int) (hp : HY (Zei ps 256 = true ∧ ps.length ≤ 4)) (hm : HY (setN met 256 = true)) : Con Tryz.prog 31 [.pairs ps, .ints met] (.bool (decide (brkZ ps met ps.length = []))) := by
 have hp := hp.e
 have hm := hm.e
 refine Con.fit ZdA fun hfit => ?_
 have hb_ps : ps.length ≤ 9223372036854775807 := GFits.lenm (show GFits (.pairs ps) from hfit 0 (ZL rfl))
 have hr_ps : ∀ r ∈ ps, r.1.length ≤ 9223372036854775807 ∧ r.2.length ≤ 9223372036854775807 := fun r hr => ⟨GFits.ints (GFits.cell (GFits.elm (show GFits (.pairs ps) from hfit 0 (ZL rfl)) r hr) (.head _)), GFits.ints (GFits.cell (GFits.elm (show GFits (.pairs ps) from hfit 0 (ZL rfl)) r hr) (.tail _ (.head _)))⟩
 have hb_met : met.length ≤ 9223372036854775807 := GFits.ints (show GFits (.ints met) from hfit 1 (ZL rfl))
 clear hfit
 refine gCon ZiF Zac (rs := [.tmp 4]) (sl := [(0, .g (.pairs ps)), (1, .g (.ints met))]) Tryz.func31 rfl Tryz.ntmps31 rfl ZdA rfl (by repeat constructor) ?_
 (repeat' (first | (with_reducible constructor) | exact Z2 | exact ZN | exact ZS | ((with_reducible apply ZaP); first | apply Zhj | apply Zg1 | apply Zjb) | (with_reducible intro hc; (try simp only [HCs] at hc)) | exact OB_f | (with_reducible first | apply gNK | apply Zao | apply Zaf | apply Zap | apply Zat) | apply Zah Zac | apply gSel.ccons))
 (all_goals (first | (((obtain ⟨hp1, hp2⟩ := hp; first | exact Zar Zqh | (refine Zar ?_; simp_all; done))); done)))
def Ziy : Nat → List Nat
 | 0 => [3, 4, 5]
 | 1 => [6]
 | _ => []
theorem Zdq (args : Array Value) (w : World) : (callFunc 13 args).run Tryz.prog w = .ok (.enter 13 args) w := Zab Tryz.func13 (by decide) rfl args w
set_option maxHeartbeats 1000000 in
theorem ZlN (i o : Int) (n : List (List Int)) (ps : List (List Int × List Int)) (s l : List Int) : Con Tryz.prog 13 [.sig i o, .det n ps, .word s l] (.bool (ZdU i o n ps s l)) := by
 refine Con.fit Zdq fun hfit => ?_
 have hb_n : n.length ≤ 9223372036854775807 := GFits.lenm (GFits.cell (show GFits (.det n ps) from hfit 1 (ZL rfl)) (.head _))
 have hr_n : ∀ r ∈ n, r.length ≤ 9223372036854775807 := fun r hr => GFits.ints (GFits.elm (GFits.cell (show GFits (.det n ps) from hfit 1 (ZL rfl)) (.head _)) r hr)
 have hb_ps : ps.length ≤ 9223372036854775807 := GFits.lenm (GFits.cell (show GFits (.det n ps) from hfit 1 (ZL rfl)) (.tail _ (.head _)))
 have hr_ps : ∀ r ∈ ps, r.1.length ≤ 9223372036854775807 ∧ r.2.length ≤ 9223372036854775807 := fun r hr => ⟨GFits.ints (GFits.cell (GFits.elm (GFits.cell (show GFits (.det n ps) from hfit 1 (ZL rfl)) (.tail _ (.head _))) r hr) (.head _)), GFits.ints (GFits.cell (GFits.elm (GFits.cell (show GFits (.det n ps) from hfit 1 (ZL rfl)) (.tail _ (.head _))) r hr) (.tail _ (.head _)))⟩
 have hb_s : s.length ≤ 9223372036854775807 := GFits.ints (GFits.cell (show GFits (.word s l) from hfit 2 (ZL rfl)) (.head _))
 have hb_l : l.length ≤ 9223372036854775807 := GFits.ints (GFits.cell (show GFits (.word s l) from hfit 2 (ZL rfl)) (.tail _ (.head _)))
 clear hfit
 have hw : ZaN s l (Zaa i o) = true → 1 ≤ l.length ∧ l.length ≤ 600 ∧ s.length ≤ 600 := Zmt; have hd : detB i o n ps = true → 1 ≤ n.length ∧ n.length ≤ 48 := fun h => ⟨(Zdy h).2.1, (Zdy h).2.2.1⟩; have hlp : sigB i o = true → pw (i + o) = Zaa i o := fun h => (Zcz h).symm
 refine gCon Ziy Zac (rs := [.tmp 6]) (sl := [(0, .g (.sig i o)), (1, .g (.det n ps)), (2, .g (.word s l))]) Tryz.func13 rfl Tryz.ntmps13 rfl Zdq rfl (by repeat constructor) ?_
 (repeat' (first | ((with_reducible apply gLB.cagg); (. exact RF.mk ⟨rfl, rfl, rfl⟩)) | ((with_reducible apply gLB.cone); (. exact RF.mk ⟨rfl, rfl⟩)) | (with_reducible constructor) | exact Z2 | exact ZF | exact ZC | ((with_reducible apply ZaP); first | (exact ZlJ ps _ (HY.mk ⟨Zns (show detB i o n ps = true by assumption), ZeB (show detB i o n ps = true by assumption)⟩) (HY.mk (ZkJ Zr2 ZtP).1)) | apply ZgA | apply Zip | apply ZoF) | (with_reducible intro hc; (try simp only [HCs] at hc)) | exact OB_f | exact ZK | (with_reducible first | apply gNK | apply Zao | apply Zaf | apply Zap | apply Zat) | apply Zah Zac | apply ZaK Zac rfl | apply gSel.ccons))
 (all_goals (first | ((first | (exact Zar (Zpg (by assumption) (show ZaN s l (Zaa i o) = true by first | assumption | exact (show sigB i o = true ∧ ZaN s l (Zaa i o) = true by assumption).2 | (rw [← hlp (by assumption)]; assumption)))) | first | (exact Zar (ZfK (by assumption))) | (exact Zar (ZcH (by assumption))) | (exact Zar (ZcH (by rw [← hlp (by assumption)]; assumption))) | (exact Zar (Zg2 (by assumption))) | (rcases hc with hc | hc <;> first | (exact Zar (ZfK (by assumption))) | (exact Zar (ZcH (by assumption))) | (exact Zar (ZcH (by rw [← hlp (by assumption)]; assumption))) | (exact Zar (Zg2 (by assumption)))) | (rcases hc with hc | hc | hc <;> first | (exact Zar (ZfK (by assumption))) | (exact Zar (ZcH (by assumption))) | (exact Zar (ZcH (by rw [← hlp (by assumption)]; assumption))) | (exact Zar (Zg2 (by assumption))))); done)))
def Zh5 : Nat → List Nat
 | 0 => [3, 4, 5]
 | 1 => [6]
 | _ => []
theorem Zdl (args : Array Value) (w : World) : (callFunc 12 args).run Tryz.prog w = .ok (.enter 12 args) w := Zab Tryz.func12 (by decide) rfl args w
set_option maxHeartbeats 1000000 in
theorem Zlk (i o : Int) (n : List (List Int)) (ps : List (List Int × List Int)) (s l : List Int) : Con Tryz.prog 12 [.sig i o, .det n ps, .word s l] (.bool (ZdU i o n ps s l)) := by
 refine Con.fit Zdl fun hfit => ?_
 have hb_n : n.length ≤ 9223372036854775807 := GFits.lenm (GFits.cell (show GFits (.det n ps) from hfit 1 (ZL rfl)) (.head _))
 have hr_n : ∀ r ∈ n, r.length ≤ 9223372036854775807 := fun r hr => GFits.ints (GFits.elm (GFits.cell (show GFits (.det n ps) from hfit 1 (ZL rfl)) (.head _)) r hr)
 have hb_ps : ps.length ≤ 9223372036854775807 := GFits.lenm (GFits.cell (show GFits (.det n ps) from hfit 1 (ZL rfl)) (.tail _ (.head _)))
 have hr_ps : ∀ r ∈ ps, r.1.length ≤ 9223372036854775807 ∧ r.2.length ≤ 9223372036854775807 := fun r hr => ⟨GFits.ints (GFits.cell (GFits.elm (GFits.cell (show GFits (.det n ps) from hfit 1 (ZL rfl)) (.tail _ (.head _))) r hr) (.head _)), GFits.ints (GFits.cell (GFits.elm (GFits.cell (show GFits (.det n ps) from hfit 1 (ZL rfl)) (.tail _ (.head _))) r hr) (.tail _ (.head _)))⟩
 have hb_s : s.length ≤ 9223372036854775807 := GFits.ints (GFits.cell (show GFits (.word s l) from hfit 2 (ZL rfl)) (.head _))
 have hb_l : l.length ≤ 9223372036854775807 := GFits.ints (GFits.cell (show GFits (.word s l) from hfit 2 (ZL rfl)) (.tail _ (.head _)))
 clear hfit
 have hw : ZaN s l (Zaa i o) = true → 1 ≤ l.length ∧ l.length ≤ 600 ∧ s.length ≤ 600 := Zmt; have hd : detB i o n ps = true → 1 ≤ n.length ∧ n.length ≤ 48 := fun h => ⟨(Zdy h).2.1, (Zdy h).2.2.1⟩; have hlp : sigB i o = true → pw (i + o) = Zaa i o := fun h => (Zcz h).symm
 refine gCon Zh5 Zac (rs := [.tmp 6]) (sl := [(0, .g (.sig i o)), (1, .g (.det n ps)), (2, .g (.word s l))]) Tryz.func12 rfl Tryz.ntmps12 rfl Zdl rfl (by repeat constructor) ?_
 (repeat' (first | ((with_reducible apply gLB.cagg); (. exact RF.mk ⟨rfl, rfl, rfl⟩)) | ((with_reducible apply gLB.cone); (. exact RF.mk ⟨rfl, rfl⟩)) | (with_reducible constructor) | exact Z2 | exact NU.mk (by first | exact ZO | (first | omega | (have q := Zj2 (by assumption); omega) | (have q := Zaw i o; omega))) | exact ZS | exact ZF | exact ZC | ((with_reducible apply ZaP); first | (exact Zoj n s l (Zaa i o) (HY.mk (Zcc (show detB i o n ps = true by assumption))) (HY.mk (Zbq (show ZaN s l (Zaa i o) = true by first | assumption | exact (show sigB i o = true ∧ ZaN s l (Zaa i o) = true by assumption).2 | (rw [← hlp (by assumption)]; assumption))).1) (HY.mk (Zbq (show ZaN s l (Zaa i o) = true by first | assumption | exact (show sigB i o = true ∧ ZaN s l (Zaa i o) = true by assumption).2 | (rw [← hlp (by assumption)]; assumption))).2) (NU.mk (hd (show detB i o n ps = true by assumption))) (NU.mk (hw (show ZaN s l (Zaa i o) = true by first | assumption | exact (show sigB i o = true ∧ ZaN s l (Zaa i o) = true by assumption).2 | (rw [← hlp (by assumption)]; assumption))))) | (exact ZkE ps _ (NU.mk (ZeB (show detB i o n ps = true by assumption))) (HY.mk (ZpE (show detB i o n ps = true by assumption))) (NU.mk (ZoA (show detB i o n ps = true by assumption) (show ZaN s l (Zaa i o) = true by first | assumption | exact (show sigB i o = true ∧ ZaN s l (Zaa i o) = true by assumption).2 | (rw [← hlp (by assumption)]; assumption))))) | apply ZgV | apply ZgF | apply ZmK | apply Zfv) | (with_reducible intro hc; (try simp only [HCs] at hc)) | exact OB_f | exact ZK | (with_reducible first | apply gNK | apply Zao | apply Zaf | apply Zap | apply Zat) | apply Zah Zac | apply ZaK Zac rfl | apply gSel.ccons))
 (all_goals (first | ((first | (exact Zar (ZtU (by assumption) (show ZaN s l (Zaa i o) = true by first | assumption | exact (show sigB i o = true ∧ ZaN s l (Zaa i o) = true by assumption).2 | (rw [← hlp (by assumption)]; assumption)))) | first | (exact Zar (ZfK (by assumption))) | (exact Zar (ZcH (by assumption))) | (exact Zar (ZcH (by rw [← hlp (by assumption)]; assumption))) | (exact Zar (Zg2 (by assumption))) | (rcases hc with hc | hc <;> first | (exact Zar (ZfK (by assumption))) | (exact Zar (ZcH (by assumption))) | (exact Zar (ZcH (by rw [← hlp (by assumption)]; assumption))) | (exact Zar (Zg2 (by assumption)))) | (rcases hc with hc | hc | hc <;> first | (exact Zar (ZfK (by assumption))) | (exact Zar (ZcH (by assumption))) | (exact Zar (ZcH (by rw [← hlp (by assumption)]; assumption))) | (exact Zar (Zg2 (by assumption))))); done)))
end Go.Proofs.YtnieejghoaccmaaGreat

