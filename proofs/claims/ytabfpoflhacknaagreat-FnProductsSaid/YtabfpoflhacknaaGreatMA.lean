/- Contracts: sets that meet, pairs that are broken, what an automaton accepts. No conditions but those that each theorem names. -/
import Derived.Test.YtabfpoflhacknaaGreatTab
import Derived.Test.YtabfpoflhacknaaGreatKG
import Derived.Test.YtabfpoflhacknaaGreatM9
import Derived.Test.YtabfpoflhacknaaGreatBS
import Derived.Test.YtabfpoflhacknaaGreatPB
import Derived.Test.YtabfpoflhacknaaGreatChecked
set_option linter.unusedSimpArgs false
set_option linter.unusedVariables false
namespace Go.Proofs.YtabfpoflhacknaaGreat
open Go.RowKit
open Shp
theorem QMA2 {p : Prop} (h : p := by first | exact ZO | (first | omega | (have q := ha k (by omega); omega))) : p := h
theorem QMA1 {p : Prop} (h : p := by ((first | exact EQ.mk rfl | exact EQ.mk (by first | (simp [Zds]; done) | fail) | (refine EQ.mk ?_; first | (rw [ZiD (by omega) (by assumption)]; done) | (rw [ZiD (by omega) (by assumption)]; simp; done) | (rw [ZoR (by omega) (by assumption)]; done)) | (refine Zau (EQ.mk ?_); first | exact (ZiD (by omega) (by assumption)).symm | exact (ZoR (by omega) (by assumption)).symm)); done)) : p := h
theorem QMA0 {p : Prop} (h : p := by ((first | exact EQ.mk rfl | exact EQ.mk (by first | (simp [brkZ]; done) | fail) | (refine EQ.mk ?_; first | (rw [ZkX (by assumption) (by assumption)]; done) | (rw [ZkX (by assumption) (by assumption)]; simp; done) | (rw [Zoa (by assumption)]; done) | (rw [Zog (by assumption)]; done)) | (refine Zau (EQ.mk ?_); first | exact (ZkX (by assumption) (by assumption)).symm | exact (Zoa (by assumption)).symm | exact (Zog (by assumption)).symm)); done)) : p := h
def Zj2 : Nat → List Nat
 | 0 => [0, 1]
 | 1 => [0, 1, 5]
 | 2 => [0, 1, 5, 9]
 | 3 => [0, 1, 5]
 | 4 => [0, 1, 5, 17]
 | 5 => [4]
 | 6 => [4]
 | _ => []
theorem Zd0 (args : Array Value) (w : World) : (callFunc 129 args).run Tryz.prog w = .ok (.enter 129 args) w := Zab Tryz.func129 (by decide) rfl args w
set_option maxHeartbeats 1000000 in
theorem ZnK (xs : List Int) (n : Int) : Con Tryz.prog 129 [.ints xs, .i n] (.bool (has xs n)) := by
 refine Con.fit Zd0 fun hfit => ?_
 have hb_xs : xs.length ≤ 9223372036854775807 := GFits.ints (show GFits (.ints xs) from hfit 0 (ZL rfl))
 clear hfit
 refine gCon Zj2 Zad (rs := [.tmp 4]) (sl := [(0, .g (.ints xs)), (1, .g (.i n))]) Tryz.func129 rfl Tryz.ntmps129 rfl Zd0 rfl (by repeat constructor) ?_
 (repeat' (first | ((with_reducible apply gLI.cone); (. exact RF.mk ⟨rfl, rfl⟩)) | (with_reducible constructor) | exact Z2 | exact ZN | exact ZS | (with_reducible intro hc; (try simp only [HCs] at hc)) | exact OB_f | (with_reducible first | apply gNK | apply Zam | apply Zaf | apply Zaq | apply ZaC | apply Zai | apply ZaR | apply Zar | apply Zas | apply Zay | apply Zap | apply Zaw | apply Za3 | apply Zax | apply Za9 | apply Zav) | apply Zah Zad | (apply ZaF; exact RF.mk rfl) | (refine Zak (id := 0) (ι := Nat) (fun i => ⟨[(0, .g (.ints xs)), (1, .g (.i n)), (5, .g (.i i))], []⟩) (fun i => (i ≤ xs.length) ∧ (∀ z, z < i → (fun i => !(nth xs i == n)) z = true)) (fun i => xs.length - i) (0) ?_ ?_ ?_; (. (apply gLX0 <;> (repeat' (first | (with_reducible constructor) | exact Z5 | exact RF.mk (by decide) | (with_reducible apply Zae) | exact ZE)))); (. (exact ⟨by omega, Zba⟩)); (rintro i ⟨h1, h2⟩; (show TX _ _ _ _ _ [(0, .g (.ints xs)), (1, .g (.i n)), (5, .g (.i i))] [] _))) | apply gSel.ccons))
 (all_goals (first | (refine ZaJ (i + 1) ?_ ?_ ?_; (· (apply gLX0 <;> (repeat' (first | (with_reducible constructor) | exact Z5 | exact RF.mk (by decide) | (with_reducible apply Zae) | exact ZE)))); (· ((refine ⟨by omega, Zbc h2 ?_⟩; ((try simp only [BOa] at *); (first | omega | assumption | grind))))); (· exact ZW)) | (((first | (refine Zao ?_; (try unfold has); first | rfl | exact Eq.symm (ZaS fun j hj => h2 j (by omega)) | (refine Eq.symm (ZaM i (by omega) ?_); ((try simp only [BOa] at *); (first | omega | assumption | grind))) | exact Eq.symm (Zcb fun j hj => h2 j (by omega)) | (refine Eq.symm (ZcD i (by omega) ?_); ((try simp only [BOa] at *); (first | omega | assumption | grind))) | ((try simp only [BOa] at *); (first | omega | assumption | grind))))); done)))
def Zil : Nat → List Nat
 | 0 => [0, 1]
 | 1 => [0, 1, 5]
 | 2 => [0, 1, 5, 9]
 | 3 => [0, 1, 5]
 | 4 => [0, 1, 5, 17]
 | 5 => [4]
 | 6 => [4]
 | _ => []
theorem Zc9 (args : Array Value) (w : World) : (callFunc 97 args).run Tryz.prog w = .ok (.enter 97 args) w := Zab Tryz.func97 (by decide) rfl args w
set_option maxHeartbeats 1000000 in
theorem ZlN (xs ys : List Int) : Con Tryz.prog 97 [.ints xs, .ints ys] (.bool (ZcG ys xs)) := by
 refine Con.fit Zc9 fun hfit => ?_
 have hb_xs : xs.length ≤ 9223372036854775807 := GFits.ints (show GFits (.ints xs) from hfit 0 (ZL rfl))
 have hb_ys : ys.length ≤ 9223372036854775807 := GFits.ints (show GFits (.ints ys) from hfit 1 (ZL rfl))
 clear hfit
 refine gCon Zil Zad (rs := [.tmp 4]) (sl := [(0, .g (.ints xs)), (1, .g (.ints ys))]) Tryz.func97 rfl Tryz.ntmps97 rfl Zc9 rfl (by repeat constructor) ?_
 (repeat' (first | ((with_reducible apply gLI.cone); (. exact RF.mk ⟨rfl, rfl⟩)) | (with_reducible constructor) | exact Z2 | exact ZN | exact ZS | ((with_reducible apply ZaA); first | apply ZnK) | (with_reducible intro hc; (try simp only [HCs] at hc)) | exact OB_f | (with_reducible first | apply gNK | apply Zam | apply Zaf | apply Zaq | apply ZaC | apply Zai | apply ZaR | apply Zar | apply Zas | apply Zay | apply Zap | apply Zaw | apply Za3 | apply Zax | apply Za9 | apply Zav) | apply Zah Zad | (apply ZaF; exact RF.mk rfl) | (refine Zak (id := 0) (ι := Nat) (fun i => ⟨[(0, .g (.ints xs)), (1, .g (.ints ys)), (5, .g (.i i))], []⟩) (fun i => (i ≤ xs.length) ∧ (∀ z, z < i → (fun i => !has ys (nth xs i)) z = true)) (fun i => xs.length - i) (0) ?_ ?_ ?_; (. (apply gLX0 <;> (repeat' (first | (with_reducible constructor) | exact Z5 | exact RF.mk (by decide) | (with_reducible apply Zae) | exact ZE)))); (. (exact ⟨by omega, Zba⟩)); (rintro i ⟨h1, h2⟩; (show TX _ _ _ _ _ [(0, .g (.ints xs)), (1, .g (.ints ys)), (5, .g (.i i))] [] _))) | apply gSel.ccons))
 (all_goals (first | (refine ZaJ (i + 1) ?_ ?_ ?_; (· (apply gLX0 <;> (repeat' (first | (with_reducible constructor) | exact Z5 | exact RF.mk (by decide) | (with_reducible apply Zae) | exact ZE)))); (· ((refine ⟨by omega, Zbc h2 ?_⟩; ((try simp only [BOa] at *); (first | omega | assumption | grind))))); (· exact ZW)) | (((refine Zao ?_; first | exact (Zts (i := i) (by omega) (by assumption)).symm | exact (Zve (i := i) (by omega) h2).symm)); done)))
def ZjK : Nat → List Nat
 | 0 => [0, 1]
 | 1 => [0, 1, 5]
 | 2 => [1, 5, 11, 12, 13]
 | 3 => [1, 5, 11, 12, 13, 14]
 | 4 => [1, 5, 7, 11, 12, 13]
 | 5 => [1, 5, 7, 9, 11, 12, 13]
 | 6 => [1, 5, 7, 11, 12, 13, 24]
 | 7 => [1, 5, 11, 12, 13]
 | 8 => [1, 5, 11, 12, 13]
 | 9 => [4]
 | _ => []
theorem Zeh (args : Array Value) (w : World) : (callFunc 93 args).run Tryz.prog w = .ok (.enter 93 args) w := Zab Tryz.func93 (by decide) rfl args w
set_option maxHeartbeats 1000000 in
theorem ZnA (xs ys : List Int) (hy : HY (Asc ys)) (hl : NU (xs.length ≤ 600 ∧ ys.length ≤ 600)) : Con Tryz.prog 93 [.ints xs, .ints ys] (.ints (Zds xs ys)) := by
 have hy := hy.e
 have hl := hl.e
 refine Con.fit Zeh fun hfit => ?_
 have hb_xs : xs.length ≤ 9223372036854775807 := GFits.ints (show GFits (.ints xs) from hfit 0 (ZL rfl))
 have hb_ys : ys.length ≤ 9223372036854775807 := GFits.ints (show GFits (.ints ys) from hfit 1 (ZL rfl))
 clear hfit
 refine gCon ZjK Zad (rs := [.tmp 4]) (sl := [(0, .g (.ints xs)), (1, .g (.ints ys))]) Tryz.func93 rfl Tryz.ntmps93 rfl Zeh rfl (by repeat constructor) ?_
 (repeat' (first | ((with_reducible apply gLI.cone); (. exact RF.mk ⟨rfl, rfl⟩)) | (with_reducible constructor) | exact Z2 | exact ZN | exact ZS | exact ZC | ((with_reducible apply ZaA); first | (exact Zpy ys _ (HY.mk hy) (NU.mk (by omega)))) | (with_reducible intro hc; (try simp only [HCs] at hc)) | exact OB_f | (with_reducible first | apply gNK | apply Zam | apply Zaf | apply Zaq | apply Zai | apply ZaR | apply Zar | apply Zas | apply Zay | apply Zap | apply Zaw | apply Zax | apply Zav) | apply Zah Zad | (apply ZaF; exact RF.mk rfl) | (refine Zak (id := 0) (ι := Nat) (fun i => ⟨[(1, .g (.ints ys)), (5, .own 0 0 (Zds (xs.take i) ys).length), (11, .g (.ints xs)), (12, .g (.i xs.length)), (13, .g (.i i))], [(0, .arr 1 true ((Zds (xs.take i) ys).map GV.i))]⟩) (fun i => (i ≤ xs.length)) (fun i => xs.length - i) (0) ?_ ?_ ?_; (. (apply gLX1 <;> (repeat' (first | (with_reducible constructor) | exact Z5 | exact RF.mk (by decide) | (with_reducible apply Zae) | exact ZE)); (all_goals exact QMA1))); (. (omega)); (rintro i h1; have z1 := ZiM (xs := xs.take i) (ys := ys); have z2 : (xs.take i).length ≤ i := (by rw [List.length_take]; omega); (show TX _ _ _ _ _ [(1, .g (.ints ys)), (5, .own 0 0 (Zds (xs.take i) ys).length), (11, .g (.ints xs)), (12, .g (.i xs.length)), (13, .g (.i i))] [(0, .arr 1 true ((Zds (xs.take i) ys).map GV.i))] _))) | apply gSel.ccons))
 (all_goals (first | (refine ZaJ (i + 1) ?_ ?_ ?_; (· (apply gLX1 <;> (repeat' (first | (with_reducible constructor) | exact Z5 | exact RF.mk (by decide) | (with_reducible apply Zae) | exact ZE)); (all_goals exact QMA1))); (· (omega)); (· exact ZW)) | (((refine Zby (Zau (EQ.mk ?_)); first | rw [List.take_of_length_le (by omega)] | (rw [List.take_of_length_le (Nat.le_refl _), List.take_of_length_le (by omega)]))); done)))
def Zlt : Nat → List Nat
 | 0 => [0, 1]
 | 1 => [4]
 | _ => []
theorem ZeC (args : Array Value) (w : World) : (callFunc 65 args).run Tryz.prog w = .ok (.enter 65 args) w := Zab Tryz.func65 (by decide) rfl args w
set_option maxHeartbeats 1000000 in
theorem Zpe (xs ys : List Int) (hy : HY (Asc ys)) (hl : NU (xs.length ≤ 600 ∧ ys.length ≤ 600)) : Con Tryz.prog 65 [.ints xs, .ints ys] (.bool (ZcG xs ys)) := by
 have hy := hy.e
 have hl := hl.e
 refine Con.fit ZeC fun hfit => ?_
 have hb_xs : xs.length ≤ 9223372036854775807 := GFits.ints (show GFits (.ints xs) from hfit 0 (ZL rfl))
 have hb_ys : ys.length ≤ 9223372036854775807 := GFits.ints (show GFits (.ints ys) from hfit 1 (ZL rfl))
 clear hfit
 have z1 := ZiM (xs := xs) (ys := ys)
 refine gCon Zlt Zad (rs := [.tmp 4]) (sl := [(0, .g (.ints xs)), (1, .g (.ints ys))]) Tryz.func65 rfl Tryz.ntmps65 rfl ZeC rfl (by repeat constructor) ?_
 (repeat' (first | (with_reducible constructor) | exact Z2 | exact ZN | exact ZS | ((with_reducible apply ZaA); first | apply ZnA) | exact OB_f | (with_reducible first | apply gNK | apply Zam | apply Zaf | apply Zas | apply Zav) | apply Zah Zad | apply gSel.ccons))
 (all_goals (first | (((refine Zao ?_; exact Ztx)); done)))
def Zhq : Nat → List Nat
 | 0 => [0, 1]
 | 1 => [0, 1, 5]
 | 2 => [0, 1, 5, 6]
 | 3 => [0, 1, 5, 6, 11]
 | 4 => [0, 1, 5, 6]
 | 5 => [0, 1, 5, 6, 30]
 | 6 => [0, 1, 5, 6]
 | 7 => [4]
 | _ => []
theorem ZcZ (args : Array Value) (w : World) : (callFunc 71 args).run Tryz.prog w = .ok (.enter 71 args) w := Zab Tryz.func71 (by decide) rfl args w
set_option maxHeartbeats 1000000 in
theorem ZjT (ps : List (List Int × List Int)) (met : List Int) (hp : NU (ps.length ≤ 4)) : Con Tryz.prog 71 [.pairs ps, .ints met] (.ints (brkZ ps met ps.length)) := by
 have hp := hp.e
 refine Con.fit ZcZ fun hfit => ?_
 have hb_ps : ps.length ≤ 9223372036854775807 := GFits.lenm (show GFits (.pairs ps) from hfit 0 (ZL rfl))
 have hr_ps : ∀ r ∈ ps, r.1.length ≤ 9223372036854775807 ∧ r.2.length ≤ 9223372036854775807 := fun r hr => ⟨GFits.ints (GFits.cell (GFits.elm (show GFits (.pairs ps) from hfit 0 (ZL rfl)) r hr) (.head _)), GFits.ints (GFits.cell (GFits.elm (show GFits (.pairs ps) from hfit 0 (ZL rfl)) r hr) (.tail _ (.head _)))⟩
 have hb_met : met.length ≤ 9223372036854775807 := GFits.ints (show GFits (.ints met) from hfit 1 (ZL rfl))
 clear hfit
 refine gCon Zhq Zad (rs := [.tmp 4]) (sl := [(0, .g (.pairs ps)), (1, .g (.ints met))]) Tryz.func71 rfl Tryz.ntmps71 rfl ZcZ rfl (by repeat constructor) ?_
 (repeat' (first | ((with_reducible apply gLI.cone); (. exact RF.mk ⟨rfl, rfl⟩)) | (with_reducible constructor) | exact Z2 | exact ZN | exact ZS | exact ZF | exact ZC | ((with_reducible apply ZaA); first | apply ZlN) | (with_reducible intro hc; (try simp only [HCs] at hc)) | exact OB_f | (with_reducible first | apply gNK | apply Zam | apply Zaf | apply Zaq | apply Zai | apply CK_f | apply ZaR | apply Zar | apply Zas | apply Zay | apply Zap | apply Zaw | apply Zax | apply Zav) | apply Zah Zad | (apply ZaF; exact RF.mk rfl) | (refine Zak (id := 0) (ι := Nat) (fun k => ⟨[(0, .g (.pairs ps)), (1, .g (.ints met)), (5, .own 0 0 (brkZ ps met k).length), (6, .g (.i k))], [(0, .arr 1 true ((brkZ ps met k).map GV.i))]⟩) (fun k => (k ≤ ps.length)) (fun k => ps.length - k) (0) ?_ ?_ ?_; (. (apply gLX1 <;> (repeat' (first | (with_reducible constructor) | exact Z5 | exact RF.mk (by decide) | (with_reducible apply Zae) | exact ZE)); (all_goals exact QMA0))); (. (omega)); (rintro k h1; have z1 := ZkU (ps := ps) (met := met) (k := k); (show TX _ _ _ _ _ [(0, .g (.pairs ps)), (1, .g (.ints met)), (5, .own 0 0 (brkZ ps met k).length), (6, .g (.i k))] [(0, .arr 1 true ((brkZ ps met k).map GV.i))] _))) | apply gSel.ccons))
 (all_goals (first | (refine ZaJ (k + 1) ?_ ?_ ?_; (· (apply gLX1 <;> (repeat' (first | (with_reducible constructor) | exact Z5 | exact RF.mk (by decide) | (with_reducible apply Zae) | exact ZE)); (all_goals exact QMA0))); (· (omega)); (· exact ZW)) | (((refine Zby (Zau (EQ.mk ?_)); first | rw [show k = ps.length by omega] | (rw [List.take_of_length_le (Nat.le_refl _), show k = ps.length by omega]))); done)))
def Zib : Nat → List Nat
 | 0 => [0, 1]
 | 1 => [0, 1, 5]
 | 2 => [1, 5, 9, 10, 11]
 | 3 => [1, 5, 9, 10, 11, 12]
 | 4 => [1, 5, 6, 7, 9, 10, 11]
 | 5 => [1, 5, 6, 9, 10, 11, 26]
 | 6 => [1, 5, 9, 10, 11]
 | 7 => [1, 5, 9, 10, 11]
 | 8 => [4]
 | _ => []
theorem Zdk (args : Array Value) (w : World) : (callFunc 35 args).run Tryz.prog w = .ok (.enter 35 args) w := Zab Tryz.func35 (by decide) rfl args w
set_option maxHeartbeats 1000000 in
theorem ZkO (ps : List (List Int × List Int)) (met : List Int) (hp : NU (ps.length ≤ 4)) (ha : HY (∀ k, k < ps.length → (Asc (nth ps k).1 ∧ (nth ps k).1.length ≤ 600) ∧ Asc (nth ps k).2 ∧ (nth ps k).2.length ≤ 600)) (hm : NU (met.length ≤ 600)) : Con Tryz.prog 35 [.pairs ps, .ints met] (.ints (brkZ ps met ps.length)) := by
 have hp := hp.e
 have ha := ha.e
 have hm := hm.e
 refine Con.fit Zdk fun hfit => ?_
 have hb_ps : ps.length ≤ 9223372036854775807 := GFits.lenm (show GFits (.pairs ps) from hfit 0 (ZL rfl))
 have hr_ps : ∀ r ∈ ps, r.1.length ≤ 9223372036854775807 ∧ r.2.length ≤ 9223372036854775807 := fun r hr => ⟨GFits.ints (GFits.cell (GFits.elm (show GFits (.pairs ps) from hfit 0 (ZL rfl)) r hr) (.head _)), GFits.ints (GFits.cell (GFits.elm (show GFits (.pairs ps) from hfit 0 (ZL rfl)) r hr) (.tail _ (.head _)))⟩
 have hb_met : met.length ≤ 9223372036854775807 := GFits.ints (show GFits (.ints met) from hfit 1 (ZL rfl))
 clear hfit
 refine gCon Zib Zad (rs := [.tmp 4]) (sl := [(0, .g (.pairs ps)), (1, .g (.ints met))]) Tryz.func35 rfl Tryz.ntmps35 rfl Zdk rfl (by repeat constructor) ?_
 (repeat' (first | ((with_reducible apply gLB.cone); (. exact RF.mk ⟨rfl, rfl⟩)) | ((with_reducible apply gLI.cagg); (. exact RF.mk ⟨rfl, rfl, rfl⟩)) | (with_reducible constructor) | exact Z3 | exact NU.mk QMA2 | exact ZS | exact ZF | exact ZC | ((with_reducible apply ZaA); first | apply Zpe) | (with_reducible intro hc; (try simp only [HCs] at hc)) | exact OB_f | (with_reducible first | apply gNK | apply Zam | apply Zaf | apply Zaq | apply Zai | apply CK_f | apply ZaR | apply Zar | apply Zas | apply Zay | apply Zap | apply Zaw | apply Zax | apply Zav) | apply Zah Zad | (apply ZaF; exact RF.mk rfl) | exact HY.mk (ha k (by omega)).1.1 | exact HY.mk (ha k (by omega)).2.1 | (refine Zak (id := 0) (ι := Nat) (fun k => ⟨[(1, .g (.ints met)), (5, .own 0 0 (brkZ ps met k).length), (9, .g (.pairs ps)), (10, .g (.i ps.length)), (11, .g (.i k))], [(0, .arr 1 true ((brkZ ps met k).map GV.i))]⟩) (fun k => (k ≤ ps.length)) (fun k => ps.length - k) (0) ?_ ?_ ?_; (. (apply gLX1 <;> (repeat' (first | (with_reducible constructor) | exact Z5 | exact RF.mk (by decide) | (with_reducible apply Zae) | exact EQ.mk QMA2)); (all_goals exact QMA0))); (. (omega)); (rintro k h1; have z1 := ZkU (ps := ps) (met := met) (k := k); (show TX _ _ _ _ _ [(1, .g (.ints met)), (5, .own 0 0 (brkZ ps met k).length), (9, .g (.pairs ps)), (10, .g (.i ps.length)), (11, .g (.i k))] [(0, .arr 1 true ((brkZ ps met k).map GV.i))] _))) | apply gSel.ccons))
 (all_goals (first | (refine ZaJ (k + 1) ?_ ?_ ?_; (· (apply gLX1 <;> (repeat' (first | (with_reducible constructor) | exact Z5 | exact RF.mk (by decide) | (with_reducible apply Zae) | exact EQ.mk QMA2)); (all_goals exact QMA0))); (· (omega)); (· exact ZW)) | (((refine Zby (Zau (EQ.mk ?_)); first | rw [show k = ps.length by omega] | (rw [List.take_of_length_le (Nat.le_refl _), show k = ps.length by omega]))); done)))
def Zi7 : Nat → List Nat
 | 0 => [0, 1]
 | 1 => [4]
 | _ => []
theorem Zdu (args : Array Value) (w : World) : (callFunc 38 args).run Tryz.prog w = .ok (.enter 38 args) w := Zab Tryz.func38 (by decide) rfl args w
set_option maxHeartbeats 1000000 in
theorem Zmu (ps : List (List Int × List Int)) (met : List Int) (hp : HY (ZeG ps 256 = true ∧ ps.length ≤ 4)) (hm : HY (setN met 256 = true)) : Con Tryz.prog 38 [.pairs ps, .ints met] (.bool (decide (brkZ ps met ps.length = []))) := by
 have hp := hp.e
 have hm := hm.e
 refine Con.fit Zdu fun hfit => ?_
 have hb_ps : ps.length ≤ 9223372036854775807 := GFits.lenm (show GFits (.pairs ps) from hfit 0 (ZL rfl))
 have hr_ps : ∀ r ∈ ps, r.1.length ≤ 9223372036854775807 ∧ r.2.length ≤ 9223372036854775807 := fun r hr => ⟨GFits.ints (GFits.cell (GFits.elm (show GFits (.pairs ps) from hfit 0 (ZL rfl)) r hr) (.head _)), GFits.ints (GFits.cell (GFits.elm (show GFits (.pairs ps) from hfit 0 (ZL rfl)) r hr) (.tail _ (.head _)))⟩
 have hb_met : met.length ≤ 9223372036854775807 := GFits.ints (show GFits (.ints met) from hfit 1 (ZL rfl))
 clear hfit
 refine gCon Zi7 Zad (rs := [.tmp 4]) (sl := [(0, .g (.pairs ps)), (1, .g (.ints met))]) Tryz.func38 rfl Tryz.ntmps38 rfl Zdu rfl (by repeat constructor) ?_
 (repeat' (first | (with_reducible constructor) | exact Z2 | exact ZN | exact ZS | ((with_reducible apply ZaA); first | apply ZhS | apply ZhF | apply ZjT) | (with_reducible intro hc; (try simp only [HCs] at hc)) | exact OB_f | (with_reducible first | apply gNK | apply Zam | apply Zaf | apply Zas | apply Zav) | apply Zah Zad | apply gSel.ccons))
 (all_goals (first | (((obtain ⟨hp1, hp2⟩ := hp; first | exact Zao ZpW | (refine Zao ?_; simp_all; done))); done)))
def Zjo : Nat → List Nat
 | 0 => [3, 4, 5]
 | 1 => [6]
 | _ => []
theorem ZdS (args : Array Value) (w : World) : (callFunc 14 args).run Tryz.prog w = .ok (.enter 14 args) w := Zab Tryz.func14 (by decide) rfl args w
set_option maxHeartbeats 1000000 in
theorem Znj (i o : Int) (n : List (List Int)) (ps : List (List Int × List Int)) (s l : List Int) : Con Tryz.prog 14 [.sig i o, .det n ps, .word s l] (.bool (Zc4 i o n ps s l)) := by
 refine Con.fit ZdS fun hfit => ?_
 have hb_n : n.length ≤ 9223372036854775807 := GFits.lenm (GFits.cell (show GFits (.det n ps) from hfit 1 (ZL rfl)) (.head _))
 have hr_n : ∀ r ∈ n, r.length ≤ 9223372036854775807 := fun r hr => GFits.ints (GFits.elm (GFits.cell (show GFits (.det n ps) from hfit 1 (ZL rfl)) (.head _)) r hr)
 have hb_ps : ps.length ≤ 9223372036854775807 := GFits.lenm (GFits.cell (show GFits (.det n ps) from hfit 1 (ZL rfl)) (.tail _ (.head _)))
 have hr_ps : ∀ r ∈ ps, r.1.length ≤ 9223372036854775807 ∧ r.2.length ≤ 9223372036854775807 := fun r hr => ⟨GFits.ints (GFits.cell (GFits.elm (GFits.cell (show GFits (.det n ps) from hfit 1 (ZL rfl)) (.tail _ (.head _))) r hr) (.head _)), GFits.ints (GFits.cell (GFits.elm (GFits.cell (show GFits (.det n ps) from hfit 1 (ZL rfl)) (.tail _ (.head _))) r hr) (.tail _ (.head _)))⟩
 have hb_s : s.length ≤ 9223372036854775807 := GFits.ints (GFits.cell (show GFits (.word s l) from hfit 2 (ZL rfl)) (.head _))
 have hb_l : l.length ≤ 9223372036854775807 := GFits.ints (GFits.cell (show GFits (.word s l) from hfit 2 (ZL rfl)) (.tail _ (.head _)))
 clear hfit
 have hw : ZaI s l (Zaa i o) = true → 1 ≤ l.length ∧ l.length ≤ 600 ∧ s.length ≤ 600 := ZfY; have hd : detB i o n ps = true → 1 ≤ n.length ∧ n.length ≤ 48 := fun h => ⟨(ZeI h).2.1, (ZeI h).2.2.1⟩; have hlp : sigB i o = true → pw (i + o) = Zaa i o := fun h => (ZaW h).symm
 refine gCon Zjo Zad (rs := [.tmp 6]) (sl := [(0, .g (.sig i o)), (1, .g (.det n ps)), (2, .g (.word s l))]) Tryz.func14 rfl Tryz.ntmps14 rfl ZdS rfl (by repeat constructor) ?_
 (repeat' (first | ((with_reducible apply gLB.cagg); (. exact RF.mk ⟨rfl, rfl, rfl⟩)) | ((with_reducible apply gLB.cone); (. exact RF.mk ⟨rfl, rfl⟩)) | (with_reducible constructor) | exact Z2 | exact ZF | exact ZC | ((with_reducible apply ZaA); first | (exact Zmu ps _ (HY.mk ⟨Zon (show detB i o n ps = true by assumption), Zkj (show detB i o n ps = true by assumption)⟩) (HY.mk (ZlR Zt1 Zxi).1)) | apply Zku | apply Zer | apply Zo6) | (with_reducible intro hc; (try simp only [HCs] at hc)) | exact OB_f | exact ZK | (with_reducible first | apply gNK | apply Zam | apply Zaf | apply Zas | apply Zav) | apply Zah Zad | apply ZaQ Zad rfl | apply gSel.ccons))
 (all_goals (first | ((first | (exact Zao (Zop (by assumption) (show ZaI s l (Zaa i o) = true by first | assumption | exact (show sigB i o = true ∧ ZaI s l (Zaa i o) = true by assumption).2 | (rw [← hlp (by assumption)]; assumption)))) | first | (exact Zao (Zf8 (by assumption))) | (exact Zao (ZcW (by assumption))) | (exact Zao (ZcW (by rw [← hlp (by assumption)]; assumption))) | (exact Zao (Zhp (by assumption))) | (rcases hc with hc | hc <;> first | (exact Zao (Zf8 (by assumption))) | (exact Zao (ZcW (by assumption))) | (exact Zao (ZcW (by rw [← hlp (by assumption)]; assumption))) | (exact Zao (Zhp (by assumption)))) | (rcases hc with hc | hc | hc <;> first | (exact Zao (Zf8 (by assumption))) | (exact Zao (ZcW (by assumption))) | (exact Zao (ZcW (by rw [← hlp (by assumption)]; assumption))) | (exact Zao (Zhp (by assumption))))); done)))
def ZiJ : Nat → List Nat
 | 0 => [3, 4, 5]
 | 1 => [6]
 | _ => []
theorem ZdF (args : Array Value) (w : World) : (callFunc 13 args).run Tryz.prog w = .ok (.enter 13 args) w := Zab Tryz.func13 (by decide) rfl args w
set_option maxHeartbeats 1000000 in
theorem Zmf (i o : Int) (n : List (List Int)) (ps : List (List Int × List Int)) (s l : List Int) : Con Tryz.prog 13 [.sig i o, .det n ps, .word s l] (.bool (Zc4 i o n ps s l)) := by
 refine Con.fit ZdF fun hfit => ?_
 have hb_n : n.length ≤ 9223372036854775807 := GFits.lenm (GFits.cell (show GFits (.det n ps) from hfit 1 (ZL rfl)) (.head _))
 have hr_n : ∀ r ∈ n, r.length ≤ 9223372036854775807 := fun r hr => GFits.ints (GFits.elm (GFits.cell (show GFits (.det n ps) from hfit 1 (ZL rfl)) (.head _)) r hr)
 have hb_ps : ps.length ≤ 9223372036854775807 := GFits.lenm (GFits.cell (show GFits (.det n ps) from hfit 1 (ZL rfl)) (.tail _ (.head _)))
 have hr_ps : ∀ r ∈ ps, r.1.length ≤ 9223372036854775807 ∧ r.2.length ≤ 9223372036854775807 := fun r hr => ⟨GFits.ints (GFits.cell (GFits.elm (GFits.cell (show GFits (.det n ps) from hfit 1 (ZL rfl)) (.tail _ (.head _))) r hr) (.head _)), GFits.ints (GFits.cell (GFits.elm (GFits.cell (show GFits (.det n ps) from hfit 1 (ZL rfl)) (.tail _ (.head _))) r hr) (.tail _ (.head _)))⟩
 have hb_s : s.length ≤ 9223372036854775807 := GFits.ints (GFits.cell (show GFits (.word s l) from hfit 2 (ZL rfl)) (.head _))
 have hb_l : l.length ≤ 9223372036854775807 := GFits.ints (GFits.cell (show GFits (.word s l) from hfit 2 (ZL rfl)) (.tail _ (.head _)))
 clear hfit
 have hw : ZaI s l (Zaa i o) = true → 1 ≤ l.length ∧ l.length ≤ 600 ∧ s.length ≤ 600 := ZfY; have hd : detB i o n ps = true → 1 ≤ n.length ∧ n.length ≤ 48 := fun h => ⟨(ZeI h).2.1, (ZeI h).2.2.1⟩; have hlp : sigB i o = true → pw (i + o) = Zaa i o := fun h => (ZaW h).symm
 refine gCon ZiJ Zad (rs := [.tmp 6]) (sl := [(0, .g (.sig i o)), (1, .g (.det n ps)), (2, .g (.word s l))]) Tryz.func13 rfl Tryz.ntmps13 rfl ZdF rfl (by repeat constructor) ?_
 (repeat' (first | ((with_reducible apply gLB.cagg); (. exact RF.mk ⟨rfl, rfl, rfl⟩)) | ((with_reducible apply gLB.cone); (. exact RF.mk ⟨rfl, rfl⟩)) | (with_reducible constructor) | exact Z2 | exact NU.mk (by first | exact ZO | (first | omega | (have q := ZkF (by assumption); omega) | (have q := ZaE i o; omega))) | exact ZS | exact ZF | exact ZC | ((with_reducible apply ZaA); first | (exact Zo5 n s l (Zaa i o) (HY.mk (Zcr (show detB i o n ps = true by assumption))) (HY.mk (ZbA (show ZaI s l (Zaa i o) = true by first | assumption | exact (show sigB i o = true ∧ ZaI s l (Zaa i o) = true by assumption).2 | (rw [← hlp (by assumption)]; assumption))).1) (HY.mk (ZbA (show ZaI s l (Zaa i o) = true by first | assumption | exact (show sigB i o = true ∧ ZaI s l (Zaa i o) = true by assumption).2 | (rw [← hlp (by assumption)]; assumption))).2) (NU.mk (hd (show detB i o n ps = true by assumption))) (NU.mk (hw (show ZaI s l (Zaa i o) = true by first | assumption | exact (show sigB i o = true ∧ ZaI s l (Zaa i o) = true by assumption).2 | (rw [← hlp (by assumption)]; assumption))))) | (exact ZkO ps _ (NU.mk (Zkj (show detB i o n ps = true by assumption))) (HY.mk (ZrG (show detB i o n ps = true by assumption))) (NU.mk (Zo7 (show detB i o n ps = true by assumption) (show ZaI s l (Zaa i o) = true by first | assumption | exact (show sigB i o = true ∧ ZaI s l (Zaa i o) = true by assumption).2 | (rw [← hlp (by assumption)]; assumption))))) | apply Zec | apply Zhx | apply Zjv | apply ZaD) | (with_reducible intro hc; (try simp only [HCs] at hc)) | exact OB_f | exact ZK | (with_reducible first | apply gNK | apply Zam | apply Zaf | apply Zas | apply Zav) | apply Zah Zad | apply ZaQ Zad rfl | apply gSel.ccons))
 (all_goals (first | ((first | (exact Zao (ZuI (by assumption) (show ZaI s l (Zaa i o) = true by first | assumption | exact (show sigB i o = true ∧ ZaI s l (Zaa i o) = true by assumption).2 | (rw [← hlp (by assumption)]; assumption)))) | first | (exact Zao (Zf8 (by assumption))) | (exact Zao (ZcW (by assumption))) | (exact Zao (ZcW (by rw [← hlp (by assumption)]; assumption))) | (exact Zao (Zhp (by assumption))) | (rcases hc with hc | hc <;> first | (exact Zao (Zf8 (by assumption))) | (exact Zao (ZcW (by assumption))) | (exact Zao (ZcW (by rw [← hlp (by assumption)]; assumption))) | (exact Zao (Zhp (by assumption)))) | (rcases hc with hc | hc | hc <;> first | (exact Zao (Zf8 (by assumption))) | (exact Zao (ZcW (by assumption))) | (exact Zao (ZcW (by rw [← hlp (by assumption)]; assumption))) | (exact Zao (Zhp (by assumption))))); done)))
end Go.Proofs.YtabfpoflhacknaaGreat

