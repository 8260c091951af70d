/- Contracts: records and places. No conditions but those that each theorem names. -/
import Derived.Test.YtjjidamlmebaaaaGreatTab
import Derived.Test.YtjjidamlmebaaaaGreatKG
import Derived.Test.YtjjidamlmebaaaaGreatQ6
import Derived.Test.YtjjidamlmebaaaaGreatZU
import Derived.Test.YtjjidamlmebaaaaGreatChecked
set_option linter.unusedSimpArgs false
set_option linter.unusedVariables false
namespace Go.Proofs.YtjjidamlmebaaaaGreat
open Go.RowKit
open Shp
theorem QQ76 {p : Prop} (h : p := by ((first | exact EQ.mk rfl | (refine EQ.mk ?_; omega)); done)) : p := h
theorem QQ75 {p : Prop} (h : p := by ((first | exact EQ.mk rfl | (refine EQ.mk ?_; simp only [Ze3]; first | (rw [if_pos (by assumption)]; done) | (rw [if_neg (by first | (simp_all; done) | fail)]; done))); done)) : p := h
theorem QQ74 {p : Prop} (h : p := by ((first | exact EQ.mk rfl | ((have e9 : k = 0 := (by omega)); subst e9; first | (refine EQ.mk ?_; simp [insP]; done) | (refine Zap (EQ.mk ?_); simp [insP]; done)) | ((try simp only [Int.toNat_natCast, Int.toNat_zero, Nat.sub_zero, Nat.zero_add, List.append_assoc]); first | (refine EQ.mk ?_; rfl) | (refine Zap (EQ.mk ?_); rfl) | (refine EQ.mk ?_; rw [Zkw]; simp; omega)) | (refine EQ.mk ?_; first | omega | (rw [Zkw]; omega) | (simp [insP]; omega)) | (refine Zap (EQ.mk ?_); first | rfl | (simp only [insP, List.append_assoc, Nat.zero_add, List.drop_zero, Int.toNat_natCast]; done) | (unfold insP; simp; done))); done)) : p := h
theorem QQ73 {p : Prop} (h : p := by first | exact ZO | (first | omega | (simp only [List.length_map, List.length_take, List.length_append, List.length_singleton, List.length_drop]; omega))) : p := h
theorem QQ72 {p : Prop} (h : p := by first | exact ZO | (first | omega | (have q := hr _ (ZaE (show k < r.length by omega)); omega) | (have q := @List.length_filter_le _ (fun i : Int => has (nth ps i.toNat).2 v) (r.take k); have q2 := @List.length_filter_le _ (fun i : Int => !has (nth ps i.toNat).2 v) (r.take k); have q3 := @List.length_take _ k r; omega))) : p := h
theorem QQ71 {p : Prop} (h : p := by first | exact ZO | (first | omega | (have q := hr _ (ZaE (show k < r.length by omega)); omega) | (have q := @List.length_filter_le _ (fun i : Int => has (nth ps i.toNat).2 v) (r.take k); have q2 := @List.length_filter_le _ (fun i : Int => !has (nth ps i.toNat).2 v) (r.take k); have q3 := @List.length_take _ k r; omega) | (have q4 := ZbN (fun i : Int => has (nth ps i.toNat).1 v) r k; have q5 := ZbN (fun i : Int => has (nth ps i.toNat).2 v) r k; omega))) : p := h
theorem QQ70 {p : Prop} (h : p := by ((first | exact EQ.mk rfl | (refine EQ.mk ?_; first | omega | (rw [← ZeJ (f := (fun i : Int => has (nth ps i.toNat).2 v)) (l := r) (k := k) (by omega) (by assumption), List.length_append, List.length_singleton]; done) | (rw [← Zf8 (f := (fun i : Int => has (nth ps i.toNat).2 v)) (l := r) (k := k) (by omega) (by first | (simp_all; done) | fail)]; done) | (rw [← Zf8 (f := (fun i : Int => !has (nth ps i.toNat).2 v)) (l := r) (k := k) (by omega) (by first | (simp_all; done) | fail)]; done) | (rw [← ZeJ (f := (fun i : Int => !has (nth ps i.toNat).2 v)) (l := r) (k := k) (by omega) (by first | (simp_all; done) | fail), List.length_append, List.length_singleton]; done)) | (refine Zap (EQ.mk ?_); first | rfl | exact ZeJ (f := (fun i : Int => has (nth ps i.toNat).2 v)) (by omega) (by assumption) | exact Zf8 (f := (fun i : Int => has (nth ps i.toNat).2 v)) (by omega) (by first | (simp_all; done) | fail) | exact Zf8 (f := (fun i : Int => !has (nth ps i.toNat).2 v)) (by omega) (by first | (simp_all; done) | fail) | exact ZeJ (f := (fun i : Int => !has (nth ps i.toNat).2 v)) (by omega) (by first | (simp_all; done) | fail))); done)) : p := h
def ZiJ : Nat → List Nat
 | 0 => [0, 1]
 | 1 => [0, 1, 5]
 | 2 => [0, 1, 5, 9]
 | 3 => [0, 1, 5]
 | 4 => [0, 1, 5, 17]
 | 5 => [4]
 | 6 => [4]
 | _ => []
theorem ZcW (args : Array Value) (w : World) : (callFunc 125 args).run Tryz.prog w = .ok (.enter 125 args) w := Zaa Tryz.func125 (by decide) rfl args w
set_option maxHeartbeats 1000000 in
theorem ZcO (xs : List Int) (n : Int) : Con Tryz.prog 125 [.ints xs, .i n] (.bool (has xs n)) := by
 refine Con.fit ZcW fun hfit => ?_
 have hb_xs : xs.length ≤ 9223372036854775807 := GFits.ints (show GFits (.ints xs) from hfit 0 (ZL rfl))
 clear hfit
 refine gCon ZiJ Zab (rs := [.tmp 4]) (sl := [(0, .g (.ints xs)), (1, .g (.i n))]) Tryz.func125 rfl Tryz.ntmps125 rfl ZcW rfl (by repeat constructor) ?_
 (repeat' (first | ((with_reducible apply gLI.cone); (. exact RF.mk ⟨rfl, rfl⟩)) | (with_reducible constructor) | exact Z2 | exact ZN | exact ZS | (with_reducible intro hc; (try simp only [HCs] at hc)) | exact OB_f | (with_reducible first | apply gNK | apply Zaj | apply Zae | apply Zam | apply Zar | apply Zag | apply ZaG | apply Zak | apply Zai | apply Zas | apply Zal | apply Zau | apply ZaO | apply Zat | apply ZaR | apply Zao) | apply Zaf Zab | (apply ZaB; exact RF.mk rfl) | (refine Zah (id := 0) (ι := Nat) (fun i => ⟨[(0, .g (.ints xs)), (1, .g (.i n)), (5, .g (.i i))], []⟩) (fun i => (i ≤ xs.length) ∧ (∀ z, z < i → (fun i => !(nth xs i == n)) z = true)) (fun i => xs.length - i) (0) ?_ ?_ ?_; (. (apply gLX0 <;> (repeat' (first | (with_reducible constructor) | exact Z5 | exact RF.mk (by decide) | (with_reducible apply Zad) | exact ZE)))); (. (exact ⟨by omega, Za6⟩)); (rintro i ⟨h1, h2⟩; (show TX _ _ _ _ _ [(0, .g (.ints xs)), (1, .g (.i n)), (5, .g (.i i))] [] _))) | apply gSel.ccons))
 (all_goals (first | (refine ZaA (i + 1) ?_ ?_ ?_; (· (apply gLX0 <;> (repeat' (first | (with_reducible constructor) | exact Z5 | exact RF.mk (by decide) | (with_reducible apply Zad) | exact ZE)))); (· ((refine ⟨by omega, Za8 h2 ?_⟩; ((try simp only [BOa] at *); (first | omega | assumption | grind))))); (· exact ZW)) | (((first | (refine Zax ?_; (try unfold has); first | rfl | exact Eq.symm (ZaV fun j hj => h2 j (by omega)) | (refine Eq.symm (Za5 i (by omega) ?_); ((try simp only [BOa] at *); (first | omega | assumption | grind))) | exact Eq.symm (ZcF fun j hj => h2 j (by omega)) | (refine Eq.symm (Zdy i (by omega) ?_); ((try simp only [BOa] at *); (first | omega | assumption | grind))) | ((try simp only [BOa] at *); (first | omega | assumption | grind))))); done)))
def Zf4 : Nat → List Nat
 | 0 => [0, 1, 2]
 | 1 => [0, 1, 2, 7, 8]
 | 2 => [0, 2, 7, 8, 13, 14, 15]
 | 3 => [0, 2, 7, 8, 13, 14, 15, 16]
 | 4 => [0, 2, 7, 8, 10, 13, 14, 15]
 | 5 => [0, 2, 7, 8, 10, 13, 14, 15, 25]
 | 6 => [0, 2, 7, 8, 13, 14, 15]
 | 7 => [0, 2, 7, 8, 13, 14, 15]
 | 8 => [0, 2, 7, 8, 13, 14, 15]
 | 9 => [6]
 | _ => []
theorem Zcb (args : Array Value) (w : World) : (callFunc 110 args).run Tryz.prog w = .ok (.enter 110 args) w := Zaa Tryz.func110 (by decide) rfl args w
set_option maxHeartbeats 1000000 in
theorem Zii (ps : List (List Int × List Int)) (r : List Int) (v : Int) (hr : HY (∀ x ∈ r, 0 ≤ x ∧ x < ps.length)) (hn : NU (r.length ≤ 1000 ∧ ps.length ≤ 1000)) : Con Tryz.prog 110 [.pairs ps, .ints r, .i v] (.ints (nxR ps r v)) := by
 have hr := hr.e
 have hn := hn.e
 refine Con.fit Zcb fun hfit => ?_
 have hb_ps : ps.length ≤ 9223372036854775807 := GFits.lenm (show GFits (.pairs ps) from hfit 0 (ZL rfl))
 have hr_ps : ∀ r ∈ ps, r.1.length ≤ 9223372036854775807 ∧ r.2.length ≤ 9223372036854775807 := fun r hr => ⟨GFits.ints (GFits.cell (GFits.elm (show GFits (.pairs ps) from hfit 0 (ZL rfl)) r hr) (.head _)), GFits.ints (GFits.cell (GFits.elm (show GFits (.pairs ps) from hfit 0 (ZL rfl)) r hr) (.tail _ (.head _)))⟩
 have hb_r : r.length ≤ 9223372036854775807 := GFits.ints (show GFits (.ints r) from hfit 1 (ZL rfl))
 clear hfit
 refine gCon Zf4 Zab (rs := [.tmp 6]) (sl := [(0, .g (.pairs ps)), (1, .g (.ints r)), (2, .g (.i v))]) Tryz.func110 rfl Tryz.ntmps110 rfl Zcb rfl (by repeat constructor) ?_
 (repeat' (first | ((with_reducible apply gLI.cone); (. exact RF.mk ⟨rfl, rfl⟩)) | (with_reducible constructor) | exact Z2 | exact NU.mk QQ72 | exact ZS | exact ZF | exact ZC | ((with_reducible apply Zaw); first | (exact ZcO _ _) | apply Zez) | (with_reducible intro hc; (try simp only [HCs] at hc)) | exact OB_f | (with_reducible first | apply gNK | apply Zaj | apply Zae | apply Zam | apply Zag | apply ZaG | apply Zak | apply Zai | apply Zas | apply Zal | apply Zau | apply Zat | apply Zao) | apply Zaf Zab | (apply ZaB; exact RF.mk rfl) | (refine Zah (id := 0) (ι := Nat) (fun k => ⟨[(0, .g (.pairs ps)), (2, .g (.i v)), (7, .own 0 0 ((r.take k).filter (fun i : Int => has (nth ps i.toNat).2 v)).length), (8, .own 1 0 ((r.take k).filter (fun i : Int => !has (nth ps i.toNat).2 v)).length), (13, .g (.ints r)), (14, .g (.i r.length)), (15, .g (.i k))], [(0, .arr 1 true (((r.take k).filter (fun i : Int => has (nth ps i.toNat).2 v)).map GV.i)), (1, .arr 1 true (((r.take k).filter (fun i : Int => !has (nth ps i.toNat).2 v)).map GV.i))]⟩) (fun k => (k ≤ r.length)) (fun k => r.length - k) (0) ?_ ?_ ?_; (. (apply gLX2 <;> (repeat' (first | (with_reducible constructor) | exact Z5 | exact RF.mk (by decide) | (with_reducible apply Zad) | exact EQ.mk QQ72)); (all_goals exact QQ70))); (. (omega)); (rintro k h1; (show TX _ _ _ _ _ [(0, .g (.pairs ps)), (2, .g (.i v)), (7, .own 0 0 ((r.take k).filter (fun i : Int => has (nth ps i.toNat).2 v)).length), (8, .own 1 0 ((r.take k).filter (fun i : Int => !has (nth ps i.toNat).2 v)).length), (13, .g (.ints r)), (14, .g (.i r.length)), (15, .g (.i k))] [(0, .arr 1 true (((r.take k).filter (fun i : Int => has (nth ps i.toNat).2 v)).map GV.i)), (1, .arr 1 true (((r.take k).filter (fun i : Int => !has (nth ps i.toNat).2 v)).map GV.i))] _))) | apply gSel.ccons))
 (all_goals (first | (refine ZaA (k + 1) ?_ ?_ ?_; (· (apply gLX2 <;> (repeat' (first | (with_reducible constructor) | exact Z5 | exact RF.mk (by decide) | (with_reducible apply Zad) | exact EQ.mk QQ72)); (all_goals exact QQ70))); (· (omega)); (· exact ZW)) | (((refine Za1 (EQ.mk ?_); first | (rw [← List.map_append, List.take_of_length_le (by omega)]; rfl) | (rw [List.take_of_length_le (by omega), ← List.map_append]; rfl) | (rw [List.take_of_length_le (l := r) (by omega)]; simp only [List.drop_zero, List.take_length, List.map_append, nxR]; done))); done)))
def ZiB : Nat → List Nat
 | 0 => [0, 1, 2]
 | 1 => [0, 1, 2, 7]
 | 2 => [0, 1, 2, 7, 8]
 | 3 => [0, 1, 2, 7, 8, 9]
 | 4 => [0, 1, 2, 7, 8, 9, 15]
 | 5 => [0, 1, 2, 7, 8, 9]
 | 6 => [0, 1, 2, 7, 8, 9, 27]
 | 7 => [0, 1, 2, 7, 8, 9]
 | 8 => [0, 1, 2, 7, 8, 9]
 | 9 => [6]
 | _ => []
theorem Zc4 (args : Array Value) (w : World) : (callFunc 93 args).run Tryz.prog w = .ok (.enter 93 args) w := Zaa Tryz.func93 (by decide) rfl args w
set_option maxHeartbeats 1000000 in
theorem Zlp (ps : List (List Int × List Int)) (r : List Int) (v : Int) (hr : HY (∀ x ∈ r, 0 ≤ x ∧ x < ps.length)) (hn : NU (r.length ≤ 1000 ∧ ps.length ≤ 1000)) : Con Tryz.prog 93 [.pairs ps, .ints r, .i v] (.ints (nxR ps r v)) := by
 have hr := hr.e
 have hn := hn.e
 refine Con.fit Zc4 fun hfit => ?_
 have hb_ps : ps.length ≤ 9223372036854775807 := GFits.lenm (show GFits (.pairs ps) from hfit 0 (ZL rfl))
 have hr_ps : ∀ r ∈ ps, r.1.length ≤ 9223372036854775807 ∧ r.2.length ≤ 9223372036854775807 := fun r hr => ⟨GFits.ints (GFits.cell (GFits.elm (show GFits (.pairs ps) from hfit 0 (ZL rfl)) r hr) (.head _)), GFits.ints (GFits.cell (GFits.elm (show GFits (.pairs ps) from hfit 0 (ZL rfl)) r hr) (.tail _ (.head _)))⟩
 have hb_r : r.length ≤ 9223372036854775807 := GFits.ints (show GFits (.ints r) from hfit 1 (ZL rfl))
 clear hfit
 refine gCon ZiB Zab (rs := [.tmp 6]) (sl := [(0, .g (.pairs ps)), (1, .g (.ints r)), (2, .g (.i v))]) Tryz.func93 rfl Tryz.ntmps93 rfl Zc4 rfl (by repeat constructor) ?_
 (repeat' (first | ((with_reducible apply gLI.cone); (. exact RF.mk ⟨rfl, rfl⟩)) | (with_reducible constructor) | exact Z2 | exact NU.mk QQ72 | exact ZS | exact ZF | exact ZC | ((with_reducible apply Zaw); first | (exact ZcO _ _)) | (with_reducible intro hc; (try simp only [HCs] at hc)) | exact OB_f | (with_reducible first | apply gNK | apply Zaj | apply Zae | apply Zam | apply Zag | apply ZaG | apply Zak | apply Zai | apply Zas | apply Zal | apply Zau | apply Zat | apply Zao) | apply Zaf Zab | (apply ZaB; exact RF.mk rfl) | (refine Zah (id := 0) (ι := Nat) (fun k => ⟨[(0, .g (.pairs ps)), (1, .g (.ints r)), (2, .g (.i v)), (7, .own 0 0 ((r.take k).filter (fun i : Int => has (nth ps i.toNat).2 v)).length), (8, .own 1 0 ((r.take k).filter (fun i : Int => !has (nth ps i.toNat).2 v)).length), (9, .g (.i k))], [(0, .arr 1 true (((r.take k).filter (fun i : Int => has (nth ps i.toNat).2 v)).map GV.i)), (1, .arr 1 true (((r.take k).filter (fun i : Int => !has (nth ps i.toNat).2 v)).map GV.i))]⟩) (fun k => (k ≤ r.length)) (fun k => r.length - k) (0) ?_ ?_ ?_; (. (apply gLX2 <;> (repeat' (first | (with_reducible constructor) | exact Z5 | exact RF.mk (by decide) | (with_reducible apply Zad) | exact EQ.mk QQ72)); (all_goals exact QQ70))); (. (omega)); (rintro k h1; (show TX _ _ _ _ _ [(0, .g (.pairs ps)), (1, .g (.ints r)), (2, .g (.i v)), (7, .own 0 0 ((r.take k).filter (fun i : Int => has (nth ps i.toNat).2 v)).length), (8, .own 1 0 ((r.take k).filter (fun i : Int => !has (nth ps i.toNat).2 v)).length), (9, .g (.i k))] [(0, .arr 1 true (((r.take k).filter (fun i : Int => has (nth ps i.toNat).2 v)).map GV.i)), (1, .arr 1 true (((r.take k).filter (fun i : Int => !has (nth ps i.toNat).2 v)).map GV.i))] _))) | apply gSel.ccons))
 (all_goals (first | (refine ZaA (k + 1) ?_ ?_ ?_; (· (apply gLX2 <;> (repeat' (first | (with_reducible constructor) | exact Z5 | exact RF.mk (by decide) | (with_reducible apply Zad) | exact EQ.mk QQ72)); (all_goals exact QQ70))); (· (omega)); (· exact ZW)) | (((refine Za1 (EQ.mk ?_); first | (rw [← List.map_append, List.take_of_length_le (by omega)]; rfl) | (rw [List.take_of_length_le (by omega), ← List.map_append]; rfl) | (rw [List.take_of_length_le (l := r) (by omega)]; simp only [List.drop_zero, List.take_length, List.map_append, nxR]; done))); done)))
def ZfB : Nat → List Nat
 | 0 => [0, 1, 2]
 | 1 => [0, 1, 2, 7, 8]
 | 2 => [0, 2, 7, 8, 11, 12, 13]
 | 3 => [0, 2, 7, 8, 11, 12, 13, 14]
 | 4 => [0, 2, 7, 8, 9, 10, 11, 12, 13]
 | 5 => [0, 2, 7, 8, 9, 10, 11, 12, 13, 24]
 | 6 => [0, 2, 7, 8, 9, 10, 11, 12, 13]
 | 7 => [0, 2, 7, 8, 9, 11, 12, 13, 32]
 | 8 => [0, 2, 7, 8, 11, 12, 13]
 | 9 => [0, 2, 7, 8, 11, 12, 13]
 | 10 => [7, 8, 35]
 | 11 => [6]
 | 12 => [7, 8, 42]
 | 13 => [6]
 | 14 => [6]
 | _ => []
theorem Zb8 (args : Array Value) (w : World) : (callFunc 112 args).run Tryz.prog w = .ok (.enter 112 args) w := Zaa Tryz.func112 (by decide) rfl args w
set_option maxHeartbeats 1000000 in
theorem Zh2 (ps : List (List Int × List Int)) (r : List Int) (v : Int) (hr : HY (∀ x ∈ r, 0 ≤ x ∧ x < ps.length)) (hn : NU (r.length ≤ 1000 ∧ ps.length ≤ 1000)) : Con Tryz.prog 112 [.pairs ps, .ints r, .i v] (.i (prQ ps r v)) := by
 have hr := hr.e
 have hn := hn.e
 refine Con.fit Zb8 fun hfit => ?_
 have hb_ps : ps.length ≤ 9223372036854775807 := GFits.lenm (show GFits (.pairs ps) from hfit 0 (ZL rfl))
 have hr_ps : ∀ r ∈ ps, r.1.length ≤ 9223372036854775807 ∧ r.2.length ≤ 9223372036854775807 := fun r hr => ⟨GFits.ints (GFits.cell (GFits.elm (show GFits (.pairs ps) from hfit 0 (ZL rfl)) r hr) (.head _)), GFits.ints (GFits.cell (GFits.elm (show GFits (.pairs ps) from hfit 0 (ZL rfl)) r hr) (.tail _ (.head _)))⟩
 have hb_r : r.length ≤ 9223372036854775807 := GFits.ints (show GFits (.ints r) from hfit 1 (ZL rfl))
 clear hfit
 refine gCon ZfB Zab (rs := [.tmp 6]) (sl := [(0, .g (.pairs ps)), (1, .g (.ints r)), (2, .g (.i v))]) Tryz.func112 rfl Tryz.ntmps112 rfl Zb8 rfl (by repeat constructor) ?_
 (repeat' (first | ((with_reducible apply gLI.cone); (. exact RF.mk ⟨rfl, rfl⟩)) | (with_reducible constructor) | exact Z2 | exact NU.mk QQ71 | exact ZS | exact ZF | ((with_reducible apply Zaw); first | (exact ZcO _ _) | apply Zez) | (with_reducible intro hc; (try simp only [HCs] at hc)) | exact OB_f | (with_reducible first | apply gNK | apply Zaj | apply Zae | apply Zam | apply Zar | apply Zag | apply CK_f | apply ZaG | apply Zak | apply Zai | apply Zas | apply Zal | apply Zau | apply ZaO | apply Zat | apply Zao) | apply Zaf Zab | (apply ZaB; exact RF.mk rfl) | (refine Zah (id := 0) (ι := Nat) (fun k => ⟨[(0, .g (.pairs ps)), (2, .g (.i v)), (7, .g (.i (Ze3 (fun i : Int => has (nth ps i.toNat).1 v) r k))), (8, .g (.i (Ze3 (fun i : Int => has (nth ps i.toNat).2 v) r k))), (11, .g (.ints r)), (12, .g (.i r.length)), (13, .g (.i k))], []⟩) (fun k => (k ≤ r.length)) (fun k => r.length - k) (0) ?_ ?_ ?_; (. (apply gLX0 <;> (repeat' (first | (with_reducible constructor) | exact Z5 | exact RF.mk (by decide) | (with_reducible apply Zad) | exact EQ.mk QQ71)); (all_goals exact QQ75))); (. (omega)); (rintro k h1; have l1 := ZbN (fun i : Int => has (nth ps i.toNat).1 v) r k; have l2 := ZbN (fun i : Int => has (nth ps i.toNat).2 v) r k; (show TX _ _ _ _ _ [(0, .g (.pairs ps)), (2, .g (.i v)), (7, .g (.i (Ze3 (fun i : Int => has (nth ps i.toNat).1 v) r k))), (8, .g (.i (Ze3 (fun i : Int => has (nth ps i.toNat).2 v) r k))), (11, .g (.ints r)), (12, .g (.i r.length)), (13, .g (.i k))] [] _))) | apply gSel.ccons))
 (all_goals (first | (refine ZaA (k + 1) ?_ ?_ ?_; (· (apply gLX0 <;> (repeat' (first | (with_reducible constructor) | exact Z5 | exact RF.mk (by decide) | (with_reducible apply Zad) | exact EQ.mk QQ71)); (all_goals exact QQ75))); (· (omega)); (· exact ZW)) | (((refine Zad (EQ.mk ?_); unfold prQ prG; have e9 : r.length = k := (by omega); rw [e9]; (repeat (any_goals split)); all_goals (first | omega | rfl | (exfalso; omega)))); done)))
def Zig : Nat → List Nat
 | 0 => [0, 1, 2]
 | 1 => [0, 1, 2, 7]
 | 2 => [0, 1, 2, 7, 8]
 | 3 => [0, 1, 2, 7, 8, 9]
 | 4 => [0, 1, 2, 7, 8, 9, 13]
 | 5 => [0, 1, 2, 7, 8, 9]
 | 6 => [0, 1, 2, 7, 8, 9, 25]
 | 7 => [0, 1, 2, 7, 8, 9]
 | 8 => [0, 1, 2, 7, 8, 9, 36]
 | 9 => [0, 1, 2, 7, 8, 9]
 | 10 => [7, 8, 38]
 | 11 => [6]
 | 12 => [7, 8, 45]
 | 13 => [6]
 | 14 => [6]
 | _ => []
theorem ZcX (args : Array Value) (w : World) : (callFunc 96 args).run Tryz.prog w = .ok (.enter 96 args) w := Zaa Tryz.func96 (by decide) rfl args w
set_option maxHeartbeats 1000000 in
theorem Zlz (ps : List (List Int × List Int)) (r : List Int) (v : Int) (hr : HY (∀ x ∈ r, 0 ≤ x ∧ x < ps.length)) (hn : NU (r.length ≤ 1000 ∧ ps.length ≤ 1000)) : Con Tryz.prog 96 [.pairs ps, .ints r, .i v] (.i (prQ ps r v)) := by
 have hr := hr.e
 have hn := hn.e
 refine Con.fit ZcX fun hfit => ?_
 have hb_ps : ps.length ≤ 9223372036854775807 := GFits.lenm (show GFits (.pairs ps) from hfit 0 (ZL rfl))
 have hr_ps : ∀ r ∈ ps, r.1.length ≤ 9223372036854775807 ∧ r.2.length ≤ 9223372036854775807 := fun r hr => ⟨GFits.ints (GFits.cell (GFits.elm (show GFits (.pairs ps) from hfit 0 (ZL rfl)) r hr) (.head _)), GFits.ints (GFits.cell (GFits.elm (show GFits (.pairs ps) from hfit 0 (ZL rfl)) r hr) (.tail _ (.head _)))⟩
 have hb_r : r.length ≤ 9223372036854775807 := GFits.ints (show GFits (.ints r) from hfit 1 (ZL rfl))
 clear hfit
 refine gCon Zig Zab (rs := [.tmp 6]) (sl := [(0, .g (.pairs ps)), (1, .g (.ints r)), (2, .g (.i v))]) Tryz.func96 rfl Tryz.ntmps96 rfl ZcX rfl (by repeat constructor) ?_
 (repeat' (first | ((with_reducible apply gLI.cone); (. exact RF.mk ⟨rfl, rfl⟩)) | (with_reducible constructor) | exact Z2 | exact NU.mk QQ71 | exact ZS | exact ZF | ((with_reducible apply Zaw); first | (exact ZcO _ _)) | (with_reducible intro hc; (try simp only [HCs] at hc)) | exact OB_f | (with_reducible first | apply gNK | apply Zaj | apply Zae | apply Zam | apply Zar | apply Zag | apply CK_f | apply ZaG | apply Zak | apply Zai | apply Zas | apply Zal | apply Zau | apply ZaO | apply Zat | apply Zao) | apply Zaf Zab | (apply ZaB; exact RF.mk rfl) | (refine Zah (id := 0) (ι := Nat) (fun k => ⟨[(0, .g (.pairs ps)), (1, .g (.ints r)), (2, .g (.i v)), (7, .g (.i (Ze3 (fun i : Int => has (nth ps i.toNat).1 v) r k))), (8, .g (.i (Ze3 (fun i : Int => has (nth ps i.toNat).2 v) r k))), (9, .g (.i k))], []⟩) (fun k => (k ≤ r.length)) (fun k => r.length - k) (0) ?_ ?_ ?_; (. (apply gLX0 <;> (repeat' (first | (with_reducible constructor) | exact Z5 | exact RF.mk (by decide) | (with_reducible apply Zad) | exact EQ.mk QQ71)); (all_goals exact QQ75))); (. (omega)); (rintro k h1; have l1 := ZbN (fun i : Int => has (nth ps i.toNat).1 v) r k; have l2 := ZbN (fun i : Int => has (nth ps i.toNat).2 v) r k; (show TX _ _ _ _ _ [(0, .g (.pairs ps)), (1, .g (.ints r)), (2, .g (.i v)), (7, .g (.i (Ze3 (fun i : Int => has (nth ps i.toNat).1 v) r k))), (8, .g (.i (Ze3 (fun i : Int => has (nth ps i.toNat).2 v) r k))), (9, .g (.i k))] [] _))) | apply gSel.ccons))
 (all_goals (first | (refine ZaA (k + 1) ?_ ?_ ?_; (· (apply gLX0 <;> (repeat' (first | (with_reducible constructor) | exact Z5 | exact RF.mk (by decide) | (with_reducible apply Zad) | exact EQ.mk QQ71)); (all_goals exact QQ75))); (· (omega)); (· exact ZW)) | (((refine Zad (EQ.mk ?_); unfold prQ prG; have e9 : r.length = k := (by omega); rw [e9]; (repeat (any_goals split)); all_goals (first | omega | rfl | (exfalso; omega)))); done)))
def Zff : Nat → List Nat
 | 0 => [1, 2]
 | 1 => [3]
 | _ => []
theorem Zd9 (args : Array Value) (w : World) : (callFunc 109 args).run Tryz.prog w = .ok (.enter 109 args) w := Zaa Tryz.func109 (by decide) rfl args w
set_option maxHeartbeats 1000000 in
theorem Zhp (ps : List (List Int × List Int)) (r : List Int) (v : Int) (hr : HY (∀ x ∈ r, 0 ≤ x ∧ x < ps.length)) (hn : NU (r.length ≤ 1000 ∧ ps.length ≤ 1000)) : Con Tryz.prog 109 [.placeP (v, r), .box [.pairs ps]] (.ints (nxR ps r v)) := by
 have hr := hr.e
 have hn := hn.e
 refine gCon Zff Zab (rs := [.tmp 3]) (sl := [(0, .g (.placeP (v, r))), (1, .g (.box [.pairs ps]))]) Tryz.func109 rfl Tryz.ntmps109 rfl Zd9 rfl (by repeat constructor) ?_
 (repeat' (first | ((with_reducible apply gLB.cone); (. exact RF.mk ⟨rfl, rfl⟩)) | ((with_reducible apply gLI.cone); (. exact RF.mk ⟨rfl, rfl⟩)) | (with_reducible constructor) | exact Z2 | exact ZF | exact ZC | ((with_reducible apply Zaw); first | (exact Zii ps r v (HY.mk hr) (NU.mk hn))) | exact OB_f | (with_reducible first | apply gNK | apply Zaj | apply Zae | apply Zai | apply Zao) | apply Zaf Zab | apply gSel.ccons))
 (all_goals (first | (((first | (refine Zax ?_; first | (simp_all; done) | (rw [Bool.eq_iff_iff]; simp only [Bool.and_eq_true, Bool.or_eq_true, decide_eq_true_eq, Bool.false_eq_true, false_iff, true_iff, iff_false, iff_true, not_and, not_or, Bool.not_eq_true, decide_eq_false_iff_not, beq_iff_eq, bne_iff_ne, ne_eq, Bool.not_eq_true', Bool.not_eq_false', Int.not_le, Int.not_lt]; omega)) | ((repeat (first | apply ZbK | apply ZaP | apply ZbT | apply Za1 | apply Zap)); all_goals (first | exact EQ.mk rfl | exact EQ.mk (by first | (simp; done) | fail) | exact EQ.mk (by first | (simp_all; done) | fail))))); done)))
def Zfn : Nat → List Nat
 | 0 => [1, 2]
 | 1 => [3]
 | _ => []
theorem Zea (args : Array Value) (w : World) : (callFunc 111 args).run Tryz.prog w = .ok (.enter 111 args) w := Zaa Tryz.func111 (by decide) rfl args w
set_option maxHeartbeats 1000000 in
theorem Zhe (ps : List (List Int × List Int)) (r : List Int) (v : Int) (hr : HY (∀ x ∈ r, 0 ≤ x ∧ x < ps.length)) (hn : NU (r.length ≤ 1000 ∧ ps.length ≤ 1000)) : Con Tryz.prog 111 [.placeP (v, r), .box [.pairs ps]] (.i (prQ ps r v)) := by
 have hr := hr.e
 have hn := hn.e
 refine gCon Zfn Zab (rs := [.tmp 3]) (sl := [(0, .g (.placeP (v, r))), (1, .g (.box [.pairs ps]))]) Tryz.func111 rfl Tryz.ntmps111 rfl Zea rfl (by repeat constructor) ?_
 (repeat' (first | ((with_reducible apply gLB.cone); (. exact RF.mk ⟨rfl, rfl⟩)) | ((with_reducible apply gLI.cone); (. exact RF.mk ⟨rfl, rfl⟩)) | (with_reducible constructor) | exact Z2 | exact ZF | ((with_reducible apply Zaw); first | (exact Zh2 ps r v (HY.mk hr) (NU.mk hn))) | exact OB_f | (with_reducible first | apply gNK | apply Zaj | apply Zae | apply Zai) | apply Zaf Zab | apply gSel.ccons))
 (all_goals (first | (((first | (refine Zax ?_; first | (simp_all; done) | (rw [Bool.eq_iff_iff]; simp only [Bool.and_eq_true, Bool.or_eq_true, decide_eq_true_eq, Bool.false_eq_true, false_iff, true_iff, iff_false, iff_true, not_and, not_or, Bool.not_eq_true, decide_eq_false_iff_not, beq_iff_eq, bne_iff_ne, ne_eq, Bool.not_eq_true', Bool.not_eq_false', Int.not_le, Int.not_lt]; omega)) | ((repeat (first | apply ZbK | apply ZaP | apply ZbT | apply Za1 | apply Zap)); all_goals (first | exact EQ.mk rfl | exact EQ.mk (by first | (simp; done) | fail) | exact EQ.mk (by first | (simp_all; done) | fail))))); done)))
def Zfh : Nat → List Nat
 | 0 => [0, 1]
 | 1 => [0, 1, 10]
 | 2 => [4]
 | 3 => [0, 1, 5]
 | 4 => [0, 1, 5, 14]
 | 5 => [0, 1, 5]
 | 6 => [0, 1, 5, 25]
 | 7 => [4]
 | 8 => [4]
 | _ => []
theorem ZbQ (args : Array Value) (w : World) : (callFunc 126 args).run Tryz.prog w = .ok (.enter 126 args) w := Zaa Tryz.func126 (by decide) rfl args w
set_option maxHeartbeats 1000000 in
theorem Zhh (xs ys : List Int) : Con Tryz.prog 126 [.ints xs, .ints ys] (.bool (decide (xs = ys))) := by
 refine Con.fit ZbQ fun hfit => ?_
 have hb_xs : xs.length ≤ 9223372036854775807 := GFits.ints (show GFits (.ints xs) from hfit 0 (ZL rfl))
 have hb_ys : ys.length ≤ 9223372036854775807 := GFits.ints (show GFits (.ints ys) from hfit 1 (ZL rfl))
 clear hfit
 refine gCon Zfh Zab (rs := [.tmp 4]) (sl := [(0, .g (.ints xs)), (1, .g (.ints ys))]) Tryz.func126 rfl Tryz.ntmps126 rfl ZbQ rfl (by repeat constructor) ?_
 (repeat' (first | ((with_reducible apply gLI.cone); (. exact RF.mk ⟨rfl, rfl⟩)) | (with_reducible constructor) | exact Z2 | exact ZN | exact ZS | (with_reducible intro hc; (try simp only [HCs] at hc)) | exact OB_f | exact ZK | (with_reducible first | apply gNK | apply Zaj | apply Zae | apply Zam | apply Zar | apply Zag | apply ZaG | apply Zak | apply Zai | apply Zas | apply Zal | apply Zau | apply ZaO | apply Zat | apply ZaR | apply Zao) | apply Zaf Zab | apply Za4 Zab rfl | (apply ZaB; exact RF.mk rfl) | (refine Zah (id := 0) (ι := Nat) (fun i => ⟨[(0, .g (.ints xs)), (1, .g (.ints ys)), (5, .g (.i i))], []⟩) (fun i => (i ≤ xs.length) ∧ (∀ z, z < i → (fun i => decide (nth xs i = nth ys i)) z = true) ∧ (xs.length = ys.length)) (fun i => xs.length - i) (0) ?_ ?_ ?_; (. (apply gLX0 <;> (repeat' (first | (with_reducible constructor) | exact Z5 | exact RF.mk (by decide) | (with_reducible apply Zad) | exact ZE)))); (. (exact ⟨by omega, Za6, by omega⟩)); (rintro i ⟨h1, h2, h3⟩; (show TX _ _ _ _ _ [(0, .g (.ints xs)), (1, .g (.ints ys)), (5, .g (.i i))] [] _))) | apply gSel.ccons))
 (all_goals (first | (refine ZaA (i + 1) ?_ ?_ ?_; (· (apply gLX0 <;> (repeat' (first | (with_reducible constructor) | exact Z5 | exact RF.mk (by decide) | (with_reducible apply Zad) | exact ZE)))); (· ((refine ⟨by omega, Za8 h2 ?_, h3⟩; ((try simp only [BOa] at *); (first | omega | assumption | grind))))); (· exact ZW)) | (((refine Zax ?_; first | (rw [eq_comm, decide_eq_false_iff_not]; intro e; subst e; first | exact absurd rfl (by assumption) | simp_all | grind) | (rw [← ZcA (by omega)]; refine (ZaV fun j hj => h2 j (by omega)).symm))); done)))
def ZfA : Nat → List Nat
 | 0 => [0, 1]
 | 1 => [0, 1, 7, 8]
 | 2 => [0, 1, 7, 8, 9]
 | 3 => [0, 1, 5, 7, 8]
 | 4 => [0, 1, 5, 7, 8, 16]
 | 5 => [4]
 | 6 => [0, 1, 7, 8]
 | 7 => [4]
 | _ => []
theorem Zeq (args : Array Value) (w : World) : (callFunc 158 args).run Tryz.prog w = .ok (.enter 158 args) w := Zaa Tryz.func158 (by decide) rfl args w
set_option maxHeartbeats 1000000 in
theorem Zh5 (xs : List Pl) (f : FuncId) (caps : List GV) (p : Pl → Bool) (hf : HY (∀ x : Pl, Con Tryz.prog f (GV.placeP x :: caps) (.bool (p x)))) (hn : NU (xs.length ≤ 1000000)) : Con Tryz.prog 158 [.places xs, .fn f caps] (.i (Zdk xs.length fun i => p (nth xs i))) := by
 have hf := hf.e
 have hn := hn.e
 refine gCon ZfA Zab (rs := [.tmp 4]) (sl := [(0, .g (.places xs)), (1, .g (.fn f caps))]) Tryz.func158 rfl Tryz.ntmps158 rfl Zeq rfl (by repeat constructor) ?_
 (repeat' (first | ((with_reducible apply gLI.cagg); (. exact RF.mk ⟨rfl, rfl, rfl⟩)) | (with_reducible constructor) | exact Z2 | exact ZN | exact ZS | ((with_reducible apply Zaw); first | (exact hf _)) | (with_reducible intro hc; (try simp only [HCs] at hc)) | exact OB_f | (with_reducible first | apply gNK | apply Zaj | apply Zae | apply Zam | apply Zar | apply Zag | apply ZaG | apply Zak | apply Zai | apply Zas | apply Zal | apply Zau | apply ZaO | apply Zat | apply ZaR | apply Zao) | apply Zaf Zab | (apply ZaB; exact RF.mk rfl) | (refine Zah (id := 0) (ι := Nat) (fun i => ⟨[(0, .g (.places xs)), (1, .g (.fn f caps)), (7, .g (.i xs.length)), (8, .g (.i i))], []⟩) (fun i => (i ≤ xs.length) ∧ (∀ z, z < i → (fun i => p (nth xs i)) z = false)) (fun i => xs.length - i) (0) ?_ ?_ ?_; (. (apply gLX0 <;> (repeat' (first | (with_reducible constructor) | exact Z5 | exact RF.mk (by decide) | (with_reducible apply Zad) | exact ZE)))); (. (exact ⟨by omega, Zdu⟩)); (rintro i ⟨h1, h2⟩; (show TX _ _ _ _ _ [(0, .g (.places xs)), (1, .g (.fn f caps)), (7, .g (.i xs.length)), (8, .g (.i i))] [] _))) | apply gSel.ccons))
 (all_goals (first | (refine ZaA (i + 1) ?_ ?_ ?_; (· (apply gLX0 <;> (repeat' (first | (with_reducible constructor) | exact Z5 | exact RF.mk (by decide) | (with_reducible apply Zad) | exact ZE)))); (· ((refine ⟨by omega, ZdC h2 ?_⟩; ((try simp only [BOa] at *); (first | omega | assumption | grind))))); (· exact ZW)) | (((refine Zad (EQ.mk ?_); skip; first | exact Eq.symm (ZbX fun j hj => h2 j (by omega)) | (refine Eq.symm (ZdE i (by omega) ?_ h2); ((try simp only [BOa] at *); (first | omega | assumption | grind))))); done)))
def Zfz : Nat → List Nat
 | 0 => [1, 2, 3]
 | 1 => [4]
 | _ => []
theorem Zel (args : Array Value) (w : World) : (callFunc 159 args).run Tryz.prog w = .ok (.enter 159 args) w := Zaa Tryz.func159 (by decide) rfl args w
set_option maxHeartbeats 1000000 in
theorem ZiE (x : Pl) (u : Int) (r : List Int) : Con Tryz.prog 159 [.placeP x, .box [.i u], .box [.ints r]] (.bool (x.1 == u && decide (x.2 = r))) := by
 refine gCon Zfz Zab (rs := [.tmp 4]) (sl := [(0, .g (.placeP x)), (1, .g (.box [.i u])), (2, .g (.box [.ints r]))]) Tryz.func159 rfl Tryz.ntmps159 rfl Zel rfl (by repeat constructor) ?_
 (repeat' (first | ((with_reducible apply gLB.cone); (. exact RF.mk ⟨rfl, rfl⟩)) | ((with_reducible apply gLI.cone); (. exact RF.mk ⟨rfl, rfl⟩)) | (with_reducible constructor) | exact Z2 | exact ZF | ((with_reducible apply Zaw); first | apply Zlc) | (with_reducible intro hc; (try simp only [HCs] at hc)) | exact OB_f | (with_reducible first | apply gNK | apply Zaj | apply Zae | apply Zai | apply Zao) | apply Zaf Zab | apply gSel.ccons))
 (all_goals (first | (((refine Zax ?_; first | rfl | (simp_all; done))); done)))
def Ziq : Nat → List Nat
 | 0 => [0, 4, 5]
 | 1 => [6]
 | _ => []
theorem ZcT (args : Array Value) (w : World) : (callFunc 143 args).run Tryz.prog w = .ok (.enter 143 args) w := Zaa Tryz.func143 (by decide) rfl args w
set_option maxHeartbeats 1000000 in
theorem Zla (pl : List Pl) (u : Int) (r : List Int) (hn : NU (pl.length ≤ 1000000)) : Con Tryz.prog 143 [.places pl, .i u, .ints r] (.i (fndP pl u r)) := by
 have hn := hn.e
 refine Con.fit ZcT fun hfit => ?_
 have hb_r : r.length ≤ 9223372036854775807 := GFits.ints (show GFits (.ints r) from hfit 2 (ZL rfl))
 clear hfit
 refine gCon Ziq Zab (rs := [.tmp 6]) (sl := [(0, .g (.places pl)), (1, .g (.i u)), (2, .g (.ints r))]) Tryz.func143 rfl Tryz.ntmps143 rfl ZcT rfl (by repeat constructor) ?_
 (repeat' (first | (with_reducible constructor) | exact Z2 | ((with_reducible apply Zaw); first | (exact Zh5 pl 159 [.box [.i u], .box [.ints r]] (fun x => x.1 == u && decide (x.2 = r)) (HY.mk fun x => ZiE x u r) (NU.mk hn))) | exact OB_f | (with_reducible first | apply gNK | apply Zaj | apply Zae | apply Zai) | apply Zaf Zab | apply gSel.ccons))
 (all_goals (first | (((first | (refine Zax ?_; first | (simp_all; done) | (rw [Bool.eq_iff_iff]; simp only [Bool.and_eq_true, Bool.or_eq_true, decide_eq_true_eq, Bool.false_eq_true, false_iff, true_iff, iff_false, iff_true, not_and, not_or, Bool.not_eq_true, decide_eq_false_iff_not, beq_iff_eq, bne_iff_ne, ne_eq, Bool.not_eq_true', Bool.not_eq_false', Int.not_le, Int.not_lt]; omega)) | ((repeat (first | apply ZbK | apply ZaP | apply ZbT | apply Za1 | apply Zap)); all_goals (first | exact EQ.mk rfl | exact EQ.mk (by first | (simp; done) | fail) | exact EQ.mk (by first | (simp_all; done) | fail))))); done)))
def Zib : Nat → List Nat
 | 0 => [0, 1, 2]
 | 1 => [0, 1, 2, 7]
 | 2 => [0, 1, 2, 7, 11]
 | 3 => [0, 1, 2, 7]
 | 4 => [0, 1, 2, 7, 29]
 | 5 => [6]
 | 6 => [6]
 | _ => []
theorem Zc0 (args : Array Value) (w : World) : (callFunc 94 args).run Tryz.prog w = .ok (.enter 94 args) w := Zaa Tryz.func94 (by decide) rfl args w
set_option maxHeartbeats 1000000 in
theorem Zlb (pl : List Pl) (u : Int) (r : List Int) (hn : NU (pl.length ≤ 1000000)) : Con Tryz.prog 94 [.places pl, .i u, .ints r] (.i (fndP pl u r)) := by
 have hn := hn.e
 refine Con.fit Zc0 fun hfit => ?_
 have hb_r : r.length ≤ 9223372036854775807 := GFits.ints (show GFits (.ints r) from hfit 2 (ZL rfl))
 clear hfit
 refine gCon Zib Zab (rs := [.tmp 6]) (sl := [(0, .g (.places pl)), (1, .g (.i u)), (2, .g (.ints r))]) Tryz.func94 rfl Tryz.ntmps94 rfl Zc0 rfl (by repeat constructor) ?_
 (repeat' (first | ((with_reducible apply gLI.cone); (. exact RF.mk ⟨rfl, rfl⟩)) | (with_reducible constructor) | exact Z2 | exact ZN | exact ZS | exact ZF | ((with_reducible apply Zaw); first | apply Zhh) | (with_reducible intro hc; (try simp only [HCs] at hc)) | exact OB_f | (with_reducible first | apply gNK | apply Zaj | apply Zae | apply Zam | apply Zar | apply Zag | apply CK_f | apply ZaG | apply Zak | apply Zai | apply Zas | apply Zal | apply Zau | apply ZaO | apply Zat | apply ZaR | apply Zao) | apply Zaf Zab | (apply ZaB; exact RF.mk rfl) | (refine Zah (id := 0) (ι := Nat) (fun i => ⟨[(0, .g (.places pl)), (1, .g (.i u)), (2, .g (.ints r)), (7, .g (.i i))], []⟩) (fun i => (i ≤ pl.length) ∧ (∀ z, z < i → (fun i => (nth pl i).1 == u && decide ((nth pl i).2 = r)) z = false)) (fun i => pl.length - i) (0) ?_ ?_ ?_; (. (apply gLX0 <;> (repeat' (first | (with_reducible constructor) | exact Z5 | exact RF.mk (by decide) | (with_reducible apply Zad) | exact ZE)))); (. (exact ⟨by omega, Zdu⟩)); (rintro i ⟨h1, h2⟩; (show TX _ _ _ _ _ [(0, .g (.places pl)), (1, .g (.i u)), (2, .g (.ints r)), (7, .g (.i i))] [] _))) | apply gSel.ccons))
 (all_goals (first | (refine ZaA (i + 1) ?_ ?_ ?_; (· (apply gLX0 <;> (repeat' (first | (with_reducible constructor) | exact Z5 | exact RF.mk (by decide) | (with_reducible apply Zad) | exact ZE)))); (· ((refine ⟨by omega, ZdC h2 ?_⟩; ((try simp only [BOa] at *); (first | omega | assumption | grind))))); (· exact ZW)) | (((refine Zad (EQ.mk ?_); (try unfold fndP); first | exact Eq.symm (ZbX fun j hj => h2 j (by omega)) | (refine Eq.symm (ZdE i (by omega) ?_ h2); ((try simp only [BOa] at *); (first | omega | assumption | grind))))); done)))
def ZgG : Nat → List Nat
 | 0 => [0]
 | 1 => [0, 3]
 | 2 => [0, 3, 4]
 | 3 => [0, 3, 4, 11]
 | 4 => [0, 3, 4]
 | 5 => [0, 3, 4, 5]
 | 6 => [0, 3, 4, 5, 29]
 | 7 => [0, 3, 4, 5]
 | 8 => [0, 3, 4, 5, 6]
 | 9 => [0, 3, 4, 5, 6]
 | 10 => [0, 3, 4]
 | 11 => [2]
 | _ => []
theorem Zch (args : Array Value) (w : World) : (callFunc 95 args).run Tryz.prog w = .ok (.enter 95 args) w := Zaa Tryz.func95 (by decide) rfl args w
set_option maxHeartbeats 1000000 in
theorem ZiU (l : List Int) (hn : NU (l.length ≤ 1000)) : Con Tryz.prog 95 [.ints l] (.ints (Zev l)) := by
 have hn := hn.e
 refine Con.fit Zch fun hfit => ?_
 have hb_l : l.length ≤ 9223372036854775807 := GFits.ints (show GFits (.ints l) from hfit 0 (ZL rfl))
 clear hfit
 refine gCon ZgG Zab (rs := [.tmp 2]) (sl := [(0, .g (.ints l))]) Tryz.func95 rfl Tryz.ntmps95 rfl Zch rfl (by repeat constructor) ?_
 (repeat' (first | ((with_reducible apply gLI.cone); (. exact RF.mk ⟨rfl, rfl⟩)) | (with_reducible constructor) | exact Z2 | exact NU.mk QQ73 | exact ZS | exact ZC | ((with_reducible apply Zbk); (. exact ZA); (. exact NU.mk QQ73)) | exact ZQ | (with_reducible intro hc; (try simp only [HCs] at hc)) | exact OB_f | exact ZK | (with_reducible first | apply gNK | apply Zaj | apply Zae | apply Zam | apply Zag | apply CK_f | apply ZaG | apply Zak | apply Zai | apply Zas | apply Zal | apply Zau | apply Zat | apply Zao) | apply Zaf Zab | apply Za4 Zab rfl | (apply ZaB; exact RF.mk rfl) | (refine Zah (id := 0) (ι := Nat × (List Int) × Tg 0) (fun ⟨i, u, _⟩ => ⟨[(0, .g (.ints l)), (3, .own 0 0 u.length), (4, .g (.i i))], [(0, .arr 1 true (u.map GV.i))]⟩) (fun ⟨i, u, _⟩ => (i ≤ l.length) ∧ (u.Pairwise (. ≤ ·)) ∧ (u.Perm (l.take i)) ∧ (u.length = i)) (fun ⟨i, u, _⟩ => l.length - i) (0, [], (Tg.t : Tg 0)) ?_ ?_ ?_; (. (apply gLX1 <;> (repeat' (first | (with_reducible constructor) | exact Z5 | exact RF.mk (by decide) | (with_reducible apply Zad) | exact EQ.mk QQ73)); (all_goals exact QQ74))); (. (exact ⟨by omega, List.Pairwise.nil, by simp, rfl⟩)); (rintro ⟨i, u, _⟩ ⟨h1, h2, h3, h4⟩; (show TX _ _ _ _ _ [(0, .g (.ints l)), (3, .own 0 0 u.length), (4, .g (.i i))] [(0, .arr 1 true (u.map GV.i))] _))) | (refine Zah (id := 2) (ι := Nat × Tg 2) (fun ⟨k, _⟩ => ⟨[(0, .g (.ints l)), (3, .own 0 0 u.length), (4, .g (.i i)), (5, .g (.i k))], [(0, .arr 1 true (u.map GV.i))]⟩) (fun ⟨k, _⟩ => (k ≤ u.length) ∧ (∀ j, k ≤ j → j < u.length → nth l i < nth u j)) (fun ⟨k, _⟩ => k) (u.length, (Tg.t : Tg 2)) ?_ ?_ ?_; (. (apply gLX1 <;> (repeat' (first | (with_reducible constructor) | exact Z5 | exact RF.mk (by decide) | (with_reducible apply Zad) | exact EQ.mk QQ73)); (all_goals exact QQ76))); (. (exact ⟨by omega, fun j h5 h6 => by omega⟩)); (rintro ⟨k, _⟩ ⟨g1, g2⟩; (show TX _ _ _ _ _ [(0, .g (.ints l)), (3, .own 0 0 u.length), (4, .g (.i i)), (5, .g (.i k))] [(0, .arr 1 true (u.map GV.i))] _))) | apply gSel.ccons))
 (all_goals (first | (refine ZaA (i + 1, insP u k (nth l i), (Tg.t : Tg 0)) ?_ ?_ ?_; (· (apply gLX1 <;> (repeat' (first | (with_reducible constructor) | exact Z5 | exact RF.mk (by decide) | (with_reducible apply Zad) | exact EQ.mk QQ73)); (all_goals exact QQ74))); (· ((have hc9 : k = 0 ∨ nth u (k - 1) ≤ nth l i := (by first | (left; omega) | (right; rw [show k - 1 = 0 + ((k : Int) - 1).toNat by omega]; assumption)); have q := Zs7 (l := l) (out := u) (i := i) (k := k) (by omega) h2 h3 g1 hc9 g2; exact ⟨by omega, q.1, q.2, by rw [Zkw]; omega⟩))); (· exact ZW)) | (refine ZaA (k - 1, (Tg.t : Tg 2)) ?_ ?_ ?_; (· (apply gLX1 <;> (repeat' (first | (with_reducible constructor) | exact Z5 | exact RF.mk (by decide) | (with_reducible apply Zad) | exact EQ.mk QQ73)); (all_goals exact QQ76))); (· ((refine ⟨by omega, fun j h5 h6 => ?_⟩; by_cases e9 : j = k - 1; (· rw [e9, show k - 1 = 0 + ((k : Int) - 1).toNat by omega]; assumption); (· exact g2 j (by omega) h6)))); (· exact ZW)) | (((refine Za1 (Zap (EQ.mk ?_)); (try rw [List.drop_zero]); (try rw [List.take_of_length_le (by omega)]); exact Zp5 (by omega) h2 h3)); done)))
end Go.Proofs.YtjjidamlmebaaaaGreat

