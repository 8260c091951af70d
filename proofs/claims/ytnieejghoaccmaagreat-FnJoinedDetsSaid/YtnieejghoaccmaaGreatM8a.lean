/- Contracts: automata joined. No conditions but those that each theorem names. -/
import Derived.Test.YtnieejghoaccmaaGreatTab
import Derived.Test.YtnieejghoaccmaaGreatKG
import Derived.Test.YtnieejghoaccmaaGreatJM
import Derived.Test.YtnieejghoaccmaaGreatPO
import Derived.Test.YtnieejghoaccmaaGreatChecked
set_option linter.unusedSimpArgs false
set_option linter.unusedVariables false
namespace Go.Proofs.YtnieejghoaccmaaGreat
open Go.RowKit
open Shp
theorem Zu8 {p : Prop} (h : p := by first | exact ZO | (first | omega | (have q2 := Znb (os := os) (k := i) (by omega); rw [q2]; decide))) : p := h
theorem ZxL {p : Prop} (h : p := by ((first | exact EQ.mk rfl | exact EQ.mk (by first | (simp; done) | fail) | (refine EQ.mk ?_; simp only [List.length_append, List.length_take, ZdH, List.length_singleton, List.length_cons, List.length_nil]; omega) | (refine EQ.mk ?_; rw [show x = (colR ms t).length by omega, ← Zm9 (by omega), List.map_append, List.take_take, Nat.min_self]; rfl)); done)) : p := h
theorem Zxw {p : Prop} (h : p := by ((first | exact EQ.mk rfl | exact EQ.mk (by first | (simp [ZaJ]; done) | fail) | (refine EQ.mk ?_; first | (rw [← ZfJ (by omega) (by assumption)]; done) | (rw [← ZfJ (by omega) (by assumption)]; simp; done) | (rw [← ZjQ (by omega) (by assumption)]; done)) | (refine Zax (EQ.mk ?_); first | exact ZfJ (by omega) (by assumption) | exact ZjQ (by omega) (by assumption))); done)) : p := h
theorem ZoJ {p : Prop} (h : p := by first | exact ZO | (first | omega | (have q2 := hm x (by omega); omega) | (have q3 := hr_ps (nth ps q) (Zaz (by omega)); omega) | (have q4 := ZcW (s := (nth ps q).1) (xs := colR ms t) (i := x); have q5 := ZcW (s := (nth ps q).2) (xs := colR ms t) (i := x); omega) | (simp only [List.length_take, ZdH]; omega))) : p := h
def ZhJ : Nat → List Nat
 | 0 => [0, 1, 2]
 | 1 => [0, 1, 2, 7]
 | 2 => [0, 1, 2, 7, 11]
 | 3 => [0, 1, 2, 7]
 | 4 => [0, 1, 2, 7, 31]
 | 5 => [6]
 | 6 => [6]
 | _ => []
theorem ZfE (args : Array Value) (w : World) : (callFunc 44 args).run Tryz.prog w = .ok (.enter 44 args) w := Zab Tryz.func44 (by decide) rfl args w
set_option maxHeartbeats 1000000 in
theorem Zgk (os : List (Int × Int)) (p q : Int) (ho : NU (os.length ≤ 4000)) : Con Tryz.prog 44 [.rows (prR os), .i p, .i q] (.i (Zbv os (p, q))) := by
 have ho := ho.e
 have hl := Zbc (os := os)
 refine gCon ZhJ Zac (rs := [.tmp 6]) (sl := [(0, .g (.rows (prR os))), (1, .g (.i p)), (2, .g (.i q))]) Tryz.func44 rfl Tryz.ntmps44 rfl ZfE rfl (by repeat constructor) ?_
 (repeat' (first | ((with_reducible apply gLI.cone); (. exact RF.mk ⟨rfl, rfl⟩)) | (with_reducible constructor) | exact Z2 | exact NU.mk Zu8 | exact ZS | (with_reducible intro hc; (try simp only [HCs] at hc)) | exact OB_f | (with_reducible first | apply gNK | apply Zao | apply Zaf | apply Zal | apply Zan | apply Zai | apply CK_f | apply ZaQ | apply Zam | apply Zap | apply Zau | apply Zak | apply Zas | apply ZaG | apply Zav | apply ZaM | apply Zat) | apply Zah Zac | (apply ZaD; exact RF.mk rfl) | (refine Zaq (id := 0) (ι := Nat) (fun i => ⟨[(0, .g (.rows (prR os))), (1, .g (.i p)), (2, .g (.i q)), (7, .g (.i i))], []⟩) (fun i => (i ≤ os.length) ∧ (∀ z, z < i → decide (nth os z = (p, q)) = false)) (fun i => os.length - i) (0) ?_ ?_ ?_; (. (apply gLX0 <;> (repeat' (first | (with_reducible constructor) | exact Z5 | exact RF.mk (by decide) | (with_reducible apply Zae) | exact EQ.mk Zu8)))); (. (exact ⟨by omega, Zcp⟩)); (rintro i ⟨h1, h2⟩; (show TX _ _ _ _ _ [(0, .g (.rows (prR os))), (1, .g (.i p)), (2, .g (.i q)), (7, .g (.i i))] [] _))) | apply gSel.ccons))
 (all_goals (first | (refine ZaR (i + 1) ?_ ?_ ?_; (· (apply gLX0 <;> (repeat' (first | (with_reducible constructor) | exact Z5 | exact RF.mk (by decide) | (with_reducible apply Zae) | exact EQ.mk Zu8)))); (· ((refine ⟨by omega, Zct h2 ?_⟩; first | exact ZoD (by omega) (by assumption) | exact Zou (by omega) (by assumption)))); (· exact ZW)) | (((refine Zae (EQ.mk ?_); first | exact Zmz (by omega) h2 | exact ZoR (by omega) (by assumption) (by assumption) h2)); done)))
def Zht : Nat → List Nat
 | 0 => [0, 1, 2]
 | 1 => [0, 1, 2, 7]
 | 2 => [0, 1, 2, 7, 8]
 | 3 => [0, 1, 2, 7, 8, 15]
 | 4 => [0, 1, 2, 7, 8]
 | 5 => [0, 1, 2, 7, 8, 9]
 | 6 => [0, 1, 2, 7, 8, 9, 10]
 | 7 => [0, 1, 2, 7, 8, 9, 10, 22]
 | 8 => [0, 1, 2, 7, 8, 9, 10]
 | 9 => [0, 1, 2, 7, 8, 9, 10, 37]
 | 10 => [0, 1, 2, 7, 8, 9, 10]
 | 11 => [0, 1, 2, 7, 8, 9, 10, 56]
 | 12 => [0, 1, 2, 7, 8, 9, 10]
 | 13 => [0, 1, 2, 7, 8]
 | 14 => [6]
 | _ => []
theorem Zdc (args : Array Value) (w : World) : (callFunc 45 args).run Tryz.prog w = .ok (.enter 45 args) w := Zab Tryz.func45 (by decide) rfl args w
set_option maxHeartbeats 1000000 in
theorem ZcU (ps : List (List Int × List Int)) (ms : List (List Int)) (t : Nat) (hm : HY (∀ i, i < ms.length → t < (nth ms i).length)) (hp : NU (ps.length ≤ 4)) (hn : NU (ms.length ≤ 4000)) : Con Tryz.prog 45 [.pairs ps, .rows ms, .i t] (.pairs (Zep ps ms t)) := by
 have hm := hm.e
 have hp := hp.e
 have hn := hn.e
 refine Con.fit Zdc fun hfit => ?_
 have hb_ps : ps.length ≤ 9223372036854775807 := GFits.lenm (show GFits (.pairs ps) from hfit 0 (ZL rfl))
 have hr_ps : ∀ r ∈ ps, r.1.length ≤ 9223372036854775807 ∧ r.2.length ≤ 9223372036854775807 := fun r hr => ⟨GFits.ints (GFits.cell (GFits.elm (show GFits (.pairs ps) from hfit 0 (ZL rfl)) r hr) (.head _)), GFits.ints (GFits.cell (GFits.elm (show GFits (.pairs ps) from hfit 0 (ZL rfl)) r hr) (.tail _ (.head _)))⟩
 have hb_ms : ms.length ≤ 9223372036854775807 := GFits.lenm (show GFits (.rows ms) from hfit 1 (ZL rfl))
 have hr_ms : ∀ r ∈ ms, r.length ≤ 9223372036854775807 := fun r hr => GFits.ints (GFits.elm (show GFits (.rows ms) from hfit 1 (ZL rfl)) r hr)
 clear hfit
 have hcl := Zsg (ms := ms) (t := t); have hpl := ZdH (ps := ps) (ms := ms) (t := t)
 refine gCon Zht Zac (rs := [.tmp 6]) (sl := [(0, .g (.pairs ps)), (1, .g (.rows ms)), (2, .g (.i t))]) Tryz.func45 rfl Tryz.ntmps45 rfl Zdc rfl (by repeat constructor) ?_
 (repeat' (first | ((with_reducible apply gLB.cagg); (. exact RF.mk ⟨rfl, rfl, rfl⟩)) | ((with_reducible apply gLB.cone); (. exact RF.mk ⟨rfl, rfl⟩)) | ((with_reducible apply gLI.cone); (. exact RF.mk ⟨rfl, rfl⟩)) | (with_reducible constructor) | exact Z4 | exact NU.mk ZoJ | exact ZS | exact ZF | exact ZC | ((with_reducible apply Zch); (. exact ZA); (. exact NU.mk ZoJ)) | ((with_reducible apply ZaP); first | apply ZgW) | (with_reducible intro hc; (try simp only [HCs] at hc)) | exact OB_f | exact ZK | (with_reducible first | apply gNK | apply Zao | apply Zaf | apply Zal | apply Zai | apply ZaQ | apply Zam | apply Zap | apply Zau | apply Zak | apply Zas | apply Zav | apply Zat) | apply Zah Zac | apply ZaK Zac rfl | (apply ZaD; exact RF.mk rfl) | (refine Zaq (id := 0) (ι := Nat × Tg 0) (fun ⟨q, _⟩ => ⟨[(0, .g (.pairs ps)), (1, .g (.rows ms)), (2, .g (.i t)), (7, .own 0 0 q), (8, .g (.i q))], [(0, .arr 2 true (((Zep ps ms t).take q).map GV.pairP))]⟩) (fun ⟨q, _⟩ => (q ≤ ps.length)) (fun ⟨q, _⟩ => ps.length - q) (0, (Tg.t : Tg 0)) ?_ ?_ ?_; (. (apply gLX1 <;> (repeat' (first | (with_reducible constructor) | exact Z5 | exact RF.mk (by decide) | (with_reducible apply Zae) | exact EQ.mk ZoJ)); (all_goals exact ZxL))); (. (omega)); (rintro ⟨q, _⟩ h1; (try dsimp only at h1); (show TX _ _ _ _ _ [(0, .g (.pairs ps)), (1, .g (.rows ms)), (2, .g (.i t)), (7, .own 0 0 q), (8, .g (.i q))] [(0, .arr 2 true (((Zep ps ms t).take q).map GV.pairP))] _))) | (refine Zaq (id := 2) (ι := Nat × Tg 2) (fun ⟨x, _⟩ => ⟨[(0, .g (.pairs ps)), (1, .g (.rows ms)), (2, .g (.i t)), (7, .own 0 0 q), (8, .g (.i q)), (9, .ptr 1 0), (10, .g (.i x))], [(0, .arr 2 true (((Zep ps ms t).take q).map GV.pairP)), (1, .box [.own 2 0 (ZaJ (nth ps q).1 (colR ms t) x).length, .own 3 0 (ZaJ (nth ps q).2 (colR ms t) x).length]), (2, .arr 1 true ((ZaJ (nth ps q).1 (colR ms t) x).map GV.i)), (3, .arr 1 true ((ZaJ (nth ps q).2 (colR ms t) x).map GV.i))]⟩) (fun ⟨x, _⟩ => (x ≤ ms.length)) (fun ⟨x, _⟩ => ms.length - x) (0, (Tg.t : Tg 2)) ?_ ?_ ?_; (. (apply Zcn (t := 9) (c := 0) (k := 900200); (. (repeat' (first | (with_reducible constructor) | exact Z4))); (. (repeat' (first | (with_reducible constructor) | exact Z4))); (. exact RF.mk rfl); (. (repeat' (first | (with_reducible constructor) | exact Z4))); (. (apply RF.mk; dsimp only [List.set])); apply Zcn (t := 9) (c := 1) (k := 900201); (. (repeat' (first | (with_reducible constructor) | exact Z4))); (. (repeat' (first | (with_reducible constructor) | exact Z4))); (. exact RF.mk rfl); (. (repeat' (first | (with_reducible constructor) | exact Z4))); (. (apply RF.mk; dsimp only [List.set])); apply gLX4 <;> (repeat' (first | (with_reducible constructor) | exact Z5 | exact RF.mk (by decide) | (with_reducible apply Zae) | exact EQ.mk ZoJ)); (all_goals exact Zxw))); (. (omega)); (rintro ⟨x, _⟩ g1; (try dsimp only at g1); (show TX _ _ _ _ _ [(0, .g (.pairs ps)), (1, .g (.rows ms)), (2, .g (.i t)), (7, .own 0 0 q), (8, .g (.i q)), (9, .ptr 1 0), (10, .g (.i x))] [(0, .arr 2 true (((Zep ps ms t).take q).map GV.pairP)), (1, .box [.own 2 0 (ZaJ (nth ps q).1 (colR ms t) x).length, .own 3 0 (ZaJ (nth ps q).2 (colR ms t) x).length]), (2, .arr 1 true ((ZaJ (nth ps q).1 (colR ms t) x).map GV.i)), (3, .arr 1 true ((ZaJ (nth ps q).2 (colR ms t) x).map GV.i))] _))) | apply gSel.ccons))
 (all_goals (first | (refine ZaR (q + 1, (Tg.t : Tg 0)) ?_ ?_ ?_; (· (apply gLX1 <;> (repeat' (first | (with_reducible constructor) | exact Z5 | exact RF.mk (by decide) | (with_reducible apply Zae) | exact EQ.mk ZoJ)); (all_goals exact ZxL))); (· (omega)); (· exact ZW)) | (refine ZaR (x + 1, (Tg.t : Tg 2)) ?_ ?_ ?_; (· (apply gLX4 <;> (repeat' (first | (with_reducible constructor) | exact Z5 | exact RF.mk (by decide) | (with_reducible apply Zae) | exact EQ.mk ZoJ)); (all_goals exact Zxw))); (· (omega)); (· exact ZW)) | (((refine ZbV (Zax (EQ.mk ?_)); first | rfl | (rw [List.take_take, Nat.min_self]; exact List.take_of_length_le (by omega)) | exact List.take_of_length_le (by omega))); done)))
theorem ZgI (ms : List (List Int)) (t : Nat) (hm : HY (∀ i, i < ms.length → t < (nth ms i).length)) (hp : NU (([] : List (List Int × List Int)).length ≤ 4)) (hn : NU (ms.length ≤ 4000)) : Con Tryz.prog 45 [.pairs [], .rows ms, .i t] (.pairs []) := ZcU [] ms t hm hp hn
theorem Zgf (p : List Int × List Int) (ps : List (List Int × List Int)) (ms : List (List Int)) (t : Nat) (hm : HY (∀ i, i < ms.length → t < (nth ms i).length)) (hp : NU ((p :: ps).length ≤ 4)) (hn : NU (ms.length ≤ 4000)) : Con Tryz.prog 45 [.pairs (p :: ps), .rows ms, .i t] (.pairs (pairP (colR ms t) p :: Zep ps ms t)) := ZcU (p :: ps) ms t hm hp hn
end Go.Proofs.YtnieejghoaccmaaGreat

