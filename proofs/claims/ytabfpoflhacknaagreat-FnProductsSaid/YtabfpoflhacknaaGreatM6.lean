/- Contracts: monitors. No conditions but those that each theorem names. -/
import Derived.Test.YtabfpoflhacknaaGreatTab
import Derived.Test.YtabfpoflhacknaaGreatKG
import Derived.Test.YtabfpoflhacknaaGreatM5
import Derived.Test.YtabfpoflhacknaaGreatChecked
set_option linter.unusedSimpArgs false
set_option linter.unusedVariables false
namespace Go.Proofs.YtabfpoflhacknaaGreat
open Go.RowKit
open Shp
theorem QM64 {p : Prop} (h : p := by ((first | exact EQ.mk rfl | exact EQ.mk (by first | (simp [monP, *]; done) | fail) | (refine EQ.mk ?_; have e := Zbf (k := 3) (by omega); omega) | (refine EQ.mk ?_; simp only [List.length_append, List.length_take, Zat, Zan, List.length_singleton]; omega) | (refine Zau (EQ.mk ?_); simp only [List.take_take, Nat.min_self]; rw [List.take_of_length_le (l := ZaL 3 a b (Zaa i o).toNat (q : Int)) (by rw [Zat]; omega)]; exact Za4 (by omega)) | (refine EQ.mk ?_; simp only [List.take_take, Nat.min_self]; rw [List.take_of_length_le (l := ZaL 3 a b (Zaa i o).toNat (q : Int)) (by rw [Zat]; omega), ← Za4 (by omega), h2]; rfl) | (exfalso; omega) | (refine Zau (EQ.mk ?_); rw [← Za4 (by omega), List.take_of_length_le (by rw [Zat]; omega)])); done)) : p := h
theorem QM63 {p : Prop} (h : p := by ((first | exact EQ.mk rfl | exact EQ.mk (by first | (simp [monP, *]; done) | fail) | (refine EQ.mk ?_; have e := Zbf (k := 2) (by omega); omega) | (refine EQ.mk ?_; simp only [List.length_append, List.length_take, Zat, Zan, List.length_singleton]; omega) | (refine Zau (EQ.mk ?_); simp only [List.take_take, Nat.min_self]; rw [List.take_of_length_le (l := ZaL 2 a b (Zaa i o).toNat (q : Int)) (by rw [Zat]; omega)]; exact Za4 (by omega)) | (refine EQ.mk ?_; simp only [List.take_take, Nat.min_self]; rw [List.take_of_length_le (l := ZaL 2 a b (Zaa i o).toNat (q : Int)) (by rw [Zat]; omega), ← Za4 (by omega), h2]; rfl) | (exfalso; omega) | (refine Zau (EQ.mk ?_); rw [← Za4 (by omega), List.take_of_length_le (by rw [Zat]; omega)])); done)) : p := h
theorem QM62 {p : Prop} (h : p := by ((first | exact EQ.mk rfl | exact EQ.mk (by first | (simp [monP, *]; done) | fail) | (refine EQ.mk ?_; have e := Zbf (k := 1) (by omega); omega) | (refine EQ.mk ?_; simp only [List.length_append, List.length_take, Zat, Zan, List.length_singleton]; omega) | (refine Zau (EQ.mk ?_); simp only [List.take_take, Nat.min_self]; rw [List.take_of_length_le (l := ZaL 1 a b (Zaa i o).toNat (q : Int)) (by rw [Zat]; omega)]; exact Za4 (by omega)) | (refine EQ.mk ?_; simp only [List.take_take, Nat.min_self]; rw [List.take_of_length_le (l := ZaL 1 a b (Zaa i o).toNat (q : Int)) (by rw [Zat]; omega), ← Za4 (by omega), h2]; rfl) | (exfalso; omega) | (refine Zau (EQ.mk ?_); rw [← Za4 (by omega), List.take_of_length_le (by rw [Zat]; omega)])); done)) : p := h
theorem QM61 {p : Prop} (h : p := by ((first | exact EQ.mk rfl | exact Zau (EQ.mk (Zey (by omega))) | exact EQ.mk (by first | (simp; done) | fail) | (refine EQ.mk ?_; simp only [List.length_append, List.length_take, Zat, Zan, List.length_singleton]; omega) | (refine Zau (EQ.mk ?_); rw [List.take_take, Nat.min_self]; exact Zey (by omega))); done)) : p := h
theorem QM60 {p : Prop} (h : p := by first | exact ZO | (first | omega | (have q := Zks hs; omega) | (simp only [List.length_take, Zan]; omega) | (simp only [List.length_take, Zat]; omega))) : p := h
def Zgc : Nat → List Nat
 | 0 => [0, 1, 2, 3]
 | 1 => [0, 1, 2, 3, 9, 10]
 | 2 => [0, 1, 3, 9, 10, 11]
 | 3 => [0, 1, 3, 9, 10]
 | 4 => [0, 1, 3, 9, 10, 12]
 | 5 => [0, 1, 3, 9, 10]
 | 6 => [1, 3, 9, 10, 13]
 | 7 => [1, 3, 9, 10, 13, 14]
 | 8 => [8]
 | 9 => [1, 3, 9, 10, 13, 20]
 | 10 => [9, 31]
 | 11 => [8]
 | 12 => [8]
 | 13 => [1, 3, 9, 10, 13, 33]
 | 14 => [1, 9, 35]
 | 15 => [8]
 | 16 => [8]
 | 17 => [1, 9, 10, 13, 39]
 | 18 => [8]
 | 19 => [1, 9, 10, 13, 42]
 | 20 => [8]
 | 21 => [1, 9, 10, 46]
 | 22 => [8]
 | 23 => [8]
 | _ => []
theorem ZeP (args : Array Value) (w : World) : (callFunc 79 args).run Tryz.prog w = .ok (.enter 79 args) w := Zab Tryz.func79 (by decide) rfl args w
set_option maxHeartbeats 1000000 in
theorem ZaK (k q : Int) (a b : Bool) (hq : NU (0 ≤ q ∧ q ≤ 100)) : Con Tryz.prog 79 [.i k, .i q, .bool a, .bool b] (.i (ZbT k q a b)) := by
 have hq := hq.e
 refine gCon Zgc Zad (rs := [.tmp 8]) (sl := [(0, .g (.i k)), (1, .g (.i q)), (2, .g (.bool a)), (3, .g (.bool b))]) Tryz.func79 rfl Tryz.ntmps79 rfl ZeP rfl (by repeat constructor) ?_
 (repeat' (first | (with_reducible constructor) | exact Z2 | exact ZN | (with_reducible intro hc; (try simp only [HCs] at hc)) | exact OB_f | (with_reducible first | apply gNK | apply Zam | apply Zaf | apply ZaC | apply Zai | apply CK_t | apply CK_f | apply ZaR | apply Zar | apply Zas | apply Zaw | apply Za3 | apply Zav) | apply Zah Zad | (apply ZaF; exact RF.mk rfl) | apply gSel.ccons))
 (all_goals (first | (((refine Zae (EQ.mk ?_); unfold ZbT bit; simp_all; try omega)); done)))
def ZfJ : Nat → List Nat
 | 0 => [2, 3, 4]
 | 1 => [2, 3, 4, 5]
 | 2 => [2, 3, 4, 5, 6]
 | 3 => [2, 3, 4, 5, 6, 13]
 | 4 => [2, 3, 4, 5, 6]
 | 5 => [2, 3, 4, 5, 6]
 | 6 => [2, 3, 4, 5, 6, 13, 17]
 | 7 => [2, 3, 4, 5, 6, 13, 17]
 | 8 => [2, 3, 4, 5, 6]
 | 9 => [2, 3, 4, 5, 6, 13, 22]
 | 10 => [2, 3, 4, 5, 6]
 | 11 => [2, 3, 4, 5, 6]
 | 12 => [2, 3, 4, 5, 6, 13, 26]
 | 13 => [2, 3, 4, 5, 6]
 | 14 => [2, 3, 4, 5, 6, 13, 31]
 | 15 => [2, 3, 4, 5, 6]
 | 16 => [2, 3, 4, 5, 6, 36]
 | 17 => [2, 3, 4, 5, 6]
 | 18 => [2, 3, 4, 5, 7]
 | 19 => [2, 3, 4, 7, 43, 44]
 | 20 => [2, 3, 4, 7, 43, 44, 45]
 | 21 => [2, 3, 4, 7, 8, 43, 44]
 | 22 => [2, 3, 4, 7, 8, 9, 43, 44]
 | 23 => [2, 3, 4, 7, 8, 9, 43, 44, 49, 50]
 | 24 => [2, 3, 4, 7, 8, 9, 43, 44, 49, 50, 51]
 | 25 => [2, 3, 4, 7, 8, 9, 10, 43, 44, 49, 50]
 | 26 => [2, 3, 4, 7, 8, 9, 43, 44, 49, 50]
 | 27 => [2, 3, 4, 7, 8, 9, 43, 44, 49, 50]
 | 28 => [2, 3, 4, 7, 43, 44]
 | 29 => [2, 3, 4, 7, 43, 44]
 | 30 => [4]
 | _ => []
theorem Zck (args : Array Value) (w : World) : (callFunc 42 args).run Tryz.prog w = .ok (.enter 42 args) w := Zab Tryz.func42 (by decide) rfl args w
set_option maxHeartbeats 4000000 in
theorem Zhh (i o : Int) (a b : List Int) (hs : HY (sigB i o = true)) : Con Tryz.prog 42 [.sig i o, .clause 1 a b] (.det (monN 1 a b (Zaa i o).toNat) [monP 1]) := by
 have hs := hs.e
 refine Con.fit Zck fun hfit => ?_
 have hb_a : a.length ≤ 9223372036854775807 := GFits.ints (GFits.cell (show GFits (.clause 1 a b) from hfit 1 (ZL rfl)) (.tail _ (.head _)))
 have hb_b : b.length ≤ 9223372036854775807 := GFits.ints (GFits.cell (show GFits (.clause 1 a b) from hfit 1 (ZL rfl)) (.tail _ (.tail _ (.head _))))
 clear hfit
 have hlp := ZaW hs; have hmm := Zbf (k := 1) (by omega); have hmp := Zgh (k := 1) (by omega)
 refine gCon ZfJ Zad (rs := [.cell 4 29]) (sl := [(0, .g (.sig i o)), (1, .g (.clause 1 a b))]) Tryz.func42 rfl Tryz.ntmps42 rfl Zck rfl (by repeat constructor) ?_
 (repeat' (first | ((with_reducible apply gLB.cagg); (. exact RF.mk ⟨rfl, rfl, rfl⟩)) | ((with_reducible apply gLB.cone); (. exact RF.mk ⟨rfl, rfl⟩)) | (with_reducible constructor) | exact Z4 | exact NU.mk QM60 | exact ZS | exact ZF | exact ZC | ((with_reducible apply Zbv); (. exact ZA); (. exact NU.mk QM60)) | ((with_reducible apply ZaA); first | apply ZaD | apply Zaz | apply ZaK) | (with_reducible intro hc; (try simp only [HCs] at hc)) | exact OB_f | exact ZK | (with_reducible first | apply gNK | apply Zam | apply Zaf | apply Zaq | apply Zai | apply ZaR | apply Zar | apply Zas | apply Zay | apply Zap | apply Zaw | apply Zax | apply Zav) | apply Zah Zad | apply ZaQ Zad rfl | (apply ZaF; exact RF.mk rfl) | (refine Zak (id := 1) (ι := Nat × Bool × Tg 1) (fun ⟨q, u, _⟩ => (cond u ⟨[(2, .ptr 3 0), (3, .ptr 4 0), (4, .ptr 0 0), (7, .ptr 1 0), (43, .g (.i (Zaj 1))), (44, .g (.i q))], [(0, .box [.nils 1, .nils 2]), (1, .box [.nils 1, .own 2 0 1]), (2, .arr 2 true [.pairP (monP 1)]), (3, .box [.g (.i i), .g (.i o)]), (4, .box [.g (.i 1), .g (.ints a), .g (.ints b)])]⟩ ⟨[(2, .ptr 4 0), (3, .ptr 5 0), (4, .ptr 0 0), (7, .ptr 1 0), (43, .g (.i (Zaj 1))), (44, .g (.i q))], [(0, .box [.nils 1, .nils 2]), (1, .box [.own 3 0 q, .own 2 0 1]), (2, .arr 2 true [.pairP (monP 1)]), (3, .arr 1 true (((monN 1 a b (Zaa i o).toNat).take q).map GV.ints)), (4, .box [.g (.i i), .g (.i o)]), (5, .box [.g (.i 1), .g (.ints a), .g (.ints b)])]⟩)) (fun ⟨q, u, _⟩ => (q ≤ Zaj 1) ∧ (cond u (q = 0) (1 ≤ q))) (fun ⟨q, u, _⟩ => Zaj 1 - q) (0, true, (Tg.t : Tg 1)) ?_ ?_ ?_; (. ((first | apply gLX0 | apply gLX1 | apply gLX2 | apply gLX3 | apply gLX4 | apply gLX5 | apply gLX6 | apply gLX7 | apply gLX8 | apply gLX9 | apply ZbF) <;> (repeat' (first | (with_reducible constructor) | exact Z5 | exact RF.mk (by decide) | (with_reducible apply Zae) | exact EQ.mk QM60)); (all_goals exact QM62))); (. (exact ⟨by omega, rfl⟩)); (rintro ⟨q, u, _⟩ ⟨h1, h2⟩; have z1 := Zbl 1; have z2 := ZaE i o; rcases u with _ | _; (try simp only [cond_true, cond_false] at *); (show TX _ _ _ _ _ [(2, .ptr 4 0), (3, .ptr 5 0), (4, .ptr 0 0), (7, .ptr 1 0), (43, .g (.i (Zaj 1))), (44, .g (.i q))] [(0, .box [.nils 1, .nils 2]), (1, .box [.own 3 0 q, .own 2 0 1]), (2, .arr 2 true [.pairP (monP 1)]), (3, .arr 1 true (((monN 1 a b (Zaa i o).toNat).take q).map GV.ints)), (4, .box [.g (.i i), .g (.i o)]), (5, .box [.g (.i 1), .g (.ints a), .g (.ints b)])] _); rotate_left 1; (try simp only [cond_true, cond_false] at *); (show TX _ _ _ _ _ [(2, .ptr 3 0), (3, .ptr 4 0), (4, .ptr 0 0), (7, .ptr 1 0), (43, .g (.i (Zaj 1))), (44, .g (.i q))] [(0, .box [.nils 1, .nils 2]), (1, .box [.nils 1, .own 2 0 1]), (2, .arr 2 true [.pairP (monP 1)]), (3, .box [.g (.i i), .g (.i o)]), (4, .box [.g (.i 1), .g (.ints a), .g (.ints b)])] _))) | (refine Zak (id := 3) (ι := Nat × Tg 3) (fun ⟨x, _⟩ => ⟨[(2, .ptr 5 0), (3, .ptr 6 0), (4, .ptr 0 0), (7, .ptr 1 0), (8, .g (.i q)), (9, .own 4 0 x), (43, .g (.i (Zaj 1))), (44, .g (.i q)), (49, .g (.i (Zaa i o))), (50, .g (.i x))], [(0, .box [.nils 1, .nils 2]), (1, .box [.own 3 0 q, .own 2 0 1]), (2, .arr 2 true [.pairP (monP 1)]), (3, .arr 1 true (((monN 1 a b (Zaa i o).toNat).take q).map GV.ints)), (4, .arr 1 true (((ZaL 1 a b (Zaa i o).toNat q).take x).map GV.i)), (5, .box [.g (.i i), .g (.i o)]), (6, .box [.g (.i 1), .g (.ints a), .g (.ints b)])]⟩) (fun ⟨x, _⟩ => (x ≤ (Zaa i o).toNat)) (fun ⟨x, _⟩ => (Zaa i o).toNat - x) (0, (Tg.t : Tg 3)) ?_ ?_ ?_; (. (apply gLX7 <;> (repeat' (first | (with_reducible constructor) | exact Z5 | exact RF.mk (by decide) | (with_reducible apply Zae) | exact EQ.mk QM60)); (all_goals exact QM61))); (. (omega)); (rintro ⟨x, _⟩ g1; (try dsimp only at g1); (show TX _ _ _ _ _ [(2, .ptr 5 0), (3, .ptr 6 0), (4, .ptr 0 0), (7, .ptr 1 0), (8, .g (.i q)), (9, .own 4 0 x), (43, .g (.i (Zaj 1))), (44, .g (.i q)), (49, .g (.i (Zaa i o))), (50, .g (.i x))] [(0, .box [.nils 1, .nils 2]), (1, .box [.own 3 0 q, .own 2 0 1]), (2, .arr 2 true [.pairP (monP 1)]), (3, .arr 1 true (((monN 1 a b (Zaa i o).toNat).take q).map GV.ints)), (4, .arr 1 true (((ZaL 1 a b (Zaa i o).toNat q).take x).map GV.i)), (5, .box [.g (.i i), .g (.i o)]), (6, .box [.g (.i 1), .g (.ints a), .g (.ints b)])] _))) | (refine Zak (id := 3) (ι := Nat × Tg 3) (fun ⟨x, _⟩ => ⟨[(2, .ptr 4 0), (3, .ptr 5 0), (4, .ptr 0 0), (7, .ptr 1 0), (8, .g (.i q)), (9, .own 3 0 x), (43, .g (.i (Zaj 1))), (44, .g (.i q)), (49, .g (.i (Zaa i o))), (50, .g (.i x))], [(0, .box [.nils 1, .nils 2]), (1, .box [.nils 1, .own 2 0 1]), (2, .arr 2 true [.pairP (monP 1)]), (3, .arr 1 true (((ZaL 1 a b (Zaa i o).toNat q).take x).map GV.i)), (4, .box [.g (.i i), .g (.i o)]), (5, .box [.g (.i 1), .g (.ints a), .g (.ints b)])]⟩) (fun ⟨x, _⟩ => (x ≤ (Zaa i o).toNat)) (fun ⟨x, _⟩ => (Zaa i o).toNat - x) (0, (Tg.t : Tg 3)) ?_ ?_ ?_; (. ((first | apply gLX0 | apply gLX1 | apply gLX2 | apply gLX3 | apply gLX4 | apply gLX5 | apply gLX6 | apply gLX7 | apply gLX8 | apply gLX9 | apply ZbF) <;> (repeat' (first | (with_reducible constructor) | exact Z5 | exact RF.mk (by decide) | (with_reducible apply Zae) | exact EQ.mk QM60)); (all_goals exact QM61))); (. (omega)); (rintro ⟨x, _⟩ g1; (try dsimp only at g1); (show TX _ _ _ _ _ [(2, .ptr 4 0), (3, .ptr 5 0), (4, .ptr 0 0), (7, .ptr 1 0), (8, .g (.i q)), (9, .own 3 0 x), (43, .g (.i (Zaj 1))), (44, .g (.i q)), (49, .g (.i (Zaa i o))), (50, .g (.i x))] [(0, .box [.nils 1, .nils 2]), (1, .box [.nils 1, .own 2 0 1]), (2, .arr 2 true [.pairP (monP 1)]), (3, .arr 1 true (((ZaL 1 a b (Zaa i o).toNat q).take x).map GV.i)), (4, .box [.g (.i i), .g (.i o)]), (5, .box [.g (.i 1), .g (.ints a), .g (.ints b)])] _))) | apply gSel.ccons))
 (all_goals (first | (exfalso; omega) | (refine ZaJ (q + 1, false, (Tg.t : Tg 1)) ?_ ?_ ?_; (· ((first | apply gLX0 | apply gLX1 | apply gLX2 | apply gLX3 | apply gLX4 | apply gLX5 | apply gLX6 | apply gLX7 | apply gLX8 | apply gLX9 | apply ZbF) <;> (repeat' (first | (with_reducible constructor) | exact Z5 | exact RF.mk (by decide) | (with_reducible apply Zae) | exact EQ.mk QM60)); (all_goals exact QM62))); (· (exact ⟨by omega, (by show 1 ≤ q + 1; omega)⟩)); (· exact ZW)) | (refine ZaJ (x + 1, (Tg.t : Tg 3)) ?_ ?_ ?_; (· ((first | apply gLX0 | apply gLX1 | apply gLX2 | apply gLX3 | apply gLX4 | apply gLX5 | apply gLX6 | apply gLX7 | apply gLX8 | apply gLX9 | apply ZbF) <;> (repeat' (first | (with_reducible constructor) | exact Z5 | exact RF.mk (by decide) | (with_reducible apply Zae) | exact EQ.mk QM60)); (all_goals exact QM61))); (· (omega)); (· exact ZW)) | (((refine ZbL (Zbb (Zby (Zau (EQ.mk ?_))) (EQ.mk rfl)); first | rw [Zbk (by rw [Zan]; omega)] | rw [List.take_of_length_le (by rw [Zan]; omega)])); done)))
def ZfM : Nat → List Nat
 | 0 => [2, 3, 4]
 | 1 => [2, 3, 4, 5]
 | 2 => [2, 3, 4, 5, 6]
 | 3 => [2, 3, 4, 5, 6, 13]
 | 4 => [2, 3, 4, 5, 6]
 | 5 => [2, 3, 4, 5, 6]
 | 6 => [2, 3, 4, 5, 6, 13, 17]
 | 7 => [2, 3, 4, 5, 6, 13, 17]
 | 8 => [2, 3, 4, 5, 6]
 | 9 => [2, 3, 4, 5, 6, 13, 22]
 | 10 => [2, 3, 4, 5, 6]
 | 11 => [2, 3, 4, 5, 6]
 | 12 => [2, 3, 4, 5, 6, 13, 26]
 | 13 => [2, 3, 4, 5, 6]
 | 14 => [2, 3, 4, 5, 6, 13, 31]
 | 15 => [2, 3, 4, 5, 6]
 | 16 => [2, 3, 4, 5, 6, 36]
 | 17 => [2, 3, 4, 5, 6]
 | 18 => [2, 3, 4, 5, 7]
 | 19 => [2, 3, 4, 7, 43, 44]
 | 20 => [2, 3, 4, 7, 43, 44, 45]
 | 21 => [2, 3, 4, 7, 8, 43, 44]
 | 22 => [2, 3, 4, 7, 8, 9, 43, 44]
 | 23 => [2, 3, 4, 7, 8, 9, 43, 44, 49, 50]
 | 24 => [2, 3, 4, 7, 8, 9, 43, 44, 49, 50, 51]
 | 25 => [2, 3, 4, 7, 8, 9, 10, 43, 44, 49, 50]
 | 26 => [2, 3, 4, 7, 8, 9, 43, 44, 49, 50]
 | 27 => [2, 3, 4, 7, 8, 9, 43, 44, 49, 50]
 | 28 => [2, 3, 4, 7, 43, 44]
 | 29 => [2, 3, 4, 7, 43, 44]
 | 30 => [4]
 | _ => []
theorem Zcm (args : Array Value) (w : World) : (callFunc 42 args).run Tryz.prog w = .ok (.enter 42 args) w := Zab Tryz.func42 (by decide) rfl args w
set_option maxHeartbeats 4000000 in
theorem Zhw (i o : Int) (a b : List Int) (hs : HY (sigB i o = true)) : Con Tryz.prog 42 [.sig i o, .clause 2 a b] (.det (monN 2 a b (Zaa i o).toNat) [monP 2]) := by
 have hs := hs.e
 refine Con.fit Zcm fun hfit => ?_
 have hb_a : a.length ≤ 9223372036854775807 := GFits.ints (GFits.cell (show GFits (.clause 2 a b) from hfit 1 (ZL rfl)) (.tail _ (.head _)))
 have hb_b : b.length ≤ 9223372036854775807 := GFits.ints (GFits.cell (show GFits (.clause 2 a b) from hfit 1 (ZL rfl)) (.tail _ (.tail _ (.head _))))
 clear hfit
 have hlp := ZaW hs; have hmm := Zbf (k := 2) (by omega); have hmp := Zgh (k := 2) (by omega)
 refine gCon ZfM Zad (rs := [.cell 4 29]) (sl := [(0, .g (.sig i o)), (1, .g (.clause 2 a b))]) Tryz.func42 rfl Tryz.ntmps42 rfl Zcm rfl (by repeat constructor) ?_
 (repeat' (first | ((with_reducible apply gLB.cagg); (. exact RF.mk ⟨rfl, rfl, rfl⟩)) | ((with_reducible apply gLB.cone); (. exact RF.mk ⟨rfl, rfl⟩)) | (with_reducible constructor) | exact Z4 | exact NU.mk QM60 | exact ZS | exact ZF | exact ZC | ((with_reducible apply Zbv); (. exact ZA); (. exact NU.mk QM60)) | ((with_reducible apply ZaA); first | apply ZaD | apply Zaz | apply ZaK) | (with_reducible intro hc; (try simp only [HCs] at hc)) | exact OB_f | exact ZK | (with_reducible first | apply gNK | apply Zam | apply Zaf | apply Zaq | apply Zai | apply ZaR | apply Zar | apply Zas | apply Zay | apply Zap | apply Zaw | apply Zax | apply Zav) | apply Zah Zad | apply ZaQ Zad rfl | (apply ZaF; exact RF.mk rfl) | (refine Zak (id := 1) (ι := Nat × Bool × Tg 1) (fun ⟨q, u, _⟩ => (cond u ⟨[(2, .ptr 3 0), (3, .ptr 4 0), (4, .ptr 0 0), (7, .ptr 1 0), (43, .g (.i (Zaj 2))), (44, .g (.i q))], [(0, .box [.nils 1, .nils 2]), (1, .box [.nils 1, .own 2 0 1]), (2, .arr 2 true [.pairP (monP 2)]), (3, .box [.g (.i i), .g (.i o)]), (4, .box [.g (.i 2), .g (.ints a), .g (.ints b)])]⟩ ⟨[(2, .ptr 4 0), (3, .ptr 5 0), (4, .ptr 0 0), (7, .ptr 1 0), (43, .g (.i (Zaj 2))), (44, .g (.i q))], [(0, .box [.nils 1, .nils 2]), (1, .box [.own 3 0 q, .own 2 0 1]), (2, .arr 2 true [.pairP (monP 2)]), (3, .arr 1 true (((monN 2 a b (Zaa i o).toNat).take q).map GV.ints)), (4, .box [.g (.i i), .g (.i o)]), (5, .box [.g (.i 2), .g (.ints a), .g (.ints b)])]⟩)) (fun ⟨q, u, _⟩ => (q ≤ Zaj 2) ∧ (cond u (q = 0) (1 ≤ q))) (fun ⟨q, u, _⟩ => Zaj 2 - q) (0, true, (Tg.t : Tg 1)) ?_ ?_ ?_; (. ((first | apply gLX0 | apply gLX1 | apply gLX2 | apply gLX3 | apply gLX4 | apply gLX5 | apply gLX6 | apply gLX7 | apply gLX8 | apply gLX9 | apply ZbF) <;> (repeat' (first | (with_reducible constructor) | exact Z5 | exact RF.mk (by decide) | (with_reducible apply Zae) | exact EQ.mk QM60)); (all_goals exact QM63))); (. (exact ⟨by omega, rfl⟩)); (rintro ⟨q, u, _⟩ ⟨h1, h2⟩; have z1 := Zbl 2; have z2 := ZaE i o; rcases u with _ | _; (try simp only [cond_true, cond_false] at *); (show TX _ _ _ _ _ [(2, .ptr 4 0), (3, .ptr 5 0), (4, .ptr 0 0), (7, .ptr 1 0), (43, .g (.i (Zaj 2))), (44, .g (.i q))] [(0, .box [.nils 1, .nils 2]), (1, .box [.own 3 0 q, .own 2 0 1]), (2, .arr 2 true [.pairP (monP 2)]), (3, .arr 1 true (((monN 2 a b (Zaa i o).toNat).take q).map GV.ints)), (4, .box [.g (.i i), .g (.i o)]), (5, .box [.g (.i 2), .g (.ints a), .g (.ints b)])] _); rotate_left 1; (try simp only [cond_true, cond_false] at *); (show TX _ _ _ _ _ [(2, .ptr 3 0), (3, .ptr 4 0), (4, .ptr 0 0), (7, .ptr 1 0), (43, .g (.i (Zaj 2))), (44, .g (.i q))] [(0, .box [.nils 1, .nils 2]), (1, .box [.nils 1, .own 2 0 1]), (2, .arr 2 true [.pairP (monP 2)]), (3, .box [.g (.i i), .g (.i o)]), (4, .box [.g (.i 2), .g (.ints a), .g (.ints b)])] _))) | (refine Zak (id := 3) (ι := Nat × Tg 3) (fun ⟨x, _⟩ => ⟨[(2, .ptr 5 0), (3, .ptr 6 0), (4, .ptr 0 0), (7, .ptr 1 0), (8, .g (.i q)), (9, .own 4 0 x), (43, .g (.i (Zaj 2))), (44, .g (.i q)), (49, .g (.i (Zaa i o))), (50, .g (.i x))], [(0, .box [.nils 1, .nils 2]), (1, .box [.own 3 0 q, .own 2 0 1]), (2, .arr 2 true [.pairP (monP 2)]), (3, .arr 1 true (((monN 2 a b (Zaa i o).toNat).take q).map GV.ints)), (4, .arr 1 true (((ZaL 2 a b (Zaa i o).toNat q).take x).map GV.i)), (5, .box [.g (.i i), .g (.i o)]), (6, .box [.g (.i 2), .g (.ints a), .g (.ints b)])]⟩) (fun ⟨x, _⟩ => (x ≤ (Zaa i o).toNat)) (fun ⟨x, _⟩ => (Zaa i o).toNat - x) (0, (Tg.t : Tg 3)) ?_ ?_ ?_; (. (apply gLX7 <;> (repeat' (first | (with_reducible constructor) | exact Z5 | exact RF.mk (by decide) | (with_reducible apply Zae) | exact EQ.mk QM60)); (all_goals exact QM61))); (. (omega)); (rintro ⟨x, _⟩ g1; (try dsimp only at g1); (show TX _ _ _ _ _ [(2, .ptr 5 0), (3, .ptr 6 0), (4, .ptr 0 0), (7, .ptr 1 0), (8, .g (.i q)), (9, .own 4 0 x), (43, .g (.i (Zaj 2))), (44, .g (.i q)), (49, .g (.i (Zaa i o))), (50, .g (.i x))] [(0, .box [.nils 1, .nils 2]), (1, .box [.own 3 0 q, .own 2 0 1]), (2, .arr 2 true [.pairP (monP 2)]), (3, .arr 1 true (((monN 2 a b (Zaa i o).toNat).take q).map GV.ints)), (4, .arr 1 true (((ZaL 2 a b (Zaa i o).toNat q).take x).map GV.i)), (5, .box [.g (.i i), .g (.i o)]), (6, .box [.g (.i 2), .g (.ints a), .g (.ints b)])] _))) | (refine Zak (id := 3) (ι := Nat × Tg 3) (fun ⟨x, _⟩ => ⟨[(2, .ptr 4 0), (3, .ptr 5 0), (4, .ptr 0 0), (7, .ptr 1 0), (8, .g (.i q)), (9, .own 3 0 x), (43, .g (.i (Zaj 2))), (44, .g (.i q)), (49, .g (.i (Zaa i o))), (50, .g (.i x))], [(0, .box [.nils 1, .nils 2]), (1, .box [.nils 1, .own 2 0 1]), (2, .arr 2 true [.pairP (monP 2)]), (3, .arr 1 true (((ZaL 2 a b (Zaa i o).toNat q).take x).map GV.i)), (4, .box [.g (.i i), .g (.i o)]), (5, .box [.g (.i 2), .g (.ints a), .g (.ints b)])]⟩) (fun ⟨x, _⟩ => (x ≤ (Zaa i o).toNat)) (fun ⟨x, _⟩ => (Zaa i o).toNat - x) (0, (Tg.t : Tg 3)) ?_ ?_ ?_; (. ((first | apply gLX0 | apply gLX1 | apply gLX2 | apply gLX3 | apply gLX4 | apply gLX5 | apply gLX6 | apply gLX7 | apply gLX8 | apply gLX9 | apply ZbF) <;> (repeat' (first | (with_reducible constructor) | exact Z5 | exact RF.mk (by decide) | (with_reducible apply Zae) | exact EQ.mk QM60)); (all_goals exact QM61))); (. (omega)); (rintro ⟨x, _⟩ g1; (try dsimp only at g1); (show TX _ _ _ _ _ [(2, .ptr 4 0), (3, .ptr 5 0), (4, .ptr 0 0), (7, .ptr 1 0), (8, .g (.i q)), (9, .own 3 0 x), (43, .g (.i (Zaj 2))), (44, .g (.i q)), (49, .g (.i (Zaa i o))), (50, .g (.i x))] [(0, .box [.nils 1, .nils 2]), (1, .box [.nils 1, .own 2 0 1]), (2, .arr 2 true [.pairP (monP 2)]), (3, .arr 1 true (((ZaL 2 a b (Zaa i o).toNat q).take x).map GV.i)), (4, .box [.g (.i i), .g (.i o)]), (5, .box [.g (.i 2), .g (.ints a), .g (.ints b)])] _))) | apply gSel.ccons))
 (all_goals (first | (exfalso; omega) | (refine ZaJ (q + 1, false, (Tg.t : Tg 1)) ?_ ?_ ?_; (· ((first | apply gLX0 | apply gLX1 | apply gLX2 | apply gLX3 | apply gLX4 | apply gLX5 | apply gLX6 | apply gLX7 | apply gLX8 | apply gLX9 | apply ZbF) <;> (repeat' (first | (with_reducible constructor) | exact Z5 | exact RF.mk (by decide) | (with_reducible apply Zae) | exact EQ.mk QM60)); (all_goals exact QM63))); (· (exact ⟨by omega, (by show 1 ≤ q + 1; omega)⟩)); (· exact ZW)) | (refine ZaJ (x + 1, (Tg.t : Tg 3)) ?_ ?_ ?_; (· ((first | apply gLX0 | apply gLX1 | apply gLX2 | apply gLX3 | apply gLX4 | apply gLX5 | apply gLX6 | apply gLX7 | apply gLX8 | apply gLX9 | apply ZbF) <;> (repeat' (first | (with_reducible constructor) | exact Z5 | exact RF.mk (by decide) | (with_reducible apply Zae) | exact EQ.mk QM60)); (all_goals exact QM61))); (· (omega)); (· exact ZW)) | (((refine ZbL (Zbb (Zby (Zau (EQ.mk ?_))) (EQ.mk rfl)); first | rw [Zbk (by rw [Zan]; omega)] | rw [List.take_of_length_le (by rw [Zan]; omega)])); done)))
def ZfP : Nat → List Nat
 | 0 => [2, 3, 4]
 | 1 => [2, 3, 4, 5]
 | 2 => [2, 3, 4, 5, 6]
 | 3 => [2, 3, 4, 5, 6, 13]
 | 4 => [2, 3, 4, 5, 6]
 | 5 => [2, 3, 4, 5, 6]
 | 6 => [2, 3, 4, 5, 6, 13, 17]
 | 7 => [2, 3, 4, 5, 6, 13, 17]
 | 8 => [2, 3, 4, 5, 6]
 | 9 => [2, 3, 4, 5, 6, 13, 22]
 | 10 => [2, 3, 4, 5, 6]
 | 11 => [2, 3, 4, 5, 6]
 | 12 => [2, 3, 4, 5, 6, 13, 26]
 | 13 => [2, 3, 4, 5, 6]
 | 14 => [2, 3, 4, 5, 6, 13, 31]
 | 15 => [2, 3, 4, 5, 6]
 | 16 => [2, 3, 4, 5, 6, 36]
 | 17 => [2, 3, 4, 5, 6]
 | 18 => [2, 3, 4, 5, 7]
 | 19 => [2, 3, 4, 7, 43, 44]
 | 20 => [2, 3, 4, 7, 43, 44, 45]
 | 21 => [2, 3, 4, 7, 8, 43, 44]
 | 22 => [2, 3, 4, 7, 8, 9, 43, 44]
 | 23 => [2, 3, 4, 7, 8, 9, 43, 44, 49, 50]
 | 24 => [2, 3, 4, 7, 8, 9, 43, 44, 49, 50, 51]
 | 25 => [2, 3, 4, 7, 8, 9, 10, 43, 44, 49, 50]
 | 26 => [2, 3, 4, 7, 8, 9, 43, 44, 49, 50]
 | 27 => [2, 3, 4, 7, 8, 9, 43, 44, 49, 50]
 | 28 => [2, 3, 4, 7, 43, 44]
 | 29 => [2, 3, 4, 7, 43, 44]
 | 30 => [4]
 | _ => []
theorem Zcq (args : Array Value) (w : World) : (callFunc 42 args).run Tryz.prog w = .ok (.enter 42 args) w := Zab Tryz.func42 (by decide) rfl args w
set_option maxHeartbeats 4000000 in
theorem Zho (i o : Int) (a b : List Int) (hs : HY (sigB i o = true)) : Con Tryz.prog 42 [.sig i o, .clause 3 a b] (.det (monN 3 a b (Zaa i o).toNat) [monP 3]) := by
 have hs := hs.e
 refine Con.fit Zcq fun hfit => ?_
 have hb_a : a.length ≤ 9223372036854775807 := GFits.ints (GFits.cell (show GFits (.clause 3 a b) from hfit 1 (ZL rfl)) (.tail _ (.head _)))
 have hb_b : b.length ≤ 9223372036854775807 := GFits.ints (GFits.cell (show GFits (.clause 3 a b) from hfit 1 (ZL rfl)) (.tail _ (.tail _ (.head _))))
 clear hfit
 have hlp := ZaW hs; have hmm := Zbf (k := 3) (by omega); have hmp := Zgh (k := 3) (by omega)
 refine gCon ZfP Zad (rs := [.cell 4 29]) (sl := [(0, .g (.sig i o)), (1, .g (.clause 3 a b))]) Tryz.func42 rfl Tryz.ntmps42 rfl Zcq rfl (by repeat constructor) ?_
 (repeat' (first | ((with_reducible apply gLB.cagg); (. exact RF.mk ⟨rfl, rfl, rfl⟩)) | ((with_reducible apply gLB.cone); (. exact RF.mk ⟨rfl, rfl⟩)) | (with_reducible constructor) | exact Z4 | exact NU.mk QM60 | exact ZS | exact ZF | exact ZC | ((with_reducible apply Zbv); (. exact ZA); (. exact NU.mk QM60)) | ((with_reducible apply ZaA); first | apply ZaD | apply Zaz | apply ZaK) | (with_reducible intro hc; (try simp only [HCs] at hc)) | exact OB_f | exact ZK | (with_reducible first | apply gNK | apply Zam | apply Zaf | apply Zaq | apply Zai | apply ZaR | apply Zar | apply Zas | apply Zay | apply Zap | apply Zaw | apply Zax | apply Zav) | apply Zah Zad | apply ZaQ Zad rfl | (apply ZaF; exact RF.mk rfl) | (refine Zak (id := 1) (ι := Nat × Bool × Tg 1) (fun ⟨q, u, _⟩ => (cond u ⟨[(2, .ptr 3 0), (3, .ptr 4 0), (4, .ptr 0 0), (7, .ptr 1 0), (43, .g (.i (Zaj 3))), (44, .g (.i q))], [(0, .box [.nils 1, .nils 2]), (1, .box [.nils 1, .own 2 0 1]), (2, .arr 2 true [.pairP (monP 3)]), (3, .box [.g (.i i), .g (.i o)]), (4, .box [.g (.i 3), .g (.ints a), .g (.ints b)])]⟩ ⟨[(2, .ptr 4 0), (3, .ptr 5 0), (4, .ptr 0 0), (7, .ptr 1 0), (43, .g (.i (Zaj 3))), (44, .g (.i q))], [(0, .box [.nils 1, .nils 2]), (1, .box [.own 3 0 q, .own 2 0 1]), (2, .arr 2 true [.pairP (monP 3)]), (3, .arr 1 true (((monN 3 a b (Zaa i o).toNat).take q).map GV.ints)), (4, .box [.g (.i i), .g (.i o)]), (5, .box [.g (.i 3), .g (.ints a), .g (.ints b)])]⟩)) (fun ⟨q, u, _⟩ => (q ≤ Zaj 3) ∧ (cond u (q = 0) (1 ≤ q))) (fun ⟨q, u, _⟩ => Zaj 3 - q) (0, true, (Tg.t : Tg 1)) ?_ ?_ ?_; (. ((first | apply gLX0 | apply gLX1 | apply gLX2 | apply gLX3 | apply gLX4 | apply gLX5 | apply gLX6 | apply gLX7 | apply gLX8 | apply gLX9 | apply ZbF) <;> (repeat' (first | (with_reducible constructor) | exact Z5 | exact RF.mk (by decide) | (with_reducible apply Zae) | exact EQ.mk QM60)); (all_goals exact QM64))); (. (exact ⟨by omega, rfl⟩)); (rintro ⟨q, u, _⟩ ⟨h1, h2⟩; have z1 := Zbl 3; have z2 := ZaE i o; rcases u with _ | _; (try simp only [cond_true, cond_false] at *); (show TX _ _ _ _ _ [(2, .ptr 4 0), (3, .ptr 5 0), (4, .ptr 0 0), (7, .ptr 1 0), (43, .g (.i (Zaj 3))), (44, .g (.i q))] [(0, .box [.nils 1, .nils 2]), (1, .box [.own 3 0 q, .own 2 0 1]), (2, .arr 2 true [.pairP (monP 3)]), (3, .arr 1 true (((monN 3 a b (Zaa i o).toNat).take q).map GV.ints)), (4, .box [.g (.i i), .g (.i o)]), (5, .box [.g (.i 3), .g (.ints a), .g (.ints b)])] _); rotate_left 1; (try simp only [cond_true, cond_false] at *); (show TX _ _ _ _ _ [(2, .ptr 3 0), (3, .ptr 4 0), (4, .ptr 0 0), (7, .ptr 1 0), (43, .g (.i (Zaj 3))), (44, .g (.i q))] [(0, .box [.nils 1, .nils 2]), (1, .box [.nils 1, .own 2 0 1]), (2, .arr 2 true [.pairP (monP 3)]), (3, .box [.g (.i i), .g (.i o)]), (4, .box [.g (.i 3), .g (.ints a), .g (.ints b)])] _))) | (refine Zak (id := 3) (ι := Nat × Tg 3) (fun ⟨x, _⟩ => ⟨[(2, .ptr 5 0), (3, .ptr 6 0), (4, .ptr 0 0), (7, .ptr 1 0), (8, .g (.i q)), (9, .own 4 0 x), (43, .g (.i (Zaj 3))), (44, .g (.i q)), (49, .g (.i (Zaa i o))), (50, .g (.i x))], [(0, .box [.nils 1, .nils 2]), (1, .box [.own 3 0 q, .own 2 0 1]), (2, .arr 2 true [.pairP (monP 3)]), (3, .arr 1 true (((monN 3 a b (Zaa i o).toNat).take q).map GV.ints)), (4, .arr 1 true (((ZaL 3 a b (Zaa i o).toNat q).take x).map GV.i)), (5, .box [.g (.i i), .g (.i o)]), (6, .box [.g (.i 3), .g (.ints a), .g (.ints b)])]⟩) (fun ⟨x, _⟩ => (x ≤ (Zaa i o).toNat)) (fun ⟨x, _⟩ => (Zaa i o).toNat - x) (0, (Tg.t : Tg 3)) ?_ ?_ ?_; (. (apply gLX7 <;> (repeat' (first | (with_reducible constructor) | exact Z5 | exact RF.mk (by decide) | (with_reducible apply Zae) | exact EQ.mk QM60)); (all_goals exact QM61))); (. (omega)); (rintro ⟨x, _⟩ g1; (try dsimp only at g1); (show TX _ _ _ _ _ [(2, .ptr 5 0), (3, .ptr 6 0), (4, .ptr 0 0), (7, .ptr 1 0), (8, .g (.i q)), (9, .own 4 0 x), (43, .g (.i (Zaj 3))), (44, .g (.i q)), (49, .g (.i (Zaa i o))), (50, .g (.i x))] [(0, .box [.nils 1, .nils 2]), (1, .box [.own 3 0 q, .own 2 0 1]), (2, .arr 2 true [.pairP (monP 3)]), (3, .arr 1 true (((monN 3 a b (Zaa i o).toNat).take q).map GV.ints)), (4, .arr 1 true (((ZaL 3 a b (Zaa i o).toNat q).take x).map GV.i)), (5, .box [.g (.i i), .g (.i o)]), (6, .box [.g (.i 3), .g (.ints a), .g (.ints b)])] _))) | (refine Zak (id := 3) (ι := Nat × Tg 3) (fun ⟨x, _⟩ => ⟨[(2, .ptr 4 0), (3, .ptr 5 0), (4, .ptr 0 0), (7, .ptr 1 0), (8, .g (.i q)), (9, .own 3 0 x), (43, .g (.i (Zaj 3))), (44, .g (.i q)), (49, .g (.i (Zaa i o))), (50, .g (.i x))], [(0, .box [.nils 1, .nils 2]), (1, .box [.nils 1, .own 2 0 1]), (2, .arr 2 true [.pairP (monP 3)]), (3, .arr 1 true (((ZaL 3 a b (Zaa i o).toNat q).take x).map GV.i)), (4, .box [.g (.i i), .g (.i o)]), (5, .box [.g (.i 3), .g (.ints a), .g (.ints b)])]⟩) (fun ⟨x, _⟩ => (x ≤ (Zaa i o).toNat)) (fun ⟨x, _⟩ => (Zaa i o).toNat - x) (0, (Tg.t : Tg 3)) ?_ ?_ ?_; (. ((first | apply gLX0 | apply gLX1 | apply gLX2 | apply gLX3 | apply gLX4 | apply gLX5 | apply gLX6 | apply gLX7 | apply gLX8 | apply gLX9 | apply ZbF) <;> (repeat' (first | (with_reducible constructor) | exact Z5 | exact RF.mk (by decide) | (with_reducible apply Zae) | exact EQ.mk QM60)); (all_goals exact QM61))); (. (omega)); (rintro ⟨x, _⟩ g1; (try dsimp only at g1); (show TX _ _ _ _ _ [(2, .ptr 4 0), (3, .ptr 5 0), (4, .ptr 0 0), (7, .ptr 1 0), (8, .g (.i q)), (9, .own 3 0 x), (43, .g (.i (Zaj 3))), (44, .g (.i q)), (49, .g (.i (Zaa i o))), (50, .g (.i x))] [(0, .box [.nils 1, .nils 2]), (1, .box [.nils 1, .own 2 0 1]), (2, .arr 2 true [.pairP (monP 3)]), (3, .arr 1 true (((ZaL 3 a b (Zaa i o).toNat q).take x).map GV.i)), (4, .box [.g (.i i), .g (.i o)]), (5, .box [.g (.i 3), .g (.ints a), .g (.ints b)])] _))) | apply gSel.ccons))
 (all_goals (first | (exfalso; omega) | (refine ZaJ (q + 1, false, (Tg.t : Tg 1)) ?_ ?_ ?_; (· ((first | apply gLX0 | apply gLX1 | apply gLX2 | apply gLX3 | apply gLX4 | apply gLX5 | apply gLX6 | apply gLX7 | apply gLX8 | apply gLX9 | apply ZbF) <;> (repeat' (first | (with_reducible constructor) | exact Z5 | exact RF.mk (by decide) | (with_reducible apply Zae) | exact EQ.mk QM60)); (all_goals exact QM64))); (· (exact ⟨by omega, (by show 1 ≤ q + 1; omega)⟩)); (· exact ZW)) | (refine ZaJ (x + 1, (Tg.t : Tg 3)) ?_ ?_ ?_; (· ((first | apply gLX0 | apply gLX1 | apply gLX2 | apply gLX3 | apply gLX4 | apply gLX5 | apply gLX6 | apply gLX7 | apply gLX8 | apply gLX9 | apply ZbF) <;> (repeat' (first | (with_reducible constructor) | exact Z5 | exact RF.mk (by decide) | (with_reducible apply Zae) | exact EQ.mk QM60)); (all_goals exact QM61))); (· (omega)); (· exact ZW)) | (((refine ZbL (Zbb (Zby (Zau (EQ.mk ?_))) (EQ.mk rfl)); first | rw [Zbk (by rw [Zan]; omega)] | rw [List.take_of_length_le (by rw [Zan]; omega)])); done)))
end Go.Proofs.YtabfpoflhacknaaGreat

