/- Contracts: monitors. No conditions but those that each theorem names. -/
import Derived.Test.YtnieejghoaccmaaGreatTab
import Derived.Test.YtnieejghoaccmaaGreatKG
import Derived.Test.YtnieejghoaccmaaGreatMR
import Derived.Test.YtnieejghoaccmaaGreatChecked
set_option linter.unusedSimpArgs false
set_option linter.unusedVariables false
namespace Go.Proofs.YtnieejghoaccmaaGreat
open Go.RowKit
open Shp
theorem QM62 {p : Prop} (h : p := by ((first | exact EQ.mk rfl | exact Zax (EQ.mk (ZiV (by omega))) | exact EQ.mk (by first | (simp; done) | fail) | (refine EQ.mk ?_; simp only [List.length_append, List.length_take, Zbo, ZbY, List.length_singleton]; omega) | (refine Zax (EQ.mk ?_); rw [List.take_take, Nat.min_self]; exact ZiV (by omega))); done)) : p := h
theorem QM61 {p : Prop} (h : p := by ((first | exact EQ.mk rfl | exact EQ.mk (by first | (simp [monP, *]; done) | fail) | (refine EQ.mk ?_; have e := Zoa (k := k) (by omega); omega) | (refine EQ.mk ?_; simp only [List.length_append, List.length_take, Zbo, ZbY, List.length_singleton]; omega) | (refine Zax (EQ.mk ?_); simp only [List.take_take, Nat.min_self]; rw [List.take_of_length_le (l := ZcN k a b (Zaa i o).toNat (q : Int)) (by rw [Zbo]; omega)]; exact ZiB (by omega)) | (refine EQ.mk ?_; simp only [List.take_take, Nat.min_self]; rw [List.take_of_length_le (l := ZcN k a b (Zaa i o).toNat (q : Int)) (by rw [Zbo]; omega), ← ZiB (by omega), h2]; rfl) | (exfalso; omega) | (refine Zax (EQ.mk ?_); rw [← ZiB (by omega), List.take_of_length_le (by rw [Zbo]; omega)])); done)) : p := h
theorem QM60 {p : Prop} (h : p := by first | exact ZO | (first | omega | (have q := Zaw i o; omega) | (simp only [List.length_take, ZbY]; omega) | (simp only [List.length_take, Zbo]; omega) | (have q := hk (by first | (simp_all; done) | fail); omega))) : p := h
def Zjr : Nat → List Nat
 | 0 => [0]
 | 1 => [3]
 | 2 => [2]
 | 3 => [2]
 | _ => []
theorem Zg5 (args : Array Value) (w : World) : (callFunc 109 args).run Tryz.prog w = .ok (.enter 109 args) w := Zab Tryz.func109 (by decide) rfl args w
set_option maxHeartbeats 1000000 in
theorem Zm4 (b : Bool) : Con Tryz.prog 109 [.bool b] (.i (bit b)) := by
 refine gCon Zjr Zac (rs := [.tmp 2]) (sl := [(0, .g (.bool b))]) Tryz.func109 rfl Tryz.ntmps109 rfl Zg5 rfl (by repeat constructor) ?_
 (repeat' (first | (with_reducible constructor) | exact Z2 | (with_reducible intro hc; (try simp only [HCs] at hc)) | exact OB_f | (with_reducible first | apply gNK | apply Zao | apply Zaf | apply Zan | apply Zai | apply ZaQ | apply Zam | apply Zap | apply Zat) | apply Zah Zac | apply gSel.ccons))
 (all_goals (first | (((refine Zae (EQ.mk ?_); unfold bit; simp_all)); done)))
def Ziv : Nat → List Nat
 | 0 => [1, 2, 3]
 | 1 => [1, 2, 3, 7]
 | 2 => [1, 3, 7, 8]
 | 3 => [1, 7, 8, 20]
 | 4 => [1, 7, 8, 20, 21]
 | 5 => [6]
 | 6 => [1, 7, 8, 20, 27]
 | 7 => [7, 38]
 | 8 => [6]
 | 9 => [6]
 | 10 => [1, 7, 8, 20, 40]
 | 11 => [1, 7, 43]
 | 12 => [6]
 | 13 => [6]
 | 14 => [1, 7, 8, 20, 47]
 | 15 => [6]
 | 16 => [1, 7, 8, 20, 50]
 | 17 => [6]
 | 18 => [1, 7, 8, 54]
 | 19 => [6]
 | 20 => [6]
 | _ => []
theorem Zdm (args : Array Value) (w : World) : (callFunc 98 args).run Tryz.prog w = .ok (.enter 98 args) w := Zab Tryz.func98 (by decide) rfl args w
set_option maxHeartbeats 1000000 in
theorem ZlA (k q x : Int) (a b : List Int) (hq : NU (0 ≤ q ∧ q ≤ 100)) : Con Tryz.prog 98 [.clause k a b, .i q, .i x] (.i (Zcq k q (has a x) (has b x))) := by
 have hq := hq.e
 refine Con.fit Zdm fun hfit => ?_
 have hb_a : a.length ≤ 9223372036854775807 := GFits.ints (GFits.cell (show GFits (.clause k a b) from hfit 0 (ZL rfl)) (.tail _ (.head _)))
 have hb_b : b.length ≤ 9223372036854775807 := GFits.ints (GFits.cell (show GFits (.clause k a b) from hfit 0 (ZL rfl)) (.tail _ (.tail _ (.head _))))
 clear hfit
 have hb : ∀ b : Bool, 0 ≤ bit b ∧ bit b ≤ 1 := by intro b; cases b <;> decide
 refine gCon Ziv Zac (rs := [.tmp 6]) (sl := [(0, .g (.clause k a b)), (1, .g (.i q)), (2, .g (.i x))]) Tryz.func98 rfl Tryz.ntmps98 rfl Zdm rfl (by repeat constructor) ?_
 (repeat' (first | ((with_reducible apply gLB.cone); (. exact RF.mk ⟨rfl, rfl⟩)) | (with_reducible constructor) | exact Z2 | exact NU.mk (by first | exact ZO | (first | omega | (have q1 := hb (has a x); have q2 := hb (has b x); omega))) | exact ZF | ((with_reducible apply ZaP); first | apply ZgW | apply ZjK | apply Zm4) | (with_reducible intro hc; (try simp only [HCs] at hc)) | exact OB_f | (with_reducible first | apply gNK | apply Zao | apply Zaf | apply Zan | apply Zai | apply CK_t | apply CK_f | apply ZaQ | apply Zam | apply Zap | apply Zas | apply ZaG | apply Zat) | apply Zah Zac | (apply ZaD; exact RF.mk rfl) | apply gSel.ccons))
 (all_goals (first | (((refine Zae (EQ.mk ?_); first | exact ZzG (by assumption) (by assumption) (by assumption) | exact Zzr (by assumption) (by assumption) (by assumption) (by assumption) | exact Zzb (by assumption) (by assumption) | exact ZAn (by assumption) (by assumption) | (unfold Zcq; simp_all; done) | (unfold Zcq; (repeat split) <;> first | rfl | omega | (simp_all; done) | (simp_all; omega)))); done)))
def ZgB : Nat → List Nat
 | 0 => [0]
 | 1 => [3]
 | 2 => [3, 4]
 | 3 => [2]
 | 4 => [6]
 | 5 => [2]
 | 6 => [2]
 | _ => []
theorem Zfr (args : Array Value) (w : World) : (callFunc 97 args).run Tryz.prog w = .ok (.enter 97 args) w := Zab Tryz.func97 (by decide) rfl args w
set_option maxHeartbeats 1000000 in
theorem Zjy (k : Int) : Con Tryz.prog 97 [.i k] (.i (Zbz k)) := by
 refine gCon ZgB Zac (rs := [.tmp 2]) (sl := [(0, .g (.i k))]) Tryz.func97 rfl Tryz.ntmps97 rfl Zfr rfl (by repeat constructor) ?_
 (repeat' (first | (with_reducible constructor) | exact Z2 | (with_reducible intro hc; (try simp only [HCs] at hc)) | exact OB_f | (with_reducible first | apply gNK | apply Zao | apply Zaf | apply Zan | apply Zai | apply ZaQ | apply Zam | apply Zap | apply Zas | apply ZaG | apply Zat) | apply Zah Zac | (apply ZaD; exact RF.mk rfl) | apply gSel.ccons))
 (all_goals (first | (((refine Zae (EQ.mk ?_); unfold Zbz; simp_all)); done)))
def Zif : Nat → List Nat
 | 0 => [0, 2]
 | 1 => [2, 3]
 | 2 => [2, 3, 4]
 | 3 => [2, 3, 4]
 | 4 => [2]
 | 5 => [2, 3, 9]
 | 6 => [2]
 | 7 => [2, 3, 13]
 | 8 => [2]
 | 9 => [2, 3, 18]
 | 10 => [2]
 | 11 => [2, 23]
 | 12 => [2]
 | 13 => [2]
 | _ => []
theorem Zgz (args : Array Value) (w : World) : (callFunc 96 args).run Tryz.prog w = .ok (.enter 96 args) w := Zab Tryz.func96 (by decide) rfl args w
set_option maxHeartbeats 1000000 in
theorem ZlT (k : Int) (hk : NU (1 ≤ k ∧ k ≤ 7)) : Con Tryz.prog 96 [.i k] (.pair (monP k).1 (monP k).2) := by
 have hk := hk.e
 refine gCon Zif Zac (rs := [.cell 2 68]) (sl := [(0, .g (.i k))]) Tryz.func96 rfl Tryz.ntmps96 rfl Zgz rfl (by repeat constructor) ?_
 (repeat' (first | ((with_reducible apply gLB.cagg); (. exact RF.mk ⟨rfl, rfl, rfl⟩)) | (with_reducible constructor) | exact Z4 | exact ZN | exact ZS | exact ZC | (with_reducible intro hc; (try simp only [HCs] at hc)) | exact OB_f | (with_reducible first | apply gNK | apply Zao | apply Zaf | apply Zan | apply Zai | apply ZaQ | apply Zam | apply Zap | apply Zas | apply ZaG | apply Zat) | apply Zah Zac | (apply ZaD; exact RF.mk rfl) | apply gSel.ccons))
 (all_goals (first | (((unfold monP; first | (rw [if_pos (by omega)]; exact EQ.mk rfl) | (rw [if_neg (by omega), if_pos (by omega)]; exact EQ.mk rfl) | (rw [if_neg (by omega), if_neg (by omega), if_pos (by omega)]; exact EQ.mk rfl) | (rw [if_neg (by omega), if_neg (by omega), if_neg (by omega), if_pos (by omega)]; exact EQ.mk rfl) | (rw [if_neg (by omega), if_neg (by omega), if_neg (by omega), if_neg (by omega), if_pos (by omega)]; exact EQ.mk rfl) | (rw [if_neg (by omega), if_neg (by omega), if_neg (by omega), if_neg (by omega), if_neg (by omega)]; exact EQ.mk rfl))); done)))
def ZgR : Nat → List Nat
 | 0 => [2, 3, 4]
 | 1 => [2, 3, 4, 12]
 | 2 => [4]
 | 3 => [2, 3, 4, 5]
 | 4 => [2, 3, 4, 5, 6]
 | 5 => [2, 3, 4, 5, 6, 23]
 | 6 => [2, 3, 4, 5, 6]
 | 7 => [2, 3, 4, 5, 6, 7]
 | 8 => [2, 3, 4, 5, 6, 7, 8]
 | 9 => [2, 3, 4, 5, 6, 7, 8, 30]
 | 10 => [2, 3, 4, 5, 6, 7, 8]
 | 11 => [2, 3, 4, 5, 6, 7, 8]
 | 12 => [2, 3, 4, 5, 6]
 | 13 => [4]
 | _ => []
theorem ZcP (args : Array Value) (w : World) : (callFunc 77 args).run Tryz.prog w = .ok (.enter 77 args) w := Zab Tryz.func77 (by decide) rfl args w
set_option maxHeartbeats 1000000 in
theorem Zi7 (i o k : Int) (a b : List Int) : Con Tryz.prog 77 [.sig i o, .clause k a b] (.det (monB i o k a b).1 (monB i o k a b).2) := by
 refine Con.fit ZcP fun hfit => ?_
 have hb_a : a.length ≤ 9223372036854775807 := GFits.ints (GFits.cell (show GFits (.clause k a b) from hfit 1 (ZL rfl)) (.tail _ (.head _)))
 have hb_b : b.length ≤ 9223372036854775807 := GFits.ints (GFits.cell (show GFits (.clause k a b) from hfit 1 (ZL rfl)) (.tail _ (.tail _ (.head _))))
 clear hfit
 have hk : ZdE (Zaa i o) k a b = true → 1 ≤ k ∧ k ≤ 7 := ZfQ
 refine gCon ZgR Zac (rs := [.cell 4 29]) (sl := [(0, .g (.sig i o)), (1, .g (.clause k a b))]) Tryz.func77 rfl Tryz.ntmps77 rfl ZcP rfl (by repeat constructor) ?_
 (repeat' (first | ((with_reducible apply gLB.cagg); (. exact RF.mk ⟨rfl, rfl, rfl⟩)) | ((with_reducible apply gLB.cone); (. exact RF.mk ⟨rfl, rfl⟩)) | (with_reducible constructor) | exact Z4 | exact NU.mk QM60 | exact ZS | exact ZF | exact ZC | ((with_reducible apply Zch); (. exact ZA); (. exact NU.mk QM60)) | ((with_reducible apply ZaP); first | apply Za2 | apply Zgh | apply ZlT | apply Zjy | apply ZlA) | (with_reducible intro hc; (try simp only [HCs] at hc)) | exact OB_f | (with_reducible first | apply gNK | apply Zao | apply Zaf | apply Zal | apply Zan | apply Zai | apply ZaQ | apply Zam | apply Zap | apply Zau | apply Zak | apply Zas | apply Zav | apply Zat) | apply Zah Zac | (apply ZaD; exact RF.mk rfl) | (refine Zaq (id := 0) (ι := Nat × Bool × Tg 0) (fun ⟨q, u, _⟩ => (cond u ⟨[(2, .ptr 3 0), (3, .ptr 4 0), (4, .ptr 0 0), (5, .ptr 1 0), (6, .g (.i q))], [(0, .box [.nils 1, .nils 2]), (1, .box [.nils 1, .own 2 0 1]), (2, .arr 2 true [.pairP (monP k)]), (3, .box [.g (.i i), .g (.i o)]), (4, .box [.g (.i k), .g (.ints a), .g (.ints b)])]⟩ ⟨[(2, .ptr 4 0), (3, .ptr 5 0), (4, .ptr 0 0), (5, .ptr 1 0), (6, .g (.i q))], [(0, .box [.nils 1, .nils 2]), (1, .box [.own 3 0 q, .own 2 0 1]), (2, .arr 2 true [.pairP (monP k)]), (3, .arr 1 true (((monN k a b (Zaa i o).toNat).take q).map GV.ints)), (4, .box [.g (.i i), .g (.i o)]), (5, .box [.g (.i k), .g (.ints a), .g (.ints b)])]⟩)) (fun ⟨q, u, _⟩ => (q ≤ Zbz k) ∧ (cond u (q = 0) (1 ≤ q))) (fun ⟨q, u, _⟩ => Zbz k - q) (0, true, (Tg.t : Tg 0)) ?_ ?_ ?_; (. ((first | apply gLX0 | apply gLX1 | apply gLX2 | apply gLX3 | apply gLX4 | apply gLX5 | apply gLX6 | apply gLX7 | apply gLX8 | apply gLX9 | apply Zl6) <;> (repeat' (first | (with_reducible constructor) | exact Z5 | exact RF.mk (by decide) | (with_reducible apply Zae) | exact EQ.mk QM60)); (all_goals exact QM61))); (. (exact ⟨by omega, rfl⟩)); (rintro ⟨q, u, _⟩ ⟨h1, h2⟩; have z1 := Zmd k; have z2 := Zaw i o; rcases u with _ | _; (try simp only [cond_true, cond_false] at *); (show TX _ _ _ _ _ [(2, .ptr 4 0), (3, .ptr 5 0), (4, .ptr 0 0), (5, .ptr 1 0), (6, .g (.i q))] [(0, .box [.nils 1, .nils 2]), (1, .box [.own 3 0 q, .own 2 0 1]), (2, .arr 2 true [.pairP (monP k)]), (3, .arr 1 true (((monN k a b (Zaa i o).toNat).take q).map GV.ints)), (4, .box [.g (.i i), .g (.i o)]), (5, .box [.g (.i k), .g (.ints a), .g (.ints b)])] _); rotate_left 1; (try simp only [cond_true, cond_false] at *); (show TX _ _ _ _ _ [(2, .ptr 3 0), (3, .ptr 4 0), (4, .ptr 0 0), (5, .ptr 1 0), (6, .g (.i q))] [(0, .box [.nils 1, .nils 2]), (1, .box [.nils 1, .own 2 0 1]), (2, .arr 2 true [.pairP (monP k)]), (3, .box [.g (.i i), .g (.i o)]), (4, .box [.g (.i k), .g (.ints a), .g (.ints b)])] _))) | (refine Zaq (id := 2) (ι := Nat × Tg 2) (fun ⟨x, _⟩ => ⟨[(2, .ptr 5 0), (3, .ptr 6 0), (4, .ptr 0 0), (5, .ptr 1 0), (6, .g (.i q)), (7, .own 4 0 x), (8, .g (.i x))], [(0, .box [.nils 1, .nils 2]), (1, .box [.own 3 0 q, .own 2 0 1]), (2, .arr 2 true [.pairP (monP k)]), (3, .arr 1 true (((monN k a b (Zaa i o).toNat).take q).map GV.ints)), (4, .arr 1 true (((ZcN k a b (Zaa i o).toNat q).take x).map GV.i)), (5, .box [.g (.i i), .g (.i o)]), (6, .box [.g (.i k), .g (.ints a), .g (.ints b)])]⟩) (fun ⟨x, _⟩ => (x ≤ (Zaa i o).toNat)) (fun ⟨x, _⟩ => (Zaa i o).toNat - x) (0, (Tg.t : Tg 2)) ?_ ?_ ?_; (. (apply gLX7 <;> (repeat' (first | (with_reducible constructor) | exact Z5 | exact RF.mk (by decide) | (with_reducible apply Zae) | exact EQ.mk QM60)); (all_goals exact QM62))); (. (omega)); (rintro ⟨x, _⟩ g1; (try dsimp only at g1); (show TX _ _ _ _ _ [(2, .ptr 5 0), (3, .ptr 6 0), (4, .ptr 0 0), (5, .ptr 1 0), (6, .g (.i q)), (7, .own 4 0 x), (8, .g (.i x))] [(0, .box [.nils 1, .nils 2]), (1, .box [.own 3 0 q, .own 2 0 1]), (2, .arr 2 true [.pairP (monP k)]), (3, .arr 1 true (((monN k a b (Zaa i o).toNat).take q).map GV.ints)), (4, .arr 1 true (((ZcN k a b (Zaa i o).toNat q).take x).map GV.i)), (5, .box [.g (.i i), .g (.i o)]), (6, .box [.g (.i k), .g (.ints a), .g (.ints b)])] _))) | (refine Zaq (id := 2) (ι := Nat × Tg 2) (fun ⟨x, _⟩ => ⟨[(2, .ptr 4 0), (3, .ptr 5 0), (4, .ptr 0 0), (5, .ptr 1 0), (6, .g (.i q)), (7, .own 3 0 x), (8, .g (.i x))], [(0, .box [.nils 1, .nils 2]), (1, .box [.nils 1, .own 2 0 1]), (2, .arr 2 true [.pairP (monP k)]), (3, .arr 1 true (((ZcN k a b (Zaa i o).toNat q).take x).map GV.i)), (4, .box [.g (.i i), .g (.i o)]), (5, .box [.g (.i k), .g (.ints a), .g (.ints b)])]⟩) (fun ⟨x, _⟩ => (x ≤ (Zaa i o).toNat)) (fun ⟨x, _⟩ => (Zaa i o).toNat - x) (0, (Tg.t : Tg 2)) ?_ ?_ ?_; (. ((first | apply gLX0 | apply gLX1 | apply gLX2 | apply gLX3 | apply gLX4 | apply gLX5 | apply gLX6 | apply gLX7 | apply gLX8 | apply gLX9 | apply Zl6) <;> (repeat' (first | (with_reducible constructor) | exact Z5 | exact RF.mk (by decide) | (with_reducible apply Zae) | exact EQ.mk QM60)); (all_goals exact QM62))); (. (omega)); (rintro ⟨x, _⟩ g1; (try dsimp only at g1); (show TX _ _ _ _ _ [(2, .ptr 4 0), (3, .ptr 5 0), (4, .ptr 0 0), (5, .ptr 1 0), (6, .g (.i q)), (7, .own 3 0 x), (8, .g (.i x))] [(0, .box [.nils 1, .nils 2]), (1, .box [.nils 1, .own 2 0 1]), (2, .arr 2 true [.pairP (monP k)]), (3, .arr 1 true (((ZcN k a b (Zaa i o).toNat q).take x).map GV.i)), (4, .box [.g (.i i), .g (.i o)]), (5, .box [.g (.i k), .g (.ints a), .g (.ints b)])] _))) | apply gSel.ccons))
 (all_goals (first | (refine ZaR (q + 1, false, (Tg.t : Tg 0)) ?_ ?_ ?_; (· ((first | apply gLX0 | apply gLX1 | apply gLX2 | apply gLX3 | apply gLX4 | apply gLX5 | apply gLX6 | apply gLX7 | apply gLX8 | apply gLX9 | apply Zl6) <;> (repeat' (first | (with_reducible constructor) | exact Z5 | exact RF.mk (by decide) | (with_reducible apply Zae) | exact EQ.mk QM60)); (all_goals exact QM61))); (· (exact ⟨by omega, (by show 1 ≤ q + 1; omega)⟩)); (· exact ZW)) | (refine ZaR (x + 1, (Tg.t : Tg 2)) ?_ ?_ ?_; (· ((first | apply gLX0 | apply gLX1 | apply gLX2 | apply gLX3 | apply gLX4 | apply gLX5 | apply gLX6 | apply gLX7 | apply gLX8 | apply gLX9 | apply Zl6) <;> (repeat' (first | (with_reducible constructor) | exact Z5 | exact RF.mk (by decide) | (with_reducible apply Zae) | exact EQ.mk QM60)); (all_goals exact QM62))); (· (omega)); (· exact ZW)) | (((unfold monB; first | (rw [if_pos (by first | (simp_all; done) | fail)]; first | (exfalso; omega) | (refine ZcF (Za6 (ZbV (Zax (EQ.mk ?_))) (EQ.mk rfl)); first | rw [Zqt (by rw [ZbY]; omega)] | rw [List.take_of_length_le (by rw [ZbY]; omega)]) | exact EQ.mk rfl) | (rw [if_neg (by first | (simp_all; done) | fail)]; exact EQ.mk rfl) | (rw [if_neg (by rcases hc with hc | hc <;> rw [hc] <;> simp)]; exact EQ.mk rfl))); done)))
end Go.Proofs.YtnieejghoaccmaaGreat

