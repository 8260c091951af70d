/- Contracts: monitors. No conditions but those that each theorem names. -/
import Derived.Test.YtnieejghoaccmaaTab
import Derived.Test.YtnieejghoaccmaaKG
import Derived.Test.YtnieejghoaccmaaM4
import Derived.Test.YtnieejghoaccmaaChecked
set_option linter.unusedSimpArgs false
set_option linter.unusedVariables false
namespace Go.Proofs.Ytnieejghoaccmaa
open Go.RowKit
open Shp
theorem QM63 {p : Prop} (h : p := by first | exact ZO | (first | omega | (have q1 := hb (has a x); have q2 := hb (has b x); omega))) : p := h
theorem QM62 {p : Prop} (h : p := by ((first | exact EQ.mk rfl | exact ZaS (EQ.mk (Zhj (by omega))) | exact EQ.mk (by first | (simp; done) | fail) | (refine EQ.mk ?_; simp only [List.length_append, List.length_take, Zbi, ZbD, List.length_singleton]; omega) | (refine ZaS (EQ.mk ?_); rw [List.take_take, Nat.min_self]; exact Zhj (by omega))); done)) : p := h
theorem QM61 {p : Prop} (h : p := by ((first | exact EQ.mk rfl | exact EQ.mk (by first | (simp [monP, *]; done) | fail) | (refine EQ.mk ?_; have e := ZlX (k := k) (by omega); omega) | (refine EQ.mk ?_; simp only [List.length_append, List.length_take, Zbi, ZbD, List.length_singleton]; omega) | (refine ZaS (EQ.mk ?_); simp only [List.take_take, Nat.min_self]; rw [List.take_of_length_le (l := Zcj k a b (Zaa i o).toNat (q : Int)) (by rw [Zbi]; omega)]; exact Zhd (by omega)) | (refine EQ.mk ?_; simp only [List.take_take, Nat.min_self]; rw [List.take_of_length_le (l := Zcj k a b (Zaa i o).toNat (q : Int)) (by rw [Zbi]; omega), ← Zhd (by omega), h2]; rfl) | (exfalso; omega) | (refine ZaS (EQ.mk ?_); rw [← Zhd (by omega), List.take_of_length_le (by rw [Zbi]; omega)])); done)) : p := h
theorem QM60 {p : Prop} (h : p := by first | exact ZO | (first | omega | (have q := ZaJ i o; omega) | (simp only [List.length_take, ZbD]; omega) | (simp only [List.length_take, Zbi]; omega) | (have q := hk (by first | (simp_all; done) | fail); omega))) : p := h
def ZhY : Nat → List Nat
 | 0 => [0]
 | 1 => [3]
 | 2 => [2]
 | 3 => [2]
 | _ => []
theorem ZfQ (args : Array Value) (w : World) : (callFunc 95 args).run Try.prog w = .ok (.enter 95 args) w := Zab Try.func95 (by decide) rfl args w
set_option maxHeartbeats 1000000 in
theorem Zk0 (b : Bool) : Con Try.prog 95 [.bool b] (.i (bit b)) := by
 refine gCon ZhY Zac (rs := [.tmp 2]) (sl := [(0, .g (.bool b))]) Try.func95 rfl Try.ntmps95 rfl ZfQ rfl (by repeat constructor) ?_
 (repeat' (first | ((with_reducible apply gLB.cagg); (. exact RF.mk ⟨rfl, rfl, rfl⟩)) | ((with_reducible apply gLB.cone); (. exact RF.mk ⟨rfl, rfl⟩)) | ((with_reducible apply gLI.cagg); (. exact RF.mk ⟨rfl, rfl, rfl⟩)) | ((with_reducible apply gLI.cone); (. exact RF.mk ⟨rfl, rfl⟩)) | ((with_reducible apply gAF.cbuildA); (. exact RF.mk rfl); (. exact RF.mk ⟨rfl, rfl, rfl, rfl⟩)) | (with_reducible constructor) | exact Z4 | exact ZN | exact ZI | exact ZS | exact ZF | exact ZG | exact ZC | exact ZP | exact ZQ | (with_reducible apply Zay) | (apply ZaB) | (with_reducible apply Zaf) | exact ZU | (with_reducible apply ZaC) | (apply Zaw) | (with_reducible intro hc; (try simp only [HCs] at hc)) | exact OB_f | exact DEC.mk (by decide) | exact ZM | exact ZT | exact ZK | (with_reducible first | apply gNK | apply ZaH | apply Zal | apply Zaj | apply Zai | apply Zam | apply CK_t | apply CK_f | apply ZaQ | apply Zar | apply ZaF | apply Zau | apply Zah | apply Zag | apply Zak | apply Zav | apply ZaA | apply Zax | apply Zaz | apply Zat | apply Zas | apply ZaR | apply ZaG | apply ZaE | apply ZaP) | apply Zaq Zac | apply Zao Zac rfl | (apply ZaD; exact RF.mk rfl) | exact EQ.mk rfl | exact gSel.cnil _ | apply gSel.ccons | apply gCG.cagg))
 (all_goals (first | (((refine Zan (EQ.mk ?_); unfold bit; simp_all)); done)))
def ZhG : Nat → List Nat
 | 0 => [1, 2, 3]
 | 1 => [1, 2, 3, 7]
 | 2 => [1, 3, 7, 8]
 | 3 => [1, 7, 8, 20]
 | 4 => [1, 7, 8, 20, 21]
 | 5 => [6]
 | 6 => [1, 7, 8, 20, 27]
 | 7 => [7, 38]
 | 8 => [6]
 | 9 => [6]
 | 10 => [1, 7, 8, 20, 40]
 | 11 => [1, 7, 43]
 | 12 => [6]
 | 13 => [6]
 | 14 => [1, 7, 8, 20, 47]
 | 15 => [6]
 | 16 => [1, 7, 8, 20, 50]
 | 17 => [6]
 | 18 => [1, 7, 8, 54]
 | 19 => [6]
 | 20 => [6]
 | _ => []
theorem Zc2 (args : Array Value) (w : World) : (callFunc 85 args).run Try.prog w = .ok (.enter 85 args) w := Zab Try.func85 (by decide) rfl args w
set_option maxHeartbeats 1000000 in
theorem Zki (k q x : Int) (a b : List Int) (hq : NU (0 ≤ q ∧ q ≤ 100)) : Con Try.prog 85 [.clause k a b, .i q, .i x] (.i (Zb4 k q (has a x) (has b x))) := by
 have hq := hq.e
 refine Con.fit Zc2 fun hfit => ?_
 have hb_a : a.length ≤ 9223372036854775807 := GFits.ints (GFits.cell (show GFits (.clause k a b) from hfit 0 (ZL rfl)) (.tail _ (.head _)))
 have hb_b : b.length ≤ 9223372036854775807 := GFits.ints (GFits.cell (show GFits (.clause k a b) from hfit 0 (ZL rfl)) (.tail _ (.tail _ (.head _))))
 clear hfit
 have hb : ∀ b : Bool, 0 ≤ bit b ∧ bit b ≤ 1 := by intro b; cases b <;> decide
 refine gCon ZhG Zac (rs := [.tmp 6]) (sl := [(0, .g (.clause k a b)), (1, .g (.i q)), (2, .g (.i x))]) Try.func85 rfl Try.ntmps85 rfl Zc2 rfl (by repeat constructor) ?_
 (repeat' (first | ((with_reducible apply gLB.cagg); (. exact RF.mk ⟨rfl, rfl, rfl⟩)) | ((with_reducible apply gLB.cone); (. exact RF.mk ⟨rfl, rfl⟩)) | ((with_reducible apply gLI.cagg); (. exact RF.mk ⟨rfl, rfl, rfl⟩)) | ((with_reducible apply gLI.cone); (. exact RF.mk ⟨rfl, rfl⟩)) | ((with_reducible apply gAF.cbuildA); (. exact RF.mk rfl); (. exact RF.mk ⟨rfl, rfl, rfl, rfl⟩)) | (with_reducible constructor) | exact Z4 | exact NU.mk QM63 | exact ZI | exact ZS | exact ZF | exact ZG | exact ZC | ((with_reducible apply ZaT); (. exact ZA); (. exact NU.mk QM63)) | exact ZQ | (with_reducible apply Zay) | (apply ZaB) | (with_reducible apply Zaf) | ((with_reducible apply ZaU); (. exact NU.mk QM63); (. rfl)) | (with_reducible apply ZaC) | (apply Zaw) | ((with_reducible apply Za0); first | apply Zf3 | apply Zf1 | apply Zk0) | (with_reducible intro hc; (try simp only [HCs] at hc)) | exact OB_f | exact DEC.mk (by decide) | exact ZM | exact ZT | exact ZK | (with_reducible first | apply gNK | apply ZaH | apply Zal | apply Zaj | apply Zai | apply Zam | apply CK_t | apply CK_f | apply ZaQ | apply Zar | apply ZaF | apply Zau | apply Zah | apply Zag | apply Zak | apply Zav | apply ZaA | apply Zax | apply Zaz | apply Zat | apply Zas | apply ZaR | apply ZaG | apply ZaE | apply ZaP) | apply Zaq Zac | apply Zao Zac rfl | (apply ZaD; exact RF.mk rfl) | exact EQ.mk rfl | exact gSel.cnil _ | apply gSel.ccons | apply gCG.cagg))
 (all_goals (first | (((refine Zan (EQ.mk ?_); first | exact Zxc (by assumption) (by assumption) (by assumption) | exact Zw6 (by assumption) (by assumption) (by assumption) (by assumption) | exact ZwH (by assumption) (by assumption) | exact Zwp (by assumption) (by assumption) | (unfold Zb4; simp_all; done) | (unfold Zb4; (repeat split) <;> first | rfl | omega | (simp_all; done) | (simp_all; omega)))); done)))
def Zf4 : Nat → List Nat
 | 0 => [0]
 | 1 => [3]
 | 2 => [3, 4]
 | 3 => [2]
 | 4 => [6]
 | 5 => [2]
 | 6 => [2]
 | _ => []
theorem ZeB (args : Array Value) (w : World) : (callFunc 84 args).run Try.prog w = .ok (.enter 84 args) w := Zab Try.func84 (by decide) rfl args w
set_option maxHeartbeats 1000000 in
theorem Zib (k : Int) : Con Try.prog 84 [.i k] (.i (Zbo k)) := by
 refine gCon Zf4 Zac (rs := [.tmp 2]) (sl := [(0, .g (.i k))]) Try.func84 rfl Try.ntmps84 rfl ZeB rfl (by repeat constructor) ?_
 (repeat' (first | ((with_reducible apply gLB.cagg); (. exact RF.mk ⟨rfl, rfl, rfl⟩)) | ((with_reducible apply gLB.cone); (. exact RF.mk ⟨rfl, rfl⟩)) | ((with_reducible apply gLI.cagg); (. exact RF.mk ⟨rfl, rfl, rfl⟩)) | ((with_reducible apply gLI.cone); (. exact RF.mk ⟨rfl, rfl⟩)) | ((with_reducible apply gAF.cbuildA); (. exact RF.mk rfl); (. exact RF.mk ⟨rfl, rfl, rfl, rfl⟩)) | (with_reducible constructor) | exact Z4 | exact ZN | exact ZI | exact ZS | exact ZF | exact ZG | exact ZC | exact ZP | exact ZQ | (with_reducible apply Zay) | (apply ZaB) | (with_reducible apply Zaf) | exact ZU | (with_reducible apply ZaC) | (apply Zaw) | (with_reducible intro hc; (try simp only [HCs] at hc)) | exact OB_f | exact DEC.mk (by decide) | exact ZM | exact ZT | exact ZK | (with_reducible first | apply gNK | apply ZaH | apply Zal | apply Zaj | apply Zai | apply Zam | apply CK_t | apply CK_f | apply ZaQ | apply Zar | apply ZaF | apply Zau | apply Zah | apply Zag | apply Zak | apply Zav | apply ZaA | apply Zax | apply Zaz | apply Zat | apply Zas | apply ZaR | apply ZaG | apply ZaE | apply ZaP) | apply Zaq Zac | apply Zao Zac rfl | (apply ZaD; exact RF.mk rfl) | exact EQ.mk rfl | exact gSel.cnil _ | apply gSel.ccons | apply gCG.cagg))
 (all_goals (first | (((refine Zan (EQ.mk ?_); unfold Zbo; simp_all)); done)))
def Zg2 : Nat → List Nat
 | 0 => [0, 2]
 | 1 => [2, 3]
 | 2 => [2, 3, 4]
 | 3 => [2, 3, 4]
 | 4 => [2]
 | 5 => [2, 3, 9]
 | 6 => [2]
 | 7 => [2, 3, 13]
 | 8 => [2]
 | 9 => [2, 3, 18]
 | 10 => [2]
 | 11 => [2, 23]
 | 12 => [2]
 | 13 => [2]
 | _ => []
theorem Zfe (args : Array Value) (w : World) : (callFunc 83 args).run Try.prog w = .ok (.enter 83 args) w := Zab Try.func83 (by decide) rfl args w
set_option maxHeartbeats 1000000 in
theorem ZjE (k : Int) (hk : NU (1 ≤ k ∧ k ≤ 7)) : Con Try.prog 83 [.i k] (.pair (monP k).1 (monP k).2) := by
 have hk := hk.e
 refine gCon Zg2 Zac (rs := [.cell 2 63]) (sl := [(0, .g (.i k))]) Try.func83 rfl Try.ntmps83 rfl Zfe rfl (by repeat constructor) ?_
 (repeat' (first | ((with_reducible apply gLB.cagg); (. exact RF.mk ⟨rfl, rfl, rfl⟩)) | ((with_reducible apply gLB.cone); (. exact RF.mk ⟨rfl, rfl⟩)) | ((with_reducible apply gLI.cagg); (. exact RF.mk ⟨rfl, rfl, rfl⟩)) | ((with_reducible apply gLI.cone); (. exact RF.mk ⟨rfl, rfl⟩)) | ((with_reducible apply gAF.cbuildA); (. exact RF.mk rfl); (. exact RF.mk ⟨rfl, rfl, rfl, rfl⟩)) | (with_reducible constructor) | exact Z4 | exact ZN | exact ZI | exact ZS | exact ZF | exact ZG | exact ZC | exact ZP | exact ZQ | (with_reducible apply Zay) | (apply ZaB) | (with_reducible apply Zaf) | exact ZU | (with_reducible apply ZaC) | (apply Zaw) | (with_reducible intro hc; (try simp only [HCs] at hc)) | exact OB_f | exact DEC.mk (by decide) | exact ZM | exact ZT | exact ZK | (with_reducible first | apply gNK | apply ZaH | apply Zal | apply Zaj | apply Zai | apply Zam | apply CK_t | apply CK_f | apply ZaQ | apply Zar | apply ZaF | apply Zau | apply Zah | apply Zag | apply Zak | apply Zav | apply ZaA | apply Zax | apply Zaz | apply Zat | apply Zas | apply ZaR | apply ZaG | apply ZaE | apply ZaP) | apply Zaq Zac | apply Zao Zac rfl | (apply ZaD; exact RF.mk rfl) | exact EQ.mk rfl | exact gSel.cnil _ | apply gSel.ccons | apply gCG.cagg))
 (all_goals (first | (((unfold monP; first | (rw [if_pos (by omega)]; exact EQ.mk rfl) | (rw [if_neg (by omega), if_pos (by omega)]; exact EQ.mk rfl) | (rw [if_neg (by omega), if_neg (by omega), if_pos (by omega)]; exact EQ.mk rfl) | (rw [if_neg (by omega), if_neg (by omega), if_neg (by omega), if_pos (by omega)]; exact EQ.mk rfl) | (rw [if_neg (by omega), if_neg (by omega), if_neg (by omega), if_neg (by omega), if_pos (by omega)]; exact EQ.mk rfl) | (rw [if_neg (by omega), if_neg (by omega), if_neg (by omega), if_neg (by omega), if_neg (by omega)]; exact EQ.mk rfl))); done)))
def ZfO : Nat → List Nat
 | 0 => [2, 3, 4]
 | 1 => [2, 3, 4, 12]
 | 2 => [4]
 | 3 => [2, 3, 4, 5]
 | 4 => [2, 3, 4, 5, 6]
 | 5 => [2, 3, 4, 5, 6, 23]
 | 6 => [2, 3, 4, 5, 6]
 | 7 => [2, 3, 4, 5, 6, 7]
 | 8 => [2, 3, 4, 5, 6, 7, 8]
 | 9 => [2, 3, 4, 5, 6, 7, 8, 30]
 | 10 => [2, 3, 4, 5, 6, 7, 8]
 | 11 => [2, 3, 4, 5, 6, 7, 8]
 | 12 => [2, 3, 4, 5, 6]
 | 13 => [4]
 | _ => []
theorem Zck (args : Array Value) (w : World) : (callFunc 66 args).run Try.prog w = .ok (.enter 66 args) w := Zab Try.func66 (by decide) rfl args w
set_option maxHeartbeats 1000000 in
theorem ZhS (i o k : Int) (a b : List Int) : Con Try.prog 66 [.sig i o, .clause k a b] (.det (monB i o k a b).1 (monB i o k a b).2) := by
 refine Con.fit Zck fun hfit => ?_
 have hb_a : a.length ≤ 9223372036854775807 := GFits.ints (GFits.cell (show GFits (.clause k a b) from hfit 1 (ZL rfl)) (.tail _ (.head _)))
 have hb_b : b.length ≤ 9223372036854775807 := GFits.ints (GFits.cell (show GFits (.clause k a b) from hfit 1 (ZL rfl)) (.tail _ (.tail _ (.head _))))
 clear hfit
 have hk : Zc5 (Zaa i o) k a b = true → 1 ≤ k ∧ k ≤ 7 := ZfG
 refine gCon ZfO Zac (rs := [.cell 4 29]) (sl := [(0, .g (.sig i o)), (1, .g (.clause k a b))]) Try.func66 rfl Try.ntmps66 rfl Zck rfl (by repeat constructor) ?_
 (repeat' (first | ((with_reducible apply gLB.cagg); (. exact RF.mk ⟨rfl, rfl, rfl⟩)) | ((with_reducible apply gLB.cone); (. exact RF.mk ⟨rfl, rfl⟩)) | ((with_reducible apply gLI.cagg); (. exact RF.mk ⟨rfl, rfl, rfl⟩)) | ((with_reducible apply gLI.cone); (. exact RF.mk ⟨rfl, rfl⟩)) | ((with_reducible apply gAF.cbuildA); (. exact RF.mk rfl); (. exact RF.mk ⟨rfl, rfl, rfl, rfl⟩)) | (with_reducible constructor) | exact Z4 | exact NU.mk QM60 | exact ZI | exact ZS | exact ZF | exact ZG | exact ZC | ((with_reducible apply ZaT); (. exact ZA); (. exact NU.mk QM60)) | exact ZQ | (with_reducible apply Zay) | (apply ZaB) | (with_reducible apply Zaf) | ((with_reducible apply ZaU); (. exact NU.mk QM60); (. rfl)) | (with_reducible apply ZaC) | (apply Zaw) | ((with_reducible apply Za0); first | apply Za2 | apply Zfn | apply ZjE | apply Zib | apply Zki) | (with_reducible intro hc; (try simp only [HCs] at hc)) | exact OB_f | exact DEC.mk (by decide) | exact ZM | exact ZT | exact ZK | (with_reducible first | apply gNK | apply ZaH | apply Zal | apply Zaj | apply Zai | apply Zam | apply CK_t | apply CK_f | apply ZaQ | apply Zar | apply ZaF | apply Zau | apply Zah | apply Zag | apply Zak | apply Zav | apply ZaA | apply Zax | apply Zaz | apply Zat | apply Zas | apply ZaR | apply ZaG | apply ZaE | apply ZaP) | apply Zaq Zac | apply Zao Zac rfl | (apply ZaD; exact RF.mk rfl) | exact EQ.mk rfl | exact NU.mk (by have q := hk (by first | (simp_all; done) | fail); omega) | (refine ZaN (id := 0) (ι := Nat × Bool × Tg 0) (fun ⟨q, u, _⟩ => (cond u ⟨[(2, .ptr 3 0), (3, .ptr 4 0), (4, .ptr 0 0), (5, .ptr 1 0), (6, .g (.i q))], [(0, .box [.nils 1, .nils 2]), (1, .box [.nils 1, .own 2 0 1]), (2, .arr 2 true [.pairP (monP k)]), (3, .box [.g (.i i), .g (.i o)]), (4, .box [.g (.i k), .g (.ints a), .g (.ints b)])]⟩ ⟨[(2, .ptr 4 0), (3, .ptr 5 0), (4, .ptr 0 0), (5, .ptr 1 0), (6, .g (.i q))], [(0, .box [.nils 1, .nils 2]), (1, .box [.own 3 0 q, .own 2 0 1]), (2, .arr 2 true [.pairP (monP k)]), (3, .arr 1 true (((monN k a b (Zaa i o).toNat).take q).map GV.ints)), (4, .box [.g (.i i), .g (.i o)]), (5, .box [.g (.i k), .g (.ints a), .g (.ints b)])]⟩)) (fun ⟨q, u, _⟩ => (q ≤ Zbo k) ∧ (cond u (q = 0) (1 ≤ q))) (fun ⟨q, u, _⟩ => Zbo k - q) (0, true, (Tg.t : Tg 0)) ?_ ?_ ?_; (. ((first | apply gLX0 | apply gLX1 | apply gLX2 | apply gLX3 | apply gLX4 | apply gLX5 | apply gLX6 | apply gLX7 | apply gLX8 | apply gLX9 | apply ZoB) <;> (repeat' (first | (with_reducible constructor) | exact Z5 | exact RF.mk (by decide) | (with_reducible apply Zan) | exact EQ.mk QM60)); (all_goals exact QM61))); (. (exact ⟨by omega, rfl⟩)); (rintro ⟨q, u, _⟩ ⟨h1, h2⟩; have z1 := Zkh k; have z2 := ZaJ i o; rcases u with _ | _; (try simp only [cond_true, cond_false] at *); (show TX _ _ _ _ _ [(2, .ptr 4 0), (3, .ptr 5 0), (4, .ptr 0 0), (5, .ptr 1 0), (6, .g (.i q))] [(0, .box [.nils 1, .nils 2]), (1, .box [.own 3 0 q, .own 2 0 1]), (2, .arr 2 true [.pairP (monP k)]), (3, .arr 1 true (((monN k a b (Zaa i o).toNat).take q).map GV.ints)), (4, .box [.g (.i i), .g (.i o)]), (5, .box [.g (.i k), .g (.ints a), .g (.ints b)])] _); rotate_left 1; (try simp only [cond_true, cond_false] at *); (show TX _ _ _ _ _ [(2, .ptr 3 0), (3, .ptr 4 0), (4, .ptr 0 0), (5, .ptr 1 0), (6, .g (.i q))] [(0, .box [.nils 1, .nils 2]), (1, .box [.nils 1, .own 2 0 1]), (2, .arr 2 true [.pairP (monP k)]), (3, .box [.g (.i i), .g (.i o)]), (4, .box [.g (.i k), .g (.ints a), .g (.ints b)])] _))) | (refine ZaN (id := 2) (ι := Nat × Tg 2) (fun ⟨x, _⟩ => ⟨[(2, .ptr 5 0), (3, .ptr 6 0), (4, .ptr 0 0), (5, .ptr 1 0), (6, .g (.i q)), (7, .own 4 0 x), (8, .g (.i x))], [(0, .box [.nils 1, .nils 2]), (1, .box [.own 3 0 q, .own 2 0 1]), (2, .arr 2 true [.pairP (monP k)]), (3, .arr 1 true (((monN k a b (Zaa i o).toNat).take q).map GV.ints)), (4, .arr 1 true (((Zcj k a b (Zaa i o).toNat q).take x).map GV.i)), (5, .box [.g (.i i), .g (.i o)]), (6, .box [.g (.i k), .g (.ints a), .g (.ints b)])]⟩) (fun ⟨x, _⟩ => (x ≤ (Zaa i o).toNat)) (fun ⟨x, _⟩ => (Zaa i o).toNat - x) (0, (Tg.t : Tg 2)) ?_ ?_ ?_; (. (apply gLX7 <;> (repeat' (first | (with_reducible constructor) | exact Z5 | exact RF.mk (by decide) | (with_reducible apply Zan) | exact EQ.mk QM60)); (all_goals exact QM62))); (. (omega)); (rintro ⟨x, _⟩ g1; (try dsimp only at g1); (show TX _ _ _ _ _ [(2, .ptr 5 0), (3, .ptr 6 0), (4, .ptr 0 0), (5, .ptr 1 0), (6, .g (.i q)), (7, .own 4 0 x), (8, .g (.i x))] [(0, .box [.nils 1, .nils 2]), (1, .box [.own 3 0 q, .own 2 0 1]), (2, .arr 2 true [.pairP (monP k)]), (3, .arr 1 true (((monN k a b (Zaa i o).toNat).take q).map GV.ints)), (4, .arr 1 true (((Zcj k a b (Zaa i o).toNat q).take x).map GV.i)), (5, .box [.g (.i i), .g (.i o)]), (6, .box [.g (.i k), .g (.ints a), .g (.ints b)])] _))) | (refine ZaN (id := 2) (ι := Nat × Tg 2) (fun ⟨x, _⟩ => ⟨[(2, .ptr 4 0), (3, .ptr 5 0), (4, .ptr 0 0), (5, .ptr 1 0), (6, .g (.i q)), (7, .own 3 0 x), (8, .g (.i x))], [(0, .box [.nils 1, .nils 2]), (1, .box [.nils 1, .own 2 0 1]), (2, .arr 2 true [.pairP (monP k)]), (3, .arr 1 true (((Zcj k a b (Zaa i o).toNat q).take x).map GV.i)), (4, .box [.g (.i i), .g (.i o)]), (5, .box [.g (.i k), .g (.ints a), .g (.ints b)])]⟩) (fun ⟨x, _⟩ => (x ≤ (Zaa i o).toNat)) (fun ⟨x, _⟩ => (Zaa i o).toNat - x) (0, (Tg.t : Tg 2)) ?_ ?_ ?_; (. ((first | apply gLX0 | apply gLX1 | apply gLX2 | apply gLX3 | apply gLX4 | apply gLX5 | apply gLX6 | apply gLX7 | apply gLX8 | apply gLX9 | apply ZoB) <;> (repeat' (first | (with_reducible constructor) | exact Z5 | exact RF.mk (by decide) | (with_reducible apply Zan) | exact EQ.mk QM60)); (all_goals exact QM62))); (. (omega)); (rintro ⟨x, _⟩ g1; (try dsimp only at g1); (show TX _ _ _ _ _ [(2, .ptr 4 0), (3, .ptr 5 0), (4, .ptr 0 0), (5, .ptr 1 0), (6, .g (.i q)), (7, .own 3 0 x), (8, .g (.i x))] [(0, .box [.nils 1, .nils 2]), (1, .box [.nils 1, .own 2 0 1]), (2, .arr 2 true [.pairP (monP k)]), (3, .arr 1 true (((Zcj k a b (Zaa i o).toNat q).take x).map GV.i)), (4, .box [.g (.i i), .g (.i o)]), (5, .box [.g (.i k), .g (.ints a), .g (.ints b)])] _))) | exact gSel.cnil _ | apply gSel.ccons | apply gCG.cagg))
 (all_goals (first | (refine Zbf (q + 1, false, (Tg.t : Tg 0)) ?_ ?_ ?_; (· ((first | apply gLX0 | apply gLX1 | apply gLX2 | apply gLX3 | apply gLX4 | apply gLX5 | apply gLX6 | apply gLX7 | apply gLX8 | apply gLX9 | apply ZoB) <;> (repeat' (first | (with_reducible constructor) | exact Z5 | exact RF.mk (by decide) | (with_reducible apply Zan) | exact EQ.mk QM60)); (all_goals exact QM61))); (· (exact ⟨by omega, (by show 1 ≤ q + 1; omega)⟩)); (· exact ZW)) | (refine Zbf (x + 1, (Tg.t : Tg 2)) ?_ ?_ ?_; (· ((first | apply gLX0 | apply gLX1 | apply gLX2 | apply gLX3 | apply gLX4 | apply gLX5 | apply gLX6 | apply gLX7 | apply gLX8 | apply gLX9 | apply ZoB) <;> (repeat' (first | (with_reducible constructor) | exact Z5 | exact RF.mk (by decide) | (with_reducible apply Zan) | exact EQ.mk QM60)); (all_goals exact QM62))); (· (omega)); (· exact ZW)) | (((unfold monB; first | (rw [if_pos (by first | (simp_all; done) | fail)]; first | (exfalso; omega) | (refine Zcn (Zbd (ZbY (ZaS (EQ.mk ?_))) (EQ.mk rfl)); first | rw [ZnH (by rw [ZbD]; omega)] | rw [List.take_of_length_le (by rw [ZbD]; omega)]) | exact EQ.mk rfl) | (rw [if_neg (by first | (simp_all; done) | fail)]; exact EQ.mk rfl) | (rw [if_neg (by rcases hc with hc | hc <;> rw [hc] <;> simp)]; exact EQ.mk rfl))); done)))
end Go.Proofs.Ytnieejghoaccmaa

