/- Contracts: the reference solves parity games, by recursion. No conditions but those that each theorem names. -/
import Derived.Test.YtjjidamlmebaaaaGreatTab
import Derived.Test.YtjjidamlmebaaaaGreatKG
import Derived.Test.YtjjidamlmebaaaaGreatQ1
import Derived.Test.YtjjidamlmebaaaaGreatChecked
set_option linter.unusedSimpArgs false
set_option linter.unusedVariables false
namespace Go.Proofs.YtjjidamlmebaaaaGreat
open Go.RowKit
open Shp
theorem QQW2 {p : Prop} (h : p := by rw [List.take_of_length_le (by rw [ZbF]; exact Nat.le_refl _)]; exact Zft (by omega)) : p := h
theorem QQW1 {p : Prop} (h : p := by first | exact ZO | (first | omega | (simp only [List.length_map, ZbF]; omega) | (simp only [List.length_set, ZbF]; omega) | (simp only [ZkD, ZdM]; omega))) : p := h
theorem QQW0 {p : Prop} (h : p := by ((first | exact EQ.mk rfl | (refine EQ.mk ?_; first | exact ZaZ _ _ | exact ZdM _ _ | exact ZaX _) | (refine Zap (EQ.mk ?_); rw [Zed]; done) | (refine Zap (EQ.mk (Zhx ?_)); (try unfold ZeY); simp_all [bne]; done) | (refine Zap (EQ.mk ?_); (try rw [Zed]); congr 1; omega) | (refine Zax ?_; rw [ZoE]; (try rw [Zav (by rw [ZbF]; omega)]); rw [hc]; first | rfl | (rw [Bool.false_or]; unfold ZeY; simp_all [bne]; done))); done)) : p := h
def Zf5 : Nat → List Nat
 | 0 => [1, 2]
 | 1 => [1, 2, 5]
 | 2 => [1, 2, 5, 6]
 | 3 => [1, 2, 5, 6, 26]
 | 4 => [4]
 | 5 => [1, 2, 5, 6, 7]
 | 6 => [1, 2, 5, 6, 7, 8]
 | 7 => [1, 2, 5, 6, 7, 8, 9]
 | 8 => [1, 2, 5, 6, 7, 8, 9, 36]
 | 9 => [1, 2, 5, 6, 7, 8, 9]
 | 10 => [1, 2, 5, 6, 7, 8, 9]
 | 11 => [1, 2, 6, 7, 10]
 | 12 => [1, 2, 6, 7, 10, 11]
 | 13 => [1, 2, 6, 7, 10, 11, 12]
 | 14 => [1, 2, 6, 7, 10, 11, 12, 13]
 | 15 => [1, 2, 6, 7, 10, 11, 12, 13, 14]
 | 16 => [1, 2, 6, 7, 10, 11, 12, 13, 14, 71]
 | 17 => [1, 2, 6, 7, 10, 11, 12, 13, 14]
 | 18 => [1, 2, 6, 7, 10, 11, 12, 13, 14]
 | 19 => [1, 2, 6, 7, 10, 11, 12, 13, 14]
 | 20 => [1, 2, 6, 7, 12, 98]
 | 21 => [1, 6, 7, 15]
 | 22 => [1, 6, 7, 15, 102]
 | 23 => [1, 6, 7, 15]
 | 24 => [1, 6, 7, 15]
 | 25 => [4]
 | 26 => [1, 2, 6, 7, 16]
 | 27 => [1, 6, 7, 16, 17]
 | 28 => [1, 6, 7, 16, 17, 18]
 | 29 => [1, 6, 7, 16, 17, 18, 131]
 | 30 => [1, 6, 7, 16, 17, 18]
 | 31 => [1, 6, 7, 16, 17, 18]
 | 32 => [4]
 | _ => []
theorem Zb4 (args : Array Value) (w : World) : (callFunc 101 args).run Tryz.prog w = .ok (.enter 101 args) w := Zaa Tryz.func101 (by decide) rfl args w
set_option maxRecDepth 20000 in
set_option maxHeartbeats 8000000 in
theorem Zh3 (n : Nat) (o p : List Int) (nx pv : List (List Int)) (ins : List Bool) (hg : HY (GDt n o p nx)) (hp : HY (PRd n nx pv)) (hi : NU (ins.length = n ∧ n ≤ 1000000)) (ht : HY (TotL n nx ins)) (hpr : HY (∀ v, v < n → 0 ≤ nth p v ∧ nth p v ≤ 1000000)) (ih : HY (∀ ys : List Bool, ys.length = n → TotL n nx ys → cnt n (inS n ys) < cnt n (inS n ins) → Con Tryz.prog 101 [.gam o p nx pv (List.replicate n (-1)), .bools ys] (.bools (winL n o p nx 0 ys)))) : Con Tryz.prog 101 [.gam o p nx pv (List.replicate n (-1)), .bools ins] (.bools (winL n o p nx 0 ins)) := by
 have hg := hg.e
 have hp := hp.e
 have hi := hi.e
 have ht := ht.e
 have hpr := hpr.e
 have ih := ih.e
 refine Con.fit Zb4 fun hfit => ?_
 have hb_ins : ins.length ≤ 9223372036854775807 := GFits.lenm (show GFits (.bools ins) from hfit 1 (ZL rfl))
 clear hfit
 have hpl := hg.lp; have htl := Zmi (p := p) (ins := ins) (v := n) (fun x hx => (hpr x hx).1); have hal := @ZdM n o p nx ins; have hll := @ZoL n o p nx ins (topL p ins n); have hrl := @Zk3 n o p nx ins (topL p ins n); have hwl := @ZaX n o p nx (Zda n o p nx ins (topL p ins n)) 0; have hw2 := @ZaX n o p nx (ZgF n o p nx ins (topL p ins n)) 0; have hsl := @Zlv n o p nx ins (topL p ins n); have hgl := @ZoB n p ins (topL p ins n)
 refine gCon Zf5 Zab (rs := [.tmp 4]) (sl := [(0, .g (.gam o p nx pv (List.replicate n (-1)))), (1, .g (.bools ins))]) Tryz.func101 rfl Tryz.ntmps101 rfl Zb4 rfl (by repeat constructor) ?_
 (repeat' (first | ((with_reducible apply gLB.cagg); (. exact RF.mk ⟨rfl, rfl, rfl⟩)) | ((with_reducible apply gLB.cone); (. exact RF.mk ⟨rfl, rfl⟩)) | ((with_reducible apply gLI.cone); (. exact RF.mk ⟨rfl, rfl⟩)) | (with_reducible constructor) | exact Z3 | exact NU.mk QQW1 | exact ZS | exact ZF | exact ZC | ((with_reducible apply Zbk); (. exact ZA); (. exact NU.mk QQW1)) | ((with_reducible apply Zaw); first | (have e9 := Znt n o p nx pv ins (NU.mk (by omega)); rw [hi.1] at e9; exact e9) | (have eg : List.take n (preL n v (fun x => nth ins x && (nth p x == (topL p ins n)))) = Zgi n p ins (topL p ins n) := QQW2; rw [eg]; exact Ze6 n o p nx pv ((topL p ins n) % 2) ins (Zgi n p ins (topL p ins n)) (HY.mk hg) (HY.mk hp) (NU.mk (by omega)) (HY.mk ht)) | (have eg : List.take n (preL n v (ZeY n o p nx ins (topL p ins n))) = ZfZ n o p nx ins (topL p ins n) := QQW2; rw [eg]; exact Ze6 n o p nx pv (1 - (topL p ins n) % 2) ins (ZfZ n o p nx ins (topL p ins n)) (HY.mk hg) (HY.mk hp) (NU.mk (by omega)) (HY.mk ht)) | ((try rw [List.take_of_length_le (Nat.le_of_eq (ZdM _ _))]); exact ZlW n ins _ (NU.mk ⟨by omega, ZdM _ _, by omega⟩)) | ((try rw [List.take_of_length_le (Nat.le_of_eq (ZaZ _ _))]); exact ih (Zda n o p nx ins (topL p ins n)) (Zk3 _) (Zm5 hg ht) (by obtain ⟨x, hx, g1, g2⟩ := (htl.resolve_left (fun h => by have := h.1; omega)).2; exact Ztf hx g1 g2)) | ((try rw [List.take_of_length_le (Nat.le_of_eq (ZaZ _ _))]); exact ih (ZgF n o p nx ins (topL p ins n)) (Zlv _) (ZrI hg ht) (by obtain ⟨x, hx, g1⟩ := ZqS (by assumption : anyL v (ZeY n o p nx ins (topL p ins n)) = true); exact ZtE (by omega) g1))) | (with_reducible intro hc; (try simp only [HCs] at hc)) | exact OB_f | exact ZM | exact ZK | (with_reducible first | apply gNK | apply Zaj | apply Zae | apply Zam | apply Zar | apply Zag | apply ZaG | apply Zak | apply Zai | apply Zas | apply Zal | apply Zau | apply Zat | apply Zao) | apply Zaf Zab | apply Za4 Zab rfl | (apply ZaB; exact RF.mk rfl) | (refine Zah (id := 0) (ι := Nat) (fun v => ⟨[(1, .g (.bools ins)), (2, .ptr 2 0), (5, .g (.i (topL p ins n))), (6, .own 0 0 n), (7, .g (.i ((topL p ins n) % 2))), (8, .own 1 0 n), (9, .g (.i v))], [(0, .arr 1 true ((List.replicate n false).map GV.bool)), (1, .arr 1 true ((preL n v (fun x => nth ins x && (nth p x == (topL p ins n)))).map GV.bool)), (2, .box [.g (.ints o), .g (.ints p), .g (.rows nx), .g (.rows pv), .g (.ints (List.replicate n (-1)))])]⟩) (fun v => (v ≤ n)) (fun v => n - v) (0) ?_ ?_ ?_; (. (apply gLX3 <;> (repeat' (first | (with_reducible constructor) | exact Z5 | exact RF.mk (by decide) | (with_reducible apply Zad) | exact EQ.mk QQW1)); (all_goals exact QQW0))); (. (omega)); (rintro v h1; (show TX _ _ _ _ _ [(1, .g (.bools ins)), (2, .ptr 2 0), (5, .g (.i (topL p ins n))), (6, .own 0 0 n), (7, .g (.i ((topL p ins n) % 2))), (8, .own 1 0 n), (9, .g (.i v))] [(0, .arr 1 true ((List.replicate n false).map GV.bool)), (1, .arr 1 true ((preL n v (fun x => nth ins x && (nth p x == (topL p ins n)))).map GV.bool)), (2, .box [.g (.ints o), .g (.ints p), .g (.rows nx), .g (.rows pv), .g (.ints (List.replicate n (-1)))])] _))) | (refine Zah (id := 2) (ι := Nat) (fun v => ⟨[(1, .g (.bools ins)), (2, .ptr 4 0), (6, .own 0 0 n), (7, .g (.i ((topL p ins n) % 2))), (10, .own 1 0 n), (11, .own 2 0 n), (12, .own 3 0 n), (13, .g (.bool (anyL v (ZeY n o p nx ins (topL p ins n))))), (14, .g (.i v))], [(0, .arr 1 true ((List.replicate n false).map GV.bool)), (1, .arr 1 true ((Zda n o p nx ins (topL p ins n)).map GV.bool)), (2, .arr 1 true ((winL n o p nx 0 (Zda n o p nx ins (topL p ins n))).map GV.bool)), (3, .arr 1 true ((preL n v (ZeY n o p nx ins (topL p ins n))).map GV.bool)), (4, .box [.g (.ints o), .g (.ints p), .g (.rows nx), .g (.rows pv), .g (.ints (List.replicate n (-1)))])]⟩) (fun v => (v ≤ n)) (fun v => n - v) (0) ?_ ?_ ?_; (. (apply gLX5 <;> (repeat' (first | (with_reducible constructor) | exact Z5 | exact RF.mk (by decide) | (with_reducible apply Zad) | exact EQ.mk QQW1)); (all_goals exact QQW0))); (. (omega)); (rintro v h1; (show TX _ _ _ _ _ [(1, .g (.bools ins)), (2, .ptr 4 0), (6, .own 0 0 n), (7, .g (.i ((topL p ins n) % 2))), (10, .own 1 0 n), (11, .own 2 0 n), (12, .own 3 0 n), (13, .g (.bool (anyL v (ZeY n o p nx ins (topL p ins n))))), (14, .g (.i v))] [(0, .arr 1 true ((List.replicate n false).map GV.bool)), (1, .arr 1 true ((Zda n o p nx ins (topL p ins n)).map GV.bool)), (2, .arr 1 true ((winL n o p nx 0 (Zda n o p nx ins (topL p ins n))).map GV.bool)), (3, .arr 1 true ((preL n v (ZeY n o p nx ins (topL p ins n))).map GV.bool)), (4, .box [.g (.ints o), .g (.ints p), .g (.rows nx), .g (.rows pv), .g (.ints (List.replicate n (-1)))])] _))) | (refine Zah (id := 4) (ι := Nat) (fun v => ⟨[(1, .g (.bools ins)), (6, .own 0 0 n), (7, .g (.i ((topL p ins n) % 2))), (15, .g (.i v))], [(0, .arr 1 true ((preL n v (fun x => nth ins x && ((topL p ins n) % 2 == 0))).map GV.bool))]⟩) (fun v => (v ≤ n) ∧ (anyL n (ZeY n o p nx ins (topL p ins n)) = false)) (fun v => n - v) (0) ?_ ?_ ?_; (. (apply gLX1 <;> (repeat' (first | (with_reducible constructor) | exact Z5 | exact RF.mk (by decide) | (with_reducible apply Zad) | exact EQ.mk QQW1)); (all_goals exact QQW0))); (. ((have e9 : anyL n (ZeY n o p nx ins (topL p ins n)) = false := (by have e8 : v = n := (by omega); rw [e8] at hc; exact hc); refine ⟨?_, e9⟩; omega))); (rintro v ⟨h1, h9⟩; (show TX _ _ _ _ _ [(1, .g (.bools ins)), (6, .own 0 0 n), (7, .g (.i ((topL p ins n) % 2))), (15, .g (.i v))] [(0, .arr 1 true ((preL n v (fun x => nth ins x && ((topL p ins n) % 2 == 0))).map GV.bool))] _))) | (refine Zah (id := 6) (ι := Nat) (fun v => ⟨[(1, .g (.bools ins)), (6, .own 0 0 n), (7, .g (.i ((topL p ins n) % 2))), (16, .own 1 0 n), (17, .own 2 0 n), (18, .g (.i v))], [(0, .arr 1 true ((preL n v (fun x => nth (winL n o p nx 0 (ZgF n o p nx ins (topL p ins n))) x || (nth (ZkD n o p nx ins (topL p ins n)) x && ((topL p ins n) % 2 == 1)))).map GV.bool)), (1, .arr 1 true ((ZkD n o p nx ins (topL p ins n)).map GV.bool)), (2, .arr 1 true ((winL n o p nx 0 (ZgF n o p nx ins (topL p ins n))).map GV.bool))]⟩) (fun v => (v ≤ n)) (fun v => n - v) (0) ?_ ?_ ?_; (. (apply gLX3 <;> (repeat' (first | (with_reducible constructor) | exact Z5 | exact RF.mk (by decide) | (with_reducible apply Zad) | exact EQ.mk QQW1)); (all_goals exact QQW0))); (. (omega)); (rintro v h1; (show TX _ _ _ _ _ [(1, .g (.bools ins)), (6, .own 0 0 n), (7, .g (.i ((topL p ins n) % 2))), (16, .own 1 0 n), (17, .own 2 0 n), (18, .g (.i v))] [(0, .arr 1 true ((preL n v (fun x => nth (winL n o p nx 0 (ZgF n o p nx ins (topL p ins n))) x || (nth (ZkD n o p nx ins (topL p ins n)) x && ((topL p ins n) % 2 == 1)))).map GV.bool)), (1, .arr 1 true ((ZkD n o p nx ins (topL p ins n)).map GV.bool)), (2, .arr 1 true ((winL n o p nx 0 (ZgF n o p nx ins (topL p ins n))).map GV.bool))] _))) | apply gSel.ccons))
 (all_goals (first | (refine ZaA (v + 1) ?_ ?_ ?_; (· (apply gLX3 <;> (repeat' (first | (with_reducible constructor) | exact Z5 | exact RF.mk (by decide) | (with_reducible apply Zad) | exact EQ.mk QQW1)); (all_goals exact QQW0))); (· (first | omega | (refine ⟨?_, h9⟩; omega))); (· exact ZW)) | (refine ZaA (v + 1) ?_ ?_ ?_; (· (apply gLX5 <;> (repeat' (first | (with_reducible constructor) | exact Z5 | exact RF.mk (by decide) | (with_reducible apply Zad) | exact EQ.mk QQW1)); (all_goals exact QQW0))); (· (first | omega | (refine ⟨?_, h9⟩; omega))); (· exact ZW)) | (refine ZaA (v + 1) ?_ ?_ ?_; (· (apply gLX1 <;> (repeat' (first | (with_reducible constructor) | exact Z5 | exact RF.mk (by decide) | (with_reducible apply Zad) | exact EQ.mk QQW1)); (all_goals exact QQW0))); (· (first | omega | (refine ⟨?_, h9⟩; omega))); (· exact ZW)) | (((refine Za1 (Zap (EQ.mk ?_)); first | ((try rw [List.take_of_length_le (by first | (simp; done) | fail)]); rw [show ((ins.length : Nat) : Int).toNat = n by omega]; exact Zv5 (htl.resolve_right (fun h => by have := h.1; omega)).2) | ((try rw [List.take_of_length_le (by rw [ZbF]; exact Nat.le_refl _)]); rw [Zft (by omega)]; first | exact Zvl hg ht (fun v hv h => Zmk hv h) h9 | exact ZvG hg ht))); done)))
theorem ZjE (n : Nat) (o p : List Int) (nx pv : List (List Int)) (hg : HY (GDt n o p nx)) (hp : HY (PRd n nx pv)) (hpr : HY (∀ v, v < n → 0 ≤ nth p v ∧ nth p v ≤ 1000000)) (hn : NU (n ≤ 1000000)) : ∀ (c : Nat) (ins : List Bool), cnt n (inS n ins) < c → ins.length = n → TotL n nx ins → Con Tryz.prog 101 [.gam o p nx pv (List.replicate n (-1)), .bools ins] (.bools (winL n o p nx 0 ins))
 | 0, _, h, _, _ => absurd h (by omega)
 | c + 1, ins, h, hl, ht => Zh3 n o p nx pv ins hg hp (NU.mk ⟨hl, hn.e⟩) (HY.mk ht) hpr (HY.mk fun ys hy hty hc => ZjE n o p nx pv hg hp hpr hn c ys (by omega) hy hty)
end Go.Proofs.YtjjidamlmebaaaaGreat

