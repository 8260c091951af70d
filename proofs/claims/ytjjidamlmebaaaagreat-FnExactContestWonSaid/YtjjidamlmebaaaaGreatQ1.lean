/- Contracts: the reference solves parity games. No conditions but those that each theorem names. -/
import Derived.Test.YtjjidamlmebaaaaGreatTab
import Derived.Test.YtjjidamlmebaaaaGreatKG
import Derived.Test.YtjjidamlmebaaaaGreatW1
import Derived.Test.YtjjidamlmebaaaaGreatZD
import Derived.Test.YtjjidamlmebaaaaGreatPK3
import Derived.Test.YtjjidamlmebaaaaGreatChecked
set_option linter.unusedSimpArgs false
set_option linter.unusedVariables false
namespace Go.Proofs.YtjjidamlmebaaaaGreat
open Go.RowKit
open Shp
theorem QQ17 {p : Prop} (h : p := by ((first | exact EQ.mk rfl | (refine Zap (EQ.mk ?_); exact Zhx (by first | (simp_all; done) | fail)) | (refine Zap (EQ.mk ?_); rw [Zed]; congr 1; omega)); done)) : p := h
theorem QQ16 {p : Prop} (h : p := by ((first | exact EQ.mk rfl | (refine EQ.mk ?_; rw [ZaF (by omega), List.countP_append]; simp_all; done) | (refine EQ.mk ?_; rw [ZaF (by omega), List.countP_append, List.countP_singleton]; simp_all; done)); done)) : p := h
theorem QQ15 {p : Prop} (h : p := by ((first | exact EQ.mk rfl | (refine EQ.mk ?_; simp only [topL]; first | (rw [if_pos (by assumption)]; done) | (rw [if_neg (by first | (simp_all; done) | fail)]; done) | (rw [if_pos (by assumption)]; rfl) | (rw [if_neg (by first | (simp_all; done) | fail)]; rfl))); done)) : p := h
theorem QQ14 {p : Prop} (h : p := by first | exact ZO | (first | omega | (simp only [List.length_map, ZbF]; omega))) : p := h
theorem QQ13 {p : Prop} (h : p := by ((first | exact EQ.mk rfl | (exfalso; simp_all; done) | (refine EQ.mk ?_; simp; done) | (refine Zap (EQ.mk ?_); congr 1; omega) | exact Zap (EQ.mk rfl)); done)) : p := h
theorem QQ12 {p : Prop} (h : p := by first | exact ZO | (first | omega | (have q := hrg _ (ZaE (show i < (nth nx v).length by omega)); omega) | (have q := @List.countP_le_length _ (fun u : Int => nth ins u.toNat) (List.take i (nth nx v)); have q2 := @List.length_take _ i (nth nx v); omega))) : p := h
theorem QQ11 {p : Prop} (h : p := by ((first | exact EQ.mk rfl | exact absurd (by assumption : false = true) Bool.false_ne_true | ((try simp only [Nat.zero_add]); first | exact EQ.mk rfl | (refine EQ.mk ?_; simp; done) | exact Zap (EQ.mk rfl))); done)) : p := h
theorem QQ10 {p : Prop} (h : p := by first | exact ZO | (first | omega | (have q9 := gv (by assumption); first | omega | ((try simp only [Nat.zero_add] at *); have q7 := g3.rng hg q9.2.1 (by assumption) (by assumption); omega)) | (simp only [List.length_map]; omega) | (simp only [List.length_map]; have q9 := gv (by assumption); omega))) : p := h
def Zjf : Nat → List Nat
 | 0 => [1, 2, 3]
 | 1 => [6]
 | _ => []
theorem Zgz (args : Array Value) (w : World) : (callFunc 127 args).run Tryz.prog w = .ok (.enter 127 args) w := Zaa Tryz.func127 (by decide) rfl args w
set_option maxHeartbeats 1000000 in
theorem ZiD (n : Nat) (o p : List Int) (nx pv : List (List Int)) (v u : Int) (hv : NU (0 ≤ v ∧ v < n)) : Con Tryz.prog 127 [.gam o p nx pv (List.replicate n (-1)), .i v, .i u] (.bool true) := by
 have hv := hv.e
 have hl := @List.length_replicate _ n (-1 : Int)
 have hr := Zdc (a := (-1 : Int)) (show v.toNat < n by omega)
 refine gCon Zjf Zab (rs := [.tmp 6]) (sl := [(0, .g (.gam o p nx pv (List.replicate n (-1)))), (1, .g (.i v)), (2, .g (.i u))]) Tryz.func127 rfl Tryz.ntmps127 rfl Zgz rfl (by repeat constructor) ?_
 (repeat' (first | ((with_reducible apply gLB.cone); (. exact RF.mk ⟨rfl, rfl⟩)) | ((with_reducible apply gLI.cone); (. exact RF.mk ⟨rfl, rfl⟩)) | (with_reducible constructor) | exact Z2 | exact ZN | exact ZS | exact ZF | (with_reducible intro hc; (try simp only [HCs] at hc)) | exact OB_f | (with_reducible first | apply gNK | apply Zaj | apply Zae | apply Zai) | apply Zaf Zab | apply gSel.ccons))
 (all_goals (first | (((refine Zax ?_; first | rfl | (exfalso; simp_all; omega) | (simp_all; done) | (exfalso; omega))); done)))
def Zhd : Nat → List Nat
 | 0 => [1, 2, 3]
 | 1 => [1, 2, 3, 7]
 | 2 => [1, 2, 3, 7, 8]
 | 3 => [1, 2, 3, 7, 8, 17]
 | 4 => [1, 2, 3, 7, 8]
 | 5 => [1, 2, 3, 7, 8, 9]
 | 6 => [1, 2, 3, 7, 8, 37]
 | 7 => [1, 2, 3, 7, 8]
 | 8 => [6]
 | _ => []
theorem Zcu (args : Array Value) (w : World) : (callFunc 100 args).run Tryz.prog w = .ok (.enter 100 args) w := Zaa Tryz.func100 (by decide) rfl args w
set_option maxHeartbeats 1000000 in
theorem Zf3 (n : Nat) (o p : List Int) (nx pv : List (List Int)) (ins : List Bool) (v : Nat) (hg : HY (GDt n o p nx)) (hv : NU (v < n ∧ ins.length = n ∧ n ≤ 1000000)) : Con Tryz.prog 100 [.gam o p nx pv (List.replicate n (-1)), .bools ins, .i v] (.i (degN nx ins v)) := by
 have hg := hg.e
 have hv := hv.e
 refine Con.fit Zcu fun hfit => ?_
 have hb_ins : ins.length ≤ 9223372036854775807 := GFits.lenm (show GFits (.bools ins) from hfit 1 (ZL rfl))
 clear hfit
 have hrg := hg.rg v hv.1
 have hln := hg.ln
 have hl2 := Zbh (hg.nd v hv.1) hrg
 refine gCon Zhd Zab (rs := [.tmp 6]) (sl := [(0, .g (.gam o p nx pv (List.replicate n (-1)))), (1, .g (.bools ins)), (2, .g (.i v))]) Tryz.func100 rfl Tryz.ntmps100 rfl Zcu rfl (by repeat constructor) ?_
 (repeat' (first | ((with_reducible apply gLB.cagg); (. exact RF.mk ⟨rfl, rfl, rfl⟩)) | ((with_reducible apply gLB.cone); (. exact RF.mk ⟨rfl, rfl⟩)) | ((with_reducible apply gLI.cone); (. exact RF.mk ⟨rfl, rfl⟩)) | (with_reducible constructor) | exact Z2 | exact NU.mk QQ12 | exact ZS | exact ZF | ((with_reducible apply Zaw); first | (exact ZiD n o p nx pv v _ (NU.mk (by omega)))) | (with_reducible intro hc; (try simp only [HCs] at hc)) | exact OB_f | (with_reducible first | apply gNK | apply Zaj | apply Zae | apply Zam | apply Zag | apply CK_t | apply CK_f | apply ZaG | apply Zak | apply Zai | apply Zas | apply Zal | apply Zau | apply Zat | apply Zao) | apply Zaf Zab | (apply ZaB; exact RF.mk rfl) | (refine Zah (id := 0) (ι := Nat) (fun i => ⟨[(1, .g (.bools ins)), (2, .g (.i v)), (3, .ptr 0 0), (7, .g (.i (((nth nx v).take i).countP fun u => nth ins u.toNat))), (8, .g (.i i))], [(0, .box [.g (.ints o), .g (.ints p), .g (.rows nx), .g (.rows pv), .g (.ints (List.replicate n (-1)))])]⟩) (fun i => (i ≤ (nth nx v).length)) (fun i => (nth nx v).length - i) (0) ?_ ?_ ?_; (. (apply gLX1 <;> (repeat' (first | (with_reducible constructor) | exact Z5 | exact RF.mk (by decide) | (with_reducible apply Zad) | exact EQ.mk QQ12)); (all_goals exact QQ16))); (. (omega)); (rintro i h1; (show TX _ _ _ _ _ [(1, .g (.bools ins)), (2, .g (.i v)), (3, .ptr 0 0), (7, .g (.i (((nth nx v).take i).countP fun u => nth ins u.toNat))), (8, .g (.i i))] [(0, .box [.g (.ints o), .g (.ints p), .g (.rows nx), .g (.rows pv), .g (.ints (List.replicate n (-1)))])] _))) | apply gSel.ccons))
 (all_goals (first | (refine ZaA (i + 1) ?_ ?_ ?_; (· (apply gLX1 <;> (repeat' (first | (with_reducible constructor) | exact Z5 | exact RF.mk (by decide) | (with_reducible apply Zad) | exact EQ.mk QQ12)); (all_goals exact QQ16))); (· (omega)); (· exact ZW)) | (((refine Zad (EQ.mk ?_); unfold degN; rw [List.take_of_length_le (by omega)])); done)))
def ZiX : Nat → List Nat
 | 0 => [0, 1]
 | 1 => [0, 1, 5]
 | 2 => [0, 1, 5, 6]
 | 3 => [0, 1, 5, 6, 13]
 | 4 => [0, 1, 5, 6]
 | 5 => [0, 1, 5, 6]
 | 6 => [4]
 | _ => []
theorem Zdl (args : Array Value) (w : World) : (callFunc 129 args).run Tryz.prog w = .ok (.enter 129 args) w := Zaa Tryz.func129 (by decide) rfl args w
set_option maxHeartbeats 1000000 in
theorem ZlW (n : Nat) (a b : List Bool) (hn : NU (a.length = n ∧ b.length = n ∧ n ≤ 1000000)) : Con Tryz.prog 129 [.bools a, .bools b] (.bools (ZcN n a b)) := by
 have hn := hn.e
 refine Con.fit Zdl fun hfit => ?_
 have hb_a : a.length ≤ 9223372036854775807 := GFits.lenm (show GFits (.bools a) from hfit 0 (ZL rfl))
 have hb_b : b.length ≤ 9223372036854775807 := GFits.lenm (show GFits (.bools b) from hfit 1 (ZL rfl))
 clear hfit
 refine gCon ZiX Zab (rs := [.tmp 4]) (sl := [(0, .g (.bools a)), (1, .g (.bools b))]) Tryz.func129 rfl Tryz.ntmps129 rfl Zdl rfl (by repeat constructor) ?_
 (repeat' (first | ((with_reducible apply gLI.cone); (. exact RF.mk ⟨rfl, rfl⟩)) | (with_reducible constructor) | exact Z3 | exact NU.mk QQ14 | exact ZS | ((with_reducible apply Zbk); (. exact ZA); (. exact NU.mk QQ14)) | (with_reducible intro hc; (try simp only [HCs] at hc)) | exact OB_f | exact ZM | (with_reducible first | apply gNK | apply Zaj | apply Zae | apply Zam | apply Zag | apply ZaG | apply Zak | apply Zai | apply Zas | apply Zal | apply Zau | apply Zat | apply Zao) | apply Zaf Zab | (apply ZaB; exact RF.mk rfl) | (refine Zah (id := 0) (ι := Nat) (fun v => ⟨[(0, .g (.bools a)), (1, .g (.bools b)), (5, .own 0 0 n), (6, .g (.i v))], [(0, .arr 1 true ((preL n v (fun x => nth a x && !nth b x)).map GV.bool))]⟩) (fun v => (v ≤ n)) (fun v => n - v) (0) ?_ ?_ ?_; (. (apply gLX1 <;> (repeat' (first | (with_reducible constructor) | exact Z5 | exact RF.mk (by decide) | (with_reducible apply Zad) | exact EQ.mk QQ14)); (all_goals exact QQ17))); (. (omega)); (rintro v h1; (show TX _ _ _ _ _ [(0, .g (.bools a)), (1, .g (.bools b)), (5, .own 0 0 n), (6, .g (.i v))] [(0, .arr 1 true ((preL n v (fun x => nth a x && !nth b x)).map GV.bool))] _))) | apply gSel.ccons))
 (all_goals (first | (refine ZaA (v + 1) ?_ ?_ ?_; (· (apply gLX1 <;> (repeat' (first | (with_reducible constructor) | exact Z5 | exact RF.mk (by decide) | (with_reducible apply Zad) | exact EQ.mk QQ14)); (all_goals exact QQ17))); (· (omega)); (· exact ZW)) | (((refine Za1 (Zap (EQ.mk ?_)); (try rw [List.drop_zero]); rw [List.take_of_length_le (by rw [ZbF]; omega), Zft (by omega)]; rfl)); done)))
def ZjV : Nat → List Nat
 | 0 => [1, 2]
 | 1 => [1, 2, 5]
 | 2 => [1, 2, 5, 6]
 | 3 => [1, 2, 5, 6, 10]
 | 4 => [1, 2, 5, 6]
 | 5 => [1, 2, 5, 6, 16]
 | 6 => [1, 2, 5, 6]
 | 7 => [4]
 | _ => []
theorem Zd0 (args : Array Value) (w : World) : (callFunc 128 args).run Tryz.prog w = .ok (.enter 128 args) w := Zaa Tryz.func128 (by decide) rfl args w
set_option maxHeartbeats 1000000 in
theorem Znt (n : Nat) (o p : List Int) (nx pv : List (List Int)) (ins : List Bool) (hn : NU (ins.length ≤ p.length ∧ p.length ≤ 1000000)) : Con Tryz.prog 128 [.gam o p nx pv (List.replicate n (-1)), .bools ins] (.i (topL p ins ins.length)) := by
 have hn := hn.e
 refine Con.fit Zd0 fun hfit => ?_
 have hb_ins : ins.length ≤ 9223372036854775807 := GFits.lenm (show GFits (.bools ins) from hfit 1 (ZL rfl))
 clear hfit
 refine gCon ZjV Zab (rs := [.tmp 4]) (sl := [(0, .g (.gam o p nx pv (List.replicate n (-1)))), (1, .g (.bools ins))]) Tryz.func128 rfl Tryz.ntmps128 rfl Zd0 rfl (by repeat constructor) ?_
 (repeat' (first | ((with_reducible apply gLB.cone); (. exact RF.mk ⟨rfl, rfl⟩)) | ((with_reducible apply gLI.cone); (. exact RF.mk ⟨rfl, rfl⟩)) | (with_reducible constructor) | exact Z2 | exact ZN | exact ZS | exact ZF | ((with_reducible apply Zaw); first | apply ZnY) | (with_reducible intro hc; (try simp only [HCs] at hc)) | exact OB_f | (with_reducible first | apply gNK | apply Zaj | apply Zae | apply Zam | apply Zag | apply ZaG | apply Zak | apply Zai | apply Zas | apply Zal | apply Zau | apply Zat | apply Zao) | apply Zaf Zab | (apply ZaB; exact RF.mk rfl) | (refine Zah (id := 0) (ι := Nat) (fun v => ⟨[(1, .g (.bools ins)), (2, .ptr 0 0), (5, .g (.i (topL p ins v))), (6, .g (.i v))], [(0, .box [.g (.ints o), .g (.ints p), .g (.rows nx), .g (.rows pv), .g (.ints (List.replicate n (-1)))])]⟩) (fun v => (v ≤ ins.length)) (fun v => ins.length - v) (0) ?_ ?_ ?_; (. (apply gLX1 <;> (repeat' (first | (with_reducible constructor) | exact Z5 | exact RF.mk (by decide) | (with_reducible apply Zad) | exact ZE)); (all_goals exact QQ15))); (. (omega)); (rintro v h1; (show TX _ _ _ _ _ [(1, .g (.bools ins)), (2, .ptr 0 0), (5, .g (.i (topL p ins v))), (6, .g (.i v))] [(0, .box [.g (.ints o), .g (.ints p), .g (.rows nx), .g (.rows pv), .g (.ints (List.replicate n (-1)))])] _))) | apply gSel.ccons))
 (all_goals (first | (refine ZaA (v + 1) ?_ ?_ ?_; (· (apply gLX1 <;> (repeat' (first | (with_reducible constructor) | exact Z5 | exact RF.mk (by decide) | (with_reducible apply Zad) | exact ZE)); (all_goals exact QQ15))); (· (omega)); (· exact ZW)) | (((refine Zad (EQ.mk ?_); rw [show v = ins.length by omega])); done)))
def Zgh : Nat → List Nat
 | 0 => [1, 2, 3, 4]
 | 1 => [1, 2, 3, 4, 9]
 | 2 => [1, 2, 3, 4, 9, 10]
 | 3 => [1, 2, 3, 4, 9, 10, 11]
 | 4 => [1, 2, 3, 4, 9, 10, 11, 12]
 | 5 => [1, 2, 3, 4, 9, 10, 11, 12, 27]
 | 6 => [1, 2, 3, 4, 9, 10, 11, 12]
 | 7 => [1, 2, 3, 4, 9, 10, 11, 12, 33]
 | 8 => [1, 2, 3, 4, 9, 10, 11, 12]
 | 9 => [1, 2, 3, 4, 9, 10, 11, 12, 50]
 | 10 => [1, 2, 3, 4, 9, 10, 11, 12]
 | 11 => [1, 2, 3, 4, 9, 10, 11, 12]
 | 12 => [1, 2, 4, 9, 10, 11, 13]
 | 13 => [1, 2, 4, 9, 10, 11, 13, 61]
 | 14 => [1, 2, 4, 9, 10, 11, 13]
 | 15 => [1, 2, 4, 9, 10, 11, 13, 14]
 | 16 => [1, 2, 4, 9, 10, 11, 13, 14, 15]
 | 17 => [1, 2, 4, 9, 10, 11, 13, 14, 15, 75]
 | 18 => [1, 2, 4, 9, 10, 11, 13, 14, 15]
 | 19 => [1, 2, 4, 9, 10, 11, 13, 14, 15, 16]
 | 20 => [1, 2, 4, 9, 10, 11, 13, 14, 15, 16, 103]
 | 21 => [1, 2, 4, 9, 10, 11, 13, 14, 15, 16]
 | 22 => [1, 2, 4, 9, 10, 11, 13, 14, 15, 16, 123]
 | 23 => [1, 2, 4, 9, 10, 11, 13, 14, 15, 16]
 | 24 => [1, 2, 4, 9, 10, 11, 13, 14, 15]
 | 25 => [8]
 | _ => []
theorem Zcj (args : Array Value) (w : World) : (callFunc 130 args).run Tryz.prog w = .ok (.enter 130 args) w := Zaa Tryz.func130 (by decide) rfl args w
set_option maxHeartbeats 1000000 in
theorem Ze6 (n : Nat) (o p : List Int) (nx pv : List (List Int)) (who : Int) (ins goal : List Bool) (hg : HY (GDt n o p nx)) (hp : HY (PRd n nx pv)) (hi : NU (ins.length = n ∧ goal.length = n ∧ n ≤ 1000000)) (ht : HY (TotL n nx ins)) : Con Tryz.prog 130 [.gam o p nx pv (List.replicate n (-1)), .bools ins, .i who, .bools goal] (.bools (attL n o p nx who ins goal)) := by
 have hg := hg.e
 have hp := hp.e
 have hi := hi.e
 have ht := ht.e
 refine Con.fit Zcj fun hfit => ?_
 have hb_ins : ins.length ≤ 9223372036854775807 := GFits.lenm (show GFits (.bools ins) from hfit 1 (ZL rfl))
 have hb_goal : goal.length ≤ 9223372036854775807 := GFits.lenm (show GFits (.bools goal) from hfit 3 (ZL rfl))
 clear hfit
 refine gCon Zgh Zab (rs := [.tmp 8]) (sl := [(0, .g (.gam o p nx pv (List.replicate n (-1)))), (1, .g (.bools ins)), (2, .g (.i who)), (3, .g (.bools goal))]) Tryz.func130 rfl Tryz.ntmps130 rfl Zcj rfl (by repeat constructor) ?_
 (repeat' (first | ((with_reducible apply gLB.cagg); (. exact RF.mk ⟨rfl, rfl, rfl⟩)) | ((with_reducible apply gLB.cone); (. exact RF.mk ⟨rfl, rfl⟩)) | ((with_reducible apply gLI.cone); (. exact RF.mk ⟨rfl, rfl⟩)) | (with_reducible constructor) | exact Z3 | exact NU.mk QQ10 | exact ZS | exact ZF | exact ZC | ((with_reducible apply Zaw); first | (exact Zf3 n o p nx pv ins v (HY.mk hg) (NU.mk ⟨by omega, by omega, by omega⟩)) | (exact ZiD n o p nx pv _ _ (NU.mk (by have q9 := gv (by assumption); omega)))) | (with_reducible intro hc; (try simp only [HCs] at hc)) | exact OB_f | exact ZM | (with_reducible first | apply gNK | apply Zaj | apply Zae | apply Zam | apply Zag | apply CK_t | apply CK_f | apply ZaG | apply Zak | apply Zai | apply Zas | apply Zal | apply Zau | apply Zat | apply Zao) | apply Zaf Zab | (apply ZaB; exact RF.mk rfl) | (refine Zah (id := 0) (ι := Nat × (List Bool) × (List Int) × (List Int)) (fun ⟨v, out, left, q⟩ => ⟨[(1, .g (.bools ins)), (2, .g (.i who)), (3, .g (.bools goal)), (4, .ptr 3 0), (9, .own 0 0 n), (10, .own 1 0 n), (11, .own 2 0 q.length), (12, .g (.i v))], [(0, .arr 1 true (out.map GV.bool)), (1, .arr 1 true (left.map GV.i)), (2, .arr 1 true (q.map GV.i)), (3, .box [.g (.ints o), .g (.ints p), .g (.rows nx), .g (.rows pv), .g (.ints (List.replicate n (-1)))])]⟩) (fun ⟨v, out, left, q⟩ => (v ≤ n) ∧ (Ini n nx ins goal v out left q)) (fun ⟨v, out, left, q⟩ => n - v) (0, List.replicate n false, List.replicate n 0, []) ?_ ?_ ?_; (. (apply gLX4 <;> (repeat' (first | (with_reducible constructor) | exact Z5 | exact RF.mk (by decide) | (with_reducible apply Zad) | exact EQ.mk QQ10)); (all_goals exact QQ13))); (. (exact ⟨by omega, Ini.zero⟩)); (rintro ⟨v, out, left, q⟩ ⟨h1, h2⟩; have hlo := h2.lo; have hll := h2.ll; have hq0 := Zbh h2.nd h2.rg; (show TX _ _ _ _ _ [(1, .g (.bools ins)), (2, .g (.i who)), (3, .g (.bools goal)), (4, .ptr 3 0), (9, .own 0 0 n), (10, .own 1 0 n), (11, .own 2 0 q.length), (12, .g (.i v))] [(0, .arr 1 true (out.map GV.bool)), (1, .arr 1 true (left.map GV.i)), (2, .arr 1 true (q.map GV.i)), (3, .box [.g (.ints o), .g (.ints p), .g (.rows nx), .g (.rows pv), .g (.ints (List.replicate n (-1)))])] _))) | (refine Zah (id := 2) (ι := Nat × (List Bool) × (List Int) × (List Int) × Tg 2) (fun ⟨i, out, left, q, _⟩ => ⟨[(1, .g (.bools ins)), (2, .g (.i who)), (4, .ptr 3 0), (9, .own 0 0 n), (10, .own 1 0 n), (11, .own 2 0 q.length), (13, .g (.i i))], [(0, .arr 1 true (out.map GV.bool)), (1, .arr 1 true (left.map GV.i)), (2, .arr 1 true (q.map GV.i)), (3, .box [.g (.ints o), .g (.ints p), .g (.rows nx), .g (.rows pv), .g (.ints (List.replicate n (-1)))])]⟩) (fun ⟨i, out, left, q, _⟩ => (i ≤ q.length) ∧ (AQ n o p nx who ins goal out q) ∧ (CS n o nx who ins out left fun _ => q.take i)) (fun ⟨i, out, left, q, _⟩ => n - i) (0, out, left, q, (Tg.t : Tg 2)) ?_ ?_ ?_; (. (apply gLX4 <;> (repeat' (first | (with_reducible constructor) | exact Z5 | exact RF.mk (by decide) | (with_reducible apply Zad) | exact EQ.mk QQ10)); (all_goals ((first | exact EQ.mk rfl); done)))); (. (exact ZpD h2 (by omega))); (rintro ⟨i, out, left, q, _⟩ ⟨h1, h2, h3⟩; have hlo := h2.lo; have hll := h3.ll; have hql := h2.len; (show TX _ _ _ _ _ [(1, .g (.bools ins)), (2, .g (.i who)), (4, .ptr 3 0), (9, .own 0 0 n), (10, .own 1 0 n), (11, .own 2 0 q.length), (13, .g (.i i))] [(0, .arr 1 true (out.map GV.bool)), (1, .arr 1 true (left.map GV.i)), (2, .arr 1 true (q.map GV.i)), (3, .box [.g (.ints o), .g (.ints p), .g (.rows nx), .g (.rows pv), .g (.ints (List.replicate n (-1)))])] _))) | (refine Zah (id := 4) (ι := Nat × (List Bool) × (List Int) × (List Int) × Tg 4) (fun ⟨k, O, L, Q, _⟩ => ⟨[(1, .g (.bools ins)), (2, .g (.i who)), (4, .ptr 3 0), (9, .own 0 0 n), (10, .own 1 0 n), (11, .own 2 0 Q.length), (13, .g (.i i)), (14, .g (.i (nth q i))), (15, .g (.i k))], [(0, .arr 1 true (O.map GV.bool)), (1, .arr 1 true (L.map GV.i)), (2, .arr 1 true (Q.map GV.i)), (3, .box [.g (.ints o), .g (.ints p), .g (.rows nx), .g (.rows pv), .g (.ints (List.replicate n (-1)))])]⟩) (fun ⟨k, O, L, Q, _⟩ => (k ≤ (nth pv (nth q i).toNat).length) ∧ (AQ n o p nx who ins goal O Q) ∧ (CS n o nx who ins O L (seen Q (nth pv (nth q i).toNat) i k)) ∧ (i < Q.length ∧ nth Q i = nth q i)) (fun ⟨k, O, L, Q, _⟩ => (nth pv (nth q i).toNat).length - k) (0, out, left, q, (Tg.t : Tg 4)) ?_ ?_ ?_; (. (apply gLX4 <;> (repeat' (first | (with_reducible constructor) | exact Z5 | exact RF.mk (by decide) | (with_reducible apply Zad) | exact EQ.mk QQ10)); (all_goals exact QQ11))); (. (exact ⟨by omega, h2, h3.first _, by omega, rfl⟩)); (rintro ⟨k, O, L, Q, _⟩ ⟨g1, g2, g3, g4⟩; have glo := g2.lo; have gll := g3.ll; have gql := g2.len; have grn := ZgV g2 g4; have gpl := hp.len; have gol := hg.lo; have grl := hp.row_len grn; have gv : (k : Int) < (nth pv (nth q i).toNat).length → _ := fun h => at_v hp g2 g4 h; (show TX _ _ _ _ _ [(1, .g (.bools ins)), (2, .g (.i who)), (4, .ptr 3 0), (9, .own 0 0 n), (10, .own 1 0 n), (11, .own 2 0 Q.length), (13, .g (.i i)), (14, .g (.i (nth q i))), (15, .g (.i k))] [(0, .arr 1 true (O.map GV.bool)), (1, .arr 1 true (L.map GV.i)), (2, .arr 1 true (Q.map GV.i)), (3, .box [.g (.ints o), .g (.ints p), .g (.rows nx), .g (.rows pv), .g (.ints (List.replicate n (-1)))])] _))) | apply gSel.ccons))
 (all_goals (first | (refine ZaA (v + 1, out.set v true, left.set v (degN nx ins v), q ++ [(v : Int)]) ?_ ?_ ?_; (· (apply gLX4 <;> (repeat' (first | (with_reducible constructor) | exact Z5 | exact RF.mk (by decide) | (with_reducible apply Zad) | exact EQ.mk QQ10)); (all_goals exact QQ13))); (· ((first | exact ⟨by omega, by rw [ZiA]; exact h2.put (by omega) (by assumption) (by assumption)⟩ | exact ⟨by omega, by rw [ZiA]; exact h2.deg (by omega) (by assumption) (by assumption)⟩ | exact ⟨by omega, h2.no (by assumption)⟩ | (exfalso; simp_all; done)))); (· exact ZW)) | (refine ZaA (v + 1, out, left.set v (degN nx ins v), q) ?_ ?_ ?_; (· (apply gLX4 <;> (repeat' (first | (with_reducible constructor) | exact Z5 | exact RF.mk (by decide) | (with_reducible apply Zad) | exact EQ.mk QQ10)); (all_goals exact QQ13))); (· ((first | exact ⟨by omega, by rw [ZiA]; exact h2.put (by omega) (by assumption) (by assumption)⟩ | exact ⟨by omega, by rw [ZiA]; exact h2.deg (by omega) (by assumption) (by assumption)⟩ | exact ⟨by omega, h2.no (by assumption)⟩ | (exfalso; simp_all; done)))); (· exact ZW)) | (refine ZaA (v + 1, out, left, q) ?_ ?_ ?_; (· (apply gLX4 <;> (repeat' (first | (with_reducible constructor) | exact Z5 | exact RF.mk (by decide) | (with_reducible apply Zad) | exact EQ.mk QQ10)); (all_goals exact QQ13))); (· ((first | exact ⟨by omega, by rw [ZiA]; exact h2.put (by omega) (by assumption) (by assumption)⟩ | exact ⟨by omega, by rw [ZiA]; exact h2.deg (by omega) (by assumption) (by assumption)⟩ | exact ⟨by omega, h2.no (by assumption)⟩ | (exfalso; simp_all; done)))); (· exact ZW)) | (refine ZaA (i + 1, O, L, Q, (Tg.t : Tg 2)) ?_ ?_ ?_; (· (apply gLX4 <;> (repeat' (first | (with_reducible constructor) | exact Z5 | exact RF.mk (by decide) | (with_reducible apply Zad) | exact EQ.mk QQ10)); (all_goals ((first | exact EQ.mk rfl); done)))); (· (exact ZpF hp g2 g3 g4 (by assumption))); (· exact ZW)) | (refine ZaA (k + 1, O, L, Q, (Tg.t : Tg 4)) ?_ ?_ ?_; (· (apply gLX4 <;> (repeat' (first | (with_reducible constructor) | exact Z5 | exact RF.mk (by decide) | (with_reducible apply Zad) | exact EQ.mk QQ10)); (all_goals exact QQ11))); (· (first | exact absurd (by assumption : false = true) Bool.false_ne_true | (have q9 := gv (by assumption); have q8 := Zav (l := L) (x := nth L (nth (nth pv (nth q i).toNat) k).toNat - 1) (show (nth (nth pv (nth q i).toNat) k).toNat < L.length by omega); (try simp only [Nat.zero_add] at *); (try simp only [q8] at *); first | exact Zgx hp g2 g3 g4 (by assumption) (.inl (by assumption)) | exact Zgx hp g2 g3 g4 (by assumption) (.inr (by assumption)) | exact Zil hg hp g2 g3 g4 (by assumption) (by assumption) (by assumption) (.inl (by assumption)) | exact Zil hg hp g2 g3 g4 (by assumption) (by assumption) (by assumption) (.inr (by assumption)) | exact Znn hg hp g2 g3 g4 (by assumption) (by assumption) (by assumption) (by assumption) (by assumption)))); (· exact ZW)) | (refine ZaA (k + 1, O, L.set (nth (nth pv (nth q i).toNat) k).toNat (nth L (nth (nth pv (nth q i).toNat) k).toNat - 1), Q, (Tg.t : Tg 4)) ?_ ?_ ?_; (· (apply gLX4 <;> (repeat' (first | (with_reducible constructor) | exact Z5 | exact RF.mk (by decide) | (with_reducible apply Zad) | exact EQ.mk QQ10)); (all_goals exact QQ11))); (· (first | exact absurd (by assumption : false = true) Bool.false_ne_true | (have q9 := gv (by assumption); have q8 := Zav (l := L) (x := nth L (nth (nth pv (nth q i).toNat) k).toNat - 1) (show (nth (nth pv (nth q i).toNat) k).toNat < L.length by omega); (try simp only [Nat.zero_add] at *); (try simp only [q8] at *); first | exact Zgx hp g2 g3 g4 (by assumption) (.inl (by assumption)) | exact Zgx hp g2 g3 g4 (by assumption) (.inr (by assumption)) | exact Zil hg hp g2 g3 g4 (by assumption) (by assumption) (by assumption) (.inl (by assumption)) | exact Zil hg hp g2 g3 g4 (by assumption) (by assumption) (by assumption) (.inr (by assumption)) | exact Znn hg hp g2 g3 g4 (by assumption) (by assumption) (by assumption) (by assumption) (by assumption)))); (· exact ZW)) | (refine ZaA (k + 1, O.set (nth (nth pv (nth q i).toNat) k).toNat true, L.set (nth (nth pv (nth q i).toNat) k).toNat (nth L (nth (nth pv (nth q i).toNat) k).toNat - 1), Q ++ [nth (nth pv (nth q i).toNat) k], (Tg.t : Tg 4)) ?_ ?_ ?_; (· (apply gLX4 <;> (repeat' (first | (with_reducible constructor) | exact Z5 | exact RF.mk (by decide) | (with_reducible apply Zad) | exact EQ.mk QQ10)); (all_goals exact QQ11))); (· (first | exact absurd (by assumption : false = true) Bool.false_ne_true | (have q9 := gv (by assumption); have q8 := Zav (l := L) (x := nth L (nth (nth pv (nth q i).toNat) k).toNat - 1) (show (nth (nth pv (nth q i).toNat) k).toNat < L.length by omega); (try simp only [Nat.zero_add] at *); (try simp only [q8] at *); first | exact Zgx hp g2 g3 g4 (by assumption) (.inl (by assumption)) | exact Zgx hp g2 g3 g4 (by assumption) (.inr (by assumption)) | exact Zil hg hp g2 g3 g4 (by assumption) (by assumption) (by assumption) (.inl (by assumption)) | exact Zil hg hp g2 g3 g4 (by assumption) (by assumption) (by assumption) (.inr (by assumption)) | exact Znn hg hp g2 g3 g4 (by assumption) (by assumption) (by assumption) (by assumption) (by assumption)))); (· exact ZW)) | (((refine Za1 (Zap (EQ.mk ?_)); (try rw [List.drop_zero]); (try rw [List.take_of_length_le (by omega)]); exact h3.fin h2 hg (by omega) ht)); done)))
end Go.Proofs.YtjjidamlmebaaaaGreat

