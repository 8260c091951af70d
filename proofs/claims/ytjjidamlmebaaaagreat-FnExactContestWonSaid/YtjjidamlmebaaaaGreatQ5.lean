/- Contracts: right games are solved. No conditions but those that each theorem names. -/
import Derived.Test.YtjjidamlmebaaaaGreatTab
import Derived.Test.YtjjidamlmebaaaaGreatKG
import Derived.Test.YtjjidamlmebaaaaGreatQ4
import Derived.Test.YtjjidamlmebaaaaGreatM1
import Derived.Test.YtjjidamlmebaaaaGreatZT
import Derived.Test.YtjjidamlmebaaaaGreatW1
import Derived.Test.YtjjidamlmebaaaaGreatM6
import Derived.Test.YtjjidamlmebaaaaGreatChecked
set_option linter.unusedSimpArgs false
set_option linter.unusedVariables false
namespace Go.Proofs.YtjjidamlmebaaaaGreat
open Go.RowKit
open Shp
theorem QQ57 {p : Prop} (h : p := by ((first | exact EQ.mk rfl | (refine EQ.mk ?_; omega)); done)) : p := h
theorem QQ56 {p : Prop} (h : p := by ((first | exact EQ.mk rfl | (refine EQ.mk ?_; first | exact ZeI _ | omega) | (refine Zap (EQ.mk ?_); first | rfl | exact (ZkS (by omega)).symm | (rw [List.take_zero, Zia]; done) | (rw [List.take_zero, Zia]; congr 1; omega) | ((try rw [Nat.zero_add]); exact (ZkS (by omega)).symm) | (rw [List.take_zero, Zia, a4]; rfl))); done)) : p := h
theorem QQ55 {p : Prop} (h : p := by first | exact ZO | (first | omega | (rw [ZaQ]; omega))) : p := h
theorem QQ54 {p : Prop} (h : p := by first | exact ZO | (first | omega | (have q := hv (by assumption); omega))) : p := h
theorem QQ53 {p : Prop} (h : p := by ((first | exact EQ.mk rfl | (refine EQ.mk ?_; first | exact ZaQ _ | (rw [ZaQ]; done) | omega | (simp only [List.length_append, ZaQ, List.length_singleton]; omega)) | (refine Zap (EQ.mk ?_); first | rfl | exact Zkv _)); done)) : p := h
theorem QQ52 {p : Prop} (h : p := by ((first | exact EQ.mk rfl | (refine EQ.mk ?_; first | exact ZcB _ | omega) | (refine Zap (EQ.mk ?_); first | rfl | exact (ZjC (by omega)).symm | (rw [List.take_zero, Zjr]; done) | (rw [List.take_zero, Zjr]; congr 1; omega) | ((try rw [Nat.zero_add]); exact (ZjC (by omega)).symm))); done)) : p := h
theorem QQ51 {p : Prop} (h : p := by first | exact ZO | (first | omega | (have q := hm.1 (ZaE (show i < (lstL (winL n o p nx 1 (List.replicate n true)) n).length by omega)); omega) | (simp only [List.length_map, ZeI]; omega) | (have q := hm.1 (ZaE (show i < (lstL (winL n o p nx 1 (List.replicate n true)) n).length by omega)); rw [ZeI]; omega) | (have q := hm.1 (ZaE (show i < (lstL (winL n o p nx 1 (List.replicate n true)) n).length by omega)); rw [List.length_map, ZeI]; omega))) : p := h
theorem QQ50 {p : Prop} (h : p := by first | exact ZO | (first | omega | (have q := hl _ (ZaE (show i < l.length by omega)); omega) | (simp only [List.length_map, ZcB]; omega) | (have q := hl _ (ZaE (show i < l.length by omega)); rw [ZcB]; omega) | (have q := hl _ (ZaE (show i < l.length by omega)); rw [List.length_map, ZcB]; omega))) : p := h
def Zkd : Nat → List Nat
 | 0 => [0]
 | 1 => [0, 10]
 | 2 => [2]
 | 3 => [0, 3]
 | 4 => [0, 3, 4]
 | 5 => [0, 3, 4, 14]
 | 6 => [0, 3, 4]
 | 7 => [0, 3, 4]
 | 8 => [2]
 | _ => []
theorem Zhq (args : Array Value) (w : World) : (callFunc 150 args).run Tryz.prog w = .ok (.enter 150 args) w := Zaa Tryz.func150 (by decide) rfl args w
set_option maxHeartbeats 1000000 in
theorem ZnI (n : Nat) (hn : NU (n ≤ 256)) : Con Tryz.prog 150 [.i n] (.ints (upI n)) := by
 have hn := hn.e
 refine gCon Zkd Zab (rs := [.tmp 2]) (sl := [(0, .g (.i n))]) Tryz.func150 rfl Tryz.ntmps150 rfl Zhq rfl (by repeat constructor) ?_
 (repeat' (first | (with_reducible constructor) | exact Z2 | exact NU.mk QQ55 | exact ZS | exact ZC | (with_reducible intro hc; (try simp only [HCs] at hc)) | exact OB_f | (with_reducible first | apply gNK | apply Zaj | apply Zae | apply Zam | apply Zag | apply ZaG | apply Zak | apply Zai | apply Zas | apply Zal | apply Zau | apply Zat | apply Zao) | apply Zaf Zab | (apply ZaB; exact RF.mk rfl) | (refine Zah (id := 0) (ι := Nat) (fun v => ⟨[(0, .g (.i n)), (3, .own 0 0 v), (4, .g (.i v))], [(0, .arr 1 true ((upI v).map GV.i))]⟩) (fun v => (v ≤ n)) (fun v => n - v) (0) ?_ ?_ ?_; (. (apply gLX1 <;> (repeat' (first | (with_reducible constructor) | exact Z5 | exact RF.mk (by decide) | (with_reducible apply Zad) | exact EQ.mk QQ55)); (all_goals exact QQ53))); (. (omega)); (rintro v h1; have hu := ZaQ v; (show TX _ _ _ _ _ [(0, .g (.i n)), (3, .own 0 0 v), (4, .g (.i v))] [(0, .arr 1 true ((upI v).map GV.i))] _))) | apply gSel.ccons))
 (all_goals (first | (refine ZaA (v + 1) ?_ ?_ ?_; (· (apply gLX1 <;> (repeat' (first | (with_reducible constructor) | exact Z5 | exact RF.mk (by decide) | (with_reducible apply Zad) | exact EQ.mk QQ55)); (all_goals exact QQ53))); (· (omega)); (· exact ZW)) | (((refine Za1 (Zap (EQ.mk ?_)); (try rw [List.drop_zero]); (try rw [List.take_of_length_le (by rw [ZaQ]; omega)]); rw [show v = n by omega])); done)))
def Zka : Nat → List Nat
 | 0 => [0]
 | 1 => [0, 3]
 | 2 => [0, 3, 4]
 | 3 => [0, 3, 4, 12]
 | 4 => [0, 3, 4]
 | 5 => [0, 3, 4]
 | 6 => [2]
 | _ => []
theorem Zg6 (args : Array Value) (w : World) : (callFunc 102 args).run Tryz.prog w = .ok (.enter 102 args) w := Zaa Tryz.func102 (by decide) rfl args w
set_option maxHeartbeats 1000000 in
theorem ZnT (n : Nat) (hn : NU (n ≤ 256)) : Con Tryz.prog 102 [.i n] (.ints (upI n)) := by
 have hn := hn.e
 refine gCon Zka Zab (rs := [.tmp 2]) (sl := [(0, .g (.i n))]) Tryz.func102 rfl Tryz.ntmps102 rfl Zg6 rfl (by repeat constructor) ?_
 (repeat' (first | (with_reducible constructor) | exact Z2 | exact NU.mk QQ55 | exact ZS | exact ZC | (with_reducible intro hc; (try simp only [HCs] at hc)) | exact OB_f | (with_reducible first | apply gNK | apply Zaj | apply Zae | apply Zam | apply Zag | apply CK_f | apply ZaG | apply Zak | apply Zai | apply Zas | apply Zal | apply Zau | apply Zat | apply Zao) | apply Zaf Zab | (apply ZaB; exact RF.mk rfl) | (refine Zah (id := 0) (ι := Nat) (fun v => ⟨[(0, .g (.i n)), (3, .own 0 0 v), (4, .g (.i v))], [(0, .arr 1 true ((upI v).map GV.i))]⟩) (fun v => (v ≤ n)) (fun v => n - v) (0) ?_ ?_ ?_; (. (apply gLX1 <;> (repeat' (first | (with_reducible constructor) | exact Z5 | exact RF.mk (by decide) | (with_reducible apply Zad) | exact EQ.mk QQ55)); (all_goals exact QQ53))); (. (omega)); (rintro v h1; have hu := ZaQ v; (show TX _ _ _ _ _ [(0, .g (.i n)), (3, .own 0 0 v), (4, .g (.i v))] [(0, .arr 1 true ((upI v).map GV.i))] _))) | apply gSel.ccons))
 (all_goals (first | (refine ZaA (v + 1) ?_ ?_ ?_; (· (apply gLX1 <;> (repeat' (first | (with_reducible constructor) | exact Z5 | exact RF.mk (by decide) | (with_reducible apply Zad) | exact EQ.mk QQ55)); (all_goals exact QQ53))); (· (omega)); (· exact ZW)) | (((refine Za1 (Zap (EQ.mk ?_)); (try rw [List.drop_zero]); (try rw [List.take_of_length_le (by rw [ZaQ]; omega)]); rw [show v = n by omega])); done)))
def Zk7 : Nat → List Nat
 | 0 => [1]
 | 1 => [2]
 | _ => []
theorem ZhX (args : Array Value) (w : World) : (callFunc 71 args).run Tryz.prog w = .ok (.enter 71 args) w := Zaa Tryz.func71 (by decide) rfl args w
set_option maxHeartbeats 1000000 in
theorem Zge (o : List Int) (nx : List (List Int)) (hn : NU (o.length ≤ 1000000)) : Con Tryz.prog 71 [.arena o nx] (.i o.length) := by
 have hn := hn.e
 refine gCon Zk7 Zab (rs := [.tmp 2]) (sl := [(0, .g (.arena o nx))]) Tryz.func71 rfl Tryz.ntmps71 rfl ZhX rfl (by repeat constructor) ?_
 (repeat' (first | ((with_reducible apply gLB.cone); (. exact RF.mk ⟨rfl, rfl⟩)) | (with_reducible constructor) | exact Z2 | exact ZS | exact ZF | exact OB_f | (with_reducible first | apply gNK | apply Zaj | apply Zae | apply Zai) | apply Zaf Zab | apply gSel.ccons))
 (all_goals (first | (((first | (refine Zax ?_; first | (simp_all; done) | (rw [Bool.eq_iff_iff]; simp only [Bool.and_eq_true, Bool.or_eq_true, decide_eq_true_eq, Bool.false_eq_true, false_iff, true_iff, iff_false, iff_true, not_and, not_or, Bool.not_eq_true, decide_eq_false_iff_not, beq_iff_eq, bne_iff_ne, ne_eq, Bool.not_eq_true', Bool.not_eq_false', Int.not_le, Int.not_lt]; omega)) | ((repeat (first | apply ZbK | apply ZaP | apply ZbT | apply Za1 | apply Zap)); all_goals (first | exact EQ.mk rfl | exact EQ.mk (by first | (simp; done) | fail) | exact EQ.mk (by first | (simp_all; done) | fail))))); done)))
def Zgf : Nat → List Nat
 | 0 => [1, 2]
 | 1 => [4]
 | _ => []
theorem ZeV (args : Array Value) (w : World) : (callFunc 72 args).run Tryz.prog w = .ok (.enter 72 args) w := Zaa Tryz.func72 (by decide) rfl args w
set_option maxHeartbeats 1000000 in
theorem Ze9 (o : List Int) (nx : List (List Int)) (v : Int) (hn : NU (o.length ≤ 1000000)) : Con Tryz.prog 72 [.arena o nx, .i v] (.bool (decide (0 ≤ v) && decide (v < o.length))) := by
 have hn := hn.e
 refine gCon Zgf Zab (rs := [.tmp 4]) (sl := [(0, .g (.arena o nx)), (1, .g (.i v))]) Tryz.func72 rfl Tryz.ntmps72 rfl ZeV rfl (by repeat constructor) ?_
 (repeat' (first | ((with_reducible apply gLB.cagg); (. exact RF.mk ⟨rfl, rfl, rfl⟩)) | (with_reducible constructor) | exact Z2 | exact ZN | ((with_reducible apply Zaw); first | apply Zge) | (with_reducible intro hc; (try simp only [HCs] at hc)) | exact OB_f | (with_reducible first | apply gNK | apply Zaj | apply Zae | apply Zai | apply Zao) | apply Zaf Zab | apply gSel.ccons))
 (all_goals (first | (((first | (refine Zax ?_; first | (simp_all; done) | (rw [Bool.eq_iff_iff]; simp only [Bool.and_eq_true, Bool.or_eq_true, decide_eq_true_eq, Bool.false_eq_true, false_iff, true_iff, iff_false, iff_true, not_and, not_or, Bool.not_eq_true, decide_eq_false_iff_not, beq_iff_eq, bne_iff_ne, ne_eq, Bool.not_eq_true', Bool.not_eq_false', Int.not_le, Int.not_lt]; omega)) | ((repeat (first | apply ZbK | apply ZaP | apply ZbT | apply Za1 | apply Zap)); all_goals (first | exact EQ.mk rfl | exact EQ.mk (by first | (simp; done) | fail) | exact EQ.mk (by first | (simp_all; done) | fail))))); done)))
def ZjN : Nat → List Nat
 | 0 => [1]
 | 1 => [2]
 | _ => []
theorem ZgZ (args : Array Value) (w : World) : (callFunc 114 args).run Tryz.prog w = .ok (.enter 114 args) w := Zaa Tryz.func114 (by decide) rfl args w
set_option maxHeartbeats 1000000 in
theorem ZnO (n : Nat) (o : List Int) (nx : List (List Int)) (hn : NU (n ≤ 256 ∧ o.length = n)) : Con Tryz.prog 114 [.arena o nx] (.ints (upI n)) := by
 have hn := hn.e
 refine gCon ZjN Zab (rs := [.tmp 2]) (sl := [(0, .g (.arena o nx))]) Tryz.func114 rfl Tryz.ntmps114 rfl ZgZ rfl (by repeat constructor) ?_
 (repeat' (first | ((with_reducible apply gLB.cagg); (. exact RF.mk ⟨rfl, rfl, rfl⟩)) | (with_reducible constructor) | exact Z2 | exact ZC | ((with_reducible apply Zaw); first | (have e9 := Zge o nx (NU.mk (by omega)); exact e9) | (have e9 := ZnI o.length (NU.mk (by omega)); rw [hn.2] at e9 ⊢; exact e9)) | exact OB_f | (with_reducible first | apply gNK | apply Zaj | apply Zae | apply Zai | apply Zao) | apply Zaf Zab | apply gSel.ccons))
 (all_goals (first | (((first | (refine Zax ?_; first | (simp_all; done) | (rw [Bool.eq_iff_iff]; simp only [Bool.and_eq_true, Bool.or_eq_true, decide_eq_true_eq, Bool.false_eq_true, false_iff, true_iff, iff_false, iff_true, not_and, not_or, Bool.not_eq_true, decide_eq_false_iff_not, beq_iff_eq, bne_iff_ne, ne_eq, Bool.not_eq_true', Bool.not_eq_false', Int.not_le, Int.not_lt]; omega)) | ((repeat (first | apply ZbK | apply ZaP | apply ZbT | apply Za1 | apply Zap)); all_goals (first | exact EQ.mk rfl | exact EQ.mk (by first | (simp; done) | fail) | exact EQ.mk (by first | (simp_all; done) | fail))))); done)))
def ZkJ : Nat → List Nat
 | 0 => [1]
 | 1 => [2]
 | _ => []
theorem Zhi (args : Array Value) (w : World) : (callFunc 60 args).run Tryz.prog w = .ok (.enter 60 args) w := Zaa Tryz.func60 (by decide) rfl args w
set_option maxHeartbeats 1000000 in
theorem ZnC (n : Nat) (o p : List Int) (nx : List (List Int)) (hn : NU (n ≤ 256 ∧ p.length = n)) : Con Tryz.prog 60 [.par o nx p] (.ints (upI n)) := by
 have hn := hn.e
 refine gCon ZkJ Zab (rs := [.tmp 2]) (sl := [(0, .g (.par o nx p))]) Tryz.func60 rfl Tryz.ntmps60 rfl Zhi rfl (by repeat constructor) ?_
 (repeat' (first | ((with_reducible apply gLB.cone); (. exact RF.mk ⟨rfl, rfl⟩)) | (with_reducible constructor) | exact Z2 | exact ZS | exact ZF | exact ZC | ((with_reducible apply Zaw); first | (have e9 := ZnT p.length (NU.mk (by omega)); rw [hn.2] at e9 ⊢; exact e9)) | exact OB_f | (with_reducible first | apply gNK | apply Zaj | apply Zae | apply Zai | apply Zao) | apply Zaf Zab | apply gSel.ccons))
 (all_goals (first | (((first | (refine Zax ?_; first | (simp_all; done) | (rw [Bool.eq_iff_iff]; simp only [Bool.and_eq_true, Bool.or_eq_true, decide_eq_true_eq, Bool.false_eq_true, false_iff, true_iff, iff_false, iff_true, not_and, not_or, Bool.not_eq_true, decide_eq_false_iff_not, beq_iff_eq, bne_iff_ne, ne_eq, Bool.not_eq_true', Bool.not_eq_false', Int.not_le, Int.not_lt]; omega)) | ((repeat (first | apply ZbK | apply ZaP | apply ZbT | apply Za1 | apply Zap)); all_goals (first | exact EQ.mk rfl | exact EQ.mk (by first | (simp; done) | fail) | exact EQ.mk (by first | (simp_all; done) | fail))))); done)))
def ZiP : Nat → List Nat
 | 0 => [1, 2]
 | 1 => [1, 5]
 | 2 => [5, 12, 13, 14]
 | 3 => [5, 12, 13, 14, 15]
 | 4 => [5, 7, 12, 13, 14]
 | 5 => [5, 12, 13, 14]
 | 6 => [5, 12, 13, 14]
 | 7 => [4]
 | _ => []
theorem ZdA (args : Array Value) (w : World) : (callFunc 146 args).run Tryz.prog w = .ok (.enter 146 args) w := Zaa Tryz.func146 (by decide) rfl args w
set_option maxHeartbeats 1000000 in
theorem Zmp (n : Nat) (o : List Int) (nx : List (List Int)) (l : List Int) (hl : HY (∀ x ∈ l, 0 ≤ x ∧ x < n)) (hn : NU (o.length = n ∧ l.length ≤ 1000000 ∧ n ≤ 1000000)) : Con Tryz.prog 146 [.arena o nx, .ints l] (.bools (Zfq n l)) := by
 have hl := hl.e
 have hn := hn.e
 refine Con.fit ZdA fun hfit => ?_
 have hb_l : l.length ≤ 9223372036854775807 := GFits.ints (show GFits (.ints l) from hfit 1 (ZL rfl))
 clear hfit
 refine gCon ZiP Zab (rs := [.tmp 4]) (sl := [(0, .g (.arena o nx)), (1, .g (.ints l))]) Tryz.func146 rfl Tryz.ntmps146 rfl ZdA rfl (by repeat constructor) ?_
 (repeat' (first | ((with_reducible apply gLB.cone); (. exact RF.mk ⟨rfl, rfl⟩)) | ((with_reducible apply gLI.cone); (. exact RF.mk ⟨rfl, rfl⟩)) | (with_reducible constructor) | exact Z3 | exact NU.mk QQ50 | exact ZS | exact ZF | ((with_reducible apply Zbk); (. exact ZA); (. exact NU.mk QQ50)) | (with_reducible intro hc; (try simp only [HCs] at hc)) | exact OB_f | exact ZM | (with_reducible first | apply gNK | apply Zaj | apply Zae | apply Zam | apply Zag | apply ZaG | apply Zak | apply Zai | apply Zas | apply Zal | apply Zau | apply Zat | apply Zao) | apply Zaf Zab | (apply ZaB; exact RF.mk rfl) | (refine Zah (id := 0) (ι := Nat) (fun i => ⟨[(5, .own 0 0 n), (12, .g (.ints l)), (13, .g (.i l.length)), (14, .g (.i i))], [(0, .arr 1 true ((Zfq n (l.take i)).map GV.bool))]⟩) (fun i => (i ≤ l.length)) (fun i => l.length - i) (0) ?_ ?_ ?_; (. (apply gLX1 <;> (repeat' (first | (with_reducible constructor) | exact Z5 | exact RF.mk (by decide) | (with_reducible apply Zad) | exact EQ.mk QQ50)); (all_goals exact QQ52))); (. (omega)); (rintro i h1; (show TX _ _ _ _ _ [(5, .own 0 0 n), (12, .g (.ints l)), (13, .g (.i l.length)), (14, .g (.i i))] [(0, .arr 1 true ((Zfq n (l.take i)).map GV.bool))] _))) | apply gSel.ccons))
 (all_goals (first | (refine ZaA (i + 1) ?_ ?_ ?_; (· (apply gLX1 <;> (repeat' (first | (with_reducible constructor) | exact Z5 | exact RF.mk (by decide) | (with_reducible apply Zad) | exact EQ.mk QQ50)); (all_goals exact QQ52))); (· (omega)); (· exact ZW)) | (((refine Za1 (Zap (EQ.mk ?_)); (try rw [List.drop_zero]); rw [List.take_of_length_le (by rw [ZcB]; omega), List.take_of_length_le (by omega)])); done)))
def Zi9 : Nat → List Nat
 | 0 => [0, 1]
 | 1 => [1, 5]
 | 2 => [1, 5, 6]
 | 3 => [1, 5, 6, 12]
 | 4 => [1, 5, 6]
 | 5 => [1, 5, 6]
 | 6 => [4]
 | _ => []
theorem Zdi (args : Array Value) (w : World) : (callFunc 99 args).run Tryz.prog w = .ok (.enter 99 args) w := Zaa Tryz.func99 (by decide) rfl args w
set_option maxHeartbeats 1000000 in
theorem Zms (n : Nat) (l : List Int) (hl : HY (∀ x ∈ l, 0 ≤ x ∧ x < n)) (hn : NU (l.length ≤ 1000000 ∧ n ≤ 1000000)) : Con Tryz.prog 99 [.i n, .ints l] (.bools (Zfq n l)) := by
 have hl := hl.e
 have hn := hn.e
 refine Con.fit Zdi fun hfit => ?_
 have hb_l : l.length ≤ 9223372036854775807 := GFits.ints (show GFits (.ints l) from hfit 1 (ZL rfl))
 clear hfit
 refine gCon Zi9 Zab (rs := [.tmp 4]) (sl := [(0, .g (.i n)), (1, .g (.ints l))]) Tryz.func99 rfl Tryz.ntmps99 rfl Zdi rfl (by repeat constructor) ?_
 (repeat' (first | ((with_reducible apply gLI.cone); (. exact RF.mk ⟨rfl, rfl⟩)) | (with_reducible constructor) | exact Z3 | exact NU.mk QQ50 | exact ZS | ((with_reducible apply Zbk); (. exact ZA); (. exact NU.mk QQ50)) | (with_reducible intro hc; (try simp only [HCs] at hc)) | exact OB_f | exact ZM | (with_reducible first | apply gNK | apply Zaj | apply Zae | apply Zam | apply Zag | apply ZaG | apply Zak | apply Zai | apply Zas | apply Zal | apply Zau | apply Zat | apply Zao) | apply Zaf Zab | (apply ZaB; exact RF.mk rfl) | (refine Zah (id := 0) (ι := Nat) (fun i => ⟨[(1, .g (.ints l)), (5, .own 0 0 n), (6, .g (.i i))], [(0, .arr 1 true ((Zfq n (l.take i)).map GV.bool))]⟩) (fun i => (i ≤ l.length)) (fun i => l.length - i) (0) ?_ ?_ ?_; (. (apply gLX1 <;> (repeat' (first | (with_reducible constructor) | exact Z5 | exact RF.mk (by decide) | (with_reducible apply Zad) | exact EQ.mk QQ50)); (all_goals exact QQ52))); (. (omega)); (rintro i h1; (show TX _ _ _ _ _ [(1, .g (.ints l)), (5, .own 0 0 n), (6, .g (.i i))] [(0, .arr 1 true ((Zfq n (l.take i)).map GV.bool))] _))) | apply gSel.ccons))
 (all_goals (first | (refine ZaA (i + 1) ?_ ?_ ?_; (· (apply gLX1 <;> (repeat' (first | (with_reducible constructor) | exact Z5 | exact RF.mk (by decide) | (with_reducible apply Zad) | exact EQ.mk QQ50)); (all_goals exact QQ52))); (· (omega)); (· exact ZW)) | (((refine Za1 (Zap (EQ.mk ?_)); (try rw [List.drop_zero]); rw [List.take_of_length_le (by rw [ZcB]; omega), List.take_of_length_le (by omega)])); done)))
def Zih : Nat → List Nat
 | 0 => [1]
 | 1 => [1, 3]
 | 2 => [1, 3, 21]
 | 3 => [2]
 | 4 => [1, 3, 23, 24, 25]
 | 5 => [1, 3, 23, 24, 25, 26]
 | 6 => [1, 3, 4, 5, 23, 24, 25]
 | 7 => [1, 3, 23, 24, 25, 59]
 | 8 => [2]
 | 9 => [1, 3, 23, 24, 25]
 | 10 => [2]
 | _ => []
theorem Zf2 (args : Array Value) (w : World) : (callFunc 70 args).run Tryz.prog w = .ok (.enter 70 args) w := Zaa Tryz.func70 (by decide) rfl args w
set_option maxHeartbeats 1000000 in
theorem ZgP (n : Nat) (o : List Int) (nx : List (List Int)) (ha : HY (AOK n o nx)) : Con Tryz.prog 70 [.arena o nx] (.bool true) := by
 have ha := ha.e
 have a1 := ha.n1; have a2 := ha.lo; have a3 := ha.ln
 refine gCon Zih Zab (rs := [.tmp 2]) (sl := [(0, .g (.arena o nx))]) Tryz.func70 rfl Tryz.ntmps70 rfl Zf2 rfl (by repeat constructor) ?_
 (repeat' (first | ((with_reducible apply gLB.cone); (. exact RF.mk ⟨rfl, rfl⟩)) | ((with_reducible apply gLI.cone); (. exact RF.mk ⟨rfl, rfl⟩)) | (with_reducible constructor) | exact Z2 | exact NU.mk QQ54 | exact ZS | exact ZF | ((with_reducible apply Zaw); first | (have e9 := Zjz (nth nx v) n; rw [ha.up v (by omega)] at e9; (try rw [a2]); exact e9)) | (with_reducible intro hc; (try simp only [HCs] at hc)) | exact OB_f | (with_reducible first | apply gNK | apply Zaj | apply Zae | apply Zam | apply Zar | apply Zag | apply ZaG | apply Zak | apply Zai | apply Zas | apply Zal | apply Zau | apply ZaO | apply Zat | apply ZaR | apply Zao) | apply Zaf Zab | (apply ZaB; exact RF.mk rfl) | (refine Zah (id := 0) (ι := Nat) (fun v => ⟨[(1, .ptr 0 0), (3, .g (.i n)), (23, .g (.rows nx)), (24, .g (.i n)), (25, .g (.i v))], [(0, .box [.g (.ints o), .g (.rows nx)])]⟩) (fun v => (v ≤ n)) (fun v => n - v) (0) ?_ ?_ ?_; (. (apply gLX1 <;> (repeat' (first | (with_reducible constructor) | exact Z5 | exact RF.mk (by decide) | (with_reducible apply Zad) | exact EQ.mk QQ54)); (all_goals exact QQ57))); (. (omega)); (rintro v h1; have hv := fun h : (v : Int) < n => (And.intro (ha.ow v (by omega)) (ha.out v (by omega))); (show TX _ _ _ _ _ [(1, .ptr 0 0), (3, .g (.i n)), (23, .g (.rows nx)), (24, .g (.i n)), (25, .g (.i v))] [(0, .box [.g (.ints o), .g (.rows nx)])] _))) | apply gSel.ccons))
 (all_goals (first | ((exfalso; first | omega | (have q := hv (by assumption); omega) | (have q := hv (by omega); omega) | (simp_all; done))) | (refine ZaA (v + 1) ?_ ?_ ?_; (· (apply gLX1 <;> (repeat' (first | (with_reducible constructor) | exact Z5 | exact RF.mk (by decide) | (with_reducible apply Zad) | exact EQ.mk QQ54)); (all_goals exact QQ57))); (· (omega)); (· exact ZW)) | ((exact EQ.mk rfl); done)))
def ZhO : Nat → List Nat
 | 0 => [1]
 | 1 => [1, 3]
 | 2 => [1, 3, 19]
 | 3 => [2]
 | 4 => [1, 3, 4]
 | 5 => [1, 3, 4, 24]
 | 6 => [1, 3, 4]
 | 7 => [1, 3, 4, 61]
 | 8 => [2]
 | 9 => [2]
 | _ => []
theorem Zfx (args : Array Value) (w : World) : (callFunc 92 args).run Tryz.prog w = .ok (.enter 92 args) w := Zaa Tryz.func92 (by decide) rfl args w
set_option maxHeartbeats 1000000 in
theorem ZgX (n : Nat) (o : List Int) (nx : List (List Int)) (ha : HY (AOK n o nx)) : Con Tryz.prog 92 [.arena o nx] (.bool true) := by
 have ha := ha.e
 have a1 := ha.n1; have a2 := ha.lo; have a3 := ha.ln
 refine gCon ZhO Zab (rs := [.tmp 2]) (sl := [(0, .g (.arena o nx))]) Tryz.func92 rfl Tryz.ntmps92 rfl Zfx rfl (by repeat constructor) ?_
 (repeat' (first | ((with_reducible apply gLB.cone); (. exact RF.mk ⟨rfl, rfl⟩)) | ((with_reducible apply gLI.cone); (. exact RF.mk ⟨rfl, rfl⟩)) | (with_reducible constructor) | exact Z2 | exact NU.mk QQ54 | exact ZS | exact ZF | ((with_reducible apply Zaw); first | (have e9 := Zjm (nth nx v) n (NU.mk (by omega)); rw [ha.set (by omega)] at e9; (try rw [a2]); exact e9) | apply Zby) | (with_reducible intro hc; (try simp only [HCs] at hc)) | exact OB_f | (with_reducible first | apply gNK | apply Zaj | apply Zae | apply Zam | apply Zar | apply Zag | apply ZaG | apply Zak | apply Zai | apply Zas | apply Zal | apply Zau | apply ZaO | apply Zat | apply ZaR | apply Zao) | apply Zaf Zab | (apply ZaB; exact RF.mk rfl) | (refine Zah (id := 0) (ι := Nat) (fun v => ⟨[(1, .ptr 0 0), (3, .g (.i n)), (4, .g (.i v))], [(0, .box [.g (.ints o), .g (.rows nx)])]⟩) (fun v => (v ≤ n)) (fun v => n - v) (0) ?_ ?_ ?_; (. (apply gLX1 <;> (repeat' (first | (with_reducible constructor) | exact Z5 | exact RF.mk (by decide) | (with_reducible apply Zad) | exact EQ.mk QQ54)); (all_goals exact QQ57))); (. (omega)); (rintro v h1; have hv := fun h : (v : Int) < n => (And.intro (ha.ow v (by omega)) (ha.out v (by omega))); (show TX _ _ _ _ _ [(1, .ptr 0 0), (3, .g (.i n)), (4, .g (.i v))] [(0, .box [.g (.ints o), .g (.rows nx)])] _))) | apply gSel.ccons))
 (all_goals (first | ((exfalso; first | omega | (have q := hv (by assumption); omega) | (have q := hv (by omega); omega) | (have q := hv (by assumption); simp_all; omega) | (simp_all; done) | (simp_all; omega))) | (refine ZaA (v + 1) ?_ ?_ ?_; (· (apply gLX1 <;> (repeat' (first | (with_reducible constructor) | exact Z5 | exact RF.mk (by decide) | (with_reducible apply Zad) | exact EQ.mk QQ54)); (all_goals exact QQ57))); (· (omega)); (· exact ZW)) | ((exact EQ.mk rfl); done)))
def Zhw : Nat → List Nat
 | 0 => [1]
 | 1 => [1, 17]
 | 2 => [2]
 | 3 => [1, 3]
 | 4 => [1, 3, 22]
 | 5 => [1, 3]
 | 6 => [1, 3, 31]
 | 7 => [2]
 | 8 => [2]
 | _ => []
theorem Zfl (args : Array Value) (w : World) : (callFunc 97 args).run Tryz.prog w = .ok (.enter 97 args) w := Zaa Tryz.func97 (by decide) rfl args w
set_option maxHeartbeats 1000000 in
theorem ZjL (n : Nat) (o p : List Int) (nx : List (List Int)) (hk : HY (POK n o nx p)) : Con Tryz.prog 97 [.par o nx p] (.bool true) := by
 have hk := hk.e
 have ha := hk.a; have a4 := hk.lp; have a1 := ha.n1; have a2 := ha.lo; have a3 := ha.ln
 refine gCon Zhw Zab (rs := [.tmp 2]) (sl := [(0, .g (.par o nx p))]) Tryz.func97 rfl Tryz.ntmps97 rfl Zfl rfl (by repeat constructor) ?_
 (repeat' (first | ((with_reducible apply gLB.cagg); (. exact RF.mk ⟨rfl, rfl, rfl⟩)) | ((with_reducible apply gLB.cone); (. exact RF.mk ⟨rfl, rfl⟩)) | ((with_reducible apply gLI.cone); (. exact RF.mk ⟨rfl, rfl⟩)) | (with_reducible constructor) | exact Z2 | exact ZN | exact ZS | exact ZF | ((with_reducible apply Zaw); first | (exact ZgX n o nx (HY.mk ha)) | apply Zby) | (with_reducible intro hc; (try simp only [HCs] at hc)) | exact OB_f | (with_reducible first | apply gNK | apply Zaj | apply Zae | apply Zam | apply Zar | apply Zag | apply CK_t | apply ZaG | apply Zak | apply Zai | apply Zas | apply Zal | apply Zau | apply Zat | apply Zao) | apply Zaf Zab | (apply ZaB; exact RF.mk rfl) | (refine Zah (id := 0) (ι := Nat) (fun v => ⟨[(1, .ptr 0 0), (3, .g (.i v))], [(0, .box [.g (.ints o), .g (.rows nx), .g (.ints p)])]⟩) (fun v => (v ≤ n)) (fun v => n - v) (0) ?_ ?_ ?_; (. (apply gLX1 <;> (repeat' (first | (with_reducible constructor) | exact Z5 | exact RF.mk (by decide) | (with_reducible apply Zad) | exact ZE)); (all_goals exact QQ57))); (. (omega)); (rintro v h1; have hv := fun h : (v : Int) < n => (hk.pr v (by omega)); (show TX _ _ _ _ _ [(1, .ptr 0 0), (3, .g (.i v))] [(0, .box [.g (.ints o), .g (.rows nx), .g (.ints p)])] _))) | apply gSel.ccons))
 (all_goals (first | ((exfalso; first | omega | (have q := hv (by assumption); omega) | (have q := hv (by omega); omega) | (have q := hv (by omega); simp_all; omega) | (simp_all; done))) | (refine ZaA (v + 1) ?_ ?_ ?_; (· (apply gLX1 <;> (repeat' (first | (with_reducible constructor) | exact Z5 | exact RF.mk (by decide) | (with_reducible apply Zad) | exact ZE)); (all_goals exact QQ57))); (· (omega)); (· exact ZW)) | ((exact EQ.mk rfl); done)))
def ZjJ : Nat → List Nat
 | 0 => [1, 2]
 | 1 => [1, 2, 6]
 | 2 => [6, 7]
 | 3 => [7, 8, 9]
 | 4 => [7, 8, 27]
 | 5 => [4, 5]
 | 6 => [4, 5]
 | _ => []
theorem Zhc (args : Array Value) (w : World) : (callFunc 113 args).run Tryz.prog w = .ok (.enter 113 args) w := Zaa Tryz.func113 (by decide) rfl args w
set_option maxHeartbeats 1000000 in
theorem Zn3 (n : Nat) (o p : List Int) (nx : List (List Int)) (hk : HY (POK n o nx p)) : Con Tryz.prog 113 [.par o nx p, .ints (upI n)] (.tup [.ints (lstL (winL n o p nx 0 (List.replicate n true)) n), .ints (lstL (winL n o p nx 1 (List.replicate n true)) n)]) := by
 have hk := hk.e
 have ha := hk.a; have a4 := hk.lp; have a1 := ha.n1; have a2 := ha.lo; have a3 := ha.ln; have hu := ZaQ n
 refine gCon ZjJ Zab (rs := [.tmp 4, .tmp 5]) (sl := [(0, .g (.par o nx p)), (1, .g (.ints (upI n)))]) Tryz.func113 rfl Tryz.ntmps113 rfl Zhc rfl (by repeat constructor) ?_
 (repeat' (first | ((with_reducible apply gLB.cagg); (. exact RF.mk ⟨rfl, rfl, rfl⟩)) | (with_reducible constructor) | exact Z2 | exact RF.mk ⟨rfl, rfl, rfl⟩ | exact ZF | exact ZC | ((with_reducible apply Zaw); first | (exact Zlm n o nx (HY.mk hk.g.ard) (NU.mk (by omega))) | (have e9 := Zmp n o nx (upI n) (HY.mk fun x hx => upI_mem.1 hx) (NU.mk (by omega)); rw [Zm3] at e9; exact e9) | ((try rw [List.take_of_length_le (by first | (simp; done) | fail)]); exact ZmW n o p nx (ZbL nx n n) (HY.mk hk.g) (HY.mk (ZkK hk.g.ard)) (HY.mk hk.hpr) (NU.mk (by omega)) (n + 1) (List.replicate n true) (Zpw _ _) (by first | (simp; done) | fail) hk.tot (Zwe (by omega))) | ((try rw [List.take_of_length_le (Nat.le_of_eq (ZbE _ _))]); first | (rw [Zqo (by assumption)]; have e9 := Zbr (winL n o p nx 0 (List.replicate n true)) (NU.mk (by rw [ZaX]; omega)); rw [ZaX] at e9; exact e9) | (rw [ZuA (by assumption)]; have e9 := Zbr (winL n o p nx 1 (List.replicate n true)) (NU.mk (by rw [ZaX]; omega)); rw [ZaX] at e9; exact e9)) | ((try rw [List.take_of_length_le (by first | (simp; done) | fail)]); (try rw [List.take_of_length_le (Nat.le_of_eq (ZbE _ _))]); have e9 := ZcY n (List.replicate n true) (winL n o p nx (whoL p (List.replicate n true) n) (List.replicate n true)) (NU.mk ⟨by simp, ZaX _, by omega⟩); first | (rw [ZoK hk (by assumption)] at e9; exact e9) | (rw [Zpc hk (by assumption)] at e9; exact e9)) | ((try rw [List.take_of_length_le (Nat.le_of_eq (ZaX _))]); have e9 := Zbr (winL n o p nx 0 (List.replicate n true)) (NU.mk (by rw [ZaX]; omega)); rw [ZaX] at e9; exact e9) | ((try rw [List.take_of_length_le (Nat.le_of_eq (ZaX _))]); have e9 := Zbr (winL n o p nx 1 (List.replicate n true)) (NU.mk (by rw [ZaX]; omega)); rw [ZaX] at e9; exact e9)) | (with_reducible intro hc; (try simp only [HCs] at hc)) | exact OB_f | exact ZK | (with_reducible first | apply gNK | apply Zaj | apply Zae | apply Zar | apply Zag | apply ZaG | apply Zak | apply Zai | apply Zjk) | apply Zaf Zab | apply Za4 Zab rfl | apply gSel.ccons))
 (all_goals (first | (((first | (refine Zax ?_; first | (simp_all; done) | (rw [Bool.eq_iff_iff]; simp only [Bool.and_eq_true, Bool.or_eq_true, decide_eq_true_eq, Bool.false_eq_true, false_iff, true_iff, iff_false, iff_true, not_and, not_or, Bool.not_eq_true, decide_eq_false_iff_not, beq_iff_eq, bne_iff_ne, ne_eq, Bool.not_eq_true', Bool.not_eq_false', Int.not_le, Int.not_lt]; omega)) | ((repeat (first | apply ZbK | apply ZaP | apply ZbT | apply Za1 | apply Zap)); all_goals (first | exact EQ.mk rfl | exact EQ.mk (by first | (simp; done) | fail) | exact EQ.mk (by first | (simp_all; done) | fail))))); done)))
def ZhQ : Nat → List Nat
 | 0 => [1]
 | 1 => [1, 3]
 | 2 => [3, 5]
 | 3 => [3, 20, 21, 22]
 | 4 => [3, 20, 21, 22, 23]
 | 5 => [3, 7, 20, 21, 22]
 | 6 => [3, 20, 21, 22]
 | 7 => [3, 20, 21, 22]
 | 8 => [2]
 | _ => []
theorem Zgd (args : Array Value) (w : World) : (callFunc 74 args).run Tryz.prog w = .ok (.enter 74 args) w := Zaa Tryz.func74 (by decide) rfl args w
set_option maxHeartbeats 1000000 in
theorem ZgN (n : Nat) (o p : List Int) (nx : List (List Int)) (hk : HY (POK n o nx p)) : Con Tryz.prog 74 [.par o nx p] (.ints (oneK n (lstL (winL n o p nx 1 (List.replicate n true)) n))) := by
 have hk := hk.e
 have ha := hk.a; have a4 := hk.lp; have a1 := ha.n1; have a2 := ha.lo; have a3 := ha.ln; have hu := ZaQ n; have hl := ZeN (winL n o p nx 1 (List.replicate n true)) n; have hm := fun {x : Int} => @ZbZ (winL n o p nx 1 (List.replicate n true)) x n
 refine gCon ZhQ Zab (rs := [.tmp 2]) (sl := [(0, .g (.par o nx p))]) Tryz.func74 rfl Tryz.ntmps74 rfl Zgd rfl (by repeat constructor) ?_
 (repeat' (first | ((with_reducible apply gLB.cagg); (. exact RF.mk ⟨rfl, rfl, rfl⟩)) | ((with_reducible apply gLB.cone); (. exact RF.mk ⟨rfl, rfl⟩)) | ((with_reducible apply gLI.cone); (. exact RF.mk ⟨rfl, rfl⟩)) | (with_reducible constructor) | exact Z3 | exact NU.mk QQ51 | exact ZS | exact ZF | exact ZC | ((with_reducible apply Zbk); (. exact ZA); (. exact NU.mk QQ51)) | ((with_reducible apply Zaw); first | (exact ZnO n o nx (NU.mk (by omega))) | ((try rw [List.take_of_length_le (Nat.le_of_eq (ZaQ _))]); exact Zn3 n o p nx (HY.mk hk))) | (with_reducible intro hc; (try simp only [HCs] at hc)) | exact OB_f | exact ZM | exact ZK | (with_reducible first | apply gNK | apply Zaj | apply Zae | apply Zam | apply Zag | apply ZaG | apply Zak | apply Zai | apply Zas | apply Zal | apply Zau | apply Zat | apply Zao) | apply Zaf Zab | apply Za4 Zab rfl | (apply ZaB; exact RF.mk rfl) | (refine Zah (id := 0) (ι := Nat) (fun i => ⟨[(3, .own 0 0 n), (20, .own 1 0 (lstL (winL n o p nx 1 (List.replicate n true)) n).length), (21, .g (.i (lstL (winL n o p nx 1 (List.replicate n true)) n).length)), (22, .g (.i i))], [(0, .arr 1 true ((oneK n ((lstL (winL n o p nx 1 (List.replicate n true)) n).take i)).map GV.i)), (1, .arr 1 true ((lstL (winL n o p nx 1 (List.replicate n true)) n).map GV.i))]⟩) (fun i => (i ≤ (lstL (winL n o p nx 1 (List.replicate n true)) n).length)) (fun i => (lstL (winL n o p nx 1 (List.replicate n true)) n).length - i) (0) ?_ ?_ ?_; (. (apply gLX2 <;> (repeat' (first | (with_reducible constructor) | exact Z5 | exact RF.mk (by decide) | (with_reducible apply Zad) | exact EQ.mk QQ51)); (all_goals exact QQ56))); (. (omega)); (rintro i h1; (show TX _ _ _ _ _ [(3, .own 0 0 n), (20, .own 1 0 (lstL (winL n o p nx 1 (List.replicate n true)) n).length), (21, .g (.i (lstL (winL n o p nx 1 (List.replicate n true)) n).length)), (22, .g (.i i))] [(0, .arr 1 true ((oneK n ((lstL (winL n o p nx 1 (List.replicate n true)) n).take i)).map GV.i)), (1, .arr 1 true ((lstL (winL n o p nx 1 (List.replicate n true)) n).map GV.i))] _))) | apply gSel.ccons))
 (all_goals (first | (refine ZaA (i + 1) ?_ ?_ ?_; (· (apply gLX2 <;> (repeat' (first | (with_reducible constructor) | exact Z5 | exact RF.mk (by decide) | (with_reducible apply Zad) | exact EQ.mk QQ51)); (all_goals exact QQ56))); (· (omega)); (· exact ZW)) | (((refine Za1 (Zap (EQ.mk ?_)); (try rw [List.drop_zero]); rw [List.take_of_length_le (by rw [ZeI]; omega), List.take_of_length_le (by omega)])); done)))
end Go.Proofs.YtjjidamlmebaaaaGreat

