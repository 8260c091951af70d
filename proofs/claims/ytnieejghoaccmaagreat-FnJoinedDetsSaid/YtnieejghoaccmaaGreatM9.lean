/- Contracts: sets, states that are met again and again. No conditions but those that each theorem names. -/
import Derived.Test.YtnieejghoaccmaaGreatTab
import Derived.Test.YtnieejghoaccmaaGreatKG
import Derived.Test.YtnieejghoaccmaaGreatM2
import Derived.Test.YtnieejghoaccmaaGreatME
import Derived.Test.YtnieejghoaccmaaGreatSO
import Derived.Test.YtnieejghoaccmaaGreatBS
import Derived.Test.YtnieejghoaccmaaGreatChecked
set_option linter.unusedSimpArgs false
set_option linter.unusedVariables false
namespace Go.Proofs.YtnieejghoaccmaaGreat
open Go.RowKit
open Shp
theorem Zwz {p : Prop} (h : p := by ((first | exact EQ.mk rfl | exact EQ.mk (Zd8 (f := lapN n l) (j := j) (c := goN n 0 s)).symm); done)) : p := h
theorem QM99 {p : Prop} (h : p := by ((first | exact EQ.mk rfl | exact EQ.mk (by first | (simp; done) | fail) | exact EQ.mk (by rw [ZfX (by omega)]) | (refine EQ.mk ?_; rw [z3 (by omega)]) | (refine Zax (EQ.mk ?_); rw [z3 (by omega)])); done)) : p := h
theorem QM98 {p : Prop} (h : p := by first | exact ZO | (first | omega | (have q1 := z1 (by omega); have q2 := hg.row z2.1 z2.2; omega))) : p := h
theorem QM97 {p : Prop} (h : p := by ((first | exact EQ.mk rfl | exact EQ.mk (by first | (simp; done) | fail)); done)) : p := h
theorem QM96 {p : Prop} (h : p := by ((first | exact EQ.mk rfl | exact EQ.mk (by first | (simp; done) | fail) | exact EQ.mk (by rw [ZfX (by omega)]) | (refine EQ.mk ?_; rw [← ZnS (by omega)]; simp; done) | (refine Zax (EQ.mk ?_); rw [← ZnS (by omega), List.append_assoc])); done)) : p := h
theorem QM95 {p : Prop} (h : p := by first | exact ZO | (first | omega | (simp only [List.length_take, List.length_drop]; omega))) : p := h
theorem QM94 {p : Prop} (h : p := by ((first | exact EQ.mk rfl | exact EQ.mk (by first | (simp [Zd6]; done) | fail) | (refine EQ.mk ?_; rw [show j = n.length by omega]; done) | (refine EQ.mk ?_; rw [show j = n.length by omega]; rfl) | exact EQ.mk (Zkj (by omega)) | (refine EQ.mk ?_; rw [List.take_of_length_le (by rw [Zdd]; omega)]; rfl) | (refine Zax (EQ.mk ?_); rw [List.take_of_length_le (by rw [Zdd]; omega)]; rfl)); done)) : p := h
theorem QM93 {p : Prop} (h : p := by ((first | exact EQ.mk rfl | exact EQ.mk (Zd8 (f := lapN n l) (j := j) (c := goN n 0 s)).symm | exact EQ.mk (by first | (simp [seqN]; done) | fail) | exact EQ.mk (by first | (simp [Zcj]; done) | fail) | (refine Zax (EQ.mk ?_); rw [Zmq]) | (refine Zax (EQ.mk ?_); rw [Zmq, List.take_of_length_le (by rw [Zcj]; omega)]) | exact EQ.mk (by first | (simp [Zcj]; done) | fail)); done)) : p := h
theorem QM92 {p : Prop} (h : p := by first | exact ZO | (first | omega | (have q1 := ZfY hg hs hl (by omega) h2; have q2 := Zcj (n := n) (s := s) (l := l) (j := j); omega) | (have q1 := ZfY hg hs hl (by omega) h2; have q2 := Zcj (n := n) (s := s) (l := l) (j := j); have hc2 : has (seqN n s l j) (it (lapN n l) j (goN n 0 s)) = true := (by first | assumption | simp_all); obtain ⟨i0, q3, q4, _⟩ := ZjH (has_iff.1 hc2); rw [q4]; omega))) : p := h
theorem QM91 {p : Prop} (h : p := by first | exact ZO | (first | omega | (have q := Zl0 (Zcc (show detB i o n ps = true by assumption)) (Zbq (show ZaN s l (Zaa i o) = true by first | assumption | exact (show sigB i o = true ∧ ZaN s l (Zaa i o) = true by assumption).2 | (rw [← hlp (by assumption)]; assumption))).1 (Zbq (show ZaN s l (Zaa i o) = true by first | assumption | exact (show sigB i o = true ∧ ZaN s l (Zaa i o) = true by assumption).2 | (rw [← hlp (by assumption)]; assumption))).2 (hd (show detB i o n ps = true by assumption)).1; have q2 := hd (show detB i o n ps = true by assumption); omega))) : p := h
theorem QM90 {p : Prop} (h : p := by first | exact ZO | (first | omega | exact sortZ_len.symm | (rw [Nat.zero_add, ZhV]; exact Zlf) | (have q1 := y1 (by omega); have q2 := hg.row y2.1 y2.2; omega) | (have q3 := Zh8 (n := n) (l := l) (b := (begN n s l)) (m := m); have q4 := Zdd (n := n) (l := l) (q := (it (lapN n l) m (begN n s l))); have q5 := Zkq hg hs hl (by omega) h2; have q6 : m * l.length ≤ 48 * 600 := Nat.mul_le_mul (by omega) (by omega); first | omega | (simp only [List.length_append, List.length_take]; omega)) | (simp only [ZhV, sortZ_len]; have q3 := Zh8 (n := n) (l := l) (b := (begN n s l)) (m := m); have q4 := Zdd (n := n) (l := l) (q := (it (lapN n l) m (begN n s l))); have q5 := Zkq hg hs hl (by omega) h2; have q6 : m * l.length ≤ 48 * 600 := Nat.mul_le_mul (by omega) (by omega); first | omega | (simp only [List.length_append, List.length_take]; omega)))) : p := h
def ZfL : Nat → List Nat
 | 0 => [0, 1]
 | 1 => [0, 1, 5]
 | 2 => [0, 1, 5, 18]
 | 3 => [0, 1, 5]
 | 4 => [0, 1, 5, 32]
 | 5 => [4]
 | 6 => [0, 5, 6]
 | 7 => [4]
 | _ => []
theorem ZcA (args : Array Value) (w : World) : (callFunc 75 args).run Tryz.prog w = .ok (.enter 75 args) w := Zab Tryz.func75 (by decide) rfl args w
set_option maxHeartbeats 1000000 in
theorem Zey (xs : List Int) (n : Int) (hx : NU (xs.length ≤ 1000000)) (hn : HY (∀ k, k < xs.length → (∀ z, z < k → nth xs z < n) → ¬ nth xs k = n)) : Con Tryz.prog 75 [.ints xs, .i n] (.ints (insZ n xs)) := by
 have hx := hx.e
 have hn := hn.e
 refine Con.fit ZcA fun hfit => ?_
 have hb_xs : xs.length ≤ 9223372036854775807 := GFits.ints (show GFits (.ints xs) from hfit 0 (ZL rfl))
 clear hfit
 refine gCon ZfL Zac (rs := [.tmp 4]) (sl := [(0, .g (.ints xs)), (1, .g (.i n))]) Tryz.func75 rfl Tryz.ntmps75 rfl ZcA rfl (by repeat constructor) ?_
 (repeat' (first | ((with_reducible apply gLI.cone); (. exact RF.mk ⟨rfl, rfl⟩)) | (with_reducible constructor) | exact Z2 | exact NU.mk QM95 | exact ZS | exact ZC | ((with_reducible apply ZfS); (. exact NU.mk QM95); (. rfl)) | (with_reducible apply Zby) | ((with_reducible apply ZaP); first | apply ZiU) | (with_reducible intro hc; (try simp only [HCs] at hc)) | exact OB_f | (with_reducible first | apply gNK | apply Zao | apply Zaf | apply Zal | apply Zan | apply Zai | apply CK_f | apply ZaQ | apply Zam | apply Zap | apply Zau | apply Zak | apply Zas | apply Zav | apply Zat) | apply Zah Zac | (apply ZaD; exact RF.mk rfl) | (refine Zaq (id := 0) (ι := Nat) (fun k => ⟨[(0, .g (.ints xs)), (1, .g (.i n)), (5, .g (.i k))], []⟩) (fun k => (k ≤ xs.length) ∧ (∀ z, z < k → nth xs z < n)) (fun k => xs.length - k) (0) ?_ ?_ ?_; (. (apply gLX0 <;> (repeat' (first | (with_reducible constructor) | exact Z5 | exact RF.mk (by decide) | (with_reducible apply Zae) | exact EQ.mk QM95)))); (. (exact ⟨by omega, fun z hz => by omega⟩)); (rintro k ⟨h1, h2⟩; (show TX _ _ _ _ _ [(0, .g (.ints xs)), (1, .g (.i n)), (5, .g (.i k))] [] _))) | apply gSel.ccons))
 (all_goals (first | (exfalso; exact hn k (by omega) h2 (by assumption)) | (refine ZaR (k + 1) ?_ ?_ ?_; (· (apply gLX0 <;> (repeat' (first | (with_reducible constructor) | exact Z5 | exact RF.mk (by decide) | (with_reducible apply Zae) | exact EQ.mk QM95)))); (· ((refine ⟨by omega, fun z hz => ?_⟩; rcases Nat.lt_or_ge z k with h5 | h5; exact h2 z h5; rw [show z = k by omega]; assumption))); (· exact ZW)) | (((refine ZbV (Zax (EQ.mk ?_)); rw [Zqr k (by omega) h2 (fun hlt => by first | omega | (have q := hn k hlt h2; omega))]; first | rfl | (simp; done))); done)))
theorem Zhk (args : Array Value) (w : World) : (callFunc 75 args).run Tryz.prog w = .ok (.enter 75 args) w := Zab Tryz.func75 (by decide) rfl args w
theorem ZiI (xs : List Int) (n : Int) (hx : NU (xs.length ≤ 1000000)) : ZsU Tryz.prog 75 xs n (insZ n xs) := by
 by_cases hc : ∃ k, k < xs.length ∧ (∀ z, z < k → nth xs z < n) ∧ nth xs k = n
 ·obtain ⟨k, h1, h2, h3⟩ := hc
  refine ⟨Zhk, fun w F v hg => ?_⟩
  obtain ⟨a, cap, rfl, hi⟩ := IntsV.of hg
  exact (ZoO hi n k h1 (Lib.hid h2) (Lib.hid h3)).mono fun e w' hq => .inl ⟨(Zmm k h1 h2 h3).symm, hq.1, hq.2⟩
 ·have hcn := Zey xs n hx (HY.mk fun k h1 h2 h3 => hc ⟨k, h1, h2, h3⟩)
  exact ⟨Zhk, fun w F v hg => (hcn.calls w [v, .int .i64 n] rfl (fun i hi => by
   match i, hi with
   | 0, _ => exact ⟨F, hg⟩
   | 1, _ => exact ⟨[], .atom (GV.i n) rfl⟩)).mono fun e w' hq => .inr hq⟩
def Zji : Nat → List Nat
 | 0 => [0, 1]
 | 1 => [4]
 | _ => []
theorem Zd1 (args : Array Value) (w : World) : (callFunc 73 args).run Tryz.prog w = .ok (.enter 73 args) w := Zab Tryz.func73 (by decide) rfl args w
set_option maxHeartbeats 1000000 in
theorem Zmu (xs ys : List Int) : Con Tryz.prog 73 [.ints xs, .ints ys] (.bool (setN xs 256 && setN ys 256)) := by
 refine Con.fit Zd1 fun hfit => ?_
 have hb_xs : xs.length ≤ 9223372036854775807 := GFits.ints (show GFits (.ints xs) from hfit 0 (ZL rfl))
 have hb_ys : ys.length ≤ 9223372036854775807 := GFits.ints (show GFits (.ints ys) from hfit 1 (ZL rfl))
 clear hfit
 refine gCon Zji Zac (rs := [.tmp 4]) (sl := [(0, .g (.ints xs)), (1, .g (.ints ys))]) Tryz.func73 rfl Tryz.ntmps73 rfl Zd1 rfl (by repeat constructor) ?_
 (repeat' (first | (with_reducible constructor) | exact Z2 | ((with_reducible apply ZaP); first | apply Zg1) | (with_reducible intro hc; (try simp only [HCs] at hc)) | exact OB_f | (with_reducible first | apply gNK | apply Zao | apply Zaf | apply Zap | apply Zat) | apply Zah Zac | apply gSel.ccons))
 (all_goals (first | (((refine Zar ?_; skip; skip; rw [Bool.eq_iff_iff]; (try simp only [BOa, Int.natCast_eq_zero, List.length_eq_zero_iff, Bool.true_eq_false, Bool.false_eq_true, true_iff, false_iff, iff_true, iff_false, true_and, and_true, false_and, and_false, not_and, not_or, Bool.not_eq_true, Bool.not_eq_false, Int.not_lt, Int.not_le] at *); first | done | omega | (simp_all; done) | grind)); done)))
def ZjD : Nat → List Nat
 | 0 => [0, 1]
 | 1 => [0, 1, 10]
 | 2 => [4]
 | 3 => [1, 5]
 | 4 => [1, 5, 6]
 | 5 => [1, 5, 6, 17]
 | 6 => [1, 5, 6]
 | 7 => [1, 5, 6]
 | 8 => [4]
 | _ => []
theorem ZdJ (args : Array Value) (w : World) : (callFunc 55 args).run Tryz.prog w = .ok (.enter 55 args) w := Zab Tryz.func55 (by decide) rfl args w
set_option maxHeartbeats 1000000 in
theorem ZmJ (xs ys : List Int) (hx : HY (setN xs 256 = true ∧ xs.length ≤ 256)) (hy : HY (setN ys 256 = true ∧ ys.length ≤ 256)) : Con Tryz.prog 55 [.ints xs, .ints ys] (.ints (insL xs ys)) := by
 have hx := hx.e
 have hy := hy.e
 refine Con.fit ZdJ fun hfit => ?_
 have hb_xs : xs.length ≤ 9223372036854775807 := GFits.ints (show GFits (.ints xs) from hfit 0 (ZL rfl))
 have hb_ys : ys.length ≤ 9223372036854775807 := GFits.ints (show GFits (.ints ys) from hfit 1 (ZL rfl))
 clear hfit
 refine gCon ZjD Zac (rs := [.tmp 4]) (sl := [(0, .g (.ints xs)), (1, .g (.ints ys))]) Tryz.func55 rfl Tryz.ntmps55 rfl ZdJ rfl (by repeat constructor) ?_
 (repeat' (first | ((with_reducible apply gAF.cinto (f := 75))) | ((with_reducible apply Zql); first | apply ZiI) | ((with_reducible apply gLI.cone); (. exact RF.mk ⟨rfl, rfl⟩)) | (with_reducible constructor) | exact Z2 | exact ZN | exact ZS | exact ZC | ((with_reducible apply ZaP); first | apply Zmu | apply ZiU | apply Zey) | (with_reducible intro hc; (try simp only [HCs] at hc)) | exact OB_f | (with_reducible first | apply gNK | apply Zao | apply Zaf | apply Zal | apply Zan | apply Zai | apply ZaQ | apply Zam | apply Zap | apply Zau | apply Zak | apply Zas | apply Zav | apply Zat) | apply Zah Zac | (apply ZaD; exact RF.mk rfl) | (refine Zaq (id := 0) (ι := Nat × (List Int)) (fun ⟨i, o⟩ => ⟨[(1, .g (.ints ys)), (5, .own 0 0 o.length), (6, .g (.i i))], [(0, .arr 1 true (o.map GV.i))]⟩) (fun ⟨i, o⟩ => (i ≤ ys.length) ∧ (insL o (ys.drop i) = insL xs ys) ∧ (o.length ≤ 256 + i)) (fun ⟨i, o⟩ => ys.length - i) (0, xs) ?_ ?_ ?_; (. (apply gLX1 <;> (repeat' (first | (with_reducible constructor) | exact Z5 | exact RF.mk (by decide) | (with_reducible apply Zae) | exact ZE)); (all_goals exact QM97))); (. (exact ⟨by omega, rfl, by omega⟩)); (rintro ⟨i, o⟩ ⟨h1, h2, h3⟩; (show TX _ _ _ _ _ [(1, .g (.ints ys)), (5, .own 0 0 o.length), (6, .g (.i i))] [(0, .arr 1 true (o.map GV.i))] _))) | apply gSel.ccons))
 (all_goals (first | (exfalso; simp_all; done) | (refine ZaR (i + 1, insZ (nth ys i) o) ?_ ?_ ?_; (· (apply gLX1 <;> (repeat' (first | (with_reducible constructor) | exact Z5 | exact RF.mk (by decide) | (with_reducible apply Zae) | exact ZE)); (all_goals exact QM97))); (· (exact ⟨by omega, by rw [← ZlK (by omega)]; exact h2, by have q := ZkT (x := nth ys i) (ys := o); omega⟩)); (· exact ZW)) | (((refine ZbV (Zax (EQ.mk ?_)); first | rw [← h2, ZhR (by omega)] | (rw [List.take_of_length_le (Nat.le_refl _), ← h2, ZhR (by omega)]))); done)))
def ZjB : Nat → List Nat
 | 0 => [1, 2, 3]
 | 1 => [1, 2, 3, 7]
 | 2 => [1, 2, 3, 7, 8]
 | 3 => [1, 2, 3, 7, 8, 13]
 | 4 => [1, 2, 3, 7, 8]
 | 5 => [1, 2, 3, 7, 8]
 | 6 => [1, 2, 3, 7, 8]
 | 7 => [6]
 | _ => []
theorem ZdO (args : Array Value) (w : World) : (callFunc 56 args).run Tryz.prog w = .ok (.enter 56 args) w := Zab Tryz.func56 (by decide) rfl args w
set_option maxHeartbeats 1000000 in
theorem ZmF (n : List (List Int)) (ps : List (List Int × List Int)) (q : Int) (xs : List Int) (W : Int) (hg : HY (GoOk n W)) (hl : HY (below xs W = true)) (hn : NU (1 ≤ n.length ∧ n.length ≤ 48)) (hx : NU (xs.length ≤ 600)) (hq : NU (0 ≤ q ∧ q < n.length)) : Con Tryz.prog 56 [.det n ps, .i q, .ints xs] (.ints (insL [] (trN n q xs))) := by
 have hg := hg.e
 have hl := hl.e
 have hn := hn.e
 have hx := hx.e
 have hq := hq.e
 refine Con.fit ZdO fun hfit => ?_
 have hb_n : n.length ≤ 9223372036854775807 := GFits.lenm (GFits.cell (show GFits (.det n ps) from hfit 0 (ZL rfl)) (.head _))
 have hr_n : ∀ r ∈ n, r.length ≤ 9223372036854775807 := fun r hr => GFits.ints (GFits.elm (GFits.cell (show GFits (.det n ps) from hfit 0 (ZL rfl)) (.head _)) r hr)
 have hb_ps : ps.length ≤ 9223372036854775807 := GFits.lenm (GFits.cell (show GFits (.det n ps) from hfit 0 (ZL rfl)) (.tail _ (.head _)))
 have hr_ps : ∀ r ∈ ps, r.1.length ≤ 9223372036854775807 ∧ r.2.length ≤ 9223372036854775807 := fun r hr => ⟨GFits.ints (GFits.cell (GFits.elm (GFits.cell (show GFits (.det n ps) from hfit 0 (ZL rfl)) (.tail _ (.head _))) r hr) (.head _)), GFits.ints (GFits.cell (GFits.elm (GFits.cell (show GFits (.det n ps) from hfit 0 (ZL rfl)) (.tail _ (.head _))) r hr) (.tail _ (.head _)))⟩
 have hb_xs : xs.length ≤ 9223372036854775807 := GFits.ints (show GFits (.ints xs) from hfit 2 (ZL rfl))
 clear hfit
 refine gCon ZjB Zac (rs := [.tmp 6]) (sl := [(0, .g (.det n ps)), (1, .g (.i q)), (2, .g (.ints xs))]) Tryz.func56 rfl Tryz.ntmps56 rfl ZdO rfl (by repeat constructor) ?_
 (repeat' (first | ((with_reducible apply gAF.cinto (f := 75))) | ((with_reducible apply Zql); first | apply ZiI) | ((with_reducible apply gLB.cone); (. exact RF.mk ⟨rfl, rfl⟩)) | ((with_reducible apply gLI.cone); (. exact RF.mk ⟨rfl, rfl⟩)) | (with_reducible constructor) | exact Z2 | exact NU.mk QM98 | exact ZS | exact ZF | exact ZC | (with_reducible intro hc; (try simp only [HCs] at hc)) | exact OB_f | exact ZK | (with_reducible first | apply gNK | apply Zao | apply Zaf | apply Zal | apply Zai | apply ZaQ | apply Zam | apply Zap | apply Zau | apply Zak | apply Zas | apply Zav | apply Zat) | apply Zah Zac | apply ZaK Zac rfl | (apply ZaD; exact RF.mk rfl) | (refine Zaq (id := 0) (ι := Nat × (List Int)) (fun ⟨i, o⟩ => ⟨[(1, .g (.i (goN n q (xs.take i)))), (2, .g (.ints xs)), (3, .ptr 1 0), (7, .own 0 0 o.length), (8, .g (.i i))], [(0, .arr 1 true (o.map GV.i)), (1, .box [.g (.rows n), .g (.pairs ps)])]⟩) (fun ⟨i, o⟩ => (i ≤ xs.length) ∧ (insL o ((trN n q xs).drop i) = insL [] (trN n q xs)) ∧ (o.length ≤ i)) (fun ⟨i, o⟩ => xs.length - i) (0, []) ?_ ?_ ?_; (. (apply gLX2 <;> (repeat' (first | (with_reducible constructor) | exact Z5 | exact RF.mk (by decide) | (with_reducible apply Zae) | exact EQ.mk QM98)); (all_goals exact QM99))); (. (exact ⟨by omega, by rw [List.drop_zero], by simp⟩)); (rintro ⟨i, o⟩ ⟨h1, h2, h3⟩; have z1 : i < xs.length → 0 ≤ nth xs i ∧ nth xs i < W := fun h => below_iff.1 hl i h; have z2 := ZbP hg (Zj3 (i := i) hl) hq; have z3 : i < xs.length → nth (nth n (goN n q (xs.take i)).toNat) (nth xs i).toNat = nth (trN n q xs) i := fun h => (by rw [Zke h]; exact (ZfX h).symm); have z4 := Zdd (n := n) (l := xs) (q := q); (show TX _ _ _ _ _ [(1, .g (.i (goN n q (xs.take i)))), (2, .g (.ints xs)), (3, .ptr 1 0), (7, .own 0 0 o.length), (8, .g (.i i))] [(0, .arr 1 true (o.map GV.i)), (1, .box [.g (.rows n), .g (.pairs ps)])] _))) | apply gSel.ccons))
 (all_goals (first | (refine ZaR (i + 1, insZ (nth (trN n q xs) i) o) ?_ ?_ ?_; (· (apply gLX2 <;> (repeat' (first | (with_reducible constructor) | exact Z5 | exact RF.mk (by decide) | (with_reducible apply Zae) | exact EQ.mk QM98)); (all_goals exact QM99))); (· (exact ⟨by omega, by rw [← ZlK (by omega)]; exact h2, by have q := ZkT (x := nth (trN n q xs) i) (ys := o); omega⟩)); (· exact ZW)) | (((refine ZbV (Zax (EQ.mk ?_)); first | rw [← h2, ZhR (by omega)] | (rw [List.take_of_length_le (Nat.le_refl _), ← h2, ZhR (by omega)]))); done)))
def Zhw : Nat → List Nat
 | 0 => [2, 3]
 | 1 => [2, 3, 5]
 | 2 => [2, 3, 5, 6]
 | 3 => [2, 3, 5, 6, 15]
 | 4 => [2, 3, 5, 6]
 | 5 => [2, 3, 5, 6]
 | 6 => [4]
 | _ => []
theorem Zdf (args : Array Value) (w : World) : (callFunc 54 args).run Tryz.prog w = .ok (.enter 54 args) w := Zab Tryz.func54 (by decide) rfl args w
set_option maxHeartbeats 1000000 in
theorem Zkr (n : List (List Int)) (ps : List (List Int × List Int)) (s l : List Int) (W : Int) (hg : HY (GoOk n W)) (hs : HY (below s W = true)) (hl : HY (below l W = true)) (hn : NU (1 ≤ n.length ∧ n.length ≤ 48)) (hx : NU (1 ≤ l.length ∧ l.length ≤ 600 ∧ s.length ≤ 600)) : Con Tryz.prog 54 [.det n ps, .word s l] (.ints (Zb0 n s l)) := by
 have hg := hg.e
 have hs := hs.e
 have hl := hl.e
 have hn := hn.e
 have hx := hx.e
 refine Con.fit Zdf fun hfit => ?_
 have hb_n : n.length ≤ 9223372036854775807 := GFits.lenm (GFits.cell (show GFits (.det n ps) from hfit 0 (ZL rfl)) (.head _))
 have hr_n : ∀ r ∈ n, r.length ≤ 9223372036854775807 := fun r hr => GFits.ints (GFits.elm (GFits.cell (show GFits (.det n ps) from hfit 0 (ZL rfl)) (.head _)) r hr)
 have hb_ps : ps.length ≤ 9223372036854775807 := GFits.lenm (GFits.cell (show GFits (.det n ps) from hfit 0 (ZL rfl)) (.tail _ (.head _)))
 have hr_ps : ∀ r ∈ ps, r.1.length ≤ 9223372036854775807 ∧ r.2.length ≤ 9223372036854775807 := fun r hr => ⟨GFits.ints (GFits.cell (GFits.elm (GFits.cell (show GFits (.det n ps) from hfit 0 (ZL rfl)) (.tail _ (.head _))) r hr) (.head _)), GFits.ints (GFits.cell (GFits.elm (GFits.cell (show GFits (.det n ps) from hfit 0 (ZL rfl)) (.tail _ (.head _))) r hr) (.tail _ (.head _)))⟩
 have hb_s : s.length ≤ 9223372036854775807 := GFits.ints (GFits.cell (show GFits (.word s l) from hfit 1 (ZL rfl)) (.head _))
 have hb_l : l.length ≤ 9223372036854775807 := GFits.ints (GFits.cell (show GFits (.word s l) from hfit 1 (ZL rfl)) (.tail _ (.head _)))
 clear hfit
 have hq0 := ZbP hg hs (q := 0) ⟨by omega, by omega⟩
 refine gCon Zhw Zac (rs := [.tmp 4]) (sl := [(0, .g (.det n ps)), (1, .g (.word s l))]) Tryz.func54 rfl Tryz.ntmps54 rfl Zdf rfl (by repeat constructor) ?_
 (repeat' (first | ((with_reducible apply gLB.cagg); (. exact RF.mk ⟨rfl, rfl, rfl⟩)) | ((with_reducible apply gLB.cone); (. exact RF.mk ⟨rfl, rfl⟩)) | (with_reducible constructor) | exact Z2 | exact NU.mk QM92 | exact ZS | exact ZF | exact ZC | (with_reducible apply Zbp) | ((with_reducible apply ZaP); first | (exact ZjG n 0 s W ps (HY.mk hg) (HY.mk hs) (NU.mk (by omega))) | (exact ZjG n _ l W ps (HY.mk hg) (HY.mk hl) (NU.mk (Zf4 hg hl hq0 j))) | apply ZgW | apply ZlF) | (with_reducible intro hc; (try simp only [HCs] at hc)) | exact OB_f | (with_reducible first | apply gNK | apply Zao | apply Zaf | apply Zal | apply Zai | apply ZaQ | apply Zam | apply Zap | apply Zau | apply Zak | apply Zas | apply Zav | apply Zat) | apply Zah Zac | (apply ZaD; exact RF.mk rfl) | (refine Zaq (id := 0) (ι := Nat) (fun j => ⟨[(2, .ptr 1 0), (3, .ptr 2 0), (5, .g (.i (it (lapN n l) j (goN n 0 s)))), (6, .own 0 0 (seqN n s l j).length)], [(0, .arr 1 true ((seqN n s l j).map GV.i)), (1, .box [.g (.rows n), .g (.pairs ps)]), (2, .box [.g (.ints s), .g (.ints l)])]⟩) (fun j => (∀ z, z < j → has (seqN n s l z) (it (lapN n l) z (goN n 0 s)) = false)) (fun j => n.length + 1 - j) (0) ?_ ?_ ?_; (. (apply gLX3 <;> (repeat' (first | (with_reducible constructor) | exact Z5 | exact RF.mk (by decide) | (with_reducible apply Zae) | exact EQ.mk QM92)); (all_goals exact QM93))); (. (exact Zcp)); (rintro j h2; (show TX _ _ _ _ _ [(2, .ptr 1 0), (3, .ptr 2 0), (5, .g (.i (it (lapN n l) j (goN n 0 s)))), (6, .own 0 0 (seqN n s l j).length)] [(0, .arr 1 true ((seqN n s l j).map GV.i)), (1, .box [.g (.rows n), .g (.pairs ps)]), (2, .box [.g (.ints s), .g (.ints l)])] _))) | apply gSel.ccons))
 (all_goals (first | (refine ZaR (j + 1) ?_ ?_ ?_; (· (apply gLX3 <;> (repeat' (first | (with_reducible constructor) | exact Z5 | exact RF.mk (by decide) | (with_reducible apply Zae) | exact EQ.mk QM92)); (all_goals exact QM93))); (· ((exact Zct h2 (by first | (simp_all; done) | fail)))); (· (((try dsimp only); have q1 := ZfY hg hs hl (by omega) h2; omega)))) | (((have q1 := ZfY hg hs hl (by omega) h2; have hc2 : has (seqN n s l j) (it (lapN n l) j (goN n 0 s)) = true := (by first | assumption | simp_all); refine ZbV (Zax (EQ.mk ?_)); unfold Zb0; rw [Zr5 q1 h2 hc2]; (try simp only [Int.toNat_natCast, Nat.zero_add]); first | rfl | (rw [List.take_of_length_le (by rw [List.length_drop]; exact Nat.le_refl _)]))); done)))
def Zkv : Nat → List Nat
 | 0 => [3, 4, 5]
 | 1 => [3, 4, 5, 7]
 | 2 => [4, 5, 7, 20]
 | 3 => [6]
 | 4 => [4, 5, 7, 8]
 | 5 => [4, 5, 7, 8, 9]
 | 6 => [4, 5, 7, 8, 9, 28]
 | 7 => [4, 5, 7, 8, 9]
 | 8 => [4, 5, 7, 8, 9]
 | 9 => [6]
 | _ => []
theorem Zeg (args : Array Value) (w : World) : (callFunc 32 args).run Tryz.prog w = .ok (.enter 32 args) w := Zab Tryz.func32 (by decide) rfl args w
set_option maxHeartbeats 1000000 in
theorem ZoF (i o : Int) (n : List (List Int)) (ps : List (List Int × List Int)) (s l : List Int) : Con Tryz.prog 32 [.sig i o, .det n ps, .word s l] (.ints (metB i o n ps s l)) := by
 refine Con.fit Zeg fun hfit => ?_
 have hb_n : n.length ≤ 9223372036854775807 := GFits.lenm (GFits.cell (show GFits (.det n ps) from hfit 1 (ZL rfl)) (.head _))
 have hr_n : ∀ r ∈ n, r.length ≤ 9223372036854775807 := fun r hr => GFits.ints (GFits.elm (GFits.cell (show GFits (.det n ps) from hfit 1 (ZL rfl)) (.head _)) r hr)
 have hb_ps : ps.length ≤ 9223372036854775807 := GFits.lenm (GFits.cell (show GFits (.det n ps) from hfit 1 (ZL rfl)) (.tail _ (.head _)))
 have hr_ps : ∀ r ∈ ps, r.1.length ≤ 9223372036854775807 ∧ r.2.length ≤ 9223372036854775807 := fun r hr => ⟨GFits.ints (GFits.cell (GFits.elm (GFits.cell (show GFits (.det n ps) from hfit 1 (ZL rfl)) (.tail _ (.head _))) r hr) (.head _)), GFits.ints (GFits.cell (GFits.elm (GFits.cell (show GFits (.det n ps) from hfit 1 (ZL rfl)) (.tail _ (.head _))) r hr) (.tail _ (.head _)))⟩
 have hb_s : s.length ≤ 9223372036854775807 := GFits.ints (GFits.cell (show GFits (.word s l) from hfit 2 (ZL rfl)) (.head _))
 have hb_l : l.length ≤ 9223372036854775807 := GFits.ints (GFits.cell (show GFits (.word s l) from hfit 2 (ZL rfl)) (.tail _ (.head _)))
 clear hfit
 have hw : ZaN s l (Zaa i o) = true → 1 ≤ l.length ∧ l.length ≤ 600 ∧ s.length ≤ 600 := Zmt; have hd : detB i o n ps = true → 1 ≤ n.length ∧ n.length ≤ 48 := fun h => ⟨(Zdy h).2.1, (Zdy h).2.2.1⟩; have hlp : sigB i o = true → pw (i + o) = Zaa i o := fun h => (Zcz h).symm
 refine gCon Zkv Zac (rs := [.tmp 6]) (sl := [(0, .g (.sig i o)), (1, .g (.det n ps)), (2, .g (.word s l))]) Tryz.func32 rfl Tryz.ntmps32 rfl Zeg rfl (by repeat constructor) ?_
 (repeat' (first | ((with_reducible apply gLB.cagg); (. exact RF.mk ⟨rfl, rfl, rfl⟩)) | ((with_reducible apply gLB.cone); (. exact RF.mk ⟨rfl, rfl⟩)) | ((with_reducible apply gLI.cone); (. exact RF.mk ⟨rfl, rfl⟩)) | (with_reducible constructor) | exact Z2 | exact NU.mk QM91 | exact ZS | exact ZF | exact ZC | ((with_reducible apply ZaP); first | (exact Zkr n ps s l (Zaa i o) (HY.mk (Zcc (show detB i o n ps = true by assumption))) (HY.mk (Zbq (show ZaN s l (Zaa i o) = true by first | assumption | exact (show sigB i o = true ∧ ZaN s l (Zaa i o) = true by assumption).2 | (rw [← hlp (by assumption)]; assumption))).1) (HY.mk (Zbq (show ZaN s l (Zaa i o) = true by first | assumption | exact (show sigB i o = true ∧ ZaN s l (Zaa i o) = true by assumption).2 | (rw [← hlp (by assumption)]; assumption))).2) (NU.mk (hd (show detB i o n ps = true by assumption))) (NU.mk (hw (show ZaN s l (Zaa i o) = true by first | assumption | exact (show sigB i o = true ∧ ZaN s l (Zaa i o) = true by assumption).2 | (rw [← hlp (by assumption)]; assumption))))) | (exact ZmF n ps _ l (Zaa i o) (HY.mk (Zcc (show detB i o n ps = true by assumption))) (HY.mk (Zbq (show ZaN s l (Zaa i o) = true by first | assumption | exact (show sigB i o = true ∧ ZaN s l (Zaa i o) = true by assumption).2 | (rw [← hlp (by assumption)]; assumption))).2) (NU.mk (hd (show detB i o n ps = true by assumption))) (NU.mk (hw (show ZaN s l (Zaa i o) = true by first | assumption | exact (show sigB i o = true ∧ ZaN s l (Zaa i o) = true by assumption).2 | (rw [← hlp (by assumption)]; assumption))).2.1) (NU.mk (Znj (Zcc (show detB i o n ps = true by assumption)) (Zbq (show ZaN s l (Zaa i o) = true by first | assumption | exact (show sigB i o = true ∧ ZaN s l (Zaa i o) = true by assumption).2 | (rw [← hlp (by assumption)]; assumption))).1 (Zbq (show ZaN s l (Zaa i o) = true by first | assumption | exact (show sigB i o = true ∧ ZaN s l (Zaa i o) = true by assumption).2 | (rw [← hlp (by assumption)]; assumption))).2 (hd (show detB i o n ps = true by assumption)).1 _ (Zaz (by omega))))) | (exact ZmJ _ _ (HY.mk (ZkJ h2 h4)) (HY.mk (ZkJ (Zkm (by first | (simp [Asc]; done) | fail)) (Zxt h5)))) | apply ZgA | apply Zip) | (with_reducible intro hc; (try simp only [HCs] at hc)) | exact OB_f | exact ZK | (with_reducible first | apply gNK | apply Zao | apply Zaf | apply Zal | apply Zan | apply Zai | apply CK_t | apply ZaQ | apply Zam | apply Zap | apply Zau | apply Zak | apply Zas | apply Zav | apply Zat) | apply Zah Zac | apply ZaK Zac rfl | (apply ZaD; exact RF.mk rfl) | (refine Zaq (id := 0) (ι := Nat × (List Int)) (fun ⟨j, u⟩ => ⟨[(4, .ptr 2 0), (5, .ptr 3 0), (7, .own 0 0 u.length), (8, .own 1 0 (Zb0 n s l).length), (9, .g (.i j))], [(0, .arr 1 true (u.map GV.i)), (1, .arr 1 true ((Zb0 n s l).map GV.i)), (2, .box [.g (.rows n), .g (.pairs ps)]), (3, .box [.g (.ints s), .g (.ints l)])]⟩) (fun ⟨j, u⟩ => (j ≤ (Zb0 n s l).length) ∧ (Asc u) ∧ (∀ v, v ∈ u ↔ ∃ k, k < j ∧ k < (Zb0 n s l).length ∧ v ∈ trN n (nth (Zb0 n s l) k) l) ∧ (∀ v ∈ u, 0 ≤ v ∧ v < 48)) (fun ⟨j, u⟩ => (Zb0 n s l).length - j) (0, []) ?_ ?_ ?_; (. (apply gLX4 <;> (repeat' (first | (with_reducible constructor) | exact Z5 | exact RF.mk (by decide) | (with_reducible apply Zae) | exact EQ.mk QM91)); (all_goals exact QM97))); (. (exact ⟨by omega, by simp [Asc], fun v => by simp, fun v hv => by simp at hv⟩)); (rintro ⟨j, u⟩ ⟨h1, h2, h3, h4⟩; have z0 := Zl0 (Zcc (show detB i o n ps = true by assumption)) (Zbq (show ZaN s l (Zaa i o) = true by first | assumption | exact (show sigB i o = true ∧ ZaN s l (Zaa i o) = true by assumption).2 | (rw [← hlp (by assumption)]; assumption))).1 (Zbq (show ZaN s l (Zaa i o) = true by first | assumption | exact (show sigB i o = true ∧ ZaN s l (Zaa i o) = true by assumption).2 | (rw [← hlp (by assumption)]; assumption))).2 (hd (show detB i o n ps = true by assumption)).1; have z9 := hd (show detB i o n ps = true by assumption); have h5 : j < (Zb0 n s l).length → ∀ v ∈ trN n (nth (Zb0 n s l) j) l, 0 ≤ v ∧ v < 48 := fun h v hv => (by have q := Zpm (Zcc (show detB i o n ps = true by assumption)) (Zbq (show ZaN s l (Zaa i o) = true by first | assumption | exact (show sigB i o = true ∧ ZaN s l (Zaa i o) = true by assumption).2 | (rw [← hlp (by assumption)]; assumption))).2 (Znj (Zcc (show detB i o n ps = true by assumption)) (Zbq (show ZaN s l (Zaa i o) = true by first | assumption | exact (show sigB i o = true ∧ ZaN s l (Zaa i o) = true by assumption).2 | (rw [← hlp (by assumption)]; assumption))).1 (Zbq (show ZaN s l (Zaa i o) = true by first | assumption | exact (show sigB i o = true ∧ ZaN s l (Zaa i o) = true by assumption).2 | (rw [← hlp (by assumption)]; assumption))).2 (hd (show detB i o n ps = true by assumption)).1 _ (Zaz h)) v hv; omega); (show TX _ _ _ _ _ [(4, .ptr 2 0), (5, .ptr 3 0), (7, .own 0 0 u.length), (8, .own 1 0 (Zb0 n s l).length), (9, .g (.i j))] [(0, .arr 1 true (u.map GV.i)), (1, .arr 1 true ((Zb0 n s l).map GV.i)), (2, .box [.g (.rows n), .g (.pairs ps)]), (3, .box [.g (.ints s), .g (.ints l)])] _))) | apply gSel.ccons))
 (all_goals (first | (refine ZaR (j + 1, insL u (insL [] (trN n (nth (Zb0 n s l) j) l))) ?_ ?_ ?_; (· (apply gLX4 <;> (repeat' (first | (with_reducible constructor) | exact Z5 | exact RF.mk (by decide) | (with_reducible apply Zae) | exact EQ.mk QM91)); (all_goals exact QM97))); (· (exact ⟨by omega, Zkm h2, ZsR h3 (by omega), Zpu h4 (h5 (by omega))⟩)); (· exact ZW)) | ((first | (rw [ZqV (by assumption) (show ZaN s l (Zaa i o) = true by first | assumption | exact (show sigB i o = true ∧ ZaN s l (Zaa i o) = true by assumption).2 | (rw [← hlp (by assumption)]; assumption))]; refine ZbV (Zax (EQ.mk ?_)); first | exact Zlz (Zcc (show detB i o n ps = true by assumption)) (Zbq (show ZaN s l (Zaa i o) = true by first | assumption | exact (show sigB i o = true ∧ ZaN s l (Zaa i o) = true by assumption).2 | (rw [← hlp (by assumption)]; assumption))).1 (Zbq (show ZaN s l (Zaa i o) = true by first | assumption | exact (show sigB i o = true ∧ ZaN s l (Zaa i o) = true by assumption).2 | (rw [← hlp (by assumption)]; assumption))).2 (hd (show detB i o n ps = true by assumption)).1 (by omega) h2 h3 | (rw [List.take_of_length_le (Nat.le_refl _)]; exact Zlz (Zcc (show detB i o n ps = true by assumption)) (Zbq (show ZaN s l (Zaa i o) = true by first | assumption | exact (show sigB i o = true ∧ ZaN s l (Zaa i o) = true by assumption).2 | (rw [← hlp (by assumption)]; assumption))).1 (Zbq (show ZaN s l (Zaa i o) = true by first | assumption | exact (show sigB i o = true ∧ ZaN s l (Zaa i o) = true by assumption).2 | (rw [← hlp (by assumption)]; assumption))).2 (hd (show detB i o n ps = true by assumption)).1 (by omega) h2 h3)) | first | (rw [ZkZ (by rw [← hlp (by assumption)]; assumption)]; exact EQ.mk rfl) | (rw [ZkV (by assumption)]; exact EQ.mk rfl) | (rw [ZkZ (by assumption)]; exact EQ.mk rfl) | (rw [ZmI (by assumption)]; exact EQ.mk rfl) | (rcases hc with hc | hc | hc <;> first | (rw [ZkV (by assumption)]; exact EQ.mk rfl) | (rw [ZkZ (by assumption)]; exact EQ.mk rfl) | (rw [ZmI (by assumption)]; exact EQ.mk rfl)) | (rcases hc with hc | hc <;> first | (rw [ZkV (by assumption)]; exact EQ.mk rfl) | (rw [ZkZ (by assumption)]; exact EQ.mk rfl) | (rw [ZmI (by assumption)]; exact EQ.mk rfl))); done)))
def Zkz : Nat → List Nat
 | 0 => [0, 3]
 | 1 => [0, 3, 5]
 | 2 => [0, 3, 5, 15, 16]
 | 3 => [0, 3, 5, 15, 16, 17]
 | 4 => [0, 3, 5, 15, 16]
 | 5 => [0, 3, 5, 15, 16]
 | 6 => [0, 3, 5, 6]
 | 7 => [0, 3, 5, 6, 7]
 | 8 => [0, 3, 5, 6, 7, 27, 28, 29]
 | 9 => [0, 3, 5, 6, 7, 27, 28, 29, 30]
 | 10 => [0, 3, 5, 6, 7, 9, 27, 28, 29]
 | 11 => [0, 3, 5, 6, 7, 27, 28, 29]
 | 12 => [0, 3, 5, 6, 7, 27, 28, 29]
 | 13 => [0, 3, 5, 6, 7, 27, 28, 29]
 | 14 => [0, 3, 5, 6, 7, 47]
 | 15 => [6]
 | 16 => [4]
 | _ => []
theorem Zej (args : Array Value) (w : World) : (callFunc 29 args).run Tryz.prog w = .ok (.enter 29 args) w := Zab Tryz.func29 (by decide) rfl args w
set_option maxHeartbeats 1000000 in
theorem Zoj (n : List (List Int)) (s l : List Int) (W : Int) (hg : HY (GoOk n W)) (hs : HY (below s W = true)) (hl : HY (below l W = true)) (hn : NU (1 ≤ n.length ∧ n.length ≤ 48)) (hx : NU (1 ≤ l.length ∧ l.length ≤ 600 ∧ s.length ≤ 600)) : Con Tryz.prog 29 [.rows n, .word s l] (.ints (metN n s l)) := by
 have hg := hg.e
 have hs := hs.e
 have hl := hl.e
 have hn := hn.e
 have hx := hx.e
 refine Con.fit Zej fun hfit => ?_
 have hb_n : n.length ≤ 9223372036854775807 := GFits.lenm (show GFits (.rows n) from hfit 0 (ZL rfl))
 have hr_n : ∀ r ∈ n, r.length ≤ 9223372036854775807 := fun r hr => GFits.ints (GFits.elm (show GFits (.rows n) from hfit 0 (ZL rfl)) r hr)
 have hb_s : s.length ≤ 9223372036854775807 := GFits.ints (GFits.cell (show GFits (.word s l) from hfit 1 (ZL rfl)) (.head _))
 have hb_l : l.length ≤ 9223372036854775807 := GFits.ints (GFits.cell (show GFits (.word s l) from hfit 1 (ZL rfl)) (.tail _ (.head _)))
 clear hfit
 have hq0 := ZbP hg hs (q := 0) ⟨by omega, by omega⟩; have hq1 := Zf4 hg hl hq0 n.length
 refine gCon Zkz Zac (rs := [.tmp 4]) (sl := [(0, .g (.rows n)), (1, .g (.word s l))]) Tryz.func29 rfl Tryz.ntmps29 rfl Zej rfl (by repeat constructor) ?_
 (repeat' (first | ((with_reducible apply gAF.crow (f := 49))) | ((with_reducible apply gAF.crow (f := 50))) | ((with_reducible apply ZxW); first | apply ZsT | apply ZmV) | ((with_reducible apply gLB.cone); (. exact RF.mk ⟨rfl, rfl⟩)) | ((with_reducible apply gLI.cone); (. exact RF.mk ⟨rfl, rfl⟩)) | (with_reducible constructor) | exact Z2 | exact NU.mk QM90 | exact ZS | exact ZF | exact ZC | (with_reducible apply Zbp) | ((with_reducible apply ZaP); first | (exact Zhg n 0 s W (HY.mk hg) (HY.mk hs) (NU.mk (by omega))) | (exact Zhg n _ l W (HY.mk hg) (HY.mk hl) (NU.mk (Zf4 hg hl hq0 j)))) | (with_reducible intro hc; (try simp only [HCs] at hc)) | exact OB_f | (with_reducible first | apply gNK | apply Zao | apply Zaf | apply Zal | apply Zai | apply ZaQ | apply Zam | apply Zap | apply Zau | apply Zak | apply Za7 | apply Zas | apply Zav | apply Zat) | apply Zah Zac | (apply ZaD; exact RF.mk rfl) | (refine Zaq (id := 0) (ι := Nat) (fun j => ⟨[(0, .g (.rows n)), (3, .ptr 0 0), (5, .g (.i (it (lapN n l) j (goN n 0 s)))), (15, .g (.i n.length)), (16, .g (.i j))], [(0, .box [.g (.ints s), .g (.ints l)])]⟩) (fun j => (j ≤ n.length)) (fun j => n.length - j) (0) ?_ ?_ ?_; (. (apply gLX1 <;> (repeat' (first | (with_reducible constructor) | exact Z5 | exact RF.mk (by decide) | (with_reducible apply Zae) | exact EQ.mk QM90)); (all_goals exact Zwz))); (. (omega)); (rintro j h1; (show TX _ _ _ _ _ [(0, .g (.rows n)), (3, .ptr 0 0), (5, .g (.i (it (lapN n l) j (goN n 0 s)))), (15, .g (.i n.length)), (16, .g (.i j))] [(0, .box [.g (.ints s), .g (.ints l)])] _))) | (refine Zaq (id := 2) (ι := Nat × Tg 2) (fun ⟨m, _⟩ => ⟨[(0, .g (.rows n)), (3, .ptr 1 0), (5, .g (.i (it (lapN n l) m (begN n s l)))), (6, .own 0 0 (Zd6 n l (begN n s l) m).length), (7, .g (.i (begN n s l)))], [(0, .arr 1 true ((Zd6 n l (begN n s l) m).map GV.i)), (1, .box [.g (.ints s), .g (.ints l)])]⟩) (fun ⟨m, _⟩ => (∀ i, 1 ≤ i → i ≤ m → ¬ it (lapN n l) i (begN n s l) = (begN n s l))) (fun ⟨m, _⟩ => n.length - m) (0, (Tg.t : Tg 2)) ?_ ?_ ?_; (. (apply gLX2 <;> (repeat' (first | (with_reducible constructor) | exact Z5 | exact RF.mk (by decide) | (with_reducible apply Zae) | exact EQ.mk QM90)); (all_goals exact QM94))); (. (exact fun i h1 h2 => by omega)); (rintro ⟨m, _⟩ h2; (try dsimp only at h2); (show TX _ _ _ _ _ [(0, .g (.rows n)), (3, .ptr 1 0), (5, .g (.i (it (lapN n l) m (begN n s l)))), (6, .own 0 0 (Zd6 n l (begN n s l) m).length), (7, .g (.i (begN n s l)))] [(0, .arr 1 true ((Zd6 n l (begN n s l) m).map GV.i)), (1, .box [.g (.ints s), .g (.ints l)])] _))) | (refine Zaq (id := 4) (ι := Nat × Tg 4) (fun ⟨i, _⟩ => ⟨[(0, .g (.rows n)), (3, .ptr 1 0), (5, .g (.i (goN n (it (lapN n l) m (begN n s l)) (l.take i)))), (6, .own 0 0 (Zd6 n l (begN n s l) m ++ (trN n (it (lapN n l) m (begN n s l)) l).take i).length), (7, .g (.i (begN n s l))), (27, .g (.ints l)), (28, .g (.i l.length)), (29, .g (.i i))], [(0, .arr 1 true ((Zd6 n l (begN n s l) m ++ (trN n (it (lapN n l) m (begN n s l)) l).take i).map GV.i)), (1, .box [.g (.ints s), .g (.ints l)])]⟩) (fun ⟨i, _⟩ => (i ≤ l.length)) (fun ⟨i, _⟩ => l.length - i) (0, (Tg.t : Tg 4)) ?_ ?_ ?_; (. (apply gLX2 <;> (repeat' (first | (with_reducible constructor) | exact Z5 | exact RF.mk (by decide) | (with_reducible apply Zae) | exact EQ.mk QM90)); (all_goals exact QM96))); (. (omega)); (rintro ⟨i, _⟩ g1; (try dsimp only at g1); have y1 : i < l.length → 0 ≤ nth l i ∧ nth l i < W := fun h => below_iff.1 hl i h; have y2 : 0 ≤ goN n (it (lapN n l) m (begN n s l)) (l.take i) ∧ goN n (it (lapN n l) m (begN n s l)) (l.take i) < (n.length : Int) := ZbP hg (Zj3 (i := i) hl) (Zf4 hg hl hq1 m); (show TX _ _ _ _ _ [(0, .g (.rows n)), (3, .ptr 1 0), (5, .g (.i (goN n (it (lapN n l) m (begN n s l)) (l.take i)))), (6, .own 0 0 (Zd6 n l (begN n s l) m ++ (trN n (it (lapN n l) m (begN n s l)) l).take i).length), (7, .g (.i (begN n s l))), (27, .g (.ints l)), (28, .g (.i l.length)), (29, .g (.i i))] [(0, .arr 1 true ((Zd6 n l (begN n s l) m ++ (trN n (it (lapN n l) m (begN n s l)) l).take i).map GV.i)), (1, .box [.g (.ints s), .g (.ints l)])] _))) | apply gSel.ccons))
 (all_goals (first | (refine ZaR (j + 1) ?_ ?_ ?_; (· (apply gLX1 <;> (repeat' (first | (with_reducible constructor) | exact Z5 | exact RF.mk (by decide) | (with_reducible apply Zae) | exact EQ.mk QM90)); (all_goals exact Zwz))); (· (omega)); (· exact ZW)) | (refine ZaR (m + 1, (Tg.t : Tg 2)) ?_ ?_ ?_; (· (apply gLX2 <;> (repeat' (first | (with_reducible constructor) | exact Z5 | exact RF.mk (by decide) | (with_reducible apply Zae) | exact EQ.mk QM90)); (all_goals exact QM94))); (· ((rw [Zkj (by omega)] at hc; exact Zp8 h2 hc))); (· (((try dsimp only); have q1 := Zkq hg hs hl (by omega) h2; omega)))) | (refine ZaR (i + 1, (Tg.t : Tg 4)) ?_ ?_ ?_; (· (apply gLX2 <;> (repeat' (first | (with_reducible constructor) | exact Z5 | exact RF.mk (by decide) | (with_reducible apply Zae) | exact EQ.mk QM90)); (all_goals exact QM96))); (· (omega)); (· exact ZW)) | (((refine ZbV (Zax (EQ.mk ?_)); rw [Zkj (by omega)] at hc; rw [← Zvq hg hs hl (by omega) (by omega) (show 1 ≤ m + 1 by omega) hc]; show _ = setZ (Zd6 n l _ m ++ trN n _ l); (try simp only [List.take_of_length_le (show (trN n (it (lapN n l) m (begN n s l)) l).length ≤ i by rw [Zdd]; omega)]); unfold rowZ setZ; first | rfl | (rw [List.take_left]) | (simp; done))); done)))
end Go.Proofs.YtnieejghoaccmaaGreat

