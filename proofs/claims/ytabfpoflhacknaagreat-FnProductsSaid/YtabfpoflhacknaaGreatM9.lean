/- Contracts: sets, states that are met again and again. No conditions but those that each theorem names. -/
import Derived.Test.YtabfpoflhacknaaGreatTab
import Derived.Test.YtabfpoflhacknaaGreatKG
import Derived.Test.YtabfpoflhacknaaGreatM2
import Derived.Test.YtabfpoflhacknaaGreatME
import Derived.Test.YtabfpoflhacknaaGreatSO
import Derived.Test.YtabfpoflhacknaaGreatBS
import Derived.Test.YtabfpoflhacknaaGreatChecked
set_option linter.unusedSimpArgs false
set_option linter.unusedVariables false
namespace Go.Proofs.YtabfpoflhacknaaGreat
open Go.RowKit
open Shp
theorem ZyU {p : Prop} (h : p := by ((first | exact EQ.mk rfl | exact EQ.mk (ZdX (f := lapN n l) (j := j) (c := goN n 0 s)).symm); done)) : p := h
theorem QM99 {p : Prop} (h : p := by ((first | exact EQ.mk rfl | exact EQ.mk (by first | (simp; done) | fail) | exact EQ.mk (by rw [Zgj (by omega)]) | (refine EQ.mk ?_; rw [z3 (by omega)]) | (refine Zau (EQ.mk ?_); rw [z3 (by omega)])); done)) : p := h
theorem QM98 {p : Prop} (h : p := by first | exact ZO | (first | omega | (have q1 := z1 (by omega); have q2 := hg.row z2.1 z2.2; omega))) : p := h
theorem QM97 {p : Prop} (h : p := by ((first | exact EQ.mk rfl | exact EQ.mk (by first | (simp; done) | fail)); done)) : p := h
theorem QM96 {p : Prop} (h : p := by ((first | exact EQ.mk rfl | exact EQ.mk (by first | (simp; done) | fail) | exact EQ.mk (by rw [Zgj (by omega)]) | (refine EQ.mk ?_; rw [← Zn9 (by omega)]; simp; done) | (refine Zau (EQ.mk ?_); rw [← Zn9 (by omega), List.append_assoc])); done)) : p := h
theorem QM95 {p : Prop} (h : p := by first | exact ZO | (first | omega | (simp only [List.length_take, List.length_drop]; omega))) : p := h
theorem QM94 {p : Prop} (h : p := by ((first | exact EQ.mk rfl | exact EQ.mk (by first | (simp [Zex]; done) | fail) | (refine EQ.mk ?_; rw [show j = n.length by omega]; done) | (refine EQ.mk ?_; rw [show j = n.length by omega]; rfl) | exact EQ.mk (ZlJ (by omega)) | (refine EQ.mk ?_; rw [List.take_of_length_le (by rw [Zdp]; omega)]; rfl) | (refine Zau (EQ.mk ?_); rw [List.take_of_length_le (by rw [Zdp]; omega)]; rfl)); done)) : p := h
theorem QM93 {p : Prop} (h : p := by ((first | exact EQ.mk rfl | exact EQ.mk (ZdX (f := lapN n l) (j := j) (c := goN n 0 s)).symm | exact EQ.mk (by first | (simp [seqN]; done) | fail) | exact EQ.mk (by first | (simp [Zcj]; done) | fail) | (refine Zau (EQ.mk ?_); rw [Zl1]) | (refine Zau (EQ.mk ?_); rw [Zl1, List.take_of_length_le (by rw [Zcj]; omega)]) | exact EQ.mk (by first | (simp [Zcj]; done) | fail)); done)) : p := h
theorem QM92 {p : Prop} (h : p := by first | exact ZO | (first | omega | (have q1 := ZgH hg hs hl (by omega) h2; have q2 := Zcj (n := n) (s := s) (l := l) (j := j); omega) | (have q1 := ZgH hg hs hl (by omega) h2; have q2 := Zcj (n := n) (s := s) (l := l) (j := j); have hc2 : has (seqN n s l j) (it (lapN n l) j (goN n 0 s)) = true := (by first | assumption | simp_all); obtain ⟨i0, q3, q4, _⟩ := ZcF (has_iff.1 hc2); rw [q4]; omega))) : p := h
theorem QM91 {p : Prop} (h : p := by first | exact ZO | (first | omega | (have q := Zmn (Zcr (show detB i o n ps = true by assumption)) (ZbA (show ZaI s l (Zaa i o) = true by first | assumption | exact (show sigB i o = true ∧ ZaI s l (Zaa i o) = true by assumption).2 | (rw [← hlp (by assumption)]; assumption))).1 (ZbA (show ZaI s l (Zaa i o) = true by first | assumption | exact (show sigB i o = true ∧ ZaI s l (Zaa i o) = true by assumption).2 | (rw [← hlp (by assumption)]; assumption))).2 (hd (show detB i o n ps = true by assumption)).1; have q2 := hd (show detB i o n ps = true by assumption); omega))) : p := h
theorem QM90 {p : Prop} (h : p := by first | exact ZO | (first | omega | exact sortZ_len.symm | (rw [Nat.zero_add, Zio]; exact Zk5) | (have q1 := y1 (by omega); have q2 := hg.row y2.1 y2.2; omega) | (have q3 := ZiC (n := n) (l := l) (b := (begN n s l)) (m := m); have q4 := Zdp (n := n) (l := l) (q := (it (lapN n l) m (begN n s l))); have q5 := ZlE hg hs hl (by omega) h2; have q6 : m * l.length ≤ 48 * 600 := Nat.mul_le_mul (by omega) (by omega); first | omega | (simp only [List.length_append, List.length_take]; omega)) | (simp only [Zio, sortZ_len]; have q3 := ZiC (n := n) (l := l) (b := (begN n s l)) (m := m); have q4 := Zdp (n := n) (l := l) (q := (it (lapN n l) m (begN n s l))); have q5 := ZlE hg hs hl (by omega) h2; have q6 : m * l.length ≤ 48 * 600 := Nat.mul_le_mul (by omega) (by omega); first | omega | (simp only [List.length_append, List.length_take]; omega)))) : p := h
def ZgZ : Nat → List Nat
 | 0 => [0, 1]
 | 1 => [0, 1, 5]
 | 2 => [0, 1, 5, 18]
 | 3 => [0, 1, 5]
 | 4 => [0, 1, 5, 32]
 | 5 => [4]
 | 6 => [0, 5, 6]
 | 7 => [4]
 | _ => []
theorem ZcU (args : Array Value) (w : World) : (callFunc 102 args).run Tryz.prog w = .ok (.enter 102 args) w := Zab Tryz.func102 (by decide) rfl args w
set_option maxHeartbeats 1000000 in
theorem Zfd (xs : List Int) (n : Int) (hx : NU (xs.length ≤ 1000000)) (hn : HY (∀ k, k < xs.length → (∀ z, z < k → nth xs z < n) → ¬ nth xs k = n)) : Con Tryz.prog 102 [.ints xs, .i n] (.ints (insZ n xs)) := by
 have hx := hx.e
 have hn := hn.e
 refine Con.fit ZcU fun hfit => ?_
 have hb_xs : xs.length ≤ 9223372036854775807 := GFits.ints (show GFits (.ints xs) from hfit 0 (ZL rfl))
 clear hfit
 refine gCon ZgZ Zad (rs := [.tmp 4]) (sl := [(0, .g (.ints xs)), (1, .g (.i n))]) Tryz.func102 rfl Tryz.ntmps102 rfl ZcU rfl (by repeat constructor) ?_
 (repeat' (first | ((with_reducible apply gLI.cone); (. exact RF.mk ⟨rfl, rfl⟩)) | (with_reducible constructor) | exact Z2 | exact NU.mk QM95 | exact ZS | exact ZC | ((with_reducible apply ZlT); (. exact NU.mk QM95); (. rfl)) | (with_reducible apply ZqY) | ((with_reducible apply ZaA); first | apply Zgb) | (with_reducible intro hc; (try simp only [HCs] at hc)) | exact OB_f | (with_reducible first | apply gNK | apply Zam | apply Zaf | apply Zaq | apply ZaC | apply Zai | apply CK_f | apply ZaR | apply Zar | apply Zas | apply Zay | apply Zap | apply Zaw | apply Zax | apply Zav) | apply Zah Zad | (apply ZaF; exact RF.mk rfl) | (refine Zak (id := 0) (ι := Nat) (fun k => ⟨[(0, .g (.ints xs)), (1, .g (.i n)), (5, .g (.i k))], []⟩) (fun k => (k ≤ xs.length) ∧ (∀ z, z < k → nth xs z < n)) (fun k => xs.length - k) (0) ?_ ?_ ?_; (. (apply gLX0 <;> (repeat' (first | (with_reducible constructor) | exact Z5 | exact RF.mk (by decide) | (with_reducible apply Zae) | exact EQ.mk QM95)))); (. (exact ⟨by omega, fun z hz => by omega⟩)); (rintro k ⟨h1, h2⟩; (show TX _ _ _ _ _ [(0, .g (.ints xs)), (1, .g (.i n)), (5, .g (.i k))] [] _))) | apply gSel.ccons))
 (all_goals (first | (exfalso; exact hn k (by omega) h2 (by assumption)) | (refine ZaJ (k + 1) ?_ ?_ ?_; (· (apply gLX0 <;> (repeat' (first | (with_reducible constructor) | exact Z5 | exact RF.mk (by decide) | (with_reducible apply Zae) | exact EQ.mk QM95)))); (· ((refine ⟨by omega, fun z hz => ?_⟩; rcases Nat.lt_or_ge z k with h5 | h5; exact h2 z h5; rw [show z = k by omega]; assumption))); (· exact ZW)) | (((refine Zby (Zau (EQ.mk ?_)); rw [Zq1 k (by omega) h2 (fun hlt => by first | omega | (have q := hn k hlt h2; omega))]; first | rfl | (simp; done))); done)))
theorem ZhN (args : Array Value) (w : World) : (callFunc 102 args).run Tryz.prog w = .ok (.enter 102 args) w := Zab Tryz.func102 (by decide) rfl args w
theorem ZjD (xs : List Int) (n : Int) (hx : NU (xs.length ≤ 1000000)) : ZtH Tryz.prog 102 xs n (insZ n xs) := by
 by_cases hc : ∃ k, k < xs.length ∧ (∀ z, z < k → nth xs z < n) ∧ nth xs k = n
 ·obtain ⟨k, h1, h2, h3⟩ := hc
  refine ⟨ZhN, fun w F v hg => ?_⟩
  obtain ⟨a, cap, rfl, hi⟩ := IntsV.of hg
  exact (Zpp hi n k h1 (Lib.hid h2) (Lib.hid h3)).mono fun e w' hq => .inl ⟨(ZmB k h1 h2 h3).symm, hq.1, hq.2⟩
 ·have hcn := Zfd xs n hx (HY.mk fun k h1 h2 h3 => hc ⟨k, h1, h2, h3⟩)
  exact ⟨ZhN, fun w F v hg => (hcn.calls w [v, .int .i64 n] rfl (fun i hi => by
   match i, hi with
   | 0, _ => exact ⟨F, hg⟩
   | 1, _ => exact ⟨[], .atom (GV.i n) rfl⟩)).mono fun e w' hq => .inr hq⟩
def ZjL : Nat → List Nat
 | 0 => [0, 1]
 | 1 => [4]
 | _ => []
theorem Zeg (args : Array Value) (w : World) : (callFunc 100 args).run Tryz.prog w = .ok (.enter 100 args) w := Zab Tryz.func100 (by decide) rfl args w
set_option maxHeartbeats 1000000 in
theorem Znw (xs ys : List Int) : Con Tryz.prog 100 [.ints xs, .ints ys] (.bool (setN xs 256 && setN ys 256)) := by
 refine Con.fit Zeg fun hfit => ?_
 have hb_xs : xs.length ≤ 9223372036854775807 := GFits.ints (show GFits (.ints xs) from hfit 0 (ZL rfl))
 have hb_ys : ys.length ≤ 9223372036854775807 := GFits.ints (show GFits (.ints ys) from hfit 1 (ZL rfl))
 clear hfit
 refine gCon ZjL Zad (rs := [.tmp 4]) (sl := [(0, .g (.ints xs)), (1, .g (.ints ys))]) Tryz.func100 rfl Tryz.ntmps100 rfl Zeg rfl (by repeat constructor) ?_
 (repeat' (first | (with_reducible constructor) | exact Z2 | ((with_reducible apply ZaA); first | apply ZhF) | (with_reducible intro hc; (try simp only [HCs] at hc)) | exact OB_f | (with_reducible first | apply gNK | apply Zam | apply Zaf | apply Zas | apply Zav) | apply Zah Zad | apply gSel.ccons))
 (all_goals (first | (((refine Zao ?_; skip; skip; rw [Bool.eq_iff_iff]; (try simp only [BOa, Int.natCast_eq_zero, List.length_eq_zero_iff, Bool.true_eq_false, Bool.false_eq_true, true_iff, false_iff, iff_true, iff_false, true_and, and_true, false_and, and_false, not_and, not_or, Bool.not_eq_true, Bool.not_eq_false, Int.not_lt, Int.not_le] at *); first | done | omega | (simp_all; done) | grind)); done)))
def ZjX : Nat → List Nat
 | 0 => [0, 1]
 | 1 => [0, 1, 10]
 | 2 => [4]
 | 3 => [1, 5]
 | 4 => [1, 5, 6]
 | 5 => [1, 5, 6, 17]
 | 6 => [1, 5, 6]
 | 7 => [1, 5, 6]
 | 8 => [4]
 | _ => []
theorem Zee (args : Array Value) (w : World) : (callFunc 73 args).run Tryz.prog w = .ok (.enter 73 args) w := Zab Tryz.func73 (by decide) rfl args w
set_option maxHeartbeats 1000000 in
theorem Znp (xs ys : List Int) (hx : HY (setN xs 256 = true ∧ xs.length ≤ 256)) (hy : HY (setN ys 256 = true ∧ ys.length ≤ 256)) : Con Tryz.prog 73 [.ints xs, .ints ys] (.ints (insL xs ys)) := by
 have hx := hx.e
 have hy := hy.e
 refine Con.fit Zee fun hfit => ?_
 have hb_xs : xs.length ≤ 9223372036854775807 := GFits.ints (show GFits (.ints xs) from hfit 0 (ZL rfl))
 have hb_ys : ys.length ≤ 9223372036854775807 := GFits.ints (show GFits (.ints ys) from hfit 1 (ZL rfl))
 clear hfit
 refine gCon ZjX Zad (rs := [.tmp 4]) (sl := [(0, .g (.ints xs)), (1, .g (.ints ys))]) Tryz.func73 rfl Tryz.ntmps73 rfl Zee rfl (by repeat constructor) ?_
 (repeat' (first | ((with_reducible apply gAF.cinto (f := 102))) | ((with_reducible apply Zrc); first | apply ZjD) | ((with_reducible apply gLI.cone); (. exact RF.mk ⟨rfl, rfl⟩)) | (with_reducible constructor) | exact Z2 | exact ZN | exact ZS | exact ZC | ((with_reducible apply ZaA); first | apply Znw | apply Zgb | apply Zfd) | (with_reducible intro hc; (try simp only [HCs] at hc)) | exact OB_f | (with_reducible first | apply gNK | apply Zam | apply Zaf | apply Zaq | apply ZaC | apply Zai | apply ZaR | apply Zar | apply Zas | apply Zay | apply Zap | apply Zaw | apply Zax | apply Zav) | apply Zah Zad | (apply ZaF; exact RF.mk rfl) | (refine Zak (id := 0) (ι := Nat × (List Int)) (fun ⟨i, o⟩ => ⟨[(1, .g (.ints ys)), (5, .own 0 0 o.length), (6, .g (.i i))], [(0, .arr 1 true (o.map GV.i))]⟩) (fun ⟨i, o⟩ => (i ≤ ys.length) ∧ (insL o (ys.drop i) = insL xs ys) ∧ (o.length ≤ 256 + i)) (fun ⟨i, o⟩ => ys.length - i) (0, xs) ?_ ?_ ?_; (. (apply gLX1 <;> (repeat' (first | (with_reducible constructor) | exact Z5 | exact RF.mk (by decide) | (with_reducible apply Zae) | exact ZE)); (all_goals exact QM97))); (. (exact ⟨by omega, rfl, by omega⟩)); (rintro ⟨i, o⟩ ⟨h1, h2, h3⟩; (show TX _ _ _ _ _ [(1, .g (.ints ys)), (5, .own 0 0 o.length), (6, .g (.i i))] [(0, .arr 1 true (o.map GV.i))] _))) | apply gSel.ccons))
 (all_goals (first | (exfalso; simp_all; done) | (refine ZaJ (i + 1, insZ (nth ys i) o) ?_ ?_ ?_; (· (apply gLX1 <;> (repeat' (first | (with_reducible constructor) | exact Z5 | exact RF.mk (by decide) | (with_reducible apply Zae) | exact ZE)); (all_goals exact QM97))); (· (exact ⟨by omega, by rw [← Zl5 (by omega)]; exact h2, by have q := Zly (x := nth ys i) (ys := o); omega⟩)); (· exact ZW)) | (((refine Zby (Zau (EQ.mk ?_)); first | rw [← h2, Ziu (by omega)] | (rw [List.take_of_length_le (Nat.le_refl _), ← h2, Ziu (by omega)]))); done)))
def Zj3 : Nat → List Nat
 | 0 => [1, 2, 3]
 | 1 => [1, 2, 3, 7]
 | 2 => [1, 2, 3, 7, 8]
 | 3 => [1, 2, 3, 7, 8, 13]
 | 4 => [1, 2, 3, 7, 8]
 | 5 => [1, 2, 3, 7, 8]
 | 6 => [1, 2, 3, 7, 8]
 | 7 => [6]
 | _ => []
theorem Zeb (args : Array Value) (w : World) : (callFunc 74 args).run Tryz.prog w = .ok (.enter 74 args) w := Zab Tryz.func74 (by decide) rfl args w
set_option maxHeartbeats 1000000 in
theorem Znx (n : List (List Int)) (ps : List (List Int × List Int)) (q : Int) (xs : List Int) (W : Int) (hg : HY (GoOk n W)) (hl : HY (below xs W = true)) (hn : NU (1 ≤ n.length ∧ n.length ≤ 48)) (hx : NU (xs.length ≤ 600)) (hq : NU (0 ≤ q ∧ q < n.length)) : Con Tryz.prog 74 [.det n ps, .i q, .ints xs] (.ints (insL [] (trN n q xs))) := by
 have hg := hg.e
 have hl := hl.e
 have hn := hn.e
 have hx := hx.e
 have hq := hq.e
 refine Con.fit Zeb fun hfit => ?_
 have hb_n : n.length ≤ 9223372036854775807 := GFits.lenm (GFits.cell (show GFits (.det n ps) from hfit 0 (ZL rfl)) (.head _))
 have hr_n : ∀ r ∈ n, r.length ≤ 9223372036854775807 := fun r hr => GFits.ints (GFits.elm (GFits.cell (show GFits (.det n ps) from hfit 0 (ZL rfl)) (.head _)) r hr)
 have hb_ps : ps.length ≤ 9223372036854775807 := GFits.lenm (GFits.cell (show GFits (.det n ps) from hfit 0 (ZL rfl)) (.tail _ (.head _)))
 have hr_ps : ∀ r ∈ ps, r.1.length ≤ 9223372036854775807 ∧ r.2.length ≤ 9223372036854775807 := fun r hr => ⟨GFits.ints (GFits.cell (GFits.elm (GFits.cell (show GFits (.det n ps) from hfit 0 (ZL rfl)) (.tail _ (.head _))) r hr) (.head _)), GFits.ints (GFits.cell (GFits.elm (GFits.cell (show GFits (.det n ps) from hfit 0 (ZL rfl)) (.tail _ (.head _))) r hr) (.tail _ (.head _)))⟩
 have hb_xs : xs.length ≤ 9223372036854775807 := GFits.ints (show GFits (.ints xs) from hfit 2 (ZL rfl))
 clear hfit
 refine gCon Zj3 Zad (rs := [.tmp 6]) (sl := [(0, .g (.det n ps)), (1, .g (.i q)), (2, .g (.ints xs))]) Tryz.func74 rfl Tryz.ntmps74 rfl Zeb rfl (by repeat constructor) ?_
 (repeat' (first | ((with_reducible apply gAF.cinto (f := 102))) | ((with_reducible apply Zrc); first | apply ZjD) | ((with_reducible apply gLB.cone); (. exact RF.mk ⟨rfl, rfl⟩)) | ((with_reducible apply gLI.cone); (. exact RF.mk ⟨rfl, rfl⟩)) | (with_reducible constructor) | exact Z2 | exact NU.mk QM98 | exact ZS | exact ZF | exact ZC | (with_reducible intro hc; (try simp only [HCs] at hc)) | exact OB_f | exact ZK | (with_reducible first | apply gNK | apply Zam | apply Zaf | apply Zaq | apply Zai | apply ZaR | apply Zar | apply Zas | apply Zay | apply Zap | apply Zaw | apply Zax | apply Zav) | apply Zah Zad | apply ZaQ Zad rfl | (apply ZaF; exact RF.mk rfl) | (refine Zak (id := 0) (ι := Nat × (List Int)) (fun ⟨i, o⟩ => ⟨[(1, .g (.i (goN n q (xs.take i)))), (2, .g (.ints xs)), (3, .ptr 1 0), (7, .own 0 0 o.length), (8, .g (.i i))], [(0, .arr 1 true (o.map GV.i)), (1, .box [.g (.rows n), .g (.pairs ps)])]⟩) (fun ⟨i, o⟩ => (i ≤ xs.length) ∧ (insL o ((trN n q xs).drop i) = insL [] (trN n q xs)) ∧ (o.length ≤ i)) (fun ⟨i, o⟩ => xs.length - i) (0, []) ?_ ?_ ?_; (. (apply gLX2 <;> (repeat' (first | (with_reducible constructor) | exact Z5 | exact RF.mk (by decide) | (with_reducible apply Zae) | exact EQ.mk QM98)); (all_goals exact QM99))); (. (exact ⟨by omega, by rw [List.drop_zero], by simp⟩)); (rintro ⟨i, o⟩ ⟨h1, h2, h3⟩; have z1 : i < xs.length → 0 ≤ nth xs i ∧ nth xs i < W := fun h => below_iff.1 hl i h; have z2 := ZbU hg (ZkD (i := i) hl) hq; have z3 : i < xs.length → nth (nth n (goN n q (xs.take i)).toNat) (nth xs i).toNat = nth (trN n q xs) i := fun h => (by rw [Zk9 h]; exact (Zgj h).symm); have z4 := Zdp (n := n) (l := xs) (q := q); (show TX _ _ _ _ _ [(1, .g (.i (goN n q (xs.take i)))), (2, .g (.ints xs)), (3, .ptr 1 0), (7, .own 0 0 o.length), (8, .g (.i i))] [(0, .arr 1 true (o.map GV.i)), (1, .box [.g (.rows n), .g (.pairs ps)])] _))) | apply gSel.ccons))
 (all_goals (first | (refine ZaJ (i + 1, insZ (nth (trN n q xs) i) o) ?_ ?_ ?_; (· (apply gLX2 <;> (repeat' (first | (with_reducible constructor) | exact Z5 | exact RF.mk (by decide) | (with_reducible apply Zae) | exact EQ.mk QM98)); (all_goals exact QM99))); (· (exact ⟨by omega, by rw [← Zl5 (by omega)]; exact h2, by have q := Zly (x := nth (trN n q xs) i) (ys := o); omega⟩)); (· exact ZW)) | (((refine Zby (Zau (EQ.mk ?_)); first | rw [← h2, Ziu (by omega)] | (rw [List.take_of_length_le (Nat.le_refl _), ← h2, Ziu (by omega)]))); done)))
def Zh4 : Nat → List Nat
 | 0 => [2, 3]
 | 1 => [2, 3, 5]
 | 2 => [2, 3, 5, 6]
 | 3 => [2, 3, 5, 6, 15]
 | 4 => [2, 3, 5, 6]
 | 5 => [2, 3, 5, 6]
 | 6 => [4]
 | _ => []
theorem Zdf (args : Array Value) (w : World) : (callFunc 72 args).run Tryz.prog w = .ok (.enter 72 args) w := Zab Tryz.func72 (by decide) rfl args w
set_option maxHeartbeats 1000000 in
theorem Zlp (n : List (List Int)) (ps : List (List Int × List Int)) (s l : List Int) (W : Int) (hg : HY (GoOk n W)) (hs : HY (below s W = true)) (hl : HY (below l W = true)) (hn : NU (1 ≤ n.length ∧ n.length ≤ 48)) (hx : NU (1 ≤ l.length ∧ l.length ≤ 600 ∧ s.length ≤ 600)) : Con Tryz.prog 72 [.det n ps, .word s l] (.ints (Zb2 n s l)) := by
 have hg := hg.e
 have hs := hs.e
 have hl := hl.e
 have hn := hn.e
 have hx := hx.e
 refine Con.fit Zdf fun hfit => ?_
 have hb_n : n.length ≤ 9223372036854775807 := GFits.lenm (GFits.cell (show GFits (.det n ps) from hfit 0 (ZL rfl)) (.head _))
 have hr_n : ∀ r ∈ n, r.length ≤ 9223372036854775807 := fun r hr => GFits.ints (GFits.elm (GFits.cell (show GFits (.det n ps) from hfit 0 (ZL rfl)) (.head _)) r hr)
 have hb_ps : ps.length ≤ 9223372036854775807 := GFits.lenm (GFits.cell (show GFits (.det n ps) from hfit 0 (ZL rfl)) (.tail _ (.head _)))
 have hr_ps : ∀ r ∈ ps, r.1.length ≤ 9223372036854775807 ∧ r.2.length ≤ 9223372036854775807 := fun r hr => ⟨GFits.ints (GFits.cell (GFits.elm (GFits.cell (show GFits (.det n ps) from hfit 0 (ZL rfl)) (.tail _ (.head _))) r hr) (.head _)), GFits.ints (GFits.cell (GFits.elm (GFits.cell (show GFits (.det n ps) from hfit 0 (ZL rfl)) (.tail _ (.head _))) r hr) (.tail _ (.head _)))⟩
 have hb_s : s.length ≤ 9223372036854775807 := GFits.ints (GFits.cell (show GFits (.word s l) from hfit 1 (ZL rfl)) (.head _))
 have hb_l : l.length ≤ 9223372036854775807 := GFits.ints (GFits.cell (show GFits (.word s l) from hfit 1 (ZL rfl)) (.tail _ (.head _)))
 clear hfit
 have hq0 := ZbU hg hs (q := 0) ⟨by omega, by omega⟩
 refine gCon Zh4 Zad (rs := [.tmp 4]) (sl := [(0, .g (.det n ps)), (1, .g (.word s l))]) Tryz.func72 rfl Tryz.ntmps72 rfl Zdf rfl (by repeat constructor) ?_
 (repeat' (first | ((with_reducible apply gLB.cagg); (. exact RF.mk ⟨rfl, rfl, rfl⟩)) | ((with_reducible apply gLB.cone); (. exact RF.mk ⟨rfl, rfl⟩)) | (with_reducible constructor) | exact Z2 | exact NU.mk QM92 | exact ZS | exact ZF | exact ZC | (with_reducible apply ZnD) | ((with_reducible apply ZaA); first | (exact Zkx n 0 s W ps (HY.mk hg) (HY.mk hs) (NU.mk (by omega))) | (exact Zkx n _ l W ps (HY.mk hg) (HY.mk hl) (NU.mk (ZgO hg hl hq0 j))) | apply Zd1 | apply ZmY) | (with_reducible intro hc; (try simp only [HCs] at hc)) | exact OB_f | (with_reducible first | apply gNK | apply Zam | apply Zaf | apply Zaq | apply Zai | apply ZaR | apply Zar | apply Zas | apply Zay | apply Zap | apply Zaw | apply Zax | apply Zav) | apply Zah Zad | (apply ZaF; exact RF.mk rfl) | (refine Zak (id := 0) (ι := Nat) (fun j => ⟨[(2, .ptr 1 0), (3, .ptr 2 0), (5, .g (.i (it (lapN n l) j (goN n 0 s)))), (6, .own 0 0 (seqN n s l j).length)], [(0, .arr 1 true ((seqN n s l j).map GV.i)), (1, .box [.g (.rows n), .g (.pairs ps)]), (2, .box [.g (.ints s), .g (.ints l)])]⟩) (fun j => (∀ z, z < j → has (seqN n s l z) (it (lapN n l) z (goN n 0 s)) = false)) (fun j => n.length + 1 - j) (0) ?_ ?_ ?_; (. (apply gLX3 <;> (repeat' (first | (with_reducible constructor) | exact Z5 | exact RF.mk (by decide) | (with_reducible apply Zae) | exact EQ.mk QM92)); (all_goals exact QM93))); (. (exact Zcd)); (rintro j h2; (show TX _ _ _ _ _ [(2, .ptr 1 0), (3, .ptr 2 0), (5, .g (.i (it (lapN n l) j (goN n 0 s)))), (6, .own 0 0 (seqN n s l j).length)] [(0, .arr 1 true ((seqN n s l j).map GV.i)), (1, .box [.g (.rows n), .g (.pairs ps)]), (2, .box [.g (.ints s), .g (.ints l)])] _))) | apply gSel.ccons))
 (all_goals (first | (refine ZaJ (j + 1) ?_ ?_ ?_; (· (apply gLX3 <;> (repeat' (first | (with_reducible constructor) | exact Z5 | exact RF.mk (by decide) | (with_reducible apply Zae) | exact EQ.mk QM92)); (all_goals exact QM93))); (· ((exact Zcf h2 (by first | (simp_all; done) | fail)))); (· (((try dsimp only); have q1 := ZgH hg hs hl (by omega) h2; omega)))) | (((have q1 := ZgH hg hs hl (by omega) h2; have hc2 : has (seqN n s l j) (it (lapN n l) j (goN n 0 s)) = true := (by first | assumption | simp_all); refine Zby (Zau (EQ.mk ?_)); unfold Zb2; rw [Ztc q1 h2 hc2]; (try simp only [Int.toNat_natCast, Nat.zero_add]); first | rfl | (rw [List.take_of_length_le (by rw [List.length_drop]; exact Nat.le_refl _)]))); done)))
def ZlA : Nat → List Nat
 | 0 => [3, 4, 5]
 | 1 => [3, 4, 5, 7]
 | 2 => [4, 5, 7, 20]
 | 3 => [6]
 | 4 => [4, 5, 7, 8]
 | 5 => [4, 5, 7, 8, 9]
 | 6 => [4, 5, 7, 8, 9, 28]
 | 7 => [4, 5, 7, 8, 9]
 | 8 => [4, 5, 7, 8, 9]
 | 9 => [6]
 | _ => []
theorem ZeL (args : Array Value) (w : World) : (callFunc 39 args).run Tryz.prog w = .ok (.enter 39 args) w := Zab Tryz.func39 (by decide) rfl args w
set_option maxHeartbeats 1000000 in
theorem Zo6 (i o : Int) (n : List (List Int)) (ps : List (List Int × List Int)) (s l : List Int) : Con Tryz.prog 39 [.sig i o, .det n ps, .word s l] (.ints (metB i o n ps s l)) := by
 refine Con.fit ZeL fun hfit => ?_
 have hb_n : n.length ≤ 9223372036854775807 := GFits.lenm (GFits.cell (show GFits (.det n ps) from hfit 1 (ZL rfl)) (.head _))
 have hr_n : ∀ r ∈ n, r.length ≤ 9223372036854775807 := fun r hr => GFits.ints (GFits.elm (GFits.cell (show GFits (.det n ps) from hfit 1 (ZL rfl)) (.head _)) r hr)
 have hb_ps : ps.length ≤ 9223372036854775807 := GFits.lenm (GFits.cell (show GFits (.det n ps) from hfit 1 (ZL rfl)) (.tail _ (.head _)))
 have hr_ps : ∀ r ∈ ps, r.1.length ≤ 9223372036854775807 ∧ r.2.length ≤ 9223372036854775807 := fun r hr => ⟨GFits.ints (GFits.cell (GFits.elm (GFits.cell (show GFits (.det n ps) from hfit 1 (ZL rfl)) (.tail _ (.head _))) r hr) (.head _)), GFits.ints (GFits.cell (GFits.elm (GFits.cell (show GFits (.det n ps) from hfit 1 (ZL rfl)) (.tail _ (.head _))) r hr) (.tail _ (.head _)))⟩
 have hb_s : s.length ≤ 9223372036854775807 := GFits.ints (GFits.cell (show GFits (.word s l) from hfit 2 (ZL rfl)) (.head _))
 have hb_l : l.length ≤ 9223372036854775807 := GFits.ints (GFits.cell (show GFits (.word s l) from hfit 2 (ZL rfl)) (.tail _ (.head _)))
 clear hfit
 have hw : ZaI s l (Zaa i o) = true → 1 ≤ l.length ∧ l.length ≤ 600 ∧ s.length ≤ 600 := ZfY; have hd : detB i o n ps = true → 1 ≤ n.length ∧ n.length ≤ 48 := fun h => ⟨(ZeI h).2.1, (ZeI h).2.2.1⟩; have hlp : sigB i o = true → pw (i + o) = Zaa i o := fun h => (ZaW h).symm
 refine gCon ZlA Zad (rs := [.tmp 6]) (sl := [(0, .g (.sig i o)), (1, .g (.det n ps)), (2, .g (.word s l))]) Tryz.func39 rfl Tryz.ntmps39 rfl ZeL rfl (by repeat constructor) ?_
 (repeat' (first | ((with_reducible apply gLB.cagg); (. exact RF.mk ⟨rfl, rfl, rfl⟩)) | ((with_reducible apply gLB.cone); (. exact RF.mk ⟨rfl, rfl⟩)) | ((with_reducible apply gLI.cone); (. exact RF.mk ⟨rfl, rfl⟩)) | (with_reducible constructor) | exact Z2 | exact NU.mk QM91 | exact ZS | exact ZF | exact ZC | ((with_reducible apply ZaA); first | (exact Zlp n ps s l (Zaa i o) (HY.mk (Zcr (show detB i o n ps = true by assumption))) (HY.mk (ZbA (show ZaI s l (Zaa i o) = true by first | assumption | exact (show sigB i o = true ∧ ZaI s l (Zaa i o) = true by assumption).2 | (rw [← hlp (by assumption)]; assumption))).1) (HY.mk (ZbA (show ZaI s l (Zaa i o) = true by first | assumption | exact (show sigB i o = true ∧ ZaI s l (Zaa i o) = true by assumption).2 | (rw [← hlp (by assumption)]; assumption))).2) (NU.mk (hd (show detB i o n ps = true by assumption))) (NU.mk (hw (show ZaI s l (Zaa i o) = true by first | assumption | exact (show sigB i o = true ∧ ZaI s l (Zaa i o) = true by assumption).2 | (rw [← hlp (by assumption)]; assumption))))) | (exact Znx n ps _ l (Zaa i o) (HY.mk (Zcr (show detB i o n ps = true by assumption))) (HY.mk (ZbA (show ZaI s l (Zaa i o) = true by first | assumption | exact (show sigB i o = true ∧ ZaI s l (Zaa i o) = true by assumption).2 | (rw [← hlp (by assumption)]; assumption))).2) (NU.mk (hd (show detB i o n ps = true by assumption))) (NU.mk (hw (show ZaI s l (Zaa i o) = true by first | assumption | exact (show sigB i o = true ∧ ZaI s l (Zaa i o) = true by assumption).2 | (rw [← hlp (by assumption)]; assumption))).2.1) (NU.mk (ZoK (Zcr (show detB i o n ps = true by assumption)) (ZbA (show ZaI s l (Zaa i o) = true by first | assumption | exact (show sigB i o = true ∧ ZaI s l (Zaa i o) = true by assumption).2 | (rw [← hlp (by assumption)]; assumption))).1 (ZbA (show ZaI s l (Zaa i o) = true by first | assumption | exact (show sigB i o = true ∧ ZaI s l (Zaa i o) = true by assumption).2 | (rw [← hlp (by assumption)]; assumption))).2 (hd (show detB i o n ps = true by assumption)).1 _ (Zal (by omega))))) | (exact Znp _ _ (HY.mk (ZlR h2 h4)) (HY.mk (ZlR (Zlk (by first | (simp [Asc]; done) | fail)) (ZxF h5)))) | apply Zku | apply Zer) | (with_reducible intro hc; (try simp only [HCs] at hc)) | exact OB_f | exact ZK | (with_reducible first | apply gNK | apply Zam | apply Zaf | apply Zaq | apply ZaC | apply Zai | apply CK_t | apply ZaR | apply Zar | apply Zas | apply Zay | apply Zap | apply Zaw | apply Zax | apply Zav) | apply Zah Zad | apply ZaQ Zad rfl | (apply ZaF; exact RF.mk rfl) | (refine Zak (id := 0) (ι := Nat × (List Int)) (fun ⟨j, u⟩ => ⟨[(4, .ptr 2 0), (5, .ptr 3 0), (7, .own 0 0 u.length), (8, .own 1 0 (Zb2 n s l).length), (9, .g (.i j))], [(0, .arr 1 true (u.map GV.i)), (1, .arr 1 true ((Zb2 n s l).map GV.i)), (2, .box [.g (.rows n), .g (.pairs ps)]), (3, .box [.g (.ints s), .g (.ints l)])]⟩) (fun ⟨j, u⟩ => (j ≤ (Zb2 n s l).length) ∧ (Asc u) ∧ (∀ v, v ∈ u ↔ ∃ k, k < j ∧ k < (Zb2 n s l).length ∧ v ∈ trN n (nth (Zb2 n s l) k) l) ∧ (∀ v ∈ u, 0 ≤ v ∧ v < 48)) (fun ⟨j, u⟩ => (Zb2 n s l).length - j) (0, []) ?_ ?_ ?_; (. (apply gLX4 <;> (repeat' (first | (with_reducible constructor) | exact Z5 | exact RF.mk (by decide) | (with_reducible apply Zae) | exact EQ.mk QM91)); (all_goals exact QM97))); (. (exact ⟨by omega, by simp [Asc], fun v => by simp, fun v hv => by simp at hv⟩)); (rintro ⟨j, u⟩ ⟨h1, h2, h3, h4⟩; have z0 := Zmn (Zcr (show detB i o n ps = true by assumption)) (ZbA (show ZaI s l (Zaa i o) = true by first | assumption | exact (show sigB i o = true ∧ ZaI s l (Zaa i o) = true by assumption).2 | (rw [← hlp (by assumption)]; assumption))).1 (ZbA (show ZaI s l (Zaa i o) = true by first | assumption | exact (show sigB i o = true ∧ ZaI s l (Zaa i o) = true by assumption).2 | (rw [← hlp (by assumption)]; assumption))).2 (hd (show detB i o n ps = true by assumption)).1; have z9 := hd (show detB i o n ps = true by assumption); have h5 : j < (Zb2 n s l).length → ∀ v ∈ trN n (nth (Zb2 n s l) j) l, 0 ≤ v ∧ v < 48 := fun h v hv => (by have q := Zq2 (Zcr (show detB i o n ps = true by assumption)) (ZbA (show ZaI s l (Zaa i o) = true by first | assumption | exact (show sigB i o = true ∧ ZaI s l (Zaa i o) = true by assumption).2 | (rw [← hlp (by assumption)]; assumption))).2 (ZoK (Zcr (show detB i o n ps = true by assumption)) (ZbA (show ZaI s l (Zaa i o) = true by first | assumption | exact (show sigB i o = true ∧ ZaI s l (Zaa i o) = true by assumption).2 | (rw [← hlp (by assumption)]; assumption))).1 (ZbA (show ZaI s l (Zaa i o) = true by first | assumption | exact (show sigB i o = true ∧ ZaI s l (Zaa i o) = true by assumption).2 | (rw [← hlp (by assumption)]; assumption))).2 (hd (show detB i o n ps = true by assumption)).1 _ (Zal h)) v hv; omega); (show TX _ _ _ _ _ [(4, .ptr 2 0), (5, .ptr 3 0), (7, .own 0 0 u.length), (8, .own 1 0 (Zb2 n s l).length), (9, .g (.i j))] [(0, .arr 1 true (u.map GV.i)), (1, .arr 1 true ((Zb2 n s l).map GV.i)), (2, .box [.g (.rows n), .g (.pairs ps)]), (3, .box [.g (.ints s), .g (.ints l)])] _))) | apply gSel.ccons))
 (all_goals (first | (refine ZaJ (j + 1, insL u (insL [] (trN n (nth (Zb2 n s l) j) l))) ?_ ?_ ?_; (· (apply gLX4 <;> (repeat' (first | (with_reducible constructor) | exact Z5 | exact RF.mk (by decide) | (with_reducible apply Zae) | exact EQ.mk QM91)); (all_goals exact QM97))); (· (exact ⟨by omega, Zlk h2, ZtO h3 (by omega), Zq4 h4 (h5 (by omega))⟩)); (· exact ZW)) | ((first | (rw [ZoL (by assumption) (show ZaI s l (Zaa i o) = true by first | assumption | exact (show sigB i o = true ∧ ZaI s l (Zaa i o) = true by assumption).2 | (rw [← hlp (by assumption)]; assumption))]; refine Zby (Zau (EQ.mk ?_)); first | exact ZmK (Zcr (show detB i o n ps = true by assumption)) (ZbA (show ZaI s l (Zaa i o) = true by first | assumption | exact (show sigB i o = true ∧ ZaI s l (Zaa i o) = true by assumption).2 | (rw [← hlp (by assumption)]; assumption))).1 (ZbA (show ZaI s l (Zaa i o) = true by first | assumption | exact (show sigB i o = true ∧ ZaI s l (Zaa i o) = true by assumption).2 | (rw [← hlp (by assumption)]; assumption))).2 (hd (show detB i o n ps = true by assumption)).1 (by omega) h2 h3 | (rw [List.take_of_length_le (Nat.le_refl _)]; exact ZmK (Zcr (show detB i o n ps = true by assumption)) (ZbA (show ZaI s l (Zaa i o) = true by first | assumption | exact (show sigB i o = true ∧ ZaI s l (Zaa i o) = true by assumption).2 | (rw [← hlp (by assumption)]; assumption))).1 (ZbA (show ZaI s l (Zaa i o) = true by first | assumption | exact (show sigB i o = true ∧ ZaI s l (Zaa i o) = true by assumption).2 | (rw [← hlp (by assumption)]; assumption))).2 (hd (show detB i o n ps = true by assumption)).1 (by omega) h2 h3)) | first | (rw [ZkV (by rw [← hlp (by assumption)]; assumption)]; exact EQ.mk rfl) | (rw [ZkH (by assumption)]; exact EQ.mk rfl) | (rw [ZkV (by assumption)]; exact EQ.mk rfl) | (rw [ZnJ (by assumption)]; exact EQ.mk rfl) | (rcases hc with hc | hc | hc <;> first | (rw [ZkH (by assumption)]; exact EQ.mk rfl) | (rw [ZkV (by assumption)]; exact EQ.mk rfl) | (rw [ZnJ (by assumption)]; exact EQ.mk rfl)) | (rcases hc with hc | hc <;> first | (rw [ZkH (by assumption)]; exact EQ.mk rfl) | (rw [ZkV (by assumption)]; exact EQ.mk rfl) | (rw [ZnJ (by assumption)]; exact EQ.mk rfl))); done)))
def Zlx : Nat → List Nat
 | 0 => [0, 3]
 | 1 => [0, 3, 5]
 | 2 => [0, 3, 5, 15, 16]
 | 3 => [0, 3, 5, 15, 16, 17]
 | 4 => [0, 3, 5, 15, 16]
 | 5 => [0, 3, 5, 15, 16]
 | 6 => [0, 3, 5, 6]
 | 7 => [0, 3, 5, 6, 7]
 | 8 => [0, 3, 5, 6, 7, 27, 28, 29]
 | 9 => [0, 3, 5, 6, 7, 27, 28, 29, 30]
 | 10 => [0, 3, 5, 6, 7, 9, 27, 28, 29]
 | 11 => [0, 3, 5, 6, 7, 27, 28, 29]
 | 12 => [0, 3, 5, 6, 7, 27, 28, 29]
 | 13 => [0, 3, 5, 6, 7, 27, 28, 29]
 | 14 => [0, 3, 5, 6, 7, 47]
 | 15 => [6]
 | 16 => [4]
 | _ => []
theorem ZeE (args : Array Value) (w : World) : (callFunc 36 args).run Tryz.prog w = .ok (.enter 36 args) w := Zab Tryz.func36 (by decide) rfl args w
set_option maxHeartbeats 1000000 in
theorem Zo5 (n : List (List Int)) (s l : List Int) (W : Int) (hg : HY (GoOk n W)) (hs : HY (below s W = true)) (hl : HY (below l W = true)) (hn : NU (1 ≤ n.length ∧ n.length ≤ 48)) (hx : NU (1 ≤ l.length ∧ l.length ≤ 600 ∧ s.length ≤ 600)) : Con Tryz.prog 36 [.rows n, .word s l] (.ints (metN n s l)) := by
 have hg := hg.e
 have hs := hs.e
 have hl := hl.e
 have hn := hn.e
 have hx := hx.e
 refine Con.fit ZeE fun hfit => ?_
 have hb_n : n.length ≤ 9223372036854775807 := GFits.lenm (show GFits (.rows n) from hfit 0 (ZL rfl))
 have hr_n : ∀ r ∈ n, r.length ≤ 9223372036854775807 := fun r hr => GFits.ints (GFits.elm (show GFits (.rows n) from hfit 0 (ZL rfl)) r hr)
 have hb_s : s.length ≤ 9223372036854775807 := GFits.ints (GFits.cell (show GFits (.word s l) from hfit 1 (ZL rfl)) (.head _))
 have hb_l : l.length ≤ 9223372036854775807 := GFits.ints (GFits.cell (show GFits (.word s l) from hfit 1 (ZL rfl)) (.tail _ (.head _)))
 clear hfit
 have hq0 := ZbU hg hs (q := 0) ⟨by omega, by omega⟩; have hq1 := ZgO hg hl hq0 n.length
 refine gCon Zlx Zad (rs := [.tmp 4]) (sl := [(0, .g (.rows n)), (1, .g (.word s l))]) Tryz.func36 rfl Tryz.ntmps36 rfl ZeE rfl (by repeat constructor) ?_
 (repeat' (first | ((with_reducible apply gAF.crow (f := 67))) | ((with_reducible apply gAF.crow (f := 68))) | ((with_reducible apply Zzp); first | apply Zty | apply ZnU) | ((with_reducible apply gLB.cone); (. exact RF.mk ⟨rfl, rfl⟩)) | ((with_reducible apply gLI.cone); (. exact RF.mk ⟨rfl, rfl⟩)) | (with_reducible constructor) | exact Z2 | exact NU.mk QM90 | exact ZS | exact ZF | exact ZC | (with_reducible apply ZnD) | ((with_reducible apply ZaA); first | (exact ZhL n 0 s W (HY.mk hg) (HY.mk hs) (NU.mk (by omega))) | (exact ZhL n _ l W (HY.mk hg) (HY.mk hl) (NU.mk (ZgO hg hl hq0 j)))) | (with_reducible intro hc; (try simp only [HCs] at hc)) | exact OB_f | (with_reducible first | apply gNK | apply Zam | apply Zaf | apply Zaq | apply Zai | apply ZaR | apply Zar | apply Zas | apply Zay | apply Zap | apply Zn2 | apply Zaw | apply Zax | apply Zav) | apply Zah Zad | (apply ZaF; exact RF.mk rfl) | (refine Zak (id := 0) (ι := Nat) (fun j => ⟨[(0, .g (.rows n)), (3, .ptr 0 0), (5, .g (.i (it (lapN n l) j (goN n 0 s)))), (15, .g (.i n.length)), (16, .g (.i j))], [(0, .box [.g (.ints s), .g (.ints l)])]⟩) (fun j => (j ≤ n.length)) (fun j => n.length - j) (0) ?_ ?_ ?_; (. (apply gLX1 <;> (repeat' (first | (with_reducible constructor) | exact Z5 | exact RF.mk (by decide) | (with_reducible apply Zae) | exact EQ.mk QM90)); (all_goals exact ZyU))); (. (omega)); (rintro j h1; (show TX _ _ _ _ _ [(0, .g (.rows n)), (3, .ptr 0 0), (5, .g (.i (it (lapN n l) j (goN n 0 s)))), (15, .g (.i n.length)), (16, .g (.i j))] [(0, .box [.g (.ints s), .g (.ints l)])] _))) | (refine Zak (id := 2) (ι := Nat × Tg 2) (fun ⟨m, _⟩ => ⟨[(0, .g (.rows n)), (3, .ptr 1 0), (5, .g (.i (it (lapN n l) m (begN n s l)))), (6, .own 0 0 (Zex n l (begN n s l) m).length), (7, .g (.i (begN n s l)))], [(0, .arr 1 true ((Zex n l (begN n s l) m).map GV.i)), (1, .box [.g (.ints s), .g (.ints l)])]⟩) (fun ⟨m, _⟩ => (∀ i, 1 ≤ i → i ≤ m → ¬ it (lapN n l) i (begN n s l) = (begN n s l))) (fun ⟨m, _⟩ => n.length - m) (0, (Tg.t : Tg 2)) ?_ ?_ ?_; (. (apply gLX2 <;> (repeat' (first | (with_reducible constructor) | exact Z5 | exact RF.mk (by decide) | (with_reducible apply Zae) | exact EQ.mk QM90)); (all_goals exact QM94))); (. (exact fun i h1 h2 => by omega)); (rintro ⟨m, _⟩ h2; (try dsimp only at h2); (show TX _ _ _ _ _ [(0, .g (.rows n)), (3, .ptr 1 0), (5, .g (.i (it (lapN n l) m (begN n s l)))), (6, .own 0 0 (Zex n l (begN n s l) m).length), (7, .g (.i (begN n s l)))] [(0, .arr 1 true ((Zex n l (begN n s l) m).map GV.i)), (1, .box [.g (.ints s), .g (.ints l)])] _))) | (refine Zak (id := 4) (ι := Nat × Tg 4) (fun ⟨i, _⟩ => ⟨[(0, .g (.rows n)), (3, .ptr 1 0), (5, .g (.i (goN n (it (lapN n l) m (begN n s l)) (l.take i)))), (6, .own 0 0 (Zex n l (begN n s l) m ++ (trN n (it (lapN n l) m (begN n s l)) l).take i).length), (7, .g (.i (begN n s l))), (27, .g (.ints l)), (28, .g (.i l.length)), (29, .g (.i i))], [(0, .arr 1 true ((Zex n l (begN n s l) m ++ (trN n (it (lapN n l) m (begN n s l)) l).take i).map GV.i)), (1, .box [.g (.ints s), .g (.ints l)])]⟩) (fun ⟨i, _⟩ => (i ≤ l.length)) (fun ⟨i, _⟩ => l.length - i) (0, (Tg.t : Tg 4)) ?_ ?_ ?_; (. (apply gLX2 <;> (repeat' (first | (with_reducible constructor) | exact Z5 | exact RF.mk (by decide) | (with_reducible apply Zae) | exact EQ.mk QM90)); (all_goals exact QM96))); (. (omega)); (rintro ⟨i, _⟩ g1; (try dsimp only at g1); have y1 : i < l.length → 0 ≤ nth l i ∧ nth l i < W := fun h => below_iff.1 hl i h; have y2 : 0 ≤ goN n (it (lapN n l) m (begN n s l)) (l.take i) ∧ goN n (it (lapN n l) m (begN n s l)) (l.take i) < (n.length : Int) := ZbU hg (ZkD (i := i) hl) (ZgO hg hl hq1 m); (show TX _ _ _ _ _ [(0, .g (.rows n)), (3, .ptr 1 0), (5, .g (.i (goN n (it (lapN n l) m (begN n s l)) (l.take i)))), (6, .own 0 0 (Zex n l (begN n s l) m ++ (trN n (it (lapN n l) m (begN n s l)) l).take i).length), (7, .g (.i (begN n s l))), (27, .g (.ints l)), (28, .g (.i l.length)), (29, .g (.i i))] [(0, .arr 1 true ((Zex n l (begN n s l) m ++ (trN n (it (lapN n l) m (begN n s l)) l).take i).map GV.i)), (1, .box [.g (.ints s), .g (.ints l)])] _))) | apply gSel.ccons))
 (all_goals (first | (refine ZaJ (j + 1) ?_ ?_ ?_; (· (apply gLX1 <;> (repeat' (first | (with_reducible constructor) | exact Z5 | exact RF.mk (by decide) | (with_reducible apply Zae) | exact EQ.mk QM90)); (all_goals exact ZyU))); (· (omega)); (· exact ZW)) | (refine ZaJ (m + 1, (Tg.t : Tg 2)) ?_ ?_ ?_; (· (apply gLX2 <;> (repeat' (first | (with_reducible constructor) | exact Z5 | exact RF.mk (by decide) | (with_reducible apply Zae) | exact EQ.mk QM90)); (all_goals exact QM94))); (· ((rw [ZlJ (by omega)] at hc; exact Zqh h2 hc))); (· (((try dsimp only); have q1 := ZlE hg hs hl (by omega) h2; omega)))) | (refine ZaJ (i + 1, (Tg.t : Tg 4)) ?_ ?_ ?_; (· (apply gLX2 <;> (repeat' (first | (with_reducible constructor) | exact Z5 | exact RF.mk (by decide) | (with_reducible apply Zae) | exact EQ.mk QM90)); (all_goals exact QM96))); (· (omega)); (· exact ZW)) | (((refine Zby (Zau (EQ.mk ?_)); rw [ZlJ (by omega)] at hc; rw [← Zu4 hg hs hl (by omega) (by omega) (show 1 ≤ m + 1 by omega) hc]; show _ = setZ (Zex n l _ m ++ trN n _ l); (try simp only [List.take_of_length_le (show (trN n (it (lapN n l) m (begN n s l)) l).length ≤ i by rw [Zdp]; omega)]); unfold rowZ setZ; first | rfl | (rw [List.take_left]) | (simp; done))); done)))
end Go.Proofs.YtabfpoflhacknaaGreat

