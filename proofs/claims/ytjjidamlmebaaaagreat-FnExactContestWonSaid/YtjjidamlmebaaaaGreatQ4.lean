/- Contracts: the program solves parity games. No conditions but those that each theorem names. -/
import Derived.Test.YtjjidamlmebaaaaGreatTab
import Derived.Test.YtjjidamlmebaaaaGreatKG
import Derived.Test.YtjjidamlmebaaaaGreatQ3
import Derived.Test.YtjjidamlmebaaaaGreatZR
import Derived.Test.YtjjidamlmebaaaaGreatChecked
set_option linter.unusedSimpArgs false
set_option linter.unusedVariables false
namespace Go.Proofs.YtjjidamlmebaaaaGreat
open Go.RowKit
open Shp
theorem QQ43 {p : Prop} (h : p := by ((first | exact EQ.mk rfl | (refine EQ.mk ?_; exact (ZpS (by omega)).symm) | (refine EQ.mk ?_; rw [List.take_zero, Zri])); done)) : p := h
theorem QQ42 {p : Prop} (h : p := by first | exact ZO | (first | omega | (have q := hl _ (ZaE (show i < l.length by omega)); omega))) : p := h
theorem QQ41 {p : Prop} (h : p := by first | exact ZO | (first | omega | (simp only [List.length_map, ZbF]; omega) | (simp only [List.length_set, ZbF]; omega))) : p := h
theorem QQ40 {p : Prop} (h : p := by ((first | exact EQ.mk rfl | (refine EQ.mk ?_; first | omega | exact ZfD | exact ZbB) | (refine Zap (EQ.mk ?_); first | rfl | (rw [List.drop_zero, List.take_of_length_le (by omega)]; done) | (rw [Zed]; congr 1; omega) | (exact Zhx (by first | (simp_all; done) | fail)) | (rw [List.take_of_length_le (by rw [ZaZ]; omega)]; rfl))); done)) : p := h
def Zhf : Nat → List Nat
 | 0 => [0, 1]
 | 1 => [0, 1, 7, 8]
 | 2 => [0, 1, 7, 8, 9]
 | 3 => [0, 1, 5, 7, 8]
 | 4 => [0, 1, 5, 7, 8, 16]
 | 5 => [4]
 | 6 => [0, 1, 7, 8]
 | 7 => [4]
 | _ => []
theorem ZcG (args : Array Value) (w : World) : (callFunc 165 args).run Tryz.prog w = .ok (.enter 165 args) w := Zaa Tryz.func165 (by decide) rfl args w
set_option maxHeartbeats 1000000 in
theorem ZjM (xs : List Bool) (x : Bool) : Con Tryz.prog 165 [.bools xs, .bool x] (.i (Zdk xs.length fun i => nth xs i == x)) := by
 refine Con.fit ZcG fun hfit => ?_
 have hb_xs : xs.length ≤ 9223372036854775807 := GFits.lenm (show GFits (.bools xs) from hfit 0 (ZL rfl))
 clear hfit
 refine gCon Zhf Zab (rs := [.tmp 4]) (sl := [(0, .g (.bools xs)), (1, .g (.bool x))]) Tryz.func165 rfl Tryz.ntmps165 rfl ZcG rfl (by repeat constructor) ?_
 (repeat' (first | ((with_reducible apply gLI.cone); (. exact RF.mk ⟨rfl, rfl⟩)) | (with_reducible constructor) | exact Z2 | exact ZN | exact ZS | (with_reducible intro hc; (try simp only [HCs] at hc)) | exact OB_f | (with_reducible first | apply gNK | apply Zaj | apply Zae | apply Zam | apply Zar | apply Zag | apply ZaG | apply Zak | apply Zai | apply Zas | apply Zal | apply Zau | apply ZaO | apply Zat | apply ZaR | apply Zao) | apply Zaf Zab | (apply ZaB; exact RF.mk rfl) | (refine Zah (id := 0) (ι := Nat) (fun i => ⟨[(0, .g (.bools xs)), (1, .g (.bool x)), (7, .g (.i xs.length)), (8, .g (.i i))], []⟩) (fun i => (i ≤ xs.length) ∧ (∀ z, z < i → (fun i => nth xs i == x) z = false)) (fun i => xs.length - i) (0) ?_ ?_ ?_; (. (apply gLX0 <;> (repeat' (first | (with_reducible constructor) | exact Z5 | exact RF.mk (by decide) | (with_reducible apply Zad) | exact ZE)))); (. (exact ⟨by omega, Zdu⟩)); (rintro i ⟨h1, h2⟩; (show TX _ _ _ _ _ [(0, .g (.bools xs)), (1, .g (.bool x)), (7, .g (.i xs.length)), (8, .g (.i i))] [] _))) | apply gSel.ccons))
 (all_goals (first | (refine ZaA (i + 1) ?_ ?_ ?_; (· (apply gLX0 <;> (repeat' (first | (with_reducible constructor) | exact Z5 | exact RF.mk (by decide) | (with_reducible apply Zad) | exact ZE)))); (· ((refine ⟨by omega, ZdC h2 ?_⟩; ((try simp only [BOa] at *); (first | omega | assumption | grind))))); (· exact ZW)) | (((refine Zad (EQ.mk ?_); skip; first | exact Eq.symm (ZbX fun j hj => h2 j (by omega)) | (refine Eq.symm (ZdE i (by omega) ?_ h2); ((try simp only [BOa] at *); (first | omega | assumption | grind))))); done)))
def Zfk : Nat → List Nat
 | 0 => [0, 1]
 | 1 => [4]
 | _ => []
theorem ZbS (args : Array Value) (w : World) : (callFunc 163 args).run Tryz.prog w = .ok (.enter 163 args) w := Zaa Tryz.func163 (by decide) rfl args w
set_option maxHeartbeats 1000000 in
theorem Zd5 (xs : List Bool) : Con Tryz.prog 163 [.bools xs, .bool true] (.bool (Zoz xs)) := by
 refine Con.fit ZbS fun hfit => ?_
 have hb_xs : xs.length ≤ 9223372036854775807 := GFits.lenm (show GFits (.bools xs) from hfit 0 (ZL rfl))
 clear hfit
 refine gCon Zfk Zab (rs := [.tmp 4]) (sl := [(0, .g (.bools xs)), (1, .g (.bool true))]) Tryz.func163 rfl Tryz.ntmps163 rfl ZbS rfl (by repeat constructor) ?_
 (repeat' (first | (with_reducible constructor) | exact Z2 | ((with_reducible apply Zaw); first | (exact ZjM _ _)) | exact OB_f | (with_reducible first | apply gNK | apply Zaj | apply Zae | apply Zai | apply Zao) | apply Zaf Zab | apply gSel.ccons))
 (all_goals (first | (((refine Zax ?_; exact Zis)); done)))
def Zj6 : Nat → List Nat
 | 0 => [1, 2]
 | 1 => [1, 2, 5]
 | 2 => [2, 5, 8, 9, 10]
 | 3 => [2, 5, 8, 9, 10, 11]
 | 4 => [2, 5, 7, 8, 9, 10]
 | 5 => [2, 5, 8, 9, 10]
 | 6 => [2, 5, 8, 9, 10]
 | 7 => [4]
 | _ => []
theorem ZdU (args : Array Value) (w : World) : (callFunc 161 args).run Tryz.prog w = .ok (.enter 161 args) w := Zaa Tryz.func161 (by decide) rfl args w
set_option maxHeartbeats 1000000 in
theorem ZnK (o p : List Int) (nx : List (List Int)) (l : List Int) (hl : HY (∀ x ∈ l, 0 ≤ x ∧ x < p.length)) (hn : NU (l.length ≤ 1000000 ∧ p.length ≤ 1000000)) : Con Tryz.prog 161 [.par o nx p, .ints l] (.i (topG p l)) := by
 have hl := hl.e
 have hn := hn.e
 refine Con.fit ZdU fun hfit => ?_
 have hb_l : l.length ≤ 9223372036854775807 := GFits.ints (show GFits (.ints l) from hfit 1 (ZL rfl))
 clear hfit
 refine gCon Zj6 Zab (rs := [.tmp 4]) (sl := [(0, .g (.par o nx p)), (1, .g (.ints l))]) Tryz.func161 rfl Tryz.ntmps161 rfl ZdU rfl (by repeat constructor) ?_
 (repeat' (first | ((with_reducible apply gLB.cone); (. exact RF.mk ⟨rfl, rfl⟩)) | ((with_reducible apply gLI.cone); (. exact RF.mk ⟨rfl, rfl⟩)) | (with_reducible constructor) | exact Z2 | exact NU.mk QQ42 | exact ZS | exact ZF | (with_reducible intro hc; (try simp only [HCs] at hc)) | exact OB_f | (with_reducible first | apply gNK | apply Zaj | apply Zae | apply Zam | apply Zag | apply ZaG | apply Zak | apply Zai | apply Zas | apply Zal | apply Zau | apply Zat | apply Zao) | apply Zaf Zab | (apply ZaB; exact RF.mk rfl) | (refine Zah (id := 0) (ι := Nat) (fun i => ⟨[(2, .ptr 0 0), (5, .g (.i (topG p (l.take i)))), (8, .g (.ints l)), (9, .g (.i l.length)), (10, .g (.i i))], [(0, .box [.g (.ints o), .g (.rows nx), .g (.ints p)])]⟩) (fun i => (i ≤ l.length)) (fun i => l.length - i) (0) ?_ ?_ ?_; (. (apply gLX1 <;> (repeat' (first | (with_reducible constructor) | exact Z5 | exact RF.mk (by decide) | (with_reducible apply Zad) | exact EQ.mk QQ42)); (all_goals exact QQ43))); (. (omega)); (rintro i h1; (show TX _ _ _ _ _ [(2, .ptr 0 0), (5, .g (.i (topG p (l.take i)))), (8, .g (.ints l)), (9, .g (.i l.length)), (10, .g (.i i))] [(0, .box [.g (.ints o), .g (.rows nx), .g (.ints p)])] _))) | apply gSel.ccons))
 (all_goals (first | (refine ZaA (i + 1) ?_ ?_ ?_; (· (apply gLX1 <;> (repeat' (first | (with_reducible constructor) | exact Z5 | exact RF.mk (by decide) | (with_reducible apply Zad) | exact EQ.mk QQ42)); (all_goals exact QQ43))); (· (omega)); (· exact ZW)) | (((refine Zad (EQ.mk ?_); rw [List.take_of_length_le (by omega)])); done)))
def Zl2 : Nat → List Nat
 | 0 => [0, 1]
 | 1 => [0, 1, 6]
 | 2 => [0, 1, 6, 20]
 | 3 => [4, 5]
 | 4 => [0, 1, 7]
 | 5 => [0, 1, 7, 8]
 | 6 => [0, 1, 7, 8, 9]
 | 7 => [0, 1, 7, 8, 9, 10]
 | 8 => [0, 1, 7, 8, 9, 10, 37, 38]
 | 9 => [0, 1, 7, 8, 9, 10, 37, 38, 39]
 | 10 => [0, 1, 7, 8, 9, 10, 11, 37, 38]
 | 11 => [0, 1, 7, 8, 9, 10, 37, 38]
 | 12 => [0, 1, 7, 8, 9, 10, 37, 38]
 | 13 => [0, 1, 7, 8, 9, 12]
 | 14 => [0, 1, 7, 8, 9, 12, 13, 14]
 | 15 => [0, 1, 7, 8, 9, 12, 13, 14, 15]
 | 16 => [0, 1, 7, 8, 9, 12, 13, 15, 77]
 | 17 => [0, 1, 7, 8, 9, 15]
 | 18 => [0, 1, 7, 8, 9, 15, 83]
 | 19 => [4, 5]
 | 20 => [0, 1, 7, 8, 9]
 | 21 => [0, 1, 7, 8, 9, 96]
 | 22 => [4, 5]
 | _ => []
theorem ZiT (args : Array Value) (w : World) : (callFunc 147 args).run Tryz.prog w = .ok (.enter 147 args) w := Zaa Tryz.func147 (by decide) rfl args w
set_option maxHeartbeats 1000000 in
theorem Zq9 (n : Nat) (o p : List Int) (nx pv : List (List Int)) (ins : List Bool) (hi : NU (ins.length = n ∧ n ≤ 1000000)) (he : HY (lstL ins n = [])) : Zoo Tryz.prog 147 (.box [.ints o, .rows nx, .ints p, .rows pv]) (.bools ins) := by
 have hi := hi.e
 have he := he.e
 have h0 : (lstL ins ins.length).length = 0 := (by rw [hi.1, he]; rfl)
 refine Zx7 Zl2 Zab (rs := [.tmp 4, .tmp 5]) (e := 1) (xs := ins.map GV.bool) Tryz.func147 rfl Tryz.ntmps147 rfl ZiT rfl ?_
 intro v_
 (repeat' (first | (with_reducible apply ZwT) | (with_reducible constructor) | exact Z2 | exact ZN | exact ZS | ((with_reducible apply Zaw); first | (exact Con.ex (Zbr ins (NU.mk (by omega))))) | (with_reducible intro hc; (try simp only [HCs] at hc)) | exact OB_f | (with_reducible first | apply gNK | apply Zaj | apply Zae | apply Zar | apply Zag | apply ZaG | apply Zai) | apply Zaf Zab | apply gSel.ccons))
 (all_goals (first | (exfalso; omega) | (((first | (refine Zax ?_; first | (simp_all; done) | (rw [Bool.eq_iff_iff]; simp only [Bool.and_eq_true, Bool.or_eq_true, decide_eq_true_eq, Bool.false_eq_true, false_iff, true_iff, iff_false, iff_true, not_and, not_or, Bool.not_eq_true, decide_eq_false_iff_not, beq_iff_eq, bne_iff_ne, ne_eq, Bool.not_eq_true', Bool.not_eq_false', Int.not_le, Int.not_lt]; omega)) | ((repeat (first | apply ZbK | apply ZaP | apply ZbT | apply Za1 | apply Zap)); all_goals (first | exact EQ.mk rfl | exact EQ.mk (by first | (simp; done) | fail) | exact EQ.mk (by first | (simp_all; done) | fail))))); done)))
def Zmd : Nat → List Nat
 | 0 => [0, 1]
 | 1 => [0, 1, 6]
 | 2 => [0, 1, 6, 20]
 | 3 => [4, 5]
 | 4 => [0, 1, 7]
 | 5 => [0, 1, 7, 8]
 | 6 => [0, 1, 7, 8, 9]
 | 7 => [0, 1, 7, 8, 9, 10]
 | 8 => [0, 1, 7, 8, 9, 10, 37, 38]
 | 9 => [0, 1, 7, 8, 9, 10, 37, 38, 39]
 | 10 => [0, 1, 7, 8, 9, 10, 11, 37, 38]
 | 11 => [0, 1, 7, 8, 9, 10, 37, 38]
 | 12 => [0, 1, 7, 8, 9, 10, 37, 38]
 | 13 => [0, 1, 7, 8, 9, 12]
 | 14 => [0, 1, 7, 8, 9, 12, 13, 14]
 | 15 => [0, 1, 7, 8, 9, 12, 13, 14, 15]
 | 16 => [0, 1, 7, 8, 9, 12, 13, 15, 77]
 | 17 => [0, 1, 7, 8, 9, 15]
 | 18 => [0, 1, 7, 8, 9, 15, 83]
 | 19 => [4, 5]
 | 20 => [0, 1, 7, 8, 9]
 | 21 => [0, 1, 7, 8, 9, 96]
 | 22 => [4, 5]
 | _ => []
theorem Ze8 (args : Array Value) (w : World) : (callFunc 147 args).run Tryz.prog w = .ok (.enter 147 args) w := Zaa Tryz.func147 (by decide) rfl args w
set_option maxRecDepth 20000 in
set_option maxHeartbeats 8000000 in
theorem Zrk (n : Nat) (o p : List Int) (nx pv : List (List Int)) (ins : List Bool) (hg : HY (GDt n o p nx)) (hp : HY (PRd n nx pv)) (hi : NU (ins.length = n ∧ n ≤ 1000000)) (ht : HY (TotL n nx ins)) (hpr : HY (∀ v, v < n → 0 ≤ nth p v ∧ nth p v ≤ 1000000)) (hne : HY (lstL ins n ≠ [])) (ih : HY (∀ ys : List Bool, ys.length = n → TotL n nx ys → lstL ys n ≠ [] → cnt n (inS n ys) < cnt n (inS n ins) → Con Tryz.prog 147 [.box [.ints o, .rows nx, .ints p, .rows pv], .bools ys] (.tup [.bools (winL n o p nx (whoL p ys n) ys), .i (whoL p ys n)]))) : Con Tryz.prog 147 [.box [.ints o, .rows nx, .ints p, .rows pv], .bools ins] (.tup [.bools (winL n o p nx (whoL p ins n) ins), .i (whoL p ins n)]) := by
 have hg := hg.e
 have hp := hp.e
 have hi := hi.e
 have ht := ht.e
 have hpr := hpr.e
 have hne := hne.e
 have ih := ih.e
 refine Con.fit Ze8 fun hfit => ?_
 have hb_ins : ins.length ≤ 9223372036854775807 := GFits.lenm (show GFits (.bools ins) from hfit 1 (ZL rfl))
 clear hfit
 have hpl := hg.lp; have hll := ZeN ins n; have ht0 := ZpI hpr hne; have hli := @ZbZ ins; have h0 : (lstL ins ins.length).length ≠ 0 := (by rw [hi.1]; intro h; exact hne (List.eq_nil_of_length_eq_zero h)); have hwr := who2 p ins n
 refine gCon Zmd Zab (rs := [.tmp 4, .tmp 5]) (sl := [(0, .g (.box [.ints o, .rows nx, .ints p, .rows pv])), (1, .g (.bools ins))]) Tryz.func147 rfl Tryz.ntmps147 rfl Ze8 rfl (by repeat constructor) ?_
 (repeat' (first | ((with_reducible apply ZpN 14); apply ZtP Zab (rid := 14) (lstL (Zcd n o p nx ins now) n = []) <;> intro hem) | (have _h := (by assumption : lstL (Zcd n o p nx ins now) n = []); with_reducible apply gAF.cself (f := 147)) | ((with_reducible apply Zsx); first | (exact Zq9 n o p nx pv (Zcd n o p nx ins now) (NU.mk ⟨ZbB, by omega⟩) (HY.mk (by assumption)))) | ((with_reducible apply gLI.cagg); (. exact RF.mk ⟨rfl, rfl, rfl⟩)) | ((with_reducible apply gLI.cone); (. exact RF.mk ⟨rfl, rfl⟩)) | (with_reducible constructor) | exact Z3 | exact NU.mk QQ41 | exact ZS | exact ZF | exact ZC | ((with_reducible apply Zbk); (. exact ZA); (. exact NU.mk QQ41)) | ((with_reducible apply Zaw); first | (exact Zbr ins (NU.mk (by omega))) | (have e9 := ZnK o p nx (lstL ins ins.length) (HY.mk fun x hx => by have q := hli.1 hx; omega) (NU.mk ⟨by rw [hi.1]; omega, by omega⟩); rw [hi.1, Zkk] at e9; (try rw [hi.1]); exact e9) | (have eg : List.take n (preL n v (fun x => nth now x && (nth p x == topL p ins n))) = Zgj p now (topL p ins n) n := (by rw [List.take_of_length_le (by rw [ZbF]; exact Nat.le_refl _)]; exact Zft (by omega)); rw [eg]; exact ZcH n o p nx pv (whoL p ins n) now (Zgj p now (topL p ins n) n) (HY.mk hg) (HY.mk hp) (NU.mk ⟨h2.len, Zow _ _ _ _, by omega⟩) (HY.mk h2.tot) (HY.mk fun v hv h => (ZkW hv h).1)) | ((try rw [List.take_of_length_le (Nat.le_of_eq (ZdM _ _))]); exact ZcY n now _ (NU.mk ⟨h2.len, ZdM _ _, by omega⟩)) | ((try rw [List.take_of_length_le (Nat.le_of_eq (ZaZ _ _))]); exact ih (Zcd n o p nx ins now) ZbB (Zk1 hg h2) (by assumption) (Zq2 hpr hne h2)) | ((try rw [List.take_of_length_le (Nat.le_of_eq (ZaZ _ _))]); (try rw [List.take_of_length_le (Nat.le_of_eq (ZbE _ _))]); exact ZcY n (Zcd n o p nx ins now) _ (NU.mk ⟨ZbB, ZbE _ _, by omega⟩)) | ((try rw [List.take_of_length_le (Nat.le_of_eq ZbB)]); exact ZcY n (Zcd n o p nx ins now) (Zcd n o p nx ins now) (NU.mk ⟨ZbB, ZbB, by omega⟩)) | ((try rw [List.take_of_length_le (Nat.le_of_eq (ZaZ _ _))]); (try rw [List.take_of_length_le (Nat.le_of_eq (ZbE _ _))]); (try rw [List.take_of_length_le (Nat.le_of_eq ZbB)]); (first | rw [Zlx hg h2 (by assumption)] | rw [Zlo (by assumption) (who2 _ _ _)] | rw [Zip (by assumption)] | rw [Ziv (by assumption)]); exact ZcH n o p nx pv (1 - (whoL p ins n)) now (Zeh n o p nx ins now) (HY.mk hg) (HY.mk hp) (NU.mk ⟨h2.len, Zif, by omega⟩) (HY.mk h2.tot) (HY.mk fun v hv h => Zk4 hv h)) | ((try rw [List.take_of_length_le (Nat.le_of_eq (ZaZ _ _))]); (try rw [List.take_of_length_le (Nat.le_of_eq (ZbE _ _))]); (try rw [List.take_of_length_le (Nat.le_of_eq ZbB)]); (first | rw [Zlx hg h2 (by assumption)] | rw [Zlo (by assumption) (who2 _ _ _)] | rw [Zip (by assumption)] | rw [Ziv (by assumption)]); exact Zd5 (Zeh n o p nx ins now)) | ((try rw [List.take_of_length_le (Nat.le_of_eq (ZaZ _ _))]); exact Zd5 (Zml n o p nx ins now))) | (with_reducible intro hc; (try simp only [HCs] at hc)) | exact OB_f | exact ZM | (with_reducible first | apply gNK | apply Zaj | apply Zae | apply Zam | apply Zar | apply Zag | apply ZaG | apply Zak | apply Zai | apply Zas | apply Zal | apply Zau | apply ZaO | apply Zat | apply ZaR | apply Zjk) | apply Zaf Zab | (apply ZaB; exact RF.mk rfl) | (refine Zah (id := 0) (ι := (List Bool) × Tg 0) (fun ⟨now, _⟩ => ⟨[(0, .g (.box [.ints o, .rows nx, .ints p, .rows pv])), (1, .g (.bools ins)), (7, .g (.i (topL p ins n))), (8, .g (.i (whoL p ins n))), (9, .own 0 0 n)], [(0, .arr 1 true (now.map GV.bool))]⟩) (fun ⟨now, _⟩ => (RND n o p nx ins now)) (fun ⟨now, _⟩ => cnt n (inS n now)) (ins, (Tg.t : Tg 0)) ?_ ?_ ?_; (. (apply gLX1 <;> (repeat' (first | (with_reducible constructor) | exact Z5 | exact RF.mk (by decide) | (with_reducible apply Zad) | exact EQ.mk QQ41)); (all_goals exact QQ40))); (. (exact RND.start hi.1 ht)); (rintro ⟨now, _⟩ h2; (try dsimp only at h2); have hnl := h2.len; (show TX _ _ _ _ _ [(0, .g (.box [.ints o, .rows nx, .ints p, .rows pv])), (1, .g (.bools ins)), (7, .g (.i (topL p ins n))), (8, .g (.i (whoL p ins n))), (9, .own 0 0 n)] [(0, .arr 1 true (now.map GV.bool))] _))) | (refine Zah (id := 2) (ι := Nat × Tg 2) (fun ⟨v, _⟩ => ⟨[(0, .g (.box [.ints o, .rows nx, .ints p, .rows pv])), (1, .g (.bools ins)), (7, .g (.i (topL p ins n))), (8, .g (.i (whoL p ins n))), (9, .own 0 0 n), (10, .own 1 0 n), (37, .g (.i n)), (38, .g (.i v))], [(0, .arr 1 true (now.map GV.bool)), (1, .arr 1 true ((preL n v (fun x => nth now x && (nth p x == topL p ins n))).map GV.bool))]⟩) (fun ⟨v, _⟩ => (v ≤ n)) (fun ⟨v, _⟩ => n - v) (0, (Tg.t : Tg 2)) ?_ ?_ ?_; (. (apply gLX2 <;> (repeat' (first | (with_reducible constructor) | exact Z5 | exact RF.mk (by decide) | (with_reducible apply Zad) | exact EQ.mk QQ41)); (all_goals exact QQ40))); (. (omega)); (rintro ⟨v, _⟩ h1; (try dsimp only at h1); (show TX _ _ _ _ _ [(0, .g (.box [.ints o, .rows nx, .ints p, .rows pv])), (1, .g (.bools ins)), (7, .g (.i (topL p ins n))), (8, .g (.i (whoL p ins n))), (9, .own 0 0 n), (10, .own 1 0 n), (37, .g (.i n)), (38, .g (.i v))] [(0, .arr 1 true (now.map GV.bool)), (1, .arr 1 true ((preL n v (fun x => nth now x && (nth p x == topL p ins n))).map GV.bool))] _))) | apply gSel.ccons))
 (all_goals (first | (refine ZaA ((Zml n o p nx ins now), (Tg.t : Tg 0)) ?_ ?_ ?_; (· (apply gLX1 <;> (repeat' (first | (with_reducible constructor) | exact Z5 | exact RF.mk (by decide) | (with_reducible apply Zad) | exact EQ.mk QQ41)); (all_goals exact QQ40))); (· (exact h2.next hg)); (· ((try dsimp only); (obtain ⟨x9, hx9, g9⟩ := Zpz (n := n) Zif (by assumption); exact ZrD hx9 g9)))) | (refine ZaA (v + 1, (Tg.t : Tg 2)) ?_ ?_ ?_; (· (apply gLX2 <;> (repeat' (first | (with_reducible constructor) | exact Z5 | exact RF.mk (by decide) | (with_reducible apply Zad) | exact EQ.mk QQ41)); (all_goals exact QQ40))); (· (omega)); (· exact ZW)) | (((refine ZbK (ZaP (Za1 (Zap (EQ.mk ?_))) (EQ.mk rfl)); (try rw [List.drop_zero]); (try rw [List.take_of_length_le (Nat.le_of_eq hnl)]); (try rw [List.take_of_length_le (Nat.le_of_eq (ZaZ _ _))]); first | exact h2.none hg (Zm0 Zif (by assumption)) | exact (h2.next hg).empty hg ZfD (Zm0 ZfD (by assumption)))); done)))
theorem ZmW (n : Nat) (o p : List Int) (nx pv : List (List Int)) (hg : HY (GDt n o p nx)) (hp : HY (PRd n nx pv)) (hpr : HY (∀ v, v < n → 0 ≤ nth p v ∧ nth p v ≤ 1000000)) (hn : NU (n ≤ 1000000)) : ∀ (c : Nat) (ins : List Bool), cnt n (inS n ins) < c → ins.length = n → TotL n nx ins → lstL ins n ≠ [] → Con Tryz.prog 147 [.box [.ints o, .rows nx, .ints p, .rows pv], .bools ins] (.tup [.bools (winL n o p nx (whoL p ins n) ins), .i (whoL p ins n)])
 | 0, _, h, _, _, _ => absurd h (by omega)
 | c + 1, ins, h, hl, ht, hne => Zrk n o p nx pv ins hg hp (NU.mk ⟨hl, hn.e⟩) (HY.mk ht) hpr (HY.mk hne) (HY.mk fun ys hy hty hny hc => ZmW n o p nx pv hg hp hpr hn c ys (by omega) hy hty hny)
end Go.Proofs.YtjjidamlmebaaaaGreat

