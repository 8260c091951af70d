/- Contracts: who wins a contest. No conditions but those that each theorem names. -/
import Derived.Test.YtjjidamlmebaaaaGreatTab
import Derived.Test.YtjjidamlmebaaaaGreatKG
import Derived.Test.YtjjidamlmebaaaaGreatQ8
import Derived.Test.YtjjidamlmebaaaaGreatMB
import Derived.Test.YtjjidamlmebaaaaGreatZV
import Derived.Test.YtjjidamlmebaaaaGreatM6
import Derived.Test.YtjjidamlmebaaaaGreatChecked
set_option linter.unusedSimpArgs false
set_option linter.unusedVariables false
namespace Go.Proofs.YtjjidamlmebaaaaGreat
open Go.RowKit
open Shp
theorem QQ91 {p : Prop} (h : p := by first | exact ZO | (first | omega | (rw [ZaQ]; omega))) : p := h
theorem QQ90 {p : Prop} (h : p := by ((first | exact EQ.mk rfl | (refine EQ.mk ?_; first | exact ZaQ _ | (rw [ZaQ]; done) | omega | (simp only [List.length_append, ZaQ, List.length_singleton]; omega)) | (refine Zap (EQ.mk ?_); first | rfl | exact Zkv _)); done)) : p := h
def Zg9 : Nat → List Nat
 | 0 => [2, 3, 4, 6]
 | 1 => [3, 4, 6, 9]
 | 2 => [3, 4, 6, 9, 14, 15]
 | 3 => [3, 4, 6, 9, 14, 15, 16]
 | 4 => [3, 4, 6, 9, 10, 14, 15]
 | 5 => [3, 4, 6, 9, 14, 15]
 | 6 => [3, 4, 6, 9, 14, 15]
 | 7 => [6, 7, 8]
 | _ => []
theorem Zfe (args : Array Value) (w : World) : (callFunc 73 args).run Tryz.prog w = .ok (.enter 73 args) w := Zaa Tryz.func73 (by decide) rfl args w
set_option maxRecDepth 20000 in
set_option maxHeartbeats 1000000 in
theorem ZdP (n : Nat) (o : List Int) (nx : List (List Int)) (ps : List (List Int × List Int)) (st : Int) (ha : HY (AOK n o nx)) (hs : NU (0 ≤ st ∧ st < n ∧ ps.length ≤ 4)) : ConU Tryz.prog 73 [.arena o nx, .pairs ps, .i st] (.agg [.ints (recR o nx ps st).ow, .rows (recR o nx ps st).nx, .ints (recR o nx ps st).pr]) (.bool (!recO o nx ps st)) := by
 have ha := ha.e
 have hs := hs.e
 have hst := And.intro hs.1 hs.2.1; have a1 := ha.n1; have a2 := ha.lo; have a3 := ha.ln
 refine Zx5 Zg9 Zab (rs := [.cell 6 87, .tmp 7, .tmp 8]) (sl := [(0, .g (.arena o nx)), (1, .g (.pairs ps)), (2, .g (.i st))]) Tryz.func73 rfl Tryz.ntmps73 rfl Zfe rfl (by repeat constructor) ?_
 (repeat' (first | (with_reducible apply Zr0) | ((with_reducible apply gAF.cunk (f := 108))) | ((with_reducible apply Zr4); first | ((have e9 : m = ps.length := (by omega)); rw [e9]; (try rw [List.take_of_length_le (by rw [ZaQ]; omega)]); exact Zeg n o nx ps st 109 111 (HY.mk ha) (NU.mk hs) (HY.mk fun v r h1 h2 => Zhp ps r v (HY.mk h1) (NU.mk ⟨by omega, by omega⟩)) (HY.mk fun v r h1 h2 => Zhe ps r v (HY.mk h1) (NU.mk ⟨by omega, by omega⟩))) | apply Zeg) | ((with_reducible apply gLB.cagg); (. exact RF.mk ⟨rfl, rfl, rfl⟩)) | ((with_reducible apply gLB.cone); (. exact RF.mk ⟨rfl, rfl⟩)) | (with_reducible constructor) | exact Z4 | exact NU.mk QQ91 | exact ZS | exact ZF | exact ZC | (with_reducible intro hc; (try simp only [HCs] at hc)) | exact OB_f | (with_reducible first | apply gNK | apply Zaj | apply Zae | apply Zam | apply Zag | apply ZaG | apply Zak | apply Zai | apply Zas | apply Zal | apply Zau | apply Zat) | apply Zaf Zab | (apply ZaB; exact RF.mk rfl) | (refine Zah (id := 0) (ι := Nat) (fun m => ⟨[(3, .ptr 3 0), (4, .ptr 4 0), (6, .ptr 0 0), (9, .ptr 1 0), (14, .g (.i ps.length)), (15, .g (.i m))], [(0, .box [.nils 1, .nils 1, .nils 1]), (1, .box [.g (.i st), .own 2 0 m]), (2, .arr 1 true ((upI m).map GV.i)), (3, .box [.g (.ints o), .g (.rows nx)]), (4, .box [.g (.pairs ps)])]⟩) (fun m => (m ≤ ps.length)) (fun m => ps.length - m) (0) ?_ ?_ ?_; (. (apply Zcx (t := 9) (c := 1) (k := 900000); (. (repeat' (first | (with_reducible constructor) | exact Z4))); (. (repeat' (first | (with_reducible constructor) | exact Z4))); (. exact RF.mk rfl); (. (repeat' (first | (with_reducible constructor) | exact Z4))); (. (apply RF.mk; dsimp only [List.set])); apply gLX5 <;> (repeat' (first | (with_reducible constructor) | exact Z5 | exact RF.mk (by decide) | (with_reducible apply Zad) | exact EQ.mk QQ91)); (all_goals exact QQ90))); (. (omega)); (rintro m h0; have hu := ZaQ m; (show TX _ _ _ _ _ [(3, .ptr 3 0), (4, .ptr 4 0), (6, .ptr 0 0), (9, .ptr 1 0), (14, .g (.i ps.length)), (15, .g (.i m))] [(0, .box [.nils 1, .nils 1, .nils 1]), (1, .box [.g (.i st), .own 2 0 m]), (2, .arr 1 true ((upI m).map GV.i)), (3, .box [.g (.ints o), .g (.rows nx)]), (4, .box [.g (.pairs ps)])] _))) | apply gSel.ccons))
 (all_goals (first | (refine ZaA (m + 1) ?_ ?_ ?_; (· (apply gLX5 <;> (repeat' (first | (with_reducible constructor) | exact Z5 | exact RF.mk (by decide) | (with_reducible apply Zad) | exact EQ.mk QQ91)); (all_goals exact QQ90))); (· (omega)); (· exact ZW)) | ((exact EQ.mk rfl); done)))
def Zfo : Nat → List Nat
 | 0 => [1, 2, 3]
 | 1 => [1, 2, 3, 25]
 | 2 => [6]
 | 3 => [7, 9]
 | 4 => [7, 35]
 | 5 => [6]
 | 6 => [6]
 | _ => []
theorem ZbP (args : Array Value) (w : World) : (callFunc 37 args).run Tryz.prog w = .ok (.enter 37 args) w := Zaa Tryz.func37 (by decide) rfl args w
set_option maxHeartbeats 1000000 in
theorem Zho (n : Nat) (o : List Int) (nx : List (List Int)) (ps : List (List Int × List Int)) (st : Int) (ha : HY (AOK n o nx)) (hs : NU (0 ≤ st ∧ st < n ∧ ps.length ≤ 4)) (hq : HY (ZbR ps n = true)) : Con Tryz.prog 37 [.arena o nx, .pairs ps, .i st] (.i (wonP o nx ps st)) := by
 have ha := ha.e
 have hs := hs.e
 have hq := hq.e
 refine Con.fit ZbP fun hfit => ?_
 have hb_ps : ps.length ≤ 9223372036854775807 := GFits.lenm (show GFits (.pairs ps) from hfit 1 (ZL rfl))
 have hr_ps : ∀ r ∈ ps, r.1.length ≤ 9223372036854775807 ∧ r.2.length ≤ 9223372036854775807 := fun r hr => ⟨GFits.ints (GFits.cell (GFits.elm (show GFits (.pairs ps) from hfit 1 (ZL rfl)) r hr) (.head _)), GFits.ints (GFits.cell (GFits.elm (show GFits (.pairs ps) from hfit 1 (ZL rfl)) r hr) (.tail _ (.head _)))⟩
 clear hfit
 have hst := And.intro hs.1 hs.2.1; have a1 := ha.n1; have a2 := ha.lo; have a3 := ha.ln
 refine gCon Zfo Zab (rs := [.tmp 6]) (sl := [(0, .g (.arena o nx)), (1, .g (.pairs ps)), (2, .g (.i st))]) Tryz.func37 rfl Tryz.ntmps37 rfl ZbP rfl (by repeat constructor) ?_
 (repeat' (first | ((with_reducible apply gAF.cunk (f := 73))) | ((with_reducible apply Zr4); first | (exact ZgP n o nx (HY.mk ha)) | (have e9 := Zge o nx (NU.mk (by omega)); exact e9) | (have e9 := ZdN ps n; rw [hq] at e9; (try rw [a2]); exact e9) | (have e9 := Ze9 o nx st (NU.mk (by omega)); rw [a2, decide_eq_true (show 0 ≤ st by omega), decide_eq_true (show st < (n : Int) by omega), Bool.true_and] at e9; exact e9) | (exact ZdP n o nx ps st (HY.mk ha) (NU.mk hs)) | (have hov : recO o nx ps st = false := (by first | assumption | (simp_all; done)); have hk := ZdK ha hst hs.2.2 hov; have hk1 := hk.a.n1; have hk2 := hk.lp; have hk3 := hk.a.lo; (try rw [Zl4 hov]); (try rw [List.take_of_length_le (Nat.le_refl _)]); exact ZgN _ _ _ _ (HY.mk hk)) | apply ZdP) | ((with_reducible apply gLB.cagg); (. exact RF.mk ⟨rfl, rfl, rfl⟩)) | ((with_reducible apply gLI.cone); (. exact RF.mk ⟨rfl, rfl⟩)) | (with_reducible constructor) | exact Z3 | exact NU.mk (by first | exact ZO | (first | omega | (have hov : recO o nx ps st = false := (by first | assumption | (simp_all; done)); have hk := ZdK ha hst hs.2.2 hov; have hk1 := hk.a.n1; have hk2 := hk.lp; have hk3 := hk.a.lo; rw [ZeI]; omega) | (have hov : recO o nx ps st = false := (by first | assumption | (simp_all; done)); have hk := ZdK ha hst hs.2.2 hov; have hk1 := hk.a.n1; have hk2 := hk.lp; have hk3 := hk.a.lo; omega))) | exact ZS | exact ZC | ((with_reducible apply Zaw); first | (exact ZgP n o nx (HY.mk ha)) | (have e9 := Zge o nx (NU.mk (by omega)); exact e9) | (have e9 := ZdN ps n; rw [hq] at e9; (try rw [a2]); exact e9) | (have e9 := Ze9 o nx st (NU.mk (by omega)); rw [a2, decide_eq_true (show 0 ≤ st by omega), decide_eq_true (show st < (n : Int) by omega), Bool.true_and] at e9; exact e9) | (exact ZdP n o nx ps st (HY.mk ha) (NU.mk hs)) | (have hov : recO o nx ps st = false := (by first | assumption | (simp_all; done)); have hk := ZdK ha hst hs.2.2 hov; have hk1 := hk.a.n1; have hk2 := hk.lp; have hk3 := hk.a.lo; (try rw [Zl4 hov]); (try rw [List.take_of_length_le (Nat.le_refl _)]); exact ZgN _ _ _ _ (HY.mk hk))) | (with_reducible intro hc; (try simp only [HCs] at hc)) | exact OB_f | (with_reducible first | apply gNK | apply Zaj | apply Zae | apply Zar | apply Zag | apply CK_t | apply ZaG | apply Zak | apply Zai | apply Zao) | apply Zaf Zab | apply gSel.ccons))
 (all_goals (first | (((refine Zad (EQ.mk ?_); first | exact (ZmR (by first | assumption | (simp_all; done))).symm | (have hov : recO o nx ps st = false := (by first | assumption | (simp_all; done)); have hk := ZdK ha hst hs.2.2 hov; have hk1 := hk.a.n1; have hk2 := hk.lp; have hk3 := hk.a.lo; rw [Zmn hov]; exact ZrO hk))); done)))
def Zi1 : Nat → List Nat
 | 0 => [2, 3, 4]
 | 1 => [2, 7, 8]
 | 2 => [10, 12]
 | 3 => [10, 31]
 | 4 => [6]
 | 5 => [13]
 | 6 => [6]
 | _ => []
theorem Zdo (args : Array Value) (w : World) : (callFunc 31 args).run Tryz.prog w = .ok (.enter 31 args) w := Zaa Tryz.func31 (by decide) rfl args w
set_option maxHeartbeats 1000000 in
theorem Zl0 (i o : Int) (n : List (List Int)) (ps : List (List Int × List Int)) (q : Nat) (hd : HY (detB i o n ps = true)) (hq : NU (q < n.length)) : Con Tryz.prog 31 [.sig i o, .det n ps, .i q] (.i (wonQ i o n ps q)) := by
 have hd := hd.e
 have hq := hq.e
 refine Con.fit Zdo fun hfit => ?_
 have hb_n : n.length ≤ 9223372036854775807 := GFits.lenm (GFits.cell (show GFits (.det n ps) from hfit 1 (ZL rfl)) (.head _))
 have hr_n : ∀ r ∈ n, r.length ≤ 9223372036854775807 := fun r hr => GFits.ints (GFits.elm (GFits.cell (show GFits (.det n ps) from hfit 1 (ZL rfl)) (.head _)) r hr)
 have hb_ps : ps.length ≤ 9223372036854775807 := GFits.lenm (GFits.cell (show GFits (.det n ps) from hfit 1 (ZL rfl)) (.tail _ (.head _)))
 have hr_ps : ∀ r ∈ ps, r.1.length ≤ 9223372036854775807 ∧ r.2.length ≤ 9223372036854775807 := fun r hr => ⟨GFits.ints (GFits.cell (GFits.elm (GFits.cell (show GFits (.det n ps) from hfit 1 (ZL rfl)) (.tail _ (.head _))) r hr) (.head _)), GFits.ints (GFits.cell (GFits.elm (GFits.cell (show GFits (.det n ps) from hfit 1 (ZL rfl)) (.tail _ (.head _))) r hr) (.tail _ (.head _)))⟩
 clear hfit
 have hD := Zdg hd; have hca := Znd hd; have hcp := Zgu hd; have hcn : Zek i n = n.length + n.length * (pw i).toNat := rfl; have hc1 := hca.n1; have hclo := hca.lo
 refine gCon Zi1 Zab (rs := [.tmp 6]) (sl := [(0, .g (.sig i o)), (1, .g (.det n ps)), (2, .g (.i q))]) Tryz.func31 rfl Tryz.ntmps31 rfl Zdo rfl (by repeat constructor) ?_
 (repeat' (first | ((with_reducible apply gLB.cagg); (. exact RF.mk ⟨rfl, rfl, rfl⟩)) | (with_reducible constructor) | exact Z3 | exact NU.mk (by first | exact ZO | (first | omega | (have hov : recO (Ze0 i n) (Zdw i o n) ps q = false := (by first | assumption | (simp_all; done)); have hk := ZdK hca (by omega) hcp.2 hov; have hk1 := hk.a.n1; have hk2 := hk.lp; have hk3 := hk.a.lo; omega) | (have q8 := Zry; have q9 := q8 (has (lstL (winL (recF (Ze0 i n) (Zdw i o n) ps q).pl.length (recF (Ze0 i n) (Zdw i o n) ps q).ow (recF (Ze0 i n) (Zdw i o n) ps q).pr (recF (Ze0 i n) (Zdw i o n) ps q).nx 0 (List.replicate (recF (Ze0 i n) (Zdw i o n) ps q).pl.length true)) (recF (Ze0 i n) (Zdw i o n) ps q).pl.length) 0); omega))) | exact ZC | ((with_reducible apply Zaw); first | (have e9 := Zjb i o n ps; rw [Zop hd] at e9; exact e9) | ((try rw [List.take_of_length_le (Nat.le_refl _)]); exact Zkj (Zek i n) (Ze0 i n) (Zdw i o n) ps q (HY.mk hca) (NU.mk ⟨by omega, by omega, hcp.2⟩) (HY.mk hcp.1)) | (have hov : recO (Ze0 i n) (Zdw i o n) ps q = false := (by first | assumption | (simp_all; done)); have hk := ZdK hca (by omega) hcp.2 hov; have hk1 := hk.a.n1; have hk2 := hk.lp; have hk3 := hk.a.lo; (try rw [Zl4 hov]); (try rw [List.take_of_length_le (Nat.le_refl _)]); first | exact ZnC _ _ _ _ (NU.mk ⟨by omega, hk2⟩) | exact Zjv _ _ _ _ (HY.mk hk) | ((try rw [List.take_of_length_le (Nat.le_of_eq (ZaQ _))]); exact Zjv _ _ _ _ (HY.mk hk))) | apply Zmh | apply ZnA) | (with_reducible intro hc; (try simp only [HCs] at hc)) | exact OB_f | exact ZK | (with_reducible first | apply gNK | apply Zaj | apply Zae | apply Zar | apply Zag | apply ZaG | apply Zak | apply Zai | apply Zao) | apply Zaf Zab | apply Za4 Zab rfl | apply gSel.ccons))
 (all_goals (first | (((refine Zad (EQ.mk ?_); unfold wonQ; first | exact (ZmR (by first | assumption | (simp_all; done))).symm | (have hov : recO (Ze0 i n) (Zdw i o n) ps q = false := (by first | assumption | (simp_all; done)); have hk := ZdK hca (by omega) hcp.2 hov; have hk1 := hk.a.n1; have hk2 := hk.lp; have hk3 := hk.a.lo; rw [Zmn hov]; unfold wonG bit; (try rw [ZmQ (by omega)]); simp_all; done) | (have hov : recO (Ze0 i n) (Zdw i o n) ps q = false := (by first | assumption | (simp_all; done)); have hk := ZdK hca (by omega) hcp.2 hov; have hk1 := hk.a.n1; have hk2 := hk.lp; have hk3 := hk.a.lo; rw [Zmn hov]; unfold wonG bit; (try rw [ZmQ (by omega)]); split <;> simp_all))); done)))
def ZfF : Nat → List Nat
 | 0 => [2, 3]
 | 1 => [2, 3, 8]
 | 2 => [4]
 | 3 => [4]
 | _ => []
theorem Zb9 (args : Array Value) (w : World) : (callFunc 13 args).run Tryz.prog w = .ok (.enter 13 args) w := Zaa Tryz.func13 (by decide) rfl args w
set_option maxHeartbeats 1000000 in
theorem Ziw (i o : Int) (n : List (List Int)) (ps : List (List Int × List Int)) : Con Tryz.prog 13 [.sig i o, .det n ps] (.i (cwB i o n ps)) := by
 refine Con.fit Zb9 fun hfit => ?_
 have hb_n : n.length ≤ 9223372036854775807 := GFits.lenm (GFits.cell (show GFits (.det n ps) from hfit 1 (ZL rfl)) (.head _))
 have hr_n : ∀ r ∈ n, r.length ≤ 9223372036854775807 := fun r hr => GFits.ints (GFits.elm (GFits.cell (show GFits (.det n ps) from hfit 1 (ZL rfl)) (.head _)) r hr)
 have hb_ps : ps.length ≤ 9223372036854775807 := GFits.lenm (GFits.cell (show GFits (.det n ps) from hfit 1 (ZL rfl)) (.tail _ (.head _)))
 have hr_ps : ∀ r ∈ ps, r.1.length ≤ 9223372036854775807 ∧ r.2.length ≤ 9223372036854775807 := fun r hr => ⟨GFits.ints (GFits.cell (GFits.elm (GFits.cell (show GFits (.det n ps) from hfit 1 (ZL rfl)) (.tail _ (.head _))) r hr) (.head _)), GFits.ints (GFits.cell (GFits.elm (GFits.cell (show GFits (.det n ps) from hfit 1 (ZL rfl)) (.tail _ (.head _))) r hr) (.tail _ (.head _)))⟩
 clear hfit
 refine gCon ZfF Zab (rs := [.tmp 4]) (sl := [(0, .g (.sig i o)), (1, .g (.det n ps))]) Tryz.func13 rfl Tryz.ntmps13 rfl Zb9 rfl (by repeat constructor) ?_
 (repeat' (first | ((with_reducible apply gLB.cagg); (. exact RF.mk ⟨rfl, rfl, rfl⟩)) | (with_reducible constructor) | exact Z2 | ((with_reducible apply Zaw); first | (exact Zl0 i o n ps 0 (HY.mk (by assumption)) (NU.mk (Zdg (show detB i o n ps = true by assumption)).2.1)) | apply Zjg) | (with_reducible intro hc; (try simp only [HCs] at hc)) | exact OB_f | (with_reducible first | apply gNK | apply Zaj | apply Zae | apply Zar | apply Zag | apply ZaG | apply Zak | apply Zai | apply Zao) | apply Zaf Zab | apply gSel.ccons))
 (all_goals (first | (((refine Zad (EQ.mk ?_); first | exact (Zqu (by assumption)).symm | (rw [Zqu (by assumption)]; (try first | rfl | (simp_all; done))) | (rw [ZoJ (by assumption)]; done) | (rw [Zrf (by assumption)]; done) | (rcases hc with hc | hc <;> first | (rw [ZoJ (by assumption)]; done) | (rw [Zrf (by assumption)]; done)) | (simp_all; done))); done)))
def Zfy : Nat → List Nat
 | 0 => [2, 3]
 | 1 => [2, 3, 15]
 | 2 => [4]
 | 3 => [5, 6]
 | 4 => [4]
 | _ => []
theorem Zb7 (args : Array Value) (w : World) : (callFunc 15 args).run Tryz.prog w = .ok (.enter 15 args) w := Zaa Tryz.func15 (by decide) rfl args w
set_option maxHeartbeats 1000000 in
theorem Zh1 (i o : Int) (n : List (List Int)) (ps : List (List Int × List Int)) : Con Tryz.prog 15 [.sig i o, .det n ps] (.i (cwB i o n ps)) := by
 refine Con.fit Zb7 fun hfit => ?_
 have hb_n : n.length ≤ 9223372036854775807 := GFits.lenm (GFits.cell (show GFits (.det n ps) from hfit 1 (ZL rfl)) (.head _))
 have hr_n : ∀ r ∈ n, r.length ≤ 9223372036854775807 := fun r hr => GFits.ints (GFits.elm (GFits.cell (show GFits (.det n ps) from hfit 1 (ZL rfl)) (.head _)) r hr)
 have hb_ps : ps.length ≤ 9223372036854775807 := GFits.lenm (GFits.cell (show GFits (.det n ps) from hfit 1 (ZL rfl)) (.tail _ (.head _)))
 have hr_ps : ∀ r ∈ ps, r.1.length ≤ 9223372036854775807 ∧ r.2.length ≤ 9223372036854775807 := fun r hr => ⟨GFits.ints (GFits.cell (GFits.elm (GFits.cell (show GFits (.det n ps) from hfit 1 (ZL rfl)) (.tail _ (.head _))) r hr) (.head _)), GFits.ints (GFits.cell (GFits.elm (GFits.cell (show GFits (.det n ps) from hfit 1 (ZL rfl)) (.tail _ (.head _))) r hr) (.tail _ (.head _)))⟩
 clear hfit
 refine gCon Zfy Zab (rs := [.tmp 4]) (sl := [(0, .g (.sig i o)), (1, .g (.det n ps))]) Tryz.func15 rfl Tryz.ntmps15 rfl Zb7 rfl (by repeat constructor) ?_
 (repeat' (first | ((with_reducible apply gLB.cagg); (. exact RF.mk ⟨rfl, rfl, rfl⟩)) | (with_reducible constructor) | exact Z3 | exact ZN | exact ZC | ((with_reducible apply Zaw); first | (exact ZiS i o n ps (HY.mk (by assumption))) | (have hd9 : detB i o n ps = true := (by assumption); have hD := Zdg hd9; (try rw [List.take_of_length_le (Nat.le_refl _)]); have e9 := Zho (Zek i n) (Ze0 i n) (Zdw i o n) ps 0 (HY.mk (Znd hd9)) (NU.mk ⟨by omega, by unfold Zek; omega, (Zgu hd9).2⟩) (HY.mk (Zgu hd9).1); rw [show wonP (Ze0 i n) (Zdw i o n) ps 0 = wonQ i o n ps 0 from rfl] at e9; exact e9) | apply Znu | apply ZnX) | (with_reducible intro hc; (try simp only [HCs] at hc)) | exact OB_f | (with_reducible first | apply gNK | apply Zaj | apply Zae | apply Zar | apply Zag | apply CK_t | apply ZaG | apply Zak | apply Zai | apply Zao) | apply Zaf Zab | apply gSel.ccons))
 (all_goals (first | (((refine Zad (EQ.mk ?_); first | exact (Zqu (by assumption)).symm | (rw [Zqu (by assumption)]; (try first | rfl | (simp_all; done))) | (rw [ZoJ (by assumption)]; done) | (rw [Zrf (by assumption)]; done) | (rcases hc with hc | hc <;> first | (rw [ZoJ (by assumption)]; done) | (rw [Zrf (by assumption)]; done)) | (simp_all; done))); done)))
end Go.Proofs.YtjjidamlmebaaaaGreat

