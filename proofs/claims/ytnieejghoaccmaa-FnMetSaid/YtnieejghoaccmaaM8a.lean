/- Contracts: automata joined. No conditions but those that each theorem names. -/
import Derived.Test.YtnieejghoaccmaaTab
import Derived.Test.YtnieejghoaccmaaKG
import Derived.Test.YtnieejghoaccmaaM8d
import Derived.Test.YtnieejghoaccmaaPO
import Derived.Test.YtnieejghoaccmaaChecked
set_option linter.unusedSimpArgs false
set_option linter.unusedVariables false
namespace Go.Proofs.Ytnieejghoaccmaa
open Go.RowKit
open Shp
theorem Zvc {p : Prop} (h : p := by ((first | exact EQ.mk rfl | exact EQ.mk (by first | (simp; done) | fail) | (refine EQ.mk ?_; simp only [List.length_append, List.length_take, Zdm, List.length_singleton, List.length_cons, List.length_nil]; omega) | (refine EQ.mk ?_; rw [show x = (colR ms t).length by omega, ← ZkI (by omega), List.map_append, List.take_take, Nat.min_self]; rfl)); done)) : p := h
theorem Zvb {p : Prop} (h : p := by ((first | exact EQ.mk rfl | exact EQ.mk (by first | (simp [Za7]; done) | fail) | (refine EQ.mk ?_; first | (rw [← ZeV (by omega) (by assumption)]; done) | (rw [← ZeV (by omega) (by assumption)]; simp; done) | (rw [← ZiC (by omega) (by assumption)]; done)) | (refine ZaS (EQ.mk ?_); first | exact ZeV (by omega) (by assumption) | exact ZiC (by omega) (by assumption))); done)) : p := h
theorem Zno {p : Prop} (h : p := by first | exact ZO | (first | omega | (have q2 := Zlb (os := os) (k := i) (by omega); rw [q2]; decide))) : p := h
theorem ZkV {p : Prop} (h : p := by first | exact ZO | (first | omega | (have q2 := hm x (by omega); omega) | (have q3 := hr_ps (nth ps q) (Zbk (by omega)); omega) | (have q4 := Zem (s := (nth ps q).1) (xs := colR ms t) (i := x); have q5 := Zem (s := (nth ps q).2) (xs := colR ms t) (i := x); omega) | (simp only [List.length_take, Zdm]; omega))) : p := h
def ZgJ : Nat → List Nat
 | 0 => [0, 1, 2]
 | 1 => [0, 1, 2, 7]
 | 2 => [0, 1, 2, 7, 11]
 | 3 => [0, 1, 2, 7]
 | 4 => [0, 1, 2, 7, 31]
 | 5 => [6]
 | 6 => [6]
 | _ => []
theorem Ze0 (args : Array Value) (w : World) : (callFunc 93 args).run Try.prog w = .ok (.enter 93 args) w := Zab Try.func93 (by decide) rfl args w
set_option maxHeartbeats 1000000 in
theorem Zfq (os : List (Int × Int)) (p q : Int) (ho : NU (os.length ≤ 4000)) : Con Try.prog 93 [.rows (prR os), .i p, .i q] (.i (ZbH os (p, q))) := by
 have ho := ho.e
 have hl := Zbb (os := os)
 refine gCon ZgJ Zac (rs := [.tmp 6]) (sl := [(0, .g (.rows (prR os))), (1, .g (.i p)), (2, .g (.i q))]) Try.func93 rfl Try.ntmps93 rfl Ze0 rfl (by repeat constructor) ?_
 (repeat' (first | ((with_reducible apply gLB.cagg); (. exact RF.mk ⟨rfl, rfl, rfl⟩)) | ((with_reducible apply gLB.cone); (. exact RF.mk ⟨rfl, rfl⟩)) | ((with_reducible apply gLI.cagg); (. exact RF.mk ⟨rfl, rfl, rfl⟩)) | ((with_reducible apply gLI.cone); (. exact RF.mk ⟨rfl, rfl⟩)) | ((with_reducible apply gAF.cbuildA); (. exact RF.mk rfl); (. exact RF.mk ⟨rfl, rfl, rfl, rfl⟩)) | (with_reducible constructor) | exact Z4 | exact NU.mk Zno | exact ZI | exact ZS | exact ZF | exact ZG | exact ZC | ((with_reducible apply ZaT); (. exact ZA); (. exact NU.mk Zno)) | exact ZQ | (with_reducible apply Zay) | (apply ZaB) | (with_reducible apply Zaf) | ((with_reducible apply ZaU); (. exact NU.mk Zno); (. rfl)) | (with_reducible apply ZaC) | (apply Zaw) | (with_reducible intro hc; (try simp only [HCs] at hc)) | exact OB_f | exact DEC.mk (by decide) | exact ZM | exact ZT | exact ZK | (with_reducible first | apply gNK | apply ZaH | apply Zal | apply Zaj | apply Zai | apply Zam | apply CK_t | apply CK_f | apply ZaQ | apply Zar | apply ZaF | apply Zau | apply Zah | apply Zag | apply Zak | apply Zav | apply ZaA | apply Zax | apply Zaz | apply Zat | apply Zas | apply ZaR | apply ZaG | apply ZaE | apply ZaP) | apply Zaq Zac | apply Zao Zac rfl | (apply ZaD; exact RF.mk rfl) | exact EQ.mk rfl | (refine ZaN (id := 0) (ι := Nat) (fun i => ⟨[(0, .g (.rows (prR os))), (1, .g (.i p)), (2, .g (.i q)), (7, .g (.i i))], []⟩) (fun i => (i ≤ os.length) ∧ (∀ z, z < i → decide (nth os z = (p, q)) = false)) (fun i => os.length - i) (0) ?_ ?_ ?_; (. (apply gLX0 <;> (repeat' (first | (with_reducible constructor) | exact Z5 | exact RF.mk (by decide) | (with_reducible apply Zan) | exact EQ.mk Zno)))); (. (exact ⟨by omega, Zey⟩)); (rintro i ⟨h1, h2⟩; (show TX _ _ _ _ _ [(0, .g (.rows (prR os))), (1, .g (.i p)), (2, .g (.i q)), (7, .g (.i i))] [] _))) | exact gSel.cnil _ | apply gSel.ccons | apply gCG.cagg))
 (all_goals (first | (refine Zbf (i + 1) ?_ ?_ ?_; (· (apply gLX0 <;> (repeat' (first | (with_reducible constructor) | exact Z5 | exact RF.mk (by decide) | (with_reducible apply Zan) | exact EQ.mk Zno)))); (· ((refine ⟨by omega, Zen h2 ?_⟩; first | exact Zl7 (by omega) (by assumption) | exact Zmg (by omega) (by assumption)))); (· exact ZW)) | (((refine Zan (EQ.mk ?_); first | exact ZkS (by omega) h2 | exact ZmM (by omega) (by assumption) (by assumption) h2)); done)))
def Zgq : Nat → List Nat
 | 0 => [0, 1, 2]
 | 1 => [0, 1, 2, 7]
 | 2 => [0, 1, 2, 7, 8]
 | 3 => [0, 1, 2, 7, 8, 15]
 | 4 => [0, 1, 2, 7, 8]
 | 5 => [0, 1, 2, 7, 8, 9]
 | 6 => [0, 1, 2, 7, 8, 9, 10]
 | 7 => [0, 1, 2, 7, 8, 9, 10, 22]
 | 8 => [0, 1, 2, 7, 8, 9, 10]
 | 9 => [0, 1, 2, 7, 8, 9, 10, 37]
 | 10 => [0, 1, 2, 7, 8, 9, 10]
 | 11 => [0, 1, 2, 7, 8, 9, 10, 56]
 | 12 => [0, 1, 2, 7, 8, 9, 10]
 | 13 => [0, 1, 2, 7, 8]
 | 14 => [6]
 | _ => []
theorem ZcA (args : Array Value) (w : World) : (callFunc 94 args).run Try.prog w = .ok (.enter 94 args) w := Zab Try.func94 (by decide) rfl args w
set_option maxHeartbeats 1000000 in
theorem Zcs (ps : List (List Int × List Int)) (ms : List (List Int)) (t : Nat) (hm : HY (∀ i, i < ms.length → t < (nth ms i).length)) (hp : NU (ps.length ≤ 4)) (hn : NU (ms.length ≤ 4000)) : Con Try.prog 94 [.pairs ps, .rows ms, .i t] (.pairs (Zd0 ps ms t)) := by
 have hm := hm.e
 have hp := hp.e
 have hn := hn.e
 refine Con.fit ZcA fun hfit => ?_
 have hb_ps : ps.length ≤ 9223372036854775807 := GFits.lenm (show GFits (.pairs ps) from hfit 0 (ZL rfl))
 have hr_ps : ∀ r ∈ ps, r.1.length ≤ 9223372036854775807 ∧ r.2.length ≤ 9223372036854775807 := fun r hr => ⟨GFits.ints (GFits.cell (GFits.elm (show GFits (.pairs ps) from hfit 0 (ZL rfl)) r hr) (.head _)), GFits.ints (GFits.cell (GFits.elm (show GFits (.pairs ps) from hfit 0 (ZL rfl)) r hr) (.tail _ (.head _)))⟩
 have hb_ms : ms.length ≤ 9223372036854775807 := GFits.lenm (show GFits (.rows ms) from hfit 1 (ZL rfl))
 have hr_ms : ∀ r ∈ ms, r.length ≤ 9223372036854775807 := fun r hr => GFits.ints (GFits.elm (show GFits (.rows ms) from hfit 1 (ZL rfl)) r hr)
 clear hfit
 have hcl := ZpZ (ms := ms) (t := t); have hpl := Zdm (ps := ps) (ms := ms) (t := t)
 refine gCon Zgq Zac (rs := [.tmp 6]) (sl := [(0, .g (.pairs ps)), (1, .g (.rows ms)), (2, .g (.i t))]) Try.func94 rfl Try.ntmps94 rfl ZcA rfl (by repeat constructor) ?_
 (repeat' (first | ((with_reducible apply gLB.cagg); (. exact RF.mk ⟨rfl, rfl, rfl⟩)) | ((with_reducible apply gLB.cone); (. exact RF.mk ⟨rfl, rfl⟩)) | ((with_reducible apply gLI.cagg); (. exact RF.mk ⟨rfl, rfl, rfl⟩)) | ((with_reducible apply gLI.cone); (. exact RF.mk ⟨rfl, rfl⟩)) | ((with_reducible apply gAF.cbuildA); (. exact RF.mk rfl); (. exact RF.mk ⟨rfl, rfl, rfl, rfl⟩)) | (with_reducible constructor) | exact Z4 | exact NU.mk ZkV | exact ZI | exact ZS | exact ZF | exact ZG | exact ZC | ((with_reducible apply ZaT); (. exact ZA); (. exact NU.mk ZkV)) | exact ZQ | (with_reducible apply Zay) | (apply ZaB) | (with_reducible apply Zaf) | ((with_reducible apply ZaU); (. exact NU.mk ZkV); (. rfl)) | (with_reducible apply ZaC) | (apply Zaw) | ((with_reducible apply Za0); first | apply Zf1) | (with_reducible intro hc; (try simp only [HCs] at hc)) | exact OB_f | exact DEC.mk (by decide) | exact ZM | exact ZT | exact ZK | (with_reducible first | apply gNK | apply ZaH | apply Zal | apply Zaj | apply Zai | apply Zam | apply CK_t | apply CK_f | apply ZaQ | apply Zar | apply ZaF | apply Zau | apply Zah | apply Zag | apply Zak | apply Zav | apply ZaA | apply Zax | apply Zaz | apply Zat | apply Zas | apply ZaR | apply ZaG | apply ZaE | apply ZaP) | apply Zaq Zac | apply Zao Zac rfl | (apply ZaD; exact RF.mk rfl) | exact EQ.mk rfl | (refine ZaN (id := 0) (ι := Nat × Tg 0) (fun ⟨q, _⟩ => ⟨[(0, .g (.pairs ps)), (1, .g (.rows ms)), (2, .g (.i t)), (7, .own 0 0 q), (8, .g (.i q))], [(0, .arr 2 true (((Zd0 ps ms t).take q).map GV.pairP))]⟩) (fun ⟨q, _⟩ => (q ≤ ps.length)) (fun ⟨q, _⟩ => ps.length - q) (0, (Tg.t : Tg 0)) ?_ ?_ ?_; (. (apply gLX1 <;> (repeat' (first | (with_reducible constructor) | exact Z5 | exact RF.mk (by decide) | (with_reducible apply Zan) | exact EQ.mk ZkV)); (all_goals exact Zvc))); (. (omega)); (rintro ⟨q, _⟩ h1; (try dsimp only at h1); (show TX _ _ _ _ _ [(0, .g (.pairs ps)), (1, .g (.rows ms)), (2, .g (.i t)), (7, .own 0 0 q), (8, .g (.i q))] [(0, .arr 2 true (((Zd0 ps ms t).take q).map GV.pairP))] _))) | (refine ZaN (id := 2) (ι := Nat × Tg 2) (fun ⟨x, _⟩ => ⟨[(0, .g (.pairs ps)), (1, .g (.rows ms)), (2, .g (.i t)), (7, .own 0 0 q), (8, .g (.i q)), (9, .ptr 1 0), (10, .g (.i x))], [(0, .arr 2 true (((Zd0 ps ms t).take q).map GV.pairP)), (1, .box [.own 2 0 (Za7 (nth ps q).1 (colR ms t) x).length, .own 3 0 (Za7 (nth ps q).2 (colR ms t) x).length]), (2, .arr 1 true ((Za7 (nth ps q).1 (colR ms t) x).map GV.i)), (3, .arr 1 true ((Za7 (nth ps q).2 (colR ms t) x).map GV.i))]⟩) (fun ⟨x, _⟩ => (x ≤ ms.length)) (fun ⟨x, _⟩ => ms.length - x) (0, (Tg.t : Tg 2)) ?_ ?_ ?_; (. (apply ZeP (t := 9) (c := 0) (k := 900200); (. (repeat' (first | (with_reducible constructor) | exact Z4))); (. (repeat' (first | (with_reducible constructor) | exact Z4))); (. exact RF.mk rfl); (. (repeat' (first | (with_reducible constructor) | exact Z4))); (. (apply RF.mk; dsimp only [List.set])); apply ZeP (t := 9) (c := 1) (k := 900201); (. (repeat' (first | (with_reducible constructor) | exact Z4))); (. (repeat' (first | (with_reducible constructor) | exact Z4))); (. exact RF.mk rfl); (. (repeat' (first | (with_reducible constructor) | exact Z4))); (. (apply RF.mk; dsimp only [List.set])); apply gLX4 <;> (repeat' (first | (with_reducible constructor) | exact Z5 | exact RF.mk (by decide) | (with_reducible apply Zan) | exact EQ.mk ZkV)); (all_goals exact Zvb))); (. (omega)); (rintro ⟨x, _⟩ g1; (try dsimp only at g1); (show TX _ _ _ _ _ [(0, .g (.pairs ps)), (1, .g (.rows ms)), (2, .g (.i t)), (7, .own 0 0 q), (8, .g (.i q)), (9, .ptr 1 0), (10, .g (.i x))] [(0, .arr 2 true (((Zd0 ps ms t).take q).map GV.pairP)), (1, .box [.own 2 0 (Za7 (nth ps q).1 (colR ms t) x).length, .own 3 0 (Za7 (nth ps q).2 (colR ms t) x).length]), (2, .arr 1 true ((Za7 (nth ps q).1 (colR ms t) x).map GV.i)), (3, .arr 1 true ((Za7 (nth ps q).2 (colR ms t) x).map GV.i))] _))) | exact gSel.cnil _ | apply gSel.ccons | apply gCG.cagg))
 (all_goals (first | (refine Zbf (q + 1, (Tg.t : Tg 0)) ?_ ?_ ?_; (· (apply gLX1 <;> (repeat' (first | (with_reducible constructor) | exact Z5 | exact RF.mk (by decide) | (with_reducible apply Zan) | exact EQ.mk ZkV)); (all_goals exact Zvc))); (· (omega)); (· exact ZW)) | (refine Zbf (x + 1, (Tg.t : Tg 2)) ?_ ?_ ?_; (· (apply gLX4 <;> (repeat' (first | (with_reducible constructor) | exact Z5 | exact RF.mk (by decide) | (with_reducible apply Zan) | exact EQ.mk ZkV)); (all_goals exact Zvb))); (· (omega)); (· exact ZW)) | (((refine ZbY (ZaS (EQ.mk ?_)); first | rfl | (rw [List.take_take, Nat.min_self]; exact List.take_of_length_le (by omega)) | exact List.take_of_length_le (by omega))); done)))
theorem Zga (ms : List (List Int)) (t : Nat) (hm : HY (∀ i, i < ms.length → t < (nth ms i).length)) (hp : NU (([] : List (List Int × List Int)).length ≤ 4)) (hn : NU (ms.length ≤ 4000)) : Con Try.prog 94 [.pairs [], .rows ms, .i t] (.pairs []) := Zcs [] ms t hm hp hn
theorem ZfA (p : List Int × List Int) (ps : List (List Int × List Int)) (ms : List (List Int)) (t : Nat) (hm : HY (∀ i, i < ms.length → t < (nth ms i).length)) (hp : NU ((p :: ps).length ≤ 4)) (hn : NU (ms.length ≤ 4000)) : Con Try.prog 94 [.pairs (p :: ps), .rows ms, .i t] (.pairs (pairP (colR ms t) p :: Zd0 ps ms t)) := Zcs (p :: ps) ms t hm hp hn
end Go.Proofs.Ytnieejghoaccmaa

