/- Draws: automata and words. No conditions but those that each theorem names. -/
import Derived.Test.YtnieejghoaccmaaTab
import Derived.Test.YtnieejghoaccmaaKG
import Derived.Test.YtnieejghoaccmaaD6c
import Derived.Test.YtnieejghoaccmaaChecked
set_option linter.unusedSimpArgs false
set_option linter.unusedVariables false
namespace Go.Proofs.Ytnieejghoaccmaa
open Go.RowKit
open Shp
def ZfN : Nat → List Nat
 | 0 => [0, 2, 3, 4]
 | 1 => [2, 3, 4, 5]
 | 2 => [2, 3, 4, 5, 6]
 | 3 => [2, 3, 4, 5, 6, 7]
 | 4 => [2, 3, 4]
 | _ => []
theorem ZeE (args : Array Value) (w : World) : (callFunc 5 args).run Try.prog w = .ok (.enter 5 args) w := Zab Try.func5 (by decide) rfl args w
set_option maxHeartbeats 1000000 in
theorem Zh6 (v : Value) (bs : List Int) (hl : NU (bs.length ≤ 4096)) : Con Try.prog 5 [.ex v 1 (bs.map (GV.int .u8))] (.tup [.sig (sigP bs (newS bs)).1.1 (sigP bs (newS bs)).1.2, .det (detA bs (sigP bs (newS bs)).1.1 (sigP bs (newS bs)).1.2 (sigP bs (newS bs)).2).1.1 (detA bs (sigP bs (newS bs)).1.1 (sigP bs (newS bs)).1.2 (sigP bs (newS bs)).2).1.2, .word (wrdD bs (Zaa (sigP bs (newS bs)).1.1 (sigP bs (newS bs)).1.2) (detA bs (sigP bs (newS bs)).1.1 (sigP bs (newS bs)).1.2 (sigP bs (newS bs)).2).2).1.1 (wrdD bs (Zaa (sigP bs (newS bs)).1.1 (sigP bs (newS bs)).1.2) (detA bs (sigP bs (newS bs)).1.1 (sigP bs (newS bs)).1.2 (sigP bs (newS bs)).2).2).1.2]) := by
 have hl := hl.e
 have hL := ZaJ (sigP bs (newS bs)).1.1 (sigP bs (newS bs)).1.2
 refine gCon ZfN Zac (rs := [.cell 2 25, .cell 3 29, .cell 4 32]) (sl := [(0, .g (.ex v 1 (bs.map (GV.int .u8))))]) Try.func5 rfl Try.ntmps5 rfl ZeE rfl (by repeat constructor) ?_
 (repeat' (first | ((with_reducible apply gAF.cnew (f := 13))) | ((with_reducible apply gAF.ccur (f := 14))) | ((with_reducible apply gAF.ccur (f := 15))) | ((with_reducible apply gAF.ccur (f := 16))) | ((with_reducible apply ZcI); first | apply Zhy | apply Zg8 | apply ZjK) | ((with_reducible apply ZuZ); first | apply ZlY) | ((with_reducible apply gLB.cagg); (. exact RF.mk ⟨rfl, rfl, rfl⟩)) | ((with_reducible apply gLB.cone); (. exact RF.mk ⟨rfl, rfl⟩)) | ((with_reducible apply gLI.cagg); (. exact RF.mk ⟨rfl, rfl, rfl⟩)) | ((with_reducible apply gLI.cone); (. exact RF.mk ⟨rfl, rfl⟩)) | ((with_reducible apply gAF.cbuildA); (. exact RF.mk rfl); (. exact RF.mk ⟨rfl, rfl, rfl, rfl⟩)) | (with_reducible constructor) | exact Z4 | exact ZN | exact ZI | exact ZS | exact ZF | exact ZG | exact ZC | exact ZP | exact ZQ | (with_reducible apply Zay) | (apply ZaB) | (with_reducible apply Zaf) | exact ZU | (with_reducible apply ZaC) | (apply Zaw) | ((with_reducible apply Za0); first | apply Za2) | (with_reducible intro hc; (try simp only [HCs] at hc)) | exact OB_f | exact DEC.mk (by decide) | exact ZM | exact ZT | exact ZK | (with_reducible first | apply gNK | apply ZaH | apply Zal | apply Zaj | apply Zai | apply Zam | apply CK_t | apply CK_f | apply ZaQ | apply Zar | apply ZaF | apply Zau | apply Zah | apply Zag | apply Zak | apply Zav | apply ZaA | apply Zax | apply Zaz | apply Zat | apply Zas | apply ZaR | apply ZaG | apply ZaE | apply ZaP) | apply Zaq Zac | apply Zao Zac rfl | (apply ZaD; exact RF.mk rfl) | exact EQ.mk rfl | exact gSel.cnil _ | apply gSel.ccons | apply gCG.cagg))
 (all_goals (first | (((first | (refine ZaY ?_; first | (simp_all; done) | (rw [Bool.eq_iff_iff]; simp only [Bool.and_eq_true, Bool.or_eq_true, decide_eq_true_eq, Bool.false_eq_true, false_iff, true_iff, iff_false, iff_true, not_and, not_or, Bool.not_eq_true, decide_eq_false_iff_not, beq_iff_eq, bne_iff_ne, ne_eq, Bool.not_eq_true', Bool.not_eq_false', Int.not_le, Int.not_lt]; omega)) | ((repeat (first | apply Zfv | apply Zbd | apply Zcn | apply ZbY | apply ZaS)); all_goals (first | exact EQ.mk rfl | exact EQ.mk (by first | (simp; done) | fail) | exact EQ.mk (by first | (simp_all; done) | fail))))); done)))
end Go.Proofs.Ytnieejghoaccmaa

