/- Contracts: clauses on words. No conditions but those that each theorem names. -/
import Derived.Test.YtnieejghoaccmaaTab
import Derived.Test.YtnieejghoaccmaaKG
import Derived.Test.YtnieejghoaccmaaM1
import Derived.Test.YtnieejghoaccmaaDW
import Derived.Test.YtnieejghoaccmaaChecked
set_option linter.unusedSimpArgs false
set_option linter.unusedVariables false
namespace Go.Proofs.Ytnieejghoaccmaa
open Go.RowKit
open Shp
def ZfR : Nat → List Nat
 | 0 => [1, 2]
 | 1 => [1, 2, 13]
 | 2 => [4]
 | 3 => [1, 2, 5]
 | 4 => [1, 2, 5, 17]
 | 5 => [1, 2, 5]
 | 6 => [1, 2, 5, 26]
 | 7 => [4]
 | 8 => [4]
 | _ => []
theorem Zcm (args : Array Value) (w : World) : (callFunc 64 args).run Try.prog w = .ok (.enter 64 args) w := Zab Try.func64 (by decide) rfl args w
set_option maxHeartbeats 1000000 in
theorem Zh1 (i o : Int) (cs : List (Int × List Int × List Int)) : Con Try.prog 64 [.sig i o, .clauses cs] (.bool (ZaZ i o cs)) := by
 refine Con.fit Zcm fun hfit => ?_
 have hb_cs : cs.length ≤ 9223372036854775807 := GFits.lenm (show GFits (.clauses cs) from hfit 1 (ZL rfl))
 have hr_cs : ∀ r ∈ cs, r.2.1.length ≤ 9223372036854775807 ∧ r.2.2.length ≤ 9223372036854775807 := fun r hr => ⟨GFits.ints (GFits.cell (GFits.elm (show GFits (.clauses cs) from hfit 1 (ZL rfl)) r hr) (.tail _ (.head _))), GFits.ints (GFits.cell (GFits.elm (show GFits (.clauses cs) from hfit 1 (ZL rfl)) r hr) (.tail _ (.tail _ (.head _))))⟩
 clear hfit
 refine gCon ZfR Zac (rs := [.tmp 4]) (sl := [(0, .g (.sig i o)), (1, .g (.clauses cs))]) Try.func64 rfl Try.ntmps64 rfl Zcm rfl (by repeat constructor) ?_
 (repeat' (first | ((with_reducible apply gLB.cagg); (. exact RF.mk ⟨rfl, rfl, rfl⟩)) | ((with_reducible apply gLB.cone); (. exact RF.mk ⟨rfl, rfl⟩)) | ((with_reducible apply gLI.cagg); (. exact RF.mk ⟨rfl, rfl, rfl⟩)) | ((with_reducible apply gLI.cone); (. exact RF.mk ⟨rfl, rfl⟩)) | ((with_reducible apply gAF.cbuildA); (. exact RF.mk rfl); (. exact RF.mk ⟨rfl, rfl, rfl, rfl⟩)) | (with_reducible constructor) | exact Z4 | exact ZN | exact ZI | exact ZS | exact ZF | exact ZG | exact ZC | exact ZP | exact ZQ | (with_reducible apply Zay) | (apply ZaB) | (with_reducible apply Zaf) | exact ZU | (with_reducible apply ZaC) | (apply Zaw) | ((with_reducible apply Za0); first | apply Zdd | apply Zfn) | (with_reducible intro hc; (try simp only [HCs] at hc)) | exact OB_f | exact DEC.mk (by decide) | exact ZM | exact ZT | exact ZK | (with_reducible first | apply gNK | apply ZaH | apply Zal | apply Zaj | apply Zai | apply Zam | apply CK_t | apply CK_f | apply ZaQ | apply Zar | apply ZaF | apply Zau | apply Zah | apply Zag | apply Zak | apply Zav | apply ZaA | apply Zax | apply Zaz | apply Zat | apply Zas | apply ZaR | apply ZaG | apply ZaE | apply ZaP) | apply Zaq Zac | apply Zao Zac rfl | (apply ZaD; exact RF.mk rfl) | exact EQ.mk rfl | (refine ZaN (id := 0) (ι := Nat) (fun j => ⟨[(1, .g (.clauses cs)), (2, .ptr 0 0), (5, .g (.i j))], [(0, .box [.g (.i i), .g (.i o)])]⟩) (fun j => (j ≤ cs.length) ∧ (∀ z, z < j → (Zdt (Zaa i o) cs) z = true)) (fun j => cs.length - j) (0) ?_ ?_ ?_; (. (apply gLX1 <;> (repeat' (first | (with_reducible constructor) | exact Z5 | exact RF.mk (by decide) | (with_reducible apply Zan) | exact ZE)))); (. (exact ⟨by omega, ZbJ⟩)); (rintro j ⟨h1, h2⟩; (show TX _ _ _ _ _ [(1, .g (.clauses cs)), (2, .ptr 0 0), (5, .g (.i j))] [(0, .box [.g (.i i), .g (.i o)])] _))) | exact gSel.cnil _ | apply gSel.ccons | apply gCG.cagg))
 (all_goals (first | (refine Zbf (j + 1) ?_ ?_ ?_; (· (apply gLX1 <;> (repeat' (first | (with_reducible constructor) | exact Z5 | exact RF.mk (by decide) | (with_reducible apply Zan) | exact ZE)))); (· ((refine ⟨by omega, ZbL h2 ?_⟩; unfold Zdt; simp_all))); (· exact ZW)) | (((refine ZaY ?_; unfold ZaZ; first | (rw [Zba (fun j hj => h2 j (by omega))]; (rw [Bool.eq_iff_iff]; (try simp only [BOa, Int.natCast_eq_zero, List.length_eq_zero_iff, Bool.true_eq_false, Bool.false_eq_true, true_iff, false_iff, iff_true, iff_false, true_and, and_true, false_and, and_false, not_and, not_or, Bool.not_eq_true, Bool.not_eq_false, Int.not_lt, Int.not_le] at *); first | done | omega | (simp_all; done) | grind)) | (rw [Za8 j (by omega) (by unfold Zdt; simp_all)]; simp; done) | (rw [Bool.eq_iff_iff]; (try simp only [BOa, Int.natCast_eq_zero, List.length_eq_zero_iff, Bool.true_eq_false, Bool.false_eq_true, true_iff, false_iff, iff_true, iff_false, true_and, and_true, false_and, and_false, not_and, not_or, Bool.not_eq_true, Bool.not_eq_false, Int.not_lt, Int.not_le] at *); first | done | omega | (simp_all; done) | grind))); done)))
end Go.Proofs.Ytnieejghoaccmaa

