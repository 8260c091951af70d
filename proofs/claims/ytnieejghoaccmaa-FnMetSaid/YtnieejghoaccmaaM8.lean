/- Contracts: automata joined. No conditions but those that each theorem names. -/
import Derived.Test.YtnieejghoaccmaaTab
import Derived.Test.YtnieejghoaccmaaKG
import Derived.Test.YtnieejghoaccmaaM8c
import Derived.Test.YtnieejghoaccmaaM8d
import Derived.Test.YtnieejghoaccmaaChecked
set_option linter.unusedSimpArgs false
set_option linter.unusedVariables false
namespace Go.Proofs.Ytnieejghoaccmaa
open Go.RowKit
open Shp
theorem QM80 {p : Prop} (h : p := by first | exact ZO | (first | omega | (have q1 := ZjR (show detB i o n ps = true by assumption); have q2 := ZjR (show detB i o n2 ps2 = true by assumption); omega))) : p := h
theorem ZhN (i o : Int) (n : List (List Int)) (ps : List (List Int × List Int)) (n2 : List (List Int)) (ps2 : List (List Int × List Int)) (h : HY (detB i o n ps = true)) (h2 : HY (detB i o n2 ps2 = true)) (h4 : NU (ps.length + ps2.length ≤ 4)) : Con Try.prog 82 [.det n ps, .det n2 ps2, .i (Zaa i o)] (.tup [.det (ZeQ i o n ps n2 ps2).1.1 (ZeQ i o n ps n2 ps2).1.2, .bool (ZeQ i o n ps n2 ps2).2]) := by
 obtain ⟨a1, ⟨a2, a3⟩, a4, a5⟩ := detB_iff.1 h.e
 obtain ⟨b1, ⟨b2, b3⟩, b4, b5⟩ := detB_iff.1 h2.e
 have hL := ZaJ i o
 rw [← ZbN] at a5 b5
 have p1 := ZjR h.e
 have p2 := ZjR h2.e
 rw [Zkn h.e h2.e, ← ZbN i o]
 exact Zh9 n ps n2 ps2 (Zaa i o).toNat (HY.mk a5) (HY.mk b5) (NU.mk (by omega)) (NU.mk ⟨p1, p2⟩) h4
def Zf8 : Nat → List Nat
 | 0 => [3, 4, 5, 6]
 | 1 => [3, 4, 5, 6, 27]
 | 2 => [6, 7]
 | 3 => [6, 7]
 | _ => []
theorem Zcl (args : Array Value) (w : World) : (callFunc 65 args).run Try.prog w = .ok (.enter 65 args) w := Zab Try.func65 (by decide) rfl args w
set_option maxHeartbeats 1000000 in
theorem Zh2 (i o : Int) (n : List (List Int)) (ps : List (List Int × List Int)) (n2 : List (List Int)) (ps2 : List (List Int × List Int)) : Con Try.prog 65 [.sig i o, .det n ps, .det n2 ps2] (.tup [.det (ZeQ i o n ps n2 ps2).1.1 (ZeQ i o n ps n2 ps2).1.2, .bool (ZeQ i o n ps n2 ps2).2]) := by
 refine Con.fit Zcl fun hfit => ?_
 have hb_n : n.length ≤ 9223372036854775807 := GFits.lenm (GFits.cell (show GFits (.det n ps) from hfit 1 (ZL rfl)) (.head _))
 have hr_n : ∀ r ∈ n, r.length ≤ 9223372036854775807 := fun r hr => GFits.ints (GFits.elm (GFits.cell (show GFits (.det n ps) from hfit 1 (ZL rfl)) (.head _)) r hr)
 have hb_ps : ps.length ≤ 9223372036854775807 := GFits.lenm (GFits.cell (show GFits (.det n ps) from hfit 1 (ZL rfl)) (.tail _ (.head _)))
 have hr_ps : ∀ r ∈ ps, r.1.length ≤ 9223372036854775807 ∧ r.2.length ≤ 9223372036854775807 := fun r hr => ⟨GFits.ints (GFits.cell (GFits.elm (GFits.cell (show GFits (.det n ps) from hfit 1 (ZL rfl)) (.tail _ (.head _))) r hr) (.head _)), GFits.ints (GFits.cell (GFits.elm (GFits.cell (show GFits (.det n ps) from hfit 1 (ZL rfl)) (.tail _ (.head _))) r hr) (.tail _ (.head _)))⟩
 have hb_n2 : n2.length ≤ 9223372036854775807 := GFits.lenm (GFits.cell (show GFits (.det n2 ps2) from hfit 2 (ZL rfl)) (.head _))
 have hr_n2 : ∀ r ∈ n2, r.length ≤ 9223372036854775807 := fun r hr => GFits.ints (GFits.elm (GFits.cell (show GFits (.det n2 ps2) from hfit 2 (ZL rfl)) (.head _)) r hr)
 have hb_ps2 : ps2.length ≤ 9223372036854775807 := GFits.lenm (GFits.cell (show GFits (.det n2 ps2) from hfit 2 (ZL rfl)) (.tail _ (.head _)))
 have hr_ps2 : ∀ r ∈ ps2, r.1.length ≤ 9223372036854775807 ∧ r.2.length ≤ 9223372036854775807 := fun r hr => ⟨GFits.ints (GFits.cell (GFits.elm (GFits.cell (show GFits (.det n2 ps2) from hfit 2 (ZL rfl)) (.tail _ (.head _))) r hr) (.head _)), GFits.ints (GFits.cell (GFits.elm (GFits.cell (show GFits (.det n2 ps2) from hfit 2 (ZL rfl)) (.tail _ (.head _))) r hr) (.tail _ (.head _)))⟩
 clear hfit
 refine gCon Zf8 Zac (rs := [.cell 6 29, .tmp 7]) (sl := [(0, .g (.sig i o)), (1, .g (.det n ps)), (2, .g (.det n2 ps2))]) Try.func65 rfl Try.ntmps65 rfl Zcl rfl (by repeat constructor) ?_
 (repeat' (first | ((with_reducible apply gLB.cagg); (. exact RF.mk ⟨rfl, rfl, rfl⟩)) | ((with_reducible apply gLB.cone); (. exact RF.mk ⟨rfl, rfl⟩)) | ((with_reducible apply gLI.cagg); (. exact RF.mk ⟨rfl, rfl, rfl⟩)) | ((with_reducible apply gLI.cone); (. exact RF.mk ⟨rfl, rfl⟩)) | ((with_reducible apply gAF.cbuildA); (. exact RF.mk rfl); (. exact RF.mk ⟨rfl, rfl, rfl, rfl⟩)) | (with_reducible constructor) | exact Z4 | exact NU.mk QM80 | exact ZI | exact ZS | exact ZF | exact ZG | exact ZC | ((with_reducible apply ZaT); (. exact ZA); (. exact NU.mk QM80)) | exact ZQ | (with_reducible apply Zay) | (apply ZaB) | (with_reducible apply Zaf) | ((with_reducible apply ZaU); (. exact NU.mk QM80); (. rfl)) | (with_reducible apply ZaC) | (apply Zaw) | ((with_reducible apply Za0); first | (exact ZhN i o n ps n2 ps2 (HY.mk (by assumption)) (HY.mk (by assumption)) (NU.mk (by omega))) | apply ZeA | apply Za2) | (with_reducible intro hc; (try simp only [HCs] at hc)) | exact OB_f | exact DEC.mk (by decide) | exact ZM | exact ZT | exact ZK | (with_reducible first | apply gNK | apply ZaH | apply Zal | apply Zaj | apply Zai | apply Zam | apply CK_t | apply CK_f | apply ZaQ | apply Zar | apply ZaF | apply Zau | apply Zah | apply Zag | apply Zak | apply Zav | apply ZaA | apply Zax | apply Zaz | apply Zat | apply Zas | apply ZaR | apply ZaG | apply ZaE | apply ZaP) | apply Zaq Zac | apply Zao Zac rfl | (apply ZaD; exact RF.mk rfl) | exact EQ.mk rfl | exact gSel.cnil _ | apply gSel.ccons | apply gCG.cagg))
 (all_goals (first | (((first | exact EQ.mk rfl | (rw [Zhc (by assumption)]; exact EQ.mk rfl) | (rw [Zkr (by assumption)]; exact EQ.mk rfl) | (rw [Zhc (Zoc (by assumption))]; exact EQ.mk rfl) | (rw [ZmB (by omega)]; exact EQ.mk rfl) | (rcases hc with hc | hc | hc <;> first | (rw [Zhc (by assumption)]; exact EQ.mk rfl) | (rw [Zkr (by assumption)]; exact EQ.mk rfl)))); done)))
end Go.Proofs.Ytnieejghoaccmaa

