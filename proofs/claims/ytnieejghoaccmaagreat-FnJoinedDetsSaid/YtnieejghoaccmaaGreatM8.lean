/- Contracts: automata joined. No conditions but those that each theorem names. -/
import Derived.Test.YtnieejghoaccmaaGreatTab
import Derived.Test.YtnieejghoaccmaaGreatKG
import Derived.Test.YtnieejghoaccmaaGreatM8c
import Derived.Test.YtnieejghoaccmaaGreatM8d
import Derived.Test.YtnieejghoaccmaaGreatChecked
set_option linter.unusedSimpArgs false
set_option linter.unusedVariables false
namespace Go.Proofs.YtnieejghoaccmaaGreat
open Go.RowKit
open Shp
theorem ZiX (i o : Int) (n : List (List Int)) (ps : List (List Int × List Int)) (n2 : List (List Int)) (ps2 : List (List Int × List Int)) (h : HY (detB i o n ps = true)) (h2 : HY (detB i o n2 ps2 = true)) (h4 : NU (ps.length + ps2.length ≤ 4)) : Con Tryz.prog 21 [.det n ps, .det n2 ps2, .i (Zaa i o)] (.tup [.det (ZaX i o n ps n2 ps2).1.1 (ZaX i o n ps n2 ps2).1.2, .bool (ZaX i o n ps n2 ps2).2]) := by
 obtain ⟨a1, ⟨a2, a3⟩, a4, a5⟩ := detB_iff.1 h.e
 obtain ⟨b1, ⟨b2, b3⟩, b4, b5⟩ := detB_iff.1 h2.e
 have hL := Zaw i o
 rw [← Za0] at a5 b5
 have p1 := ZeB h.e
 have p2 := ZeB h2.e
 rw [Zgi h.e h2.e, ← Za0 i o]
 exact Zjh n ps n2 ps2 (Zaa i o).toNat (HY.mk a5) (HY.mk b5) (NU.mk (by omega)) (NU.mk ⟨p1, p2⟩) h4
theorem ZiK (i o : Int) (n : List (List Int)) (ps : List (List Int × List Int)) (n2 : List (List Int)) (ps2 : List (List Int × List Int)) (h : HY (detB i o n ps = true)) (h2 : HY (detB i o n2 ps2 = true)) : Con Tryz.prog 19 [.det n ps, .det n2 ps2] (.tup [.det (ZaX i o n ps n2 ps2).1.1 (ZaX i o n ps n2 ps2).1.2, .bool (ZaX i o n ps n2 ps2).2]) := by
 obtain ⟨a1, ⟨a2, a3⟩, a4, a5⟩ := detB_iff.1 h.e
 obtain ⟨b1, ⟨b2, b3⟩, b4, b5⟩ := detB_iff.1 h2.e
 have hL := Zaw i o
 rw [← Za0] at a5 b5
 have p1 := ZeB h.e
 have p2 := ZeB h2.e
 rw [Zgi h.e h2.e]
 exact ZjA n ps n2 ps2 (Zaa i o).toNat (HY.mk a5) (HY.mk b5) (NU.mk (by omega)) (NU.mk ⟨p1, p2⟩)
def ZgK : Nat → List Nat
 | 0 => [3, 4, 5, 6]
 | 1 => [3, 4, 5, 6, 27]
 | 2 => [6, 7]
 | 3 => [6, 7]
 | _ => []
theorem ZcR (args : Array Value) (w : World) : (callFunc 7 args).run Tryz.prog w = .ok (.enter 7 args) w := Zab Tryz.func7 (by decide) rfl args w
set_option maxHeartbeats 1000000 in
theorem Zfu (i o : Int) (n : List (List Int)) (ps : List (List Int × List Int)) (n2 : List (List Int)) (ps2 : List (List Int × List Int)) : Con Tryz.prog 7 [.sig i o, .det n ps, .det n2 ps2] (.tup [.det (ZaX i o n ps n2 ps2).1.1 (ZaX i o n ps n2 ps2).1.2, .bool (ZaX i o n ps n2 ps2).2]) := by
 refine Con.fit ZcR fun hfit => ?_
 have hb_n : n.length ≤ 9223372036854775807 := GFits.lenm (GFits.cell (show GFits (.det n ps) from hfit 1 (ZL rfl)) (.head _))
 have hr_n : ∀ r ∈ n, r.length ≤ 9223372036854775807 := fun r hr => GFits.ints (GFits.elm (GFits.cell (show GFits (.det n ps) from hfit 1 (ZL rfl)) (.head _)) r hr)
 have hb_ps : ps.length ≤ 9223372036854775807 := GFits.lenm (GFits.cell (show GFits (.det n ps) from hfit 1 (ZL rfl)) (.tail _ (.head _)))
 have hr_ps : ∀ r ∈ ps, r.1.length ≤ 9223372036854775807 ∧ r.2.length ≤ 9223372036854775807 := fun r hr => ⟨GFits.ints (GFits.cell (GFits.elm (GFits.cell (show GFits (.det n ps) from hfit 1 (ZL rfl)) (.tail _ (.head _))) r hr) (.head _)), GFits.ints (GFits.cell (GFits.elm (GFits.cell (show GFits (.det n ps) from hfit 1 (ZL rfl)) (.tail _ (.head _))) r hr) (.tail _ (.head _)))⟩
 have hb_n2 : n2.length ≤ 9223372036854775807 := GFits.lenm (GFits.cell (show GFits (.det n2 ps2) from hfit 2 (ZL rfl)) (.head _))
 have hr_n2 : ∀ r ∈ n2, r.length ≤ 9223372036854775807 := fun r hr => GFits.ints (GFits.elm (GFits.cell (show GFits (.det n2 ps2) from hfit 2 (ZL rfl)) (.head _)) r hr)
 have hb_ps2 : ps2.length ≤ 9223372036854775807 := GFits.lenm (GFits.cell (show GFits (.det n2 ps2) from hfit 2 (ZL rfl)) (.tail _ (.head _)))
 have hr_ps2 : ∀ r ∈ ps2, r.1.length ≤ 9223372036854775807 ∧ r.2.length ≤ 9223372036854775807 := fun r hr => ⟨GFits.ints (GFits.cell (GFits.elm (GFits.cell (show GFits (.det n2 ps2) from hfit 2 (ZL rfl)) (.tail _ (.head _))) r hr) (.head _)), GFits.ints (GFits.cell (GFits.elm (GFits.cell (show GFits (.det n2 ps2) from hfit 2 (ZL rfl)) (.tail _ (.head _))) r hr) (.tail _ (.head _)))⟩
 clear hfit
 refine gCon ZgK Zac (rs := [.cell 6 29, .tmp 7]) (sl := [(0, .g (.sig i o)), (1, .g (.det n ps)), (2, .g (.det n2 ps2))]) Tryz.func7 rfl Tryz.ntmps7 rfl ZcR rfl (by repeat constructor) ?_
 (repeat' (first | ((with_reducible apply gLB.cagg); (. exact RF.mk ⟨rfl, rfl, rfl⟩)) | ((with_reducible apply gLB.cone); (. exact RF.mk ⟨rfl, rfl⟩)) | (with_reducible constructor) | exact Z4 | exact NU.mk (by first | exact ZO | (first | omega | (have q1 := ZeB (show detB i o n ps = true by assumption); have q2 := ZeB (show detB i o n2 ps2 = true by assumption); omega))) | exact ZS | exact ZF | exact ZC | ((with_reducible apply ZaP); first | (exact ZiX i o n ps n2 ps2 (HY.mk (by assumption)) (HY.mk (by assumption)) (NU.mk (by omega))) | apply Za2 | apply ZgA) | (with_reducible intro hc; (try simp only [HCs] at hc)) | exact OB_f | exact ZK | (with_reducible first | apply gNK | apply Zao | apply Zaf | apply Zan | apply Zai | apply CK_t | apply ZaQ | apply Zam | apply Zap | apply ZbH) | apply Zah Zac | apply ZaK Zac rfl | apply gSel.ccons))
 (all_goals (first | (((first | exact EQ.mk rfl | (rw [Zc9 (by assumption)]; exact EQ.mk rfl) | (rw [ZeT (by assumption)]; exact EQ.mk rfl) | (rw [Zc9 (Zmg (by assumption))]; exact EQ.mk rfl) | (rw [ZjR (by omega)]; exact EQ.mk rfl) | (rcases hc with hc | hc | hc <;> first | (rw [Zc9 (by assumption)]; exact EQ.mk rfl) | (rw [ZeT (by assumption)]; exact EQ.mk rfl)))); done)))
def Zg7 : Nat → List Nat
 | 0 => [3, 4, 5, 6]
 | 1 => [4, 5, 6, 22]
 | 2 => [6, 7]
 | 3 => [6, 7]
 | _ => []
theorem ZcK (args : Array Value) (w : World) : (callFunc 6 args).run Tryz.prog w = .ok (.enter 6 args) w := Zab Tryz.func6 (by decide) rfl args w
set_option maxHeartbeats 1000000 in
theorem Zjp (i o : Int) (n : List (List Int)) (ps : List (List Int × List Int)) (n2 : List (List Int)) (ps2 : List (List Int × List Int)) : Con Tryz.prog 6 [.sig i o, .det n ps, .det n2 ps2] (.tup [.det (ZaX i o n ps n2 ps2).1.1 (ZaX i o n ps n2 ps2).1.2, .bool (ZaX i o n ps n2 ps2).2]) := by
 refine Con.fit ZcK fun hfit => ?_
 have hb_n : n.length ≤ 9223372036854775807 := GFits.lenm (GFits.cell (show GFits (.det n ps) from hfit 1 (ZL rfl)) (.head _))
 have hr_n : ∀ r ∈ n, r.length ≤ 9223372036854775807 := fun r hr => GFits.ints (GFits.elm (GFits.cell (show GFits (.det n ps) from hfit 1 (ZL rfl)) (.head _)) r hr)
 have hb_ps : ps.length ≤ 9223372036854775807 := GFits.lenm (GFits.cell (show GFits (.det n ps) from hfit 1 (ZL rfl)) (.tail _ (.head _)))
 have hr_ps : ∀ r ∈ ps, r.1.length ≤ 9223372036854775807 ∧ r.2.length ≤ 9223372036854775807 := fun r hr => ⟨GFits.ints (GFits.cell (GFits.elm (GFits.cell (show GFits (.det n ps) from hfit 1 (ZL rfl)) (.tail _ (.head _))) r hr) (.head _)), GFits.ints (GFits.cell (GFits.elm (GFits.cell (show GFits (.det n ps) from hfit 1 (ZL rfl)) (.tail _ (.head _))) r hr) (.tail _ (.head _)))⟩
 have hb_n2 : n2.length ≤ 9223372036854775807 := GFits.lenm (GFits.cell (show GFits (.det n2 ps2) from hfit 2 (ZL rfl)) (.head _))
 have hr_n2 : ∀ r ∈ n2, r.length ≤ 9223372036854775807 := fun r hr => GFits.ints (GFits.elm (GFits.cell (show GFits (.det n2 ps2) from hfit 2 (ZL rfl)) (.head _)) r hr)
 have hb_ps2 : ps2.length ≤ 9223372036854775807 := GFits.lenm (GFits.cell (show GFits (.det n2 ps2) from hfit 2 (ZL rfl)) (.tail _ (.head _)))
 have hr_ps2 : ∀ r ∈ ps2, r.1.length ≤ 9223372036854775807 ∧ r.2.length ≤ 9223372036854775807 := fun r hr => ⟨GFits.ints (GFits.cell (GFits.elm (GFits.cell (show GFits (.det n2 ps2) from hfit 2 (ZL rfl)) (.tail _ (.head _))) r hr) (.head _)), GFits.ints (GFits.cell (GFits.elm (GFits.cell (show GFits (.det n2 ps2) from hfit 2 (ZL rfl)) (.tail _ (.head _))) r hr) (.tail _ (.head _)))⟩
 clear hfit
 refine gCon Zg7 Zac (rs := [.cell 6 29, .tmp 7]) (sl := [(0, .g (.sig i o)), (1, .g (.det n ps)), (2, .g (.det n2 ps2))]) Tryz.func6 rfl Tryz.ntmps6 rfl ZcK rfl (by repeat constructor) ?_
 (repeat' (first | ((with_reducible apply gLB.cagg); (. exact RF.mk ⟨rfl, rfl, rfl⟩)) | (with_reducible constructor) | exact Z4 | exact ZN | exact ZC | ((with_reducible apply ZaP); first | (exact ZiK i o n ps n2 ps2 (HY.mk (by assumption)) (HY.mk (by assumption))) | apply ZgV | apply ZgF) | (with_reducible intro hc; (try simp only [HCs] at hc)) | exact OB_f | (with_reducible first | apply gNK | apply Zao | apply Zaf | apply Zan | apply Zai | apply CK_t | apply ZaQ | apply Zam | apply Zap | apply ZbH) | apply Zah Zac | apply gSel.ccons))
 (all_goals (first | (((first | exact EQ.mk rfl | (rw [Zc9 (by assumption)]; exact EQ.mk rfl) | (rw [ZeT (by assumption)]; exact EQ.mk rfl) | (rw [Zc9 (Zmg (by assumption))]; exact EQ.mk rfl) | (rw [ZjR (by omega)]; exact EQ.mk rfl) | (rcases hc with hc | hc | hc <;> first | (rw [Zc9 (by assumption)]; exact EQ.mk rfl) | (rw [ZeT (by assumption)]; exact EQ.mk rfl)))); done)))
end Go.Proofs.YtnieejghoaccmaaGreat

