/- Contracts: products of clauses. No conditions but those that each theorem names. -/
import Derived.Test.YtnieejghoaccmaaTab
import Derived.Test.YtnieejghoaccmaaKG
import Derived.Test.YtnieejghoaccmaaM7
import Derived.Test.YtnieejghoaccmaaM8
import Derived.Test.YtnieejghoaccmaaM2
import Derived.Test.YtnieejghoaccmaaPR
import Derived.Test.YtnieejghoaccmaaChecked
set_option linter.unusedSimpArgs false
set_option linter.unusedVariables false
namespace Go.Proofs.Ytnieejghoaccmaa
open Go.RowKit
open Shp
theorem QMP1 {p : Prop} (h : p := by ((first | exact EQ.mk rfl | exact EQ.mk (by first | (simp; done) | fail) | (refine EQ.mk ?_; rw [← ZcS (show sigB i o = true by assumption)]; simp)); done)) : p := h
theorem QMP0 {p : Prop} (h : p := by first | exact ZO | (first | omega | (have q := ZaJ i o; omega) | (have q := Zhg (show sigB i o = true by assumption); omega))) : p := h
theorem Zgv (i o k : Int) (a b : List Int) (hs : sigB i o = true) (h : Zc5 (Zaa i o) k a b = true) : Con Try.prog 66 [.sig i o, .clause k a b] (.det (monN k a b (Zaa i o).toNat) [monP k]) := by
 have h1 := ZhS i o k a b
 rw [ZuM hs h] at h1
 exact h1
theorem ZjB (i o : Int) (cs : List (Int × List Int × List Int)) (j : Nat) (x : List (List Int) × List (List Int × List Int)) : Con Try.prog 65 [.sig i o, .det x.1 x.2, .det (monN (nth cs j).1 (nth cs j).2.1 (nth cs j).2.2 (Zaa i o).toNat) [monP (nth cs j).1]] (.tup [.det (Zgz i o cs j x).1.1 (Zgz i o cs j x).1.2, .bool (Zgz i o cs j x).2]) := Zh2 i o x.1 x.2 _ _
def ZfX : Nat → List Nat
 | 0 => [1, 2, 4]
 | 1 => [1, 2, 4, 13]
 | 2 => [4, 5]
 | 3 => [1, 2, 4, 6]
 | 4 => [1, 2, 4, 6, 7]
 | 5 => [1, 2, 4, 6, 7, 23]
 | 6 => [1, 2, 4, 6, 7]
 | 7 => [1, 2, 4, 6, 7, 8, 9]
 | 8 => [1, 2, 4, 6, 7, 8, 39]
 | 9 => [4, 5]
 | 10 => [1, 2, 4, 6, 7]
 | 11 => [4, 5]
 | _ => []
theorem Zci (args : Array Value) (w : World) : (callFunc 55 args).run Try.prog w = .ok (.enter 55 args) w := Zab Try.func55 (by decide) rfl args w
set_option maxHeartbeats 1000000 in
theorem Zh3 (i o : Int) (cs : List (Int × List Int × List Int)) : Con Try.prog 55 [.sig i o, .clauses cs] (.tup [.det (Zdx i o cs).1.1 (Zdx i o cs).1.2, .bool (Zdx i o cs).2]) := by
 refine Con.fit Zci fun hfit => ?_
 have hb_cs : cs.length ≤ 9223372036854775807 := GFits.lenm (show GFits (.clauses cs) from hfit 1 (ZL rfl))
 have hr_cs : ∀ r ∈ cs, r.2.1.length ≤ 9223372036854775807 ∧ r.2.2.length ≤ 9223372036854775807 := fun r hr => ⟨GFits.ints (GFits.cell (GFits.elm (show GFits (.clauses cs) from hfit 1 (ZL rfl)) r hr) (.tail _ (.head _))), GFits.ints (GFits.cell (GFits.elm (show GFits (.clauses cs) from hfit 1 (ZL rfl)) r hr) (.tail _ (.tail _ (.head _))))⟩
 clear hfit
 refine gCon ZfX Zac (rs := [.cell 4 29, .tmp 5]) (sl := [(0, .g (.sig i o)), (1, .g (.clauses cs))]) Try.func55 rfl Try.ntmps55 rfl Zci rfl (by repeat constructor) ?_
 (repeat' (first | ((with_reducible apply gLB.cagg); (. exact RF.mk ⟨rfl, rfl, rfl⟩)) | ((with_reducible apply gLB.cone); (. exact RF.mk ⟨rfl, rfl⟩)) | ((with_reducible apply gLI.cagg); (. exact RF.mk ⟨rfl, rfl, rfl⟩)) | ((with_reducible apply gLI.cone); (. exact RF.mk ⟨rfl, rfl⟩)) | ((with_reducible apply gAF.cbuildA); (. exact RF.mk rfl); (. exact RF.mk ⟨rfl, rfl, rfl, rfl⟩)) | (with_reducible constructor) | exact Z4 | exact NU.mk QMP0 | exact ZI | exact ZS | exact ZF | exact ZG | exact ZC | ((with_reducible apply ZaT); (. exact ZA); (. exact NU.mk QMP0)) | exact ZQ | (with_reducible apply Zay) | (apply ZaB) | (with_reducible apply Zaf) | ((with_reducible apply ZaU); (. exact NU.mk QMP0); (. rfl)) | (with_reducible apply ZaC) | (apply Zaw) | ((with_reducible apply Za0); first | (exact Zgv i o _ _ _ hk.1 (hk.2.2 j (by omega))) | (exact ZjB i o cs j x) | apply Za2 | apply Zh1) | (with_reducible intro hc; (try simp only [HCs] at hc)) | exact OB_f | exact DEC.mk (by decide) | exact ZM | exact ZT | exact ZK | (with_reducible first | apply gNK | apply ZaH | apply Zal | apply Zaj | apply Zai | apply Zam | apply CK_t | apply CK_f | apply ZaQ | apply Zar | apply ZaF | apply Zau | apply Zah | apply Zag | apply Zak | apply Zav | apply ZaA | apply Zax | apply Zaz | apply Zat | apply Zas | apply ZaR | apply ZaG | apply ZaE | apply ZaP) | apply Zaq Zac | apply Zao Zac rfl | (apply ZaD; exact RF.mk rfl) | exact EQ.mk rfl | (refine ZaN (id := 0) (ι := Nat × (List (List Int) × List (List Int × List Int))) (fun ⟨j, x⟩ => ⟨[(1, .g (.clauses cs)), (2, .ptr 4 0), (4, .ptr 0 0), (6, .ptr 1 0), (7, .g (.i j))], [(0, .box [.nils 1, .nils 2]), (1, .box [.own 2 0 x.1.length, .own 3 0 x.2.length]), (2, .arr 1 true (x.1.map GV.ints)), (3, .arr 2 true (x.2.map GV.pairP)), (4, .box [.g (.i i), .g (.i o)])]⟩) (fun ⟨j, x⟩ => (j ≤ cs.length) ∧ (detB i o x.1 x.2 = true) ∧ (Zeg (Zaa i o).toNat (cs.drop j) x.1 x.2 = Zeg (Zaa i o).toNat cs [List.replicate (Zaa i o).toNat (0 : Int)] [])) (fun ⟨j, x⟩ => cs.length - j) (0, ([List.replicate (Zaa i o).toNat (0 : Int)], [])) ?_ ?_ ?_; (. (apply ZeP (t := 6) (c := 1) (k := 900000); (. (repeat' (first | (with_reducible constructor) | exact Z4))); (. (repeat' (first | (with_reducible constructor) | exact Z4))); (. exact RF.mk rfl); (. (repeat' (first | (with_reducible constructor) | exact Z4))); (. (apply RF.mk; dsimp only [List.set])); apply gLX5 <;> (repeat' (first | (with_reducible constructor) | exact Z5 | exact RF.mk (by decide) | (with_reducible apply Zan) | exact EQ.mk QMP0)); (all_goals exact QMP1))); (. (exact ⟨by omega, Zk6 (Zd7 (show ZaZ i o cs = true by first | assumption | exact Zb2 (by assumption) (by assumption))).1, rfl⟩)); (rintro ⟨j, x⟩ ⟨h1, h2, h3⟩; have hk := Zd7 (show ZaZ i o cs = true by first | assumption | exact Zb2 (by assumption) (by assumption)); (show TX _ _ _ _ _ [(1, .g (.clauses cs)), (2, .ptr 4 0), (4, .ptr 0 0), (6, .ptr 1 0), (7, .g (.i j))] [(0, .box [.nils 1, .nils 2]), (1, .box [.own 2 0 x.1.length, .own 3 0 x.2.length]), (2, .arr 1 true (x.1.map GV.ints)), (3, .arr 2 true (x.2.map GV.pairP)), (4, .box [.g (.i i), .g (.i o)])] _))) | exact gSel.cnil _ | apply gSel.ccons | apply gCG.cagg))
 (all_goals (first | (refine Zbf (j + 1, (Zgz i o cs j x).1) ?_ ?_ ?_; (· (apply gLX5 <;> (repeat' (first | (with_reducible constructor) | exact Z5 | exact RF.mk (by decide) | (with_reducible apply Zan) | exact EQ.mk QMP0)); (all_goals exact QMP1))); (· (exact ⟨by omega, Zpi (show ZaZ i o cs = true by first | assumption | exact Zb2 (by assumption) (by assumption)) (by omega) h2 (by assumption), Zpq (show ZaZ i o cs = true by first | assumption | exact Zb2 (by assumption) (by assumption)) (by omega) h2 (by assumption) h3⟩)); (· exact ZW)) | ((first | (rw [Zf9 (by assumption)]; exact EQ.mk rfl) | (rw [Zlg (by assumption)]; exact EQ.mk rfl) | (rw [Zjg (by assumption)]; exact EQ.mk rfl) | (rw [Zlw (by assumption)]; exact EQ.mk rfl) | (rw [Zq1 (x := x) (show ZaZ i o cs = true by first | assumption | exact Zb2 (by assumption) (by assumption)) (by omega) h2 (by assumption) h3]; exact EQ.mk rfl) | (rw [Zp3 (x := x) (show ZaZ i o cs = true by first | assumption | exact Zb2 (by assumption) (by assumption)) (by omega) h3]; first | exact EQ.mk rfl | (refine Zfv (Zbd (Zcn (Zbd (ZbY (ZaS (EQ.mk ?_))) (Zbd (ZbY (ZaS (EQ.mk ?_))) (EQ.mk rfl)))) (EQ.mk rfl)); all_goals (first | rfl | exact List.take_of_length_le (Nat.le_refl _)))) | (rcases hc with hc | hc <;> first | (rw [Zf9 (by assumption)]; exact EQ.mk rfl) | (rw [Zlg (by assumption)]; exact EQ.mk rfl) | (rw [Zjg (by assumption)]; exact EQ.mk rfl) | (rw [Zlw (by assumption)]; exact EQ.mk rfl))); done)))
end Go.Proofs.Ytnieejghoaccmaa

