/- Contracts: products of clauses. No conditions but those that each theorem names. -/
import Derived.Test.YtabfpoflhacknaaGreatTab
import Derived.Test.YtabfpoflhacknaaGreatKG
import Derived.Test.YtabfpoflhacknaaGreatM5
import Derived.Test.YtabfpoflhacknaaGreatPO
import Derived.Test.YtabfpoflhacknaaGreatChecked
import Derived.Test.YtabfpoflhacknaaGreatM8d
import Derived.Test.YtabfpoflhacknaaGreatM7
import Derived.Test.YtabfpoflhacknaaGreatM2
import Derived.Test.YtabfpoflhacknaaGreatPR
set_option linter.unusedSimpArgs false
set_option linter.unusedVariables false
namespace Go.Proofs.YtabfpoflhacknaaGreat
open Go.RowKit
open Shp
end Go.Proofs.YtabfpoflhacknaaGreat

namespace Go.Proofs.YtabfpoflhacknaaGreat
open Go.RowKit
open Shp
end Go.Proofs.YtabfpoflhacknaaGreat

namespace Go.Proofs.YtabfpoflhacknaaGreat
open Go.RowKit
open Shp
end Go.Proofs.YtabfpoflhacknaaGreat

namespace Go.Proofs.YtabfpoflhacknaaGreat
open Go.RowKit
open Shp
theorem ZiN (i o : Int) (n : List (List Int)) (ps : List (List Int × List Int)) (n2 : List (List Int)) (ps2 : List (List Int × List Int)) (h : HY (detB i o n ps = true)) (h2 : HY (detB i o n2 ps2 = true)) : Con Tryz.prog 26 [.det n ps, .det n2 ps2] (.tup [.det (Zpq i o n ps n2 ps2).1.1 (Zpq i o n ps n2 ps2).1.2, .bool (Zpq i o n ps n2 ps2).2]) := by
 obtain ⟨a1, ⟨a2, a3⟩, a4, a5⟩ := detB_iff.1 h.e
 obtain ⟨b1, ⟨b2, b3⟩, b4, b5⟩ := detB_iff.1 h2.e
 have hL := ZaE i o
 rw [← Zbh] at a5 b5
 have p1 := Zkj h.e
 have p2 := Zkj h2.e
 rw [ZmC h.e h2.e]
 exact ZjG n ps n2 ps2 (Zaa i o).toNat (HY.mk a5) (HY.mk b5) (NU.mk (by omega)) (NU.mk ⟨p1, p2⟩)
end Go.Proofs.YtabfpoflhacknaaGreat

namespace Go.Proofs.YtabfpoflhacknaaGreat
open Go.RowKit
open Shp
theorem QMP1 {p : Prop} (h : p := by ((first | exact EQ.mk rfl | exact EQ.mk (by first | (simp; done) | fail) | (refine EQ.mk ?_; rw [← ZaW (show sigB i o = true by assumption)]; simp)); done)) : p := h
theorem QMP0 {p : Prop} (h : p := by first | exact ZO | (first | omega | (have q := ZaE i o; omega) | (have q := ZkF (show sigB i o = true by assumption); omega))) : p := h
theorem Znh (i o : Int) (cs : List (Int × List Int × List Int)) (j : Nat) (x : List (List Int) × List (List Int × List Int)) (hx : HY (detB i o x.1 x.2 = true)) (hm : HY (detB i o (monN (nth cs j).1 (nth cs j).2.1 (nth cs j).2.2 (Zaa i o).toNat) [monP (nth cs j).1] = true)) : Con Tryz.prog 26 [.det x.1 x.2, .det (monN (nth cs j).1 (nth cs j).2.1 (nth cs j).2.2 (Zaa i o).toNat) [monP (nth cs j).1]] (.tup [.det (Zie i o cs j x).1.1 (Zie i o cs j x).1.2, .bool (Zie i o cs j x).2]) := ZiN i o x.1 x.2 _ _ hx hm
def Zhm : Nat → List Nat
 | 0 => [1, 2, 4]
 | 1 => [1, 2, 4, 19]
 | 2 => [4, 5]
 | 3 => [1, 2, 4, 6]
 | 4 => [2, 4, 6, 26, 27, 28]
 | 5 => [2, 4, 6, 26, 27, 28, 29]
 | 6 => [2, 4, 6, 8, 26, 27, 28]
 | 7 => [2, 4, 6, 9, 10, 26, 27, 28]
 | 8 => [2, 4, 6, 9, 26, 27, 28, 41]
 | 9 => [4, 5]
 | 10 => [2, 4, 6, 26, 27, 28]
 | 11 => [2, 4, 6, 26, 27, 28]
 | 12 => [4, 5]
 | _ => []
theorem ZcX (args : Array Value) (w : World) : (callFunc 16 args).run Tryz.prog w = .ok (.enter 16 args) w := Zab Tryz.func16 (by decide) rfl args w
set_option maxHeartbeats 1000000 in
theorem Zj9 (i o : Int) (cs : List (Int × List Int × List Int)) : Con Tryz.prog 16 [.sig i o, .clauses cs] (.tup [.det (ZaX i o cs).1.1 (ZaX i o cs).1.2, .bool (ZaX i o cs).2]) := by
 refine Con.fit ZcX fun hfit => ?_
 have hb_cs : cs.length ≤ 9223372036854775807 := GFits.lenm (show GFits (.clauses cs) from hfit 1 (ZL rfl))
 have hr_cs : ∀ r ∈ cs, r.2.1.length ≤ 9223372036854775807 ∧ r.2.2.length ≤ 9223372036854775807 := fun r hr => ⟨GFits.ints (GFits.cell (GFits.elm (show GFits (.clauses cs) from hfit 1 (ZL rfl)) r hr) (.tail _ (.head _))), GFits.ints (GFits.cell (GFits.elm (show GFits (.clauses cs) from hfit 1 (ZL rfl)) r hr) (.tail _ (.tail _ (.head _))))⟩
 clear hfit
 refine gCon Zhm Zad (rs := [.cell 4 29, .tmp 5]) (sl := [(0, .g (.sig i o)), (1, .g (.clauses cs))]) Tryz.func16 rfl Tryz.ntmps16 rfl ZcX rfl (by repeat constructor) ?_
 (repeat' (first | ((with_reducible apply gLB.cagg); (. exact RF.mk ⟨rfl, rfl, rfl⟩)) | ((with_reducible apply gLI.cagg); (. exact RF.mk ⟨rfl, rfl, rfl⟩)) | (with_reducible constructor) | exact Z4 | exact NU.mk QMP0 | exact ZS | exact ZC | ((with_reducible apply Zbv); (. exact ZA); (. exact NU.mk QMP0)) | ((with_reducible apply ZaA); first | (exact Zj1 i o _ _ _ (HY.mk hk.1) (NU.mk (Ze1 (hk.2.2 j (by omega))))) | (exact Znh i o cs j x (HY.mk h2) (HY.mk (ZlL (show ZaB i o cs = true by first | assumption | exact Zca (by assumption) (by assumption)) (by omega)))) | apply Zec | apply ZaD | apply Ze8) | (with_reducible intro hc; (try simp only [HCs] at hc)) | exact OB_f | exact ZM | exact ZK | (with_reducible first | apply gNK | apply Zam | apply Zaf | apply Zaq | apply ZaC | apply Zai | apply CK_t | apply ZaR | apply Zar | apply Zas | apply Zay | apply Zap | apply Zaw | apply Za3 | apply Zax | apply Za9 | apply ZpK) | apply Zah Zad | apply ZaQ Zad rfl | (apply ZaF; exact RF.mk rfl) | (refine Zak (id := 0) (ι := Nat × (List (List Int) × List (List Int × List Int))) (fun ⟨j, x⟩ => ⟨[(2, .ptr 4 0), (4, .ptr 0 0), (6, .ptr 1 0), (26, .g (.clauses cs)), (27, .g (.i cs.length)), (28, .g (.i j))], [(0, .box [.nils 1, .nils 2]), (1, .box [.own 2 0 x.1.length, .own 3 0 x.2.length]), (2, .arr 1 true (x.1.map GV.ints)), (3, .arr 2 true (x.2.map GV.pairP)), (4, .box [.g (.i i), .g (.i o)])]⟩) (fun ⟨j, x⟩ => (j ≤ cs.length) ∧ (detB i o x.1 x.2 = true) ∧ (Zdq (Zaa i o).toNat (cs.drop j) x.1 x.2 = Zdq (Zaa i o).toNat cs [List.replicate (Zaa i o).toNat (0 : Int)] [])) (fun ⟨j, x⟩ => cs.length - j) (0, ([List.replicate (Zaa i o).toNat (0 : Int)], [])) ?_ ?_ ?_; (. (apply Zez (t := 6) (c := 1) (k := 900000); (. (repeat' (first | (with_reducible constructor) | exact Z4))); (. (repeat' (first | (with_reducible constructor) | exact Z4))); (. exact RF.mk rfl); (. (repeat' (first | (with_reducible constructor) | exact Z4))); (. (apply RF.mk; dsimp only [List.set])); apply gLX5 <;> (repeat' (first | (with_reducible constructor) | exact Z5 | exact RF.mk (by decide) | (with_reducible apply Zae) | exact EQ.mk QMP0)); (all_goals exact QMP1))); (. (exact ⟨by omega, ZlD (Zei (show ZaB i o cs = true by first | assumption | exact Zca (by assumption) (by assumption))).1, rfl⟩)); (rintro ⟨j, x⟩ ⟨h1, h2, h3⟩; have hk := Zei (show ZaB i o cs = true by first | assumption | exact Zca (by assumption) (by assumption)); (show TX _ _ _ _ _ [(2, .ptr 4 0), (4, .ptr 0 0), (6, .ptr 1 0), (26, .g (.clauses cs)), (27, .g (.i cs.length)), (28, .g (.i j))] [(0, .box [.nils 1, .nils 2]), (1, .box [.own 2 0 x.1.length, .own 3 0 x.2.length]), (2, .arr 1 true (x.1.map GV.ints)), (3, .arr 2 true (x.2.map GV.pairP)), (4, .box [.g (.i i), .g (.i o)])] _))) | apply gSel.ccons))
 (all_goals (first | (refine ZaJ (j + 1, (Zie i o cs j x).1) ?_ ?_ ?_; (· (apply gLX5 <;> (repeat' (first | (with_reducible constructor) | exact Z5 | exact RF.mk (by decide) | (with_reducible apply Zae) | exact EQ.mk QMP0)); (all_goals exact QMP1))); (· (exact ⟨by omega, Zse (show ZaB i o cs = true by first | assumption | exact Zca (by assumption) (by assumption)) (by omega) h2 (by assumption), Zte (show ZaB i o cs = true by first | assumption | exact Zca (by assumption) (by assumption)) (by omega) h2 (by assumption) h3⟩)); (· exact ZW)) | ((first | (rw [Zk3 (by assumption)]; exact EQ.mk rfl) | (rw [Zn0 (by assumption)]; exact EQ.mk rfl) | (rw [Zli (by assumption)]; exact EQ.mk rfl) | (rw [ZoJ (by assumption)]; exact EQ.mk rfl) | (rw [ZvM (x := x) (show ZaB i o cs = true by first | assumption | exact Zca (by assumption) (by assumption)) (by omega) h2 (by assumption) h3]; exact EQ.mk rfl) | (rw [ZtR (x := x) (show ZaB i o cs = true by first | assumption | exact Zca (by assumption) (by assumption)) (by omega) h3]; first | exact EQ.mk rfl | (refine ZkA (Zbb (ZbL (Zbb (Zby (Zau (EQ.mk ?_))) (Zbb (Zby (Zau (EQ.mk ?_))) (EQ.mk rfl)))) (EQ.mk rfl)); all_goals (first | rfl | exact List.take_of_length_le (Nat.le_refl _)))) | (rcases hc with hc | hc <;> first | (rw [Zk3 (by assumption)]; exact EQ.mk rfl) | (rw [Zn0 (by assumption)]; exact EQ.mk rfl) | (rw [Zli (by assumption)]; exact EQ.mk rfl) | (rw [ZoJ (by assumption)]; exact EQ.mk rfl))); done)))
end Go.Proofs.YtabfpoflhacknaaGreat

