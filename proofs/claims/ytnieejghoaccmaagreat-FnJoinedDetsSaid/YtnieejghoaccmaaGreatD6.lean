/- Draws: sets, clauses, automata by the cursor. No conditions but those that each theorem names. -/
import Derived.Test.YtnieejghoaccmaaGreatTab
import Derived.Test.YtnieejghoaccmaaGreatKG
import Derived.Test.YtnieejghoaccmaaGreatD4
import Derived.Test.YtnieejghoaccmaaGreatMP
import Derived.Test.YtnieejghoaccmaaGreatDM
import Derived.Test.YtnieejghoaccmaaGreatPU3
import Derived.Test.YtnieejghoaccmaaGreatPK3
import Derived.Test.YtnieejghoaccmaaGreatChecked
set_option linter.unusedSimpArgs false
set_option linter.unusedVariables false
namespace Go.Proofs.YtnieejghoaccmaaGreat
open Go.RowKit
open Shp
theorem QD61 {p : Prop} (h : p := by ((first | exact EQ.mk rfl | exact EQ.mk (by first | (simp; done) | fail) | exact Zax (EQ.mk rfl) | (refine EQ.mk ?_; rw [List.map_append]; rfl)); done)) : p := h
theorem QD60 {p : Prop} (h : p := by ((first | exact EQ.mk rfl | exact EQ.mk (by first | (simp; done) | fail) | exact Zax (EQ.mk rfl)); done)) : p := h
def Zgq : Nat → List Nat
 | 0 => [0, 1]
 | 1 => [0, 1, 5]
 | 2 => [0, 1, 5, 6]
 | 3 => [0, 1, 5, 6, 10]
 | 4 => [0, 1, 5, 6]
 | 5 => [0, 1, 5, 6, 14]
 | 6 => [0, 1, 5, 6]
 | 7 => [0, 4]
 | _ => []
theorem ZeI (args : Array Value) (w : World) : (callFunc 60 args).run Tryz.prog w = .ok (.enter 60 args) w := Zab Tryz.func60 (by decide) rfl args w
set_option maxHeartbeats 1000000 in
theorem Zew (v : Value) (bs : List Int) (s : Nat × Int) (n : Int) (hl : NU (bs.length ≤ 4096)) (hn : NU (0 ≤ n ∧ n ≤ 1000)) : BoxC Tryz.prog 60 [.ex v 1 (bs.map (GV.int .u8)), .int .i64 ((s).1 : Int), .int .i64 (s).2] [.i n] (.ints (Zc7 bs n s).1) [.ex v 1 (bs.map (GV.int .u8)), .int .i64 (((Zc7 bs n s).2).1 : Int), .int .i64 ((Zc7 bs n s).2).2] := by
 have hl := hl.e
 have hn := hn.e
 refine gCur Zgq Zac (rs := [.tmp 4]) (sl := [(1, .g (.i n))]) (B := [.g (.ex v 1 (bs.map (GV.int .u8))), .g (.int .i64 ((s).1 : Int)), .g (.int .i64 (s).2)]) Tryz.func60 rfl Tryz.ntmps60 rfl ZeI rfl rfl rfl rfl (by first | (simp [GV.atom]; done) | fail) rfl (by repeat constructor) (by repeat constructor) ?_
 (repeat' (first | ((with_reducible apply gAF.ccur (f := 33))) | ((with_reducible apply Zc5); first | apply Zb6) | (with_reducible first | apply ZdX | apply Zda) | ((with_reducible apply gLB.cagg); (. exact RF.mk ⟨rfl, rfl, rfl⟩)) | ((with_reducible apply gLB.cone); (. exact RF.mk ⟨rfl, rfl⟩)) | ((with_reducible apply gLI.cagg); (. exact RF.mk ⟨rfl, rfl, rfl⟩)) | ((with_reducible apply gLI.cone); (. exact RF.mk ⟨rfl, rfl⟩)) | ((with_reducible apply gAF.cbuildA); (. exact RF.mk rfl); (. exact RF.mk ⟨rfl, rfl, rfl, rfl⟩)) | (with_reducible constructor) | exact Z4 | exact ZN | exact ZI | exact ZS | exact ZF | exact ZG | exact ZC | exact ZP | exact ZQ | (with_reducible apply Zbp) | (apply ZbB) | (with_reducible apply Zbd) | exact ZU | (with_reducible apply Zby) | (apply ZbD) | (with_reducible intro hc; (try simp only [HCs] at hc)) | exact OB_f | exact DEC.mk (by decide) | exact ZM | exact ZT | exact ZK | (with_reducible first | apply gNK | apply Zao | apply Zaf | apply Zal | apply Zan | apply Zai | apply CK_t | apply CK_f | apply ZaQ | apply Zam | apply Zap | apply Zau | apply Zbe | apply Zak | apply Za7 | apply Zas | apply ZaG | apply Zav | apply ZaM | apply ZbE | apply ZbC | apply Zes | apply Zat | apply ZbH | apply Zeu) | apply Zah Zac | apply ZaK Zac rfl | (apply ZaD; exact RF.mk rfl) | exact EQ.mk rfl | (refine Zaq (id := 0) (ι := Nat × (List Int) × (Nat × Int)) (fun ⟨i, a, t⟩ => ⟨[(0, .ptr 0 0), (1, .g (.i n)), (5, .own 1 0 a.length), (6, .g (.i i))], [(0, .box [.g (.ex v 1 (bs.map (GV.int .u8))), .g (.int .i64 ((t).1 : Int)), .g (.int .i64 (t).2)]), (1, .arr 1 true (a.map GV.i))]⟩) (fun ⟨i, a, t⟩ => (i ≤ n.toNat) ∧ (setC bs (n.toNat - i) i a t = Zc7 bs n s) ∧ (a.length ≤ i)) (fun ⟨i, a, t⟩ => n.toNat - i) (0, [], s) ?_ ?_ ?_; (. (apply gLX2 <;> (repeat' (first | (with_reducible constructor) | exact Z5 | exact RF.mk (by decide) | (with_reducible apply Zae) | exact ZE)); (all_goals exact QD60))); (. (exact ⟨by omega, rfl, by simp⟩)); (rintro ⟨i, a, t⟩ ⟨h1, h2, h3⟩; (show TX _ _ _ _ _ [(0, .ptr 0 0), (1, .g (.i n)), (5, .own 1 0 a.length), (6, .g (.i i))] [(0, .box [.g (.ex v 1 (bs.map (GV.int .u8))), .g (.int .i64 ((t).1 : Int)), .g (.int .i64 (t).2)]), (1, .arr 1 true (a.map GV.i))] _))) | exact gSel.cnil _ | apply gSel.ccons | apply gCG.cagg))
 (all_goals (first | (refine ZaR (i + 1, a, Zag bs 2 t) ?_ ?_ ?_; (· (apply gLX2 <;> (repeat' (first | (with_reducible constructor) | exact Z5 | exact RF.mk (by decide) | (with_reducible apply Zae) | exact ZE)); (all_goals exact QD60))); (· ((refine ⟨by omega, ?_, by first | omega | (simp; omega)⟩; rw [← h2, show n.toNat - i = (n.toNat - (i + 1)) + 1 by omega]; simp only [setC]; first | (rw [if_pos (by assumption)]; rfl) | (rw [if_neg (by first | (simp_all; done) | fail)]; rfl)))); (· exact ZW)) | (refine ZaR (i + 1, a ++ [(i : Int)], Zag bs 2 t) ?_ ?_ ?_; (· (apply gLX2 <;> (repeat' (first | (with_reducible constructor) | exact Z5 | exact RF.mk (by decide) | (with_reducible apply Zae) | exact ZE)); (all_goals exact QD60))); (· ((refine ⟨by omega, ?_, by first | omega | (simp; omega)⟩; rw [← h2, show n.toNat - i = (n.toNat - (i + 1)) + 1 by omega]; simp only [setC]; first | (rw [if_pos (by assumption)]; rfl) | (rw [if_neg (by first | (simp_all; done) | fail)]; rfl)))); (· exact ZW)) | (((rw [show n.toNat - i = 0 by omega] at h2; simp only [setC] at h2; rw [← h2]; first | exact EQ.mk rfl | exact ZbV (Zax (EQ.mk rfl)))); done)))
def Zit : Nat → List Nat
 | 0 => [0, 3, 4]
 | 1 => [0, 4, 5]
 | 2 => [0, 4, 5, 6]
 | 3 => [0, 4, 5, 6, 19]
 | 4 => [0, 4, 6]
 | 5 => [0, 4]
 | _ => []
theorem Zga (args : Array Value) (w : World) : (callFunc 78 args).run Tryz.prog w = .ok (.enter 78 args) w := Zab Tryz.func78 (by decide) rfl args w
set_option maxHeartbeats 1000000 in
theorem Zhi (v : Value) (bs : List Int) (s : Nat × Int) (i o : Int) (hl : NU (bs.length ≤ 4096)) : BoxC Tryz.prog 78 [.ex v 1 (bs.map (GV.int .u8)), .int .i64 ((s).1 : Int), .int .i64 (s).2] [.sig i o] (.clause (clC bs (max (Zaa i o) 2) s).1.1 (clC bs (max (Zaa i o) 2) s).1.2.1 (clC bs (max (Zaa i o) 2) s).1.2.2) [.ex v 1 (bs.map (GV.int .u8)), .int .i64 (((clC bs (max (Zaa i o) 2) s).2).1 : Int), .int .i64 ((clC bs (max (Zaa i o) 2) s).2).2] := by
 have hl := hl.e
 have hL := Zaw i o
 have r1 := Za9 bs 7 s
 have r2 := r1.2 (by omega)
 refine gCur Zit Zac (rs := [.cell 4 105]) (sl := [(1, .g (.sig i o))]) (B := [.g (.ex v 1 (bs.map (GV.int .u8))), .g (.int .i64 ((s).1 : Int)), .g (.int .i64 (s).2)]) Tryz.func78 rfl Tryz.ntmps78 rfl Zga rfl rfl rfl rfl (by first | (simp [GV.atom]; done) | fail) rfl (by repeat constructor) (by repeat constructor) ?_
 (repeat' (first | ((with_reducible apply gAF.ccur (f := 34))) | ((with_reducible apply gAF.ccur (f := 60))) | ((with_reducible apply Zc5); first | apply Za8 | apply Zew) | (with_reducible first | apply ZdX | apply Zda) | ((with_reducible apply gLB.cagg); (. exact RF.mk ⟨rfl, rfl, rfl⟩)) | ((with_reducible apply gLB.cone); (. exact RF.mk ⟨rfl, rfl⟩)) | ((with_reducible apply gLI.cagg); (. exact RF.mk ⟨rfl, rfl, rfl⟩)) | ((with_reducible apply gLI.cone); (. exact RF.mk ⟨rfl, rfl⟩)) | ((with_reducible apply gAF.cbuildA); (. exact RF.mk rfl); (. exact RF.mk ⟨rfl, rfl, rfl, rfl⟩)) | (with_reducible constructor) | exact Z4 | exact ZN | exact ZI | exact ZS | exact ZF | exact ZG | exact ZC | exact ZP | exact ZQ | (with_reducible apply Zbp) | (apply ZbB) | (with_reducible apply Zbd) | exact ZU | (with_reducible apply Zby) | (apply ZbD) | ((with_reducible apply ZaP); first | apply Za2 | apply ZjK | apply Zhd) | (with_reducible intro hc; (try simp only [HCs] at hc)) | exact OB_f | exact DEC.mk (by decide) | exact ZM | exact ZT | exact ZK | (with_reducible first | apply gNK | apply Zao | apply Zaf | apply Zal | apply Zan | apply Zai | apply CK_t | apply CK_f | apply ZaQ | apply Zam | apply Zap | apply Zau | apply Zbe | apply Zak | apply Za7 | apply Zas | apply ZaG | apply Zav | apply ZaM | apply ZbE | apply ZbC | apply Zes | apply Zat | apply ZbH | apply Zeu) | apply Zah Zac | apply ZaK Zac rfl | (apply ZaD; exact RF.mk rfl) | exact EQ.mk rfl | exact gSel.cnil _ | apply gSel.ccons | apply gCG.cagg))
 (all_goals (first | (((unfold clC; (first | rw [if_pos (by assumption)] | rw [if_neg (by rw [show Zia (1 + ZaH bs 7 s) = false by assumption]; simp)]); first | exact EQ.mk rfl | ((repeat (first | apply Za6 | apply ZcF | apply ZbV | apply Zax)); all_goals exact EQ.mk rfl))); done)))
def ZfO : Nat → List Nat
 | 0 => [0, 3, 4]
 | 1 => [0, 4, 5]
 | 2 => [0, 4, 5, 10]
 | 3 => [0, 4, 5, 12]
 | 4 => [0, 4, 5, 12, 13]
 | 5 => [0, 4, 5]
 | 6 => [0, 4, 5, 12, 18]
 | 7 => [0, 4, 5]
 | 8 => [0, 4, 5, 27]
 | 9 => [0, 4, 5]
 | 10 => [0, 4]
 | _ => []
theorem ZeS (args : Array Value) (w : World) : (callFunc 79 args).run Tryz.prog w = .ok (.enter 79 args) w := Zab Tryz.func79 (by decide) rfl args w
set_option maxHeartbeats 1000000 in
theorem Zig (v : Value) (bs : List Int) (s : Nat × Int) (i o : Int) (hl : NU (bs.length ≤ 4096)) : BoxC Tryz.prog 79 [.ex v 1 (bs.map (GV.int .u8)), .int .i64 ((s).1 : Int), .int .i64 (s).2] [.sig i o] (.clause (clA bs (max (Zaa i o) 2) s).1.1 (clA bs (max (Zaa i o) 2) s).1.2.1 (clA bs (max (Zaa i o) 2) s).1.2.2) [.ex v 1 (bs.map (GV.int .u8)), .int .i64 (((clA bs (max (Zaa i o) 2) s).2).1 : Int), .int .i64 ((clA bs (max (Zaa i o) 2) s).2).2] := by
 have hl := hl.e
 have hL := Zaw i o
 have hq := Ztr (bs := bs) (n := (max (Zaa i o) 2)) (s := s)
 have r1 := Za9 bs 3 (Zag bs 10 (clC bs (max (Zaa i o) 2) s).2)
 have r2 := r1.2 (by omega)
 refine gCur ZfO Zac (rs := [.cell 4 105]) (sl := [(1, .g (.sig i o))]) (B := [.g (.ex v 1 (bs.map (GV.int .u8))), .g (.int .i64 ((s).1 : Int)), .g (.int .i64 (s).2)]) Tryz.func79 rfl Tryz.ntmps79 rfl ZeS rfl rfl rfl rfl (by first | (simp [GV.atom]; done) | fail) rfl (by repeat constructor) (by repeat constructor) ?_
 (repeat' (first | ((with_reducible apply gAF.ccur (f := 33))) | ((with_reducible apply gAF.ccur (f := 34))) | ((with_reducible apply gAF.ccur (f := 35))) | ((with_reducible apply gAF.ccur (f := 78))) | ((with_reducible apply gAF.ccur (f := 101))) | ((with_reducible apply Zc5); first | apply Zb6 | apply Za8 | apply ZfG | apply Zhi | apply ZoC) | (with_reducible first | apply ZdX | apply Zda) | ((with_reducible apply gLB.cagg); (. exact RF.mk ⟨rfl, rfl, rfl⟩)) | ((with_reducible apply gLB.cone); (. exact RF.mk ⟨rfl, rfl⟩)) | ((with_reducible apply gLI.cagg); (. exact RF.mk ⟨rfl, rfl, rfl⟩)) | ((with_reducible apply gLI.cone); (. exact RF.mk ⟨rfl, rfl⟩)) | ((with_reducible apply gAF.cbuildA); (. exact RF.mk rfl); (. exact RF.mk ⟨rfl, rfl, rfl, rfl⟩)) | (with_reducible constructor) | exact Z4 | exact ZN | exact ZI | exact ZS | exact ZF | exact ZG | exact ZC | exact ZP | exact ZQ | (with_reducible apply Zbp) | (apply ZbB) | (with_reducible apply Zbd) | exact ZU | (with_reducible apply Zby) | (apply ZbD) | (with_reducible intro hc; (try simp only [HCs] at hc)) | exact OB_f | exact DEC.mk (by decide) | exact ZM | exact ZT | exact ZK | (with_reducible first | apply gNK | apply Zao | apply Zaf | apply Zal | apply Zan | apply Zai | apply CK_t | apply CK_f | apply ZaQ | apply Zam | apply Zap | apply Zau | apply Zbe | apply Zak | apply Za7 | apply Zas | apply ZaG | apply Zav | apply ZaM | apply ZbE | apply ZbC | apply Zes | apply Zat | apply ZbH | apply Zeu) | apply Zah Zac | apply ZaK Zac rfl | (apply ZaD; exact RF.mk rfl) | exact EQ.mk rfl | exact gSel.cnil _ | apply gSel.ccons | apply gCG.cagg))
 (all_goals (first | (exfalso; omega) | (((clear hq r1 r2 hL; (repeat (first | apply Za6 | apply ZcF | apply ZbV | apply Zax)); all_goals (refine EQ.mk ?_; first | rfl | (simp_all [clA, clB]; done)))); done)))
def Zf3 : Nat → List Nat
 | 0 => [0, 2, 4]
 | 1 => [0, 2, 4, 7]
 | 2 => [0, 4, 7, 8]
 | 3 => [0, 4, 7, 8, 15]
 | 4 => [0, 4, 7, 8]
 | 5 => [0, 4, 7, 8]
 | 6 => [0, 4, 7, 25]
 | 7 => [0, 7]
 | 8 => [0, 6]
 | _ => []
theorem ZeY (args : Array Value) (w : World) : (callFunc 59 args).run Tryz.prog w = .ok (.enter 59 args) w := Zab Tryz.func59 (by decide) rfl args w
set_option maxHeartbeats 1000000 in
theorem ZiW (v : Value) (bs : List Int) (s : Nat × Int) (i o m : Int) (hl : NU (bs.length ≤ 4096)) (hm : NU (0 ≤ m ∧ m ≤ 100)) : BoxC Tryz.prog 59 [.ex v 1 (bs.map (GV.int .u8)), .int .i64 ((s).1 : Int), .int .i64 (s).2] [.sig i o, .i m] (.clauses (allC bs (max (Zaa i o) 2) m s).1) [.ex v 1 (bs.map (GV.int .u8)), .int .i64 (((allC bs (max (Zaa i o) 2) m s).2).1 : Int), .int .i64 ((allC bs (max (Zaa i o) 2) m s).2).2] := by
 have hl := hl.e
 have hm := hm.e
 have hL := Zaw i o
 have r1 := Za9 bs (m + 1) s
 have r2 := r1.2 (by omega)
 refine gCur Zf3 Zac (rs := [.tmp 6]) (sl := [(1, .g (.sig i o)), (2, .g (.i m))]) (B := [.g (.ex v 1 (bs.map (GV.int .u8))), .g (.int .i64 ((s).1 : Int)), .g (.int .i64 (s).2)]) Tryz.func59 rfl Tryz.ntmps59 rfl ZeY rfl rfl rfl rfl (by first | (simp [GV.atom]; done) | fail) rfl (by repeat constructor) (by repeat constructor) ?_
 (repeat' (first | ((with_reducible apply gAF.ccur (f := 33))) | ((with_reducible apply gAF.ccur (f := 34))) | ((with_reducible apply gAF.ccur (f := 78))) | ((with_reducible apply gAF.ccur (f := 79))) | ((with_reducible apply Zc5); first | apply Zb6 | apply Za8 | apply Zhi | apply Zig) | (with_reducible first | apply ZdX | apply Zda) | ((with_reducible apply gLB.cagg); (. exact RF.mk ⟨rfl, rfl, rfl⟩)) | ((with_reducible apply gLB.cone); (. exact RF.mk ⟨rfl, rfl⟩)) | ((with_reducible apply gLI.cagg); (. exact RF.mk ⟨rfl, rfl, rfl⟩)) | ((with_reducible apply gLI.cone); (. exact RF.mk ⟨rfl, rfl⟩)) | ((with_reducible apply gAF.cbuildA); (. exact RF.mk rfl); (. exact RF.mk ⟨rfl, rfl, rfl, rfl⟩)) | (with_reducible constructor) | exact Z4 | exact ZN | exact ZI | exact ZS | exact ZF | exact ZG | exact ZC | exact ZP | exact ZQ | (with_reducible apply Zbp) | (apply ZbB) | (with_reducible apply Zbd) | exact ZU | (with_reducible apply Zby) | (apply ZbD) | (with_reducible intro hc; (try simp only [HCs] at hc)) | exact OB_f | exact DEC.mk (by decide) | exact ZM | exact ZT | exact ZK | (with_reducible first | apply gNK | apply Zao | apply Zaf | apply Zal | apply Zan | apply Zai | apply CK_t | apply CK_f | apply ZaQ | apply Zam | apply Zap | apply Zau | apply Zbe | apply Zak | apply Za7 | apply Zas | apply ZaG | apply Zav | apply ZaM | apply ZbE | apply ZbC | apply Zes | apply Zat | apply ZbH | apply Zeu) | apply Zah Zac | apply ZaK Zac rfl | (apply ZaD; exact RF.mk rfl) | exact EQ.mk rfl | (refine Zaq (id := 0) (ι := Int × (List (Int × List Int × List Int)) × (Nat × Int)) (fun ⟨k, a, t⟩ => ⟨[(0, .ptr 0 0), (4, .ptr 2 0), (7, .own 1 0 a.length), (8, .g (.i k))], [(0, .box [.g (.ex v 1 (bs.map (GV.int .u8))), .g (.int .i64 ((t).1 : Int)), .g (.int .i64 (t).2)]), (1, .arr 3 true (a.map GV.clauseP)), (2, .box [.g (.i i), .g (.i o)])]⟩) (fun ⟨k, a, t⟩ => (0 ≤ k ∧ k + a.length ≤ 100) ∧ (clsC bs (max (Zaa i o) 2) k.toNat a t = fewC bs (max (Zaa i o) 2) m s)) (fun ⟨k, a, t⟩ => k.toNat) (ZaH bs (m + 1) s, [], Zag bs (m + 1) s) ?_ ?_ ?_; (. (apply gLX3 <;> (repeat' (first | (with_reducible constructor) | exact Z5 | exact RF.mk (by decide) | (with_reducible apply Zae) | exact ZE)); (all_goals exact QD61))); (. (exact ⟨by simp; omega, rfl⟩)); (rintro ⟨k, a, t⟩ ⟨h1, h2⟩; (show TX _ _ _ _ _ [(0, .ptr 0 0), (4, .ptr 2 0), (7, .own 1 0 a.length), (8, .g (.i k))] [(0, .box [.g (.ex v 1 (bs.map (GV.int .u8))), .g (.int .i64 ((t).1 : Int)), .g (.int .i64 (t).2)]), (1, .arr 3 true (a.map GV.clauseP)), (2, .box [.g (.i i), .g (.i o)])] _))) | exact gSel.cnil _ | apply gSel.ccons | apply gCG.cagg))
 (all_goals (first | (refine ZaR (k - 1, a ++ [(clC bs (max (Zaa i o) 2) t).1], (clC bs (max (Zaa i o) 2) t).2) ?_ ?_ ?_; (· (apply gLX3 <;> (repeat' (first | (with_reducible constructor) | exact Z5 | exact RF.mk (by decide) | (with_reducible apply Zae) | exact ZE)); (all_goals exact QD61))); (· ((refine ⟨by simp; omega, ?_⟩; rw [← h2, show k.toNat = (k - 1).toNat + 1 by omega]; rfl))); (· exact ZW)) | (((rw [show k.toNat = 0 by omega] at h2; simp only [clsC] at h2; (repeat (first | apply Za6 | apply ZcF | apply ZbV | apply Zax)); all_goals (refine EQ.mk ?_; first | rfl | (unfold allC; rw [← h2]; first | (rw [if_pos (by assumption)]; done) | (rw [if_neg (by first | (simp_all; done) | fail)]; done) | (rw [if_pos (by assumption)]; rfl) | (rw [if_neg (by first | (simp_all; done) | fail)]; rfl))))); done)))
end Go.Proofs.YtnieejghoaccmaaGreat

