/- Draws: sets, clauses, automata by the cursor. No conditions but those that each theorem names. -/
import Derived.Test.YtnieejghoaccmaaTab
import Derived.Test.YtnieejghoaccmaaKG
import Derived.Test.YtnieejghoaccmaaD4
import Derived.Test.YtnieejghoaccmaaMP
import Derived.Test.YtnieejghoaccmaaDM
import Derived.Test.YtnieejghoaccmaaPU3
import Derived.Test.YtnieejghoaccmaaPK3
import Derived.Test.YtnieejghoaccmaaChecked
set_option linter.unusedSimpArgs false
set_option linter.unusedVariables false
namespace Go.Proofs.Ytnieejghoaccmaa
open Go.RowKit
open Shp
theorem QD61 {p : Prop} (h : p := by ((first | exact EQ.mk rfl | exact EQ.mk (by first | (simp; done) | fail) | exact ZaS (EQ.mk rfl) | (refine EQ.mk ?_; rw [List.map_append]; rfl)); done)) : p := h
theorem QD60 {p : Prop} (h : p := by ((first | exact EQ.mk rfl | exact EQ.mk (by first | (simp; done) | fail) | exact ZaS (EQ.mk rfl)); done)) : p := h
def Ze1 : Nat → List Nat
 | 0 => [0, 1]
 | 1 => [0, 1, 5]
 | 2 => [0, 1, 5, 6]
 | 3 => [0, 1, 5, 6, 10]
 | 4 => [0, 1, 5, 6]
 | 5 => [0, 1, 5, 6, 14]
 | 6 => [0, 1, 5, 6]
 | 7 => [0, 4]
 | _ => []
theorem Zec (args : Array Value) (w : World) : (callFunc 57 args).run Try.prog w = .ok (.enter 57 args) w := Zab Try.func57 (by decide) rfl args w
set_option maxHeartbeats 1000000 in
theorem ZdW (v : Value) (bs : List Int) (s : Nat × Int) (n : Int) (hl : NU (bs.length ≤ 4096)) (hn : NU (0 ≤ n ∧ n ≤ 1000)) : BoxC Try.prog 57 [.ex v 1 (bs.map (GV.int .u8)), .int .i64 ((s).1 : Int), .int .i64 (s).2] [.i n] (.ints (ZcF bs n s).1) [.ex v 1 (bs.map (GV.int .u8)), .int .i64 (((ZcF bs n s).2).1 : Int), .int .i64 ((ZcF bs n s).2).2] := by
 have hl := hl.e
 have hn := hn.e
 refine gCur Ze1 Zac (rs := [.tmp 4]) (sl := [(1, .g (.i n))]) (B := [.g (.ex v 1 (bs.map (GV.int .u8))), .g (.int .i64 ((s).1 : Int)), .g (.int .i64 (s).2)]) Try.func57 rfl Try.ntmps57 rfl Zec rfl rfl rfl rfl (by first | (simp [GV.atom]; done) | fail) rfl (by repeat constructor) (by repeat constructor) ?_
 (repeat' (first | ((with_reducible apply gAF.ccur (f := 34))) | ((with_reducible apply ZcI); first | apply ZbA) | (with_reducible first | apply ZcK | apply ZcB) | ((with_reducible apply gLB.cagg); (. exact RF.mk ⟨rfl, rfl, rfl⟩)) | ((with_reducible apply gLB.cone); (. exact RF.mk ⟨rfl, rfl⟩)) | ((with_reducible apply gLI.cagg); (. exact RF.mk ⟨rfl, rfl, rfl⟩)) | ((with_reducible apply gLI.cone); (. exact RF.mk ⟨rfl, rfl⟩)) | ((with_reducible apply gAF.cbuildA); (. exact RF.mk rfl); (. exact RF.mk ⟨rfl, rfl, rfl, rfl⟩)) | (with_reducible constructor) | exact Z4 | exact ZN | exact ZI | exact ZS | exact ZF | exact ZG | exact ZC | exact ZP | exact ZQ | (with_reducible apply Zay) | (apply ZaB) | (with_reducible apply Zaf) | exact ZU | (with_reducible apply ZaC) | (apply Zaw) | (with_reducible intro hc; (try simp only [HCs] at hc)) | exact OB_f | exact DEC.mk (by decide) | exact ZM | exact ZT | exact ZK | (with_reducible first | apply gNK | apply ZaH | apply Zal | apply Zaj | apply Zai | apply Zam | apply CK_t | apply CK_f | apply ZaQ | apply Zar | apply ZaF | apply Zau | apply Zah | apply Zag | apply Zak | apply Zav | apply ZaA | apply Zax | apply Zaz | apply Zat | apply Zas | apply ZaR | apply ZaG | apply ZaE | apply ZaP) | apply Zaq Zac | apply Zao Zac rfl | (apply ZaD; exact RF.mk rfl) | exact EQ.mk rfl | (refine ZaN (id := 0) (ι := Nat × (List Int) × (Nat × Int)) (fun ⟨i, a, t⟩ => ⟨[(0, .ptr 0 0), (1, .g (.i n)), (5, .own 1 0 a.length), (6, .g (.i i))], [(0, .box [.g (.ex v 1 (bs.map (GV.int .u8))), .g (.int .i64 ((t).1 : Int)), .g (.int .i64 (t).2)]), (1, .arr 1 true (a.map GV.i))]⟩) (fun ⟨i, a, t⟩ => (i ≤ n.toNat) ∧ (setC bs (n.toNat - i) i a t = ZcF bs n s) ∧ (a.length ≤ i)) (fun ⟨i, a, t⟩ => n.toNat - i) (0, [], s) ?_ ?_ ?_; (. (apply gLX2 <;> (repeat' (first | (with_reducible constructor) | exact Z5 | exact RF.mk (by decide) | (with_reducible apply Zan) | exact ZE)); (all_goals exact QD60))); (. (exact ⟨by omega, rfl, by simp⟩)); (rintro ⟨i, a, t⟩ ⟨h1, h2, h3⟩; (show TX _ _ _ _ _ [(0, .ptr 0 0), (1, .g (.i n)), (5, .own 1 0 a.length), (6, .g (.i i))] [(0, .box [.g (.ex v 1 (bs.map (GV.int .u8))), .g (.int .i64 ((t).1 : Int)), .g (.int .i64 (t).2)]), (1, .arr 1 true (a.map GV.i))] _))) | exact gSel.cnil _ | apply gSel.ccons | apply gCG.cagg))
 (all_goals (first | (refine Zbf (i + 1, a, Zae bs 2 t) ?_ ?_ ?_; (· (apply gLX2 <;> (repeat' (first | (with_reducible constructor) | exact Z5 | exact RF.mk (by decide) | (with_reducible apply Zan) | exact ZE)); (all_goals exact QD60))); (· ((refine ⟨by omega, ?_, by first | omega | (simp; omega)⟩; rw [← h2, show n.toNat - i = (n.toNat - (i + 1)) + 1 by omega]; simp only [setC]; first | (rw [if_pos (by assumption)]; rfl) | (rw [if_neg (by first | (simp_all; done) | fail)]; rfl)))); (· exact ZW)) | (refine Zbf (i + 1, a ++ [(i : Int)], Zae bs 2 t) ?_ ?_ ?_; (· (apply gLX2 <;> (repeat' (first | (with_reducible constructor) | exact Z5 | exact RF.mk (by decide) | (with_reducible apply Zan) | exact ZE)); (all_goals exact QD60))); (· ((refine ⟨by omega, ?_, by first | omega | (simp; omega)⟩; rw [← h2, show n.toNat - i = (n.toNat - (i + 1)) + 1 by omega]; simp only [setC]; first | (rw [if_pos (by assumption)]; rfl) | (rw [if_neg (by first | (simp_all; done) | fail)]; rfl)))); (· exact ZW)) | (((rw [show n.toNat - i = 0 by omega] at h2; simp only [setC] at h2; rw [← h2]; first | exact EQ.mk rfl | exact ZbY (ZaS (EQ.mk rfl)))); done)))
def Zhe : Nat → List Nat
 | 0 => [0, 3, 4]
 | 1 => [0, 4, 5]
 | 2 => [0, 4, 5, 6]
 | 3 => [0, 4, 5, 6, 19]
 | 4 => [0, 4, 6]
 | 5 => [0, 4]
 | _ => []
theorem Zfp (args : Array Value) (w : World) : (callFunc 67 args).run Try.prog w = .ok (.enter 67 args) w := Zab Try.func67 (by decide) rfl args w
set_option maxHeartbeats 1000000 in
theorem Zgg (v : Value) (bs : List Int) (s : Nat × Int) (i o : Int) (hl : NU (bs.length ≤ 4096)) : BoxC Try.prog 67 [.ex v 1 (bs.map (GV.int .u8)), .int .i64 ((s).1 : Int), .int .i64 (s).2] [.sig i o] (.clause (clC bs (max (Zaa i o) 2) s).1.1 (clC bs (max (Zaa i o) 2) s).1.2.1 (clC bs (max (Zaa i o) 2) s).1.2.2) [.ex v 1 (bs.map (GV.int .u8)), .int .i64 (((clC bs (max (Zaa i o) 2) s).2).1 : Int), .int .i64 ((clC bs (max (Zaa i o) 2) s).2).2] := by
 have hl := hl.e
 have hL := ZaJ i o
 have r1 := ZaW bs 7 s
 have r2 := r1.2 (by omega)
 refine gCur Zhe Zac (rs := [.cell 4 87]) (sl := [(1, .g (.sig i o))]) (B := [.g (.ex v 1 (bs.map (GV.int .u8))), .g (.int .i64 ((s).1 : Int)), .g (.int .i64 (s).2)]) Try.func67 rfl Try.ntmps67 rfl Zfp rfl rfl rfl rfl (by first | (simp [GV.atom]; done) | fail) rfl (by repeat constructor) (by repeat constructor) ?_
 (repeat' (first | ((with_reducible apply gAF.ccur (f := 35))) | ((with_reducible apply gAF.ccur (f := 57))) | ((with_reducible apply ZcI); first | apply Za4 | apply ZdW) | (with_reducible first | apply ZcK | apply ZcB) | ((with_reducible apply gLB.cagg); (. exact RF.mk ⟨rfl, rfl, rfl⟩)) | ((with_reducible apply gLB.cone); (. exact RF.mk ⟨rfl, rfl⟩)) | ((with_reducible apply gLI.cagg); (. exact RF.mk ⟨rfl, rfl, rfl⟩)) | ((with_reducible apply gLI.cone); (. exact RF.mk ⟨rfl, rfl⟩)) | ((with_reducible apply gAF.cbuildA); (. exact RF.mk rfl); (. exact RF.mk ⟨rfl, rfl, rfl, rfl⟩)) | (with_reducible constructor) | exact Z4 | exact ZN | exact ZI | exact ZS | exact ZF | exact ZG | exact ZC | exact ZP | exact ZQ | (with_reducible apply Zay) | (apply ZaB) | (with_reducible apply Zaf) | exact ZU | (with_reducible apply ZaC) | (apply Zaw) | ((with_reducible apply Za0); first | apply Za2 | apply Zf3 | apply Zgj) | (with_reducible intro hc; (try simp only [HCs] at hc)) | exact OB_f | exact DEC.mk (by decide) | exact ZM | exact ZT | exact ZK | (with_reducible first | apply gNK | apply ZaH | apply Zal | apply Zaj | apply Zai | apply Zam | apply CK_t | apply CK_f | apply ZaQ | apply Zar | apply ZaF | apply Zau | apply Zah | apply Zag | apply Zak | apply Zav | apply ZaA | apply Zax | apply Zaz | apply Zat | apply Zas | apply ZaR | apply ZaG | apply ZaE | apply ZaP) | apply Zaq Zac | apply Zao Zac rfl | (apply ZaD; exact RF.mk rfl) | exact EQ.mk rfl | exact gSel.cnil _ | apply gSel.ccons | apply gCG.cagg))
 (all_goals (first | (((unfold clC; (first | rw [if_pos (by assumption)] | rw [if_neg (by rw [show ZhE (1 + ZaL bs 7 s) = false by assumption]; simp)]); first | exact EQ.mk rfl | ((repeat (first | apply Zbd | apply Zcn | apply ZbY | apply ZaS)); all_goals exact EQ.mk rfl))); done)))
def Zfo : Nat → List Nat
 | 0 => [0, 3, 4]
 | 1 => [0, 4, 5]
 | 2 => [0, 4, 5, 10]
 | 3 => [0, 4, 5, 12]
 | 4 => [0, 4, 5, 12, 13]
 | 5 => [0, 4, 5]
 | 6 => [0, 4, 5, 12, 18]
 | 7 => [0, 4, 5]
 | 8 => [0, 4, 5, 27]
 | 9 => [0, 4, 5]
 | 10 => [0, 4]
 | _ => []
theorem Zd3 (args : Array Value) (w : World) : (callFunc 68 args).run Try.prog w = .ok (.enter 68 args) w := Zab Try.func68 (by decide) rfl args w
set_option maxHeartbeats 1000000 in
theorem Zg5 (v : Value) (bs : List Int) (s : Nat × Int) (i o : Int) (hl : NU (bs.length ≤ 4096)) : BoxC Try.prog 68 [.ex v 1 (bs.map (GV.int .u8)), .int .i64 ((s).1 : Int), .int .i64 (s).2] [.sig i o] (.clause (clA bs (max (Zaa i o) 2) s).1.1 (clA bs (max (Zaa i o) 2) s).1.2.1 (clA bs (max (Zaa i o) 2) s).1.2.2) [.ex v 1 (bs.map (GV.int .u8)), .int .i64 (((clA bs (max (Zaa i o) 2) s).2).1 : Int), .int .i64 ((clA bs (max (Zaa i o) 2) s).2).2] := by
 have hl := hl.e
 have hL := ZaJ i o
 have hq := ZsF (bs := bs) (n := (max (Zaa i o) 2)) (s := s)
 have r1 := ZaW bs 3 (Zae bs 10 (clC bs (max (Zaa i o) 2) s).2)
 have r2 := r1.2 (by omega)
 refine gCur Zfo Zac (rs := [.cell 4 87]) (sl := [(1, .g (.sig i o))]) (B := [.g (.ex v 1 (bs.map (GV.int .u8))), .g (.int .i64 ((s).1 : Int)), .g (.int .i64 (s).2)]) Try.func68 rfl Try.ntmps68 rfl Zd3 rfl rfl rfl rfl (by first | (simp [GV.atom]; done) | fail) rfl (by repeat constructor) (by repeat constructor) ?_
 (repeat' (first | ((with_reducible apply gAF.ccur (f := 34))) | ((with_reducible apply gAF.ccur (f := 35))) | ((with_reducible apply gAF.ccur (f := 36))) | ((with_reducible apply gAF.ccur (f := 40))) | ((with_reducible apply gAF.ccur (f := 67))) | ((with_reducible apply ZcI); first | apply ZbA | apply Za4 | apply ZeY | apply Zik | apply Zgg) | (with_reducible first | apply ZcK | apply ZcB) | ((with_reducible apply gLB.cagg); (. exact RF.mk ⟨rfl, rfl, rfl⟩)) | ((with_reducible apply gLB.cone); (. exact RF.mk ⟨rfl, rfl⟩)) | ((with_reducible apply gLI.cagg); (. exact RF.mk ⟨rfl, rfl, rfl⟩)) | ((with_reducible apply gLI.cone); (. exact RF.mk ⟨rfl, rfl⟩)) | ((with_reducible apply gAF.cbuildA); (. exact RF.mk rfl); (. exact RF.mk ⟨rfl, rfl, rfl, rfl⟩)) | (with_reducible constructor) | exact Z4 | exact ZN | exact ZI | exact ZS | exact ZF | exact ZG | exact ZC | exact ZP | exact ZQ | (with_reducible apply Zay) | (apply ZaB) | (with_reducible apply Zaf) | exact ZU | (with_reducible apply ZaC) | (apply Zaw) | (with_reducible intro hc; (try simp only [HCs] at hc)) | exact OB_f | exact DEC.mk (by decide) | exact ZM | exact ZT | exact ZK | (with_reducible first | apply gNK | apply ZaH | apply Zal | apply Zaj | apply Zai | apply Zam | apply CK_t | apply CK_f | apply ZaQ | apply Zar | apply ZaF | apply Zau | apply Zah | apply Zag | apply Zak | apply Zav | apply ZaA | apply Zax | apply Zaz | apply Zat | apply Zas | apply ZaR | apply ZaG | apply ZaE | apply ZaP) | apply Zaq Zac | apply Zao Zac rfl | (apply ZaD; exact RF.mk rfl) | exact EQ.mk rfl | exact gSel.cnil _ | apply gSel.ccons | apply gCG.cagg))
 (all_goals (first | (exfalso; omega) | (((clear hq r1 r2 hL; (repeat (first | apply Zbd | apply Zcn | apply ZbY | apply ZaS)); all_goals (refine EQ.mk ?_; first | rfl | (simp_all [clA, clB]; done)))); done)))
def Zfx : Nat → List Nat
 | 0 => [0, 2, 4]
 | 1 => [0, 2, 4, 7]
 | 2 => [0, 4, 7, 8]
 | 3 => [0, 4, 7, 8, 15]
 | 4 => [0, 4, 7, 8]
 | 5 => [0, 4, 7, 8]
 | 6 => [0, 4, 7, 25]
 | 7 => [0, 7]
 | 8 => [0, 6]
 | _ => []
theorem ZdX (args : Array Value) (w : World) : (callFunc 56 args).run Try.prog w = .ok (.enter 56 args) w := Zab Try.func56 (by decide) rfl args w
set_option maxHeartbeats 1000000 in
theorem Zg6 (v : Value) (bs : List Int) (s : Nat × Int) (i o m : Int) (hl : NU (bs.length ≤ 4096)) (hm : NU (0 ≤ m ∧ m ≤ 100)) : BoxC Try.prog 56 [.ex v 1 (bs.map (GV.int .u8)), .int .i64 ((s).1 : Int), .int .i64 (s).2] [.sig i o, .i m] (.clauses (allC bs (max (Zaa i o) 2) m s).1) [.ex v 1 (bs.map (GV.int .u8)), .int .i64 (((allC bs (max (Zaa i o) 2) m s).2).1 : Int), .int .i64 ((allC bs (max (Zaa i o) 2) m s).2).2] := by
 have hl := hl.e
 have hm := hm.e
 have hL := ZaJ i o
 have r1 := ZaW bs (m + 1) s
 have r2 := r1.2 (by omega)
 refine gCur Zfx Zac (rs := [.tmp 6]) (sl := [(1, .g (.sig i o)), (2, .g (.i m))]) (B := [.g (.ex v 1 (bs.map (GV.int .u8))), .g (.int .i64 ((s).1 : Int)), .g (.int .i64 (s).2)]) Try.func56 rfl Try.ntmps56 rfl ZdX rfl rfl rfl rfl (by first | (simp [GV.atom]; done) | fail) rfl (by repeat constructor) (by repeat constructor) ?_
 (repeat' (first | ((with_reducible apply gAF.ccur (f := 34))) | ((with_reducible apply gAF.ccur (f := 35))) | ((with_reducible apply gAF.ccur (f := 67))) | ((with_reducible apply gAF.ccur (f := 68))) | ((with_reducible apply ZcI); first | apply ZbA | apply Za4 | apply Zgg | apply Zg5) | (with_reducible first | apply ZcK | apply ZcB) | ((with_reducible apply gLB.cagg); (. exact RF.mk ⟨rfl, rfl, rfl⟩)) | ((with_reducible apply gLB.cone); (. exact RF.mk ⟨rfl, rfl⟩)) | ((with_reducible apply gLI.cagg); (. exact RF.mk ⟨rfl, rfl, rfl⟩)) | ((with_reducible apply gLI.cone); (. exact RF.mk ⟨rfl, rfl⟩)) | ((with_reducible apply gAF.cbuildA); (. exact RF.mk rfl); (. exact RF.mk ⟨rfl, rfl, rfl, rfl⟩)) | (with_reducible constructor) | exact Z4 | exact ZN | exact ZI | exact ZS | exact ZF | exact ZG | exact ZC | exact ZP | exact ZQ | (with_reducible apply Zay) | (apply ZaB) | (with_reducible apply Zaf) | exact ZU | (with_reducible apply ZaC) | (apply Zaw) | (with_reducible intro hc; (try simp only [HCs] at hc)) | exact OB_f | exact DEC.mk (by decide) | exact ZM | exact ZT | exact ZK | (with_reducible first | apply gNK | apply ZaH | apply Zal | apply Zaj | apply Zai | apply Zam | apply CK_t | apply CK_f | apply ZaQ | apply Zar | apply ZaF | apply Zau | apply Zah | apply Zag | apply Zak | apply Zav | apply ZaA | apply Zax | apply Zaz | apply Zat | apply Zas | apply ZaR | apply ZaG | apply ZaE | apply ZaP) | apply Zaq Zac | apply Zao Zac rfl | (apply ZaD; exact RF.mk rfl) | exact EQ.mk rfl | (refine ZaN (id := 0) (ι := Int × (List (Int × List Int × List Int)) × (Nat × Int)) (fun ⟨k, a, t⟩ => ⟨[(0, .ptr 0 0), (4, .ptr 2 0), (7, .own 1 0 a.length), (8, .g (.i k))], [(0, .box [.g (.ex v 1 (bs.map (GV.int .u8))), .g (.int .i64 ((t).1 : Int)), .g (.int .i64 (t).2)]), (1, .arr 3 true (a.map GV.clauseP)), (2, .box [.g (.i i), .g (.i o)])]⟩) (fun ⟨k, a, t⟩ => (0 ≤ k ∧ k + a.length ≤ 100) ∧ (clsC bs (max (Zaa i o) 2) k.toNat a t = fewC bs (max (Zaa i o) 2) m s)) (fun ⟨k, a, t⟩ => k.toNat) (ZaL bs (m + 1) s, [], Zae bs (m + 1) s) ?_ ?_ ?_; (. (apply gLX3 <;> (repeat' (first | (with_reducible constructor) | exact Z5 | exact RF.mk (by decide) | (with_reducible apply Zan) | exact ZE)); (all_goals exact QD61))); (. (exact ⟨by simp; omega, rfl⟩)); (rintro ⟨k, a, t⟩ ⟨h1, h2⟩; (show TX _ _ _ _ _ [(0, .ptr 0 0), (4, .ptr 2 0), (7, .own 1 0 a.length), (8, .g (.i k))] [(0, .box [.g (.ex v 1 (bs.map (GV.int .u8))), .g (.int .i64 ((t).1 : Int)), .g (.int .i64 (t).2)]), (1, .arr 3 true (a.map GV.clauseP)), (2, .box [.g (.i i), .g (.i o)])] _))) | exact gSel.cnil _ | apply gSel.ccons | apply gCG.cagg))
 (all_goals (first | (refine Zbf (k - 1, a ++ [(clC bs (max (Zaa i o) 2) t).1], (clC bs (max (Zaa i o) 2) t).2) ?_ ?_ ?_; (· (apply gLX3 <;> (repeat' (first | (with_reducible constructor) | exact Z5 | exact RF.mk (by decide) | (with_reducible apply Zan) | exact ZE)); (all_goals exact QD61))); (· ((refine ⟨by simp; omega, ?_⟩; rw [← h2, show k.toNat = (k - 1).toNat + 1 by omega]; rfl))); (· exact ZW)) | (((rw [show k.toNat = 0 by omega] at h2; simp only [clsC] at h2; (repeat (first | apply Zbd | apply Zcn | apply ZbY | apply ZaS)); all_goals (refine EQ.mk ?_; first | rfl | (unfold allC; rw [← h2]; first | (rw [if_pos (by assumption)]; done) | (rw [if_neg (by first | (simp_all; done) | fail)]; done) | (rw [if_pos (by assumption)]; rfl) | (rw [if_neg (by first | (simp_all; done) | fail)]; rfl))))); done)))
end Go.Proofs.Ytnieejghoaccmaa

