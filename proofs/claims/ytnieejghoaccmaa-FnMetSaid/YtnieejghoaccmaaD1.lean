/- Draws: the cursor of the statements. No conditions but those that each theorem names. -/
import Derived.Test.YtnieejghoaccmaaTab
import Derived.Test.YtnieejghoaccmaaKG
import Derived.Test.YtnieejghoaccmaaDR
import Derived.Test.YtnieejghoaccmaaD0
import Derived.Test.YtnieejghoaccmaaChecked
set_option linter.unusedSimpArgs false
set_option linter.unusedVariables false
namespace Go.Proofs.Ytnieejghoaccmaa
open Go.RowKit
open Shp
def ZiW : Nat → List Nat
 | 0 => [0]
 | 1 => [0, 3]
 | 2 => [0, 3, 4]
 | 3 => [0, 3, 4, 11]
 | 4 => [0, 3, 4]
 | 5 => [0, 3, 4]
 | 6 => [2]
 | _ => []
theorem Zgs (args : Array Value) (w : World) : (callFunc 13 args).run Try.prog w = .ok (.enter 13 args) w := Zab Try.func13 (by decide) rfl args w
set_option maxHeartbeats 1000000 in
theorem ZlY (v : Value) (bs : List Int) (hl : NU (bs.length ≤ 4096)) : NewC Try.prog 13 [.ex v 1 (bs.map (GV.int .u8))] [.ex v 1 (bs.map (GV.int .u8)), .int .i64 (((newS bs)).1 : Int), .int .i64 ((newS bs)).2] := by
 have hl := hl.e
 refine gNew ZiW Zac (rs := [.tmp 2]) (sl := [(0, .g (.ex v 1 (bs.map (GV.int .u8))))]) Try.func13 rfl Try.ntmps13 rfl Zgs rfl rfl (by first | (simp [GV.atom]; done) | fail) (by repeat constructor) ?_
 (repeat' (first | ((with_reducible apply gBN.cadd); exact NU.mk (by omega)) | ((with_reducible apply gBN.csub); exact NU.mk (by omega)) | ((with_reducible apply gBN.cmul); exact NU.mk (by omega)) | (with_reducible first | apply gBN.cwadd | apply gBN.cwmul) | ((with_reducible apply gCV.cint); (. exact RF.mk ⟨rfl, rfl⟩); (. exact RF.mk ⟨rfl, rfl⟩); exact NU.mk (by omega)) | ((with_reducible apply gCV.cwide); (. exact RF.mk ⟨rfl, rfl⟩); (. exact RF.mk ⟨rfl, rfl⟩)) | (with_reducible first | apply Zt6 | apply ZoT) | ((with_reducible apply gLB.cagg); (. exact RF.mk ⟨rfl, rfl, rfl⟩)) | ((with_reducible apply gLB.cone); (. exact RF.mk ⟨rfl, rfl⟩)) | ((with_reducible apply gLI.cagg); (. exact RF.mk ⟨rfl, rfl, rfl⟩)) | ((with_reducible apply gLI.cone); (. exact RF.mk ⟨rfl, rfl⟩)) | ((with_reducible apply gAF.cbuildA); (. exact RF.mk rfl); (. exact RF.mk ⟨rfl, rfl, rfl, rfl⟩)) | (with_reducible constructor) | exact Z4 | exact ZN | exact ZI | exact ZS | exact ZF | exact ZG | exact ZC | exact ZP | exact ZQ | (with_reducible apply Zay) | (apply ZaB) | (with_reducible apply Zaf) | exact ZU | (with_reducible apply ZaC) | (apply Zaw) | (with_reducible intro hc; (try simp only [HCs] at hc)) | exact OB_f | exact DEC.mk (by decide) | exact ZM | exact ZT | exact ZK | (with_reducible first | apply gNK | apply ZaH | apply Zal | apply Zaj | apply Zai | apply Zam | apply CK_t | apply CK_f | apply ZaQ | apply Zar | apply ZaF | apply Zau | apply Zah | apply Zag | apply Zak | apply Zav | apply ZaA | apply Zax | apply Zaz | apply Zat | apply Zas | apply ZaR | apply ZaG | apply ZaE | apply ZaP) | apply Zaq Zac | apply Zao Zac rfl | (apply ZaD; exact RF.mk rfl) | exact EQ.mk rfl | (refine ZaN (id := 0) (ι := Nat × Int) (fun ⟨i, h⟩ => ⟨[(0, .g (.ex v 1 (bs.map (GV.int .u8)))), (3, .g (.i h)), (4, .g (.i i))], []⟩) (fun ⟨i, h⟩ => (i ≤ bs.length) ∧ (newH (bs.drop i) h = newH bs (560017 + bs.length))) (fun ⟨i, h⟩ => bs.length - i) (0, 560017 + bs.length) ?_ ?_ ?_; (. (apply gLX0 <;> (repeat' (first | (with_reducible constructor) | exact Z5 | exact RF.mk (by decide) | (with_reducible apply Zan) | exact ZE)))); (. (exact ⟨by omega, rfl⟩)); (rintro ⟨i, h⟩ ⟨h1, h2⟩; (show TX _ _ _ _ _ [(0, .g (.ex v 1 (bs.map (GV.int .u8)))), (3, .g (.i h)), (4, .g (.i i))] [] _))) | exact gSel.cnil _ | apply gSel.ccons | apply gCG.cagg))
 (all_goals (first | (refine Zbf (i + 1, ZeT .and .i64 (IntKind.wrap .i64 (IntKind.wrap .i64 (IntKind.wrap .i64 (h * 313) + IntKind.wrap .i64 (nth bs i)) + 11)) 1073741823) ?_ ?_ ?_; (· (apply gLX0 <;> (repeat' (first | (with_reducible constructor) | exact Z5 | exact RF.mk (by decide) | (with_reducible apply Zan) | exact ZE)))); (· (exact ⟨by omega, by rw [← h2]; exact (Znz (by omega)).symm⟩)); (· exact ZW)) | (((refine EQ.mk ?_; rw [ZoN (by omega)] at h2; unfold newS; rw [← h2]; rfl)); done)))
def Zh8 : Nat → List Nat
 | 0 => [0]
 | 1 => [0]
 | 2 => [0, 3]
 | 3 => [0, 3, 34]
 | 4 => [0, 3]
 | 5 => [0, 3]
 | 6 => [0, 2]
 | _ => []
theorem Zf5 (args : Array Value) (w : World) : (callFunc 54 args).run Try.prog w = .ok (.enter 54 args) w := Zab Try.func54 (by decide) rfl args w
set_option maxHeartbeats 1000000 in
theorem ZkF (v : Value) (bs : List Int) (s : Nat × Int) (hl : NU (bs.length ≤ 4096)) : BoxC Try.prog 54 [.ex v 1 (bs.map (GV.int .u8)), .int .i64 ((s).1 : Int), .int .i64 (s).2] [] (.i (ZhU bs s)) [.ex v 1 (bs.map (GV.int .u8)), .int .i64 (((Zdj bs s)).1 : Int), .int .i64 ((Zdj bs s)).2] := by
 have hl := hl.e
 refine gCur Zh8 Zac (rs := [.tmp 2]) (sl := []) (B := [.g (.ex v 1 (bs.map (GV.int .u8))), .g (.int .i64 ((s).1 : Int)), .g (.int .i64 (s).2)]) Try.func54 rfl Try.ntmps54 rfl Zf5 rfl rfl rfl rfl (by first | (simp [GV.atom]; done) | fail) rfl (by repeat constructor) (by repeat constructor) ?_
 (repeat' (first | ((with_reducible apply gBN.cadd); exact NU.mk (by omega)) | ((with_reducible apply gBN.csub); exact NU.mk (by omega)) | ((with_reducible apply gBN.cmul); exact NU.mk (by omega)) | (with_reducible first | apply gBN.cwadd | apply gBN.cwmul) | ((with_reducible apply gCV.cint); (. exact RF.mk ⟨rfl, rfl⟩); (. exact RF.mk ⟨rfl, rfl⟩); exact NU.mk (by omega)) | ((with_reducible apply gCV.cwide); (. exact RF.mk ⟨rfl, rfl⟩); (. exact RF.mk ⟨rfl, rfl⟩)) | (with_reducible first | apply ZcK | apply ZcB) | ((with_reducible apply gLB.cagg); (. exact RF.mk ⟨rfl, rfl, rfl⟩)) | ((with_reducible apply gLB.cone); (. exact RF.mk ⟨rfl, rfl⟩)) | ((with_reducible apply gLI.cagg); (. exact RF.mk ⟨rfl, rfl, rfl⟩)) | ((with_reducible apply gLI.cone); (. exact RF.mk ⟨rfl, rfl⟩)) | ((with_reducible apply gAF.cbuildA); (. exact RF.mk rfl); (. exact RF.mk ⟨rfl, rfl, rfl, rfl⟩)) | (with_reducible constructor) | exact Z4 | exact ZN | exact ZI | exact ZS | exact ZF | exact ZG | exact ZC | exact ZP | exact ZQ | (with_reducible apply Zay) | (apply ZaB) | (with_reducible apply Zaf) | exact ZU | (with_reducible apply ZaC) | (apply Zaw) | (with_reducible intro hc; (try simp only [HCs] at hc)) | exact OB_f | exact DEC.mk (by decide) | exact ZM | exact ZT | exact ZK | (with_reducible first | apply gNK | apply ZaH | apply Zal | apply Zaj | apply Zai | apply Zam | apply CK_t | apply CK_f | apply ZaQ | apply Zar | apply ZaF | apply Zau | apply Zah | apply Zag | apply Zak | apply Zav | apply ZaA | apply Zax | apply Zaz | apply Zat | apply Zas | apply ZaR | apply ZaG | apply ZaE | apply ZaP) | apply Zaq Zac | apply Zao Zac rfl | (apply ZaD; exact RF.mk rfl) | exact EQ.mk rfl | exact gSel.cnil _ | apply gSel.ccons | apply gCG.cagg))
 (all_goals (first | (((refine EQ.mk ?_; (try unfold ZhU); (try unfold Zdj); (try unfold curX); (try unfold curH); (repeat (first | rw [if_pos (by first | omega | assumption)] | rw [if_neg (by first | omega | assumption)] | simp only [if_pos (show s.1 < bs.length by omega)] | simp only [if_neg (show ¬ s.1 < bs.length by omega)])); all_goals first | rfl | (simp; done))); done)))
def Zhb : Nat → List Nat
 | 0 => [0, 1]
 | 1 => [0, 1, 10]
 | 2 => [0, 4]
 | 3 => [0, 1, 12]
 | 4 => [0, 4]
 | 5 => [0, 1, 5]
 | 6 => [0, 1, 5, 6]
 | 7 => [0, 1, 5, 6, 7]
 | 8 => [0, 1, 5, 6, 7, 8]
 | 9 => [0, 4]
 | _ => []
theorem Zft (args : Array Value) (w : World) : (callFunc 35 args).run Try.prog w = .ok (.enter 35 args) w := Zab Try.func35 (by decide) rfl args w
set_option maxHeartbeats 1000000 in
theorem Za4 (v : Value) (bs : List Int) (s : Nat × Int) (n : Int) (hl : NU (bs.length ≤ 4096)) (hn : NU (-9223372036854775808 ≤ n ∧ n ≤ 9223372036854775807)) : BoxC Try.prog 35 [.ex v 1 (bs.map (GV.int .u8)), .int .i64 ((s).1 : Int), .int .i64 (s).2] [.i n] (.i (ZaL bs n s)) [.ex v 1 (bs.map (GV.int .u8)), .int .i64 (((Zae bs n s)).1 : Int), .int .i64 ((Zae bs n s)).2] := by
 have hl := hl.e
 have hn := hn.e
 have hb1 := Ze6 bs s
 have hb2 := Ze6 bs (Zdj bs s)
 have hb3 := Ze6 bs (Zdj bs (Zdj bs s))
 have hb4 := Ze6 bs (Zdj bs (Zdj bs (Zdj bs s)))
 refine gCur Zhb Zac (rs := [.tmp 4]) (sl := [(1, .g (.i n))]) (B := [.g (.ex v 1 (bs.map (GV.int .u8))), .g (.int .i64 ((s).1 : Int)), .g (.int .i64 (s).2)]) Try.func35 rfl Try.ntmps35 rfl Zft rfl rfl rfl rfl (by first | (simp [GV.atom]; done) | fail) rfl (by repeat constructor) (by repeat constructor) ?_
 (repeat' (first | ((with_reducible apply gAF.ccur (f := 54))) | ((with_reducible apply ZcI); first | apply ZkF) | (with_reducible first | apply ZcK | apply ZcB) | ((with_reducible apply gLB.cagg); (. exact RF.mk ⟨rfl, rfl, rfl⟩)) | ((with_reducible apply gLB.cone); (. exact RF.mk ⟨rfl, rfl⟩)) | ((with_reducible apply gLI.cagg); (. exact RF.mk ⟨rfl, rfl, rfl⟩)) | ((with_reducible apply gLI.cone); (. exact RF.mk ⟨rfl, rfl⟩)) | ((with_reducible apply gAF.cbuildA); (. exact RF.mk rfl); (. exact RF.mk ⟨rfl, rfl, rfl, rfl⟩)) | (with_reducible constructor) | exact Z4 | exact ZN | exact ZI | exact ZS | exact ZF | exact ZG | exact ZC | exact ZP | exact ZQ | (with_reducible apply Zay) | (apply ZaB) | (with_reducible apply Zaf) | exact ZU | (with_reducible apply ZaC) | (apply Zaw) | (with_reducible intro hc; (try simp only [HCs] at hc)) | exact OB_f | exact DEC.mk (by decide) | exact ZM | exact ZT | exact ZK | (with_reducible first | apply gNK | apply ZaH | apply Zal | apply Zaj | apply Zai | apply Zam | apply CK_t | apply CK_f | apply ZaQ | apply Zar | apply ZaF | apply Zau | apply Zah | apply Zag | apply Zak | apply Zav | apply ZaA | apply Zax | apply Zaz | apply Zat | apply Zas | apply ZaR | apply ZaG | apply ZaE | apply ZaP) | apply Zaq Zac | apply Zao Zac rfl | (apply ZaD; exact RF.mk rfl) | exact EQ.mk rfl | exact gSel.cnil _ | apply gSel.ccons | apply gCG.cagg))
 (all_goals (first | (((refine EQ.mk ?_; (try unfold ZaL); (try unfold Zae); (try unfold Zv0); (repeat (first | rw [if_pos (by first | omega | assumption)] | rw [if_neg (by first | omega | assumption)] | simp only [if_pos (show s.1 < bs.length by omega)] | simp only [if_neg (show ¬ s.1 < bs.length by omega)])); all_goals first | rfl | (simp; done))); done)))
def Zia : Nat → List Nat
 | 0 => [0, 1]
 | 1 => [0, 4]
 | _ => []
theorem ZfT (args : Array Value) (w : World) : (callFunc 34 args).run Try.prog w = .ok (.enter 34 args) w := Zab Try.func34 (by decide) rfl args w
set_option maxHeartbeats 1000000 in
theorem ZbA (v : Value) (bs : List Int) (s : Nat × Int) (n : Int) (hl : NU (bs.length ≤ 4096)) (hn : NU (-9223372036854775808 ≤ n ∧ n ≤ 9223372036854775807)) : BoxC Try.prog 34 [.ex v 1 (bs.map (GV.int .u8)), .int .i64 ((s).1 : Int), .int .i64 (s).2] [.i n] (.bool (ZgH bs n s)) [.ex v 1 (bs.map (GV.int .u8)), .int .i64 (((Zae bs n s)).1 : Int), .int .i64 ((Zae bs n s)).2] := by
 have hl := hl.e
 have hn := hn.e
 refine gCur Zia Zac (rs := [.tmp 4]) (sl := [(1, .g (.i n))]) (B := [.g (.ex v 1 (bs.map (GV.int .u8))), .g (.int .i64 ((s).1 : Int)), .g (.int .i64 (s).2)]) Try.func34 rfl Try.ntmps34 rfl ZfT rfl rfl rfl rfl (by first | (simp [GV.atom]; done) | fail) rfl (by repeat constructor) (by repeat constructor) ?_
 (repeat' (first | ((with_reducible apply gAF.ccur (f := 35))) | ((with_reducible apply ZcI); first | apply Za4) | (with_reducible first | apply ZcK | apply ZcB) | ((with_reducible apply gLB.cagg); (. exact RF.mk ⟨rfl, rfl, rfl⟩)) | ((with_reducible apply gLB.cone); (. exact RF.mk ⟨rfl, rfl⟩)) | ((with_reducible apply gLI.cagg); (. exact RF.mk ⟨rfl, rfl, rfl⟩)) | ((with_reducible apply gLI.cone); (. exact RF.mk ⟨rfl, rfl⟩)) | ((with_reducible apply gAF.cbuildA); (. exact RF.mk rfl); (. exact RF.mk ⟨rfl, rfl, rfl, rfl⟩)) | (with_reducible constructor) | exact Z4 | exact ZN | exact ZI | exact ZS | exact ZF | exact ZG | exact ZC | exact ZP | exact ZQ | (with_reducible apply Zay) | (apply ZaB) | (with_reducible apply Zaf) | exact ZU | (with_reducible apply ZaC) | (apply Zaw) | (with_reducible intro hc; (try simp only [HCs] at hc)) | exact OB_f | exact DEC.mk (by decide) | exact ZM | exact ZT | exact ZK | (with_reducible first | apply gNK | apply ZaH | apply Zal | apply Zaj | apply Zai | apply Zam | apply CK_t | apply CK_f | apply ZaQ | apply Zar | apply ZaF | apply Zau | apply Zah | apply Zag | apply Zak | apply Zav | apply ZaA | apply Zax | apply Zaz | apply Zat | apply Zas | apply ZaR | apply ZaG | apply ZaE | apply ZaP) | apply Zaq Zac | apply Zao Zac rfl | (apply ZaD; exact RF.mk rfl) | exact EQ.mk rfl | exact gSel.cnil _ | apply gSel.ccons | apply gCG.cagg))
 (all_goals (first | (((first | (refine ZaY ?_; first | (simp_all; done) | (rw [Bool.eq_iff_iff]; simp only [Bool.and_eq_true, Bool.or_eq_true, decide_eq_true_eq, Bool.false_eq_true, false_iff, true_iff, iff_false, iff_true, not_and, not_or, Bool.not_eq_true, decide_eq_false_iff_not, beq_iff_eq, bne_iff_ne, ne_eq, Bool.not_eq_true', Bool.not_eq_false', Int.not_le, Int.not_lt]; omega)) | ((repeat (first | apply Zfv | apply Zbd | apply Zcn | apply ZbY | apply ZaS)); all_goals (first | exact EQ.mk rfl | exact EQ.mk (by first | (simp; done) | fail) | exact EQ.mk (by first | (simp_all; done) | fail))))); done)))
def ZhO : Nat → List Nat
 | 0 => [0, 1, 2]
 | 1 => [0, 6]
 | _ => []
theorem Zf6 (args : Array Value) (w : World) : (callFunc 36 args).run Try.prog w = .ok (.enter 36 args) w := Zab Try.func36 (by decide) rfl args w
set_option maxHeartbeats 1000000 in
theorem ZeY (v : Value) (bs : List Int) (s : Nat × Int) (lo hi : Int) (hl : NU (bs.length ≤ 4096)) (hn : NU (-1048576 ≤ lo ∧ lo ≤ hi ∧ hi ≤ 1048576)) : BoxC Try.prog 36 [.ex v 1 (bs.map (GV.int .u8)), .int .i64 ((s).1 : Int), .int .i64 (s).2] [.i lo, .i hi] (.i (Zoo bs lo hi s)) [.ex v 1 (bs.map (GV.int .u8)), .int .i64 (((Zl5 bs lo hi s)).1 : Int), .int .i64 ((Zl5 bs lo hi s)).2] := by
 have hl := hl.e
 have hn := hn.e
 have hb1 := ZaW bs (hi - lo + 1) s
 have hb2 := hb1.2 (by omega)
 refine gCur ZhO Zac (rs := [.tmp 6]) (sl := [(1, .g (.i lo)), (2, .g (.i hi))]) (B := [.g (.ex v 1 (bs.map (GV.int .u8))), .g (.int .i64 ((s).1 : Int)), .g (.int .i64 (s).2)]) Try.func36 rfl Try.ntmps36 rfl Zf6 rfl rfl rfl rfl (by first | (simp [GV.atom]; done) | fail) rfl (by repeat constructor) (by repeat constructor) ?_
 (repeat' (first | ((with_reducible apply gAF.ccur (f := 35))) | ((with_reducible apply ZcI); first | apply Za4) | (with_reducible first | apply ZcK | apply ZcB) | ((with_reducible apply gLB.cagg); (. exact RF.mk ⟨rfl, rfl, rfl⟩)) | ((with_reducible apply gLB.cone); (. exact RF.mk ⟨rfl, rfl⟩)) | ((with_reducible apply gLI.cagg); (. exact RF.mk ⟨rfl, rfl, rfl⟩)) | ((with_reducible apply gLI.cone); (. exact RF.mk ⟨rfl, rfl⟩)) | ((with_reducible apply gAF.cbuildA); (. exact RF.mk rfl); (. exact RF.mk ⟨rfl, rfl, rfl, rfl⟩)) | (with_reducible constructor) | exact Z4 | exact ZN | exact ZI | exact ZS | exact ZF | exact ZG | exact ZC | exact ZP | exact ZQ | (with_reducible apply Zay) | (apply ZaB) | (with_reducible apply Zaf) | exact ZU | (with_reducible apply ZaC) | (apply Zaw) | (with_reducible intro hc; (try simp only [HCs] at hc)) | exact OB_f | exact DEC.mk (by decide) | exact ZM | exact ZT | exact ZK | (with_reducible first | apply gNK | apply ZaH | apply Zal | apply Zaj | apply Zai | apply Zam | apply CK_t | apply CK_f | apply ZaQ | apply Zar | apply ZaF | apply Zau | apply Zah | apply Zag | apply Zak | apply Zav | apply ZaA | apply Zax | apply Zaz | apply Zat | apply Zas | apply ZaR | apply ZaG | apply ZaE | apply ZaP) | apply Zaq Zac | apply Zao Zac rfl | (apply ZaD; exact RF.mk rfl) | exact EQ.mk rfl | exact gSel.cnil _ | apply gSel.ccons | apply gCG.cagg))
 (all_goals (first | (((first | (refine ZaY ?_; first | (simp_all; done) | (rw [Bool.eq_iff_iff]; simp only [Bool.and_eq_true, Bool.or_eq_true, decide_eq_true_eq, Bool.false_eq_true, false_iff, true_iff, iff_false, iff_true, not_and, not_or, Bool.not_eq_true, decide_eq_false_iff_not, beq_iff_eq, bne_iff_ne, ne_eq, Bool.not_eq_true', Bool.not_eq_false', Int.not_le, Int.not_lt]; omega)) | ((repeat (first | apply Zfv | apply Zbd | apply Zcn | apply ZbY | apply ZaS)); all_goals (first | exact EQ.mk rfl | exact EQ.mk (by first | (simp; done) | fail) | exact EQ.mk (by first | (simp_all; done) | fail))))); done)))
def ZfD : Nat → List Nat
 | 0 => [0, 2]
 | 1 => [0, 2, 3]
 | 2 => [0, 2, 3, 6]
 | 3 => [0, 2, 3]
 | 4 => [0, 2, 3, 15]
 | 5 => [0, 2, 3]
 | 6 => [0, 2]
 | _ => []
theorem ZdY (args : Array Value) (w : World) : (callFunc 14 args).run Try.prog w = .ok (.enter 14 args) w := Zab Try.func14 (by decide) rfl args w
set_option maxHeartbeats 1000000 in
theorem Zhy (v : Value) (bs : List Int) (s : Nat × Int) (hl : NU (bs.length ≤ 4096)) : BoxC Try.prog 14 [.ex v 1 (bs.map (GV.int .u8)), .int .i64 ((s).1 : Int), .int .i64 (s).2] [] (.sig (sigP bs s).1.1 (sigP bs s).1.2) [.ex v 1 (bs.map (GV.int .u8)), .int .i64 (((sigP bs s).2).1 : Int), .int .i64 ((sigP bs s).2).2] := by
 have hl := hl.e
 have hb1 := ZaW bs 2 (Zae bs 4 s)
 have hb2 := hb1.2 (by omega)
 have hb3 := ZaW bs 2 (Zae bs 2 (Zae bs 4 s))
 have hb4 := hb3.2 (by omega)
 refine gCur ZfD Zac (rs := [.cell 2 25]) (sl := []) (B := [.g (.ex v 1 (bs.map (GV.int .u8))), .g (.int .i64 ((s).1 : Int)), .g (.int .i64 (s).2)]) Try.func14 rfl Try.ntmps14 rfl ZdY rfl rfl rfl rfl (by first | (simp [GV.atom]; done) | fail) rfl (by repeat constructor) (by repeat constructor) ?_
 (repeat' (first | ((with_reducible apply gAF.ccur (f := 34))) | ((with_reducible apply gAF.ccur (f := 35))) | ((with_reducible apply gAF.ccur (f := 36))) | ((with_reducible apply ZcI); first | apply ZbA | apply Za4 | apply ZeY) | (with_reducible first | apply ZcK | apply ZcB) | ((with_reducible apply gLB.cagg); (. exact RF.mk ⟨rfl, rfl, rfl⟩)) | ((with_reducible apply gLB.cone); (. exact RF.mk ⟨rfl, rfl⟩)) | ((with_reducible apply gLI.cagg); (. exact RF.mk ⟨rfl, rfl, rfl⟩)) | ((with_reducible apply gLI.cone); (. exact RF.mk ⟨rfl, rfl⟩)) | ((with_reducible apply gAF.cbuildA); (. exact RF.mk rfl); (. exact RF.mk ⟨rfl, rfl, rfl, rfl⟩)) | (with_reducible constructor) | exact Z4 | exact ZN | exact ZI | exact ZS | exact ZF | exact ZG | exact ZC | exact ZP | exact ZQ | (with_reducible apply Zay) | (apply ZaB) | (with_reducible apply Zaf) | exact ZU | (with_reducible apply ZaC) | (apply Zaw) | (with_reducible intro hc; (try simp only [HCs] at hc)) | exact OB_f | exact DEC.mk (by decide) | exact ZM | exact ZT | exact ZK | (with_reducible first | apply gNK | apply ZaH | apply Zal | apply Zaj | apply Zai | apply Zam | apply CK_t | apply CK_f | apply ZaQ | apply Zar | apply ZaF | apply Zau | apply Zah | apply Zag | apply Zak | apply Zav | apply ZaA | apply Zax | apply Zaz | apply Zat | apply Zas | apply ZaR | apply ZaG | apply ZaE | apply ZaP) | apply Zaq Zac | apply Zao Zac rfl | (apply ZaD; exact RF.mk rfl) | exact EQ.mk rfl | exact gSel.cnil _ | apply gSel.ccons | apply gCG.cagg))
 (all_goals (first | (((clear hb1 hb2 hb3 hb4; refine EQ.mk ?_; simp_all [sigP, sigA]; done)); done)))
end Go.Proofs.Ytnieejghoaccmaa

