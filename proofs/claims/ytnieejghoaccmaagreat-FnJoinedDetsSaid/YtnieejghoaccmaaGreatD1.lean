/- Draws: the cursor of the statements. No conditions but those that each theorem names. -/
import Derived.Test.YtnieejghoaccmaaGreatTab
import Derived.Test.YtnieejghoaccmaaGreatKG
import Derived.Test.YtnieejghoaccmaaGreatD0
import Derived.Test.YtnieejghoaccmaaGreatChecked
set_option linter.unusedSimpArgs false
set_option linter.unusedVariables false
namespace Go.Proofs.YtnieejghoaccmaaGreat
open Go.RowKit
open Shp
def ZkM : Nat → List Nat
 | 0 => [0]
 | 1 => [0, 3]
 | 2 => [0, 3, 4]
 | 3 => [0, 3, 4, 11]
 | 4 => [0, 3, 4]
 | 5 => [0, 3, 4]
 | 6 => [2]
 | _ => []
theorem Zhr (args : Array Value) (w : World) : (callFunc 14 args).run Tryz.prog w = .ok (.enter 14 args) w := Zab Tryz.func14 (by decide) rfl args w
set_option maxHeartbeats 1000000 in
theorem Zoc (v : Value) (bs : List Int) (hl : NU (bs.length ≤ 4096)) : NewC Tryz.prog 14 [.ex v 1 (bs.map (GV.int .u8))] [.ex v 1 (bs.map (GV.int .u8)), .int .i64 (((newS bs)).1 : Int), .int .i64 ((newS bs)).2] := by
 have hl := hl.e
 refine gNew ZkM Zac (rs := [.tmp 2]) (sl := [(0, .g (.ex v 1 (bs.map (GV.int .u8))))]) Tryz.func14 rfl Tryz.ntmps14 rfl Zhr rfl rfl (by first | (simp [GV.atom]; done) | fail) (by repeat constructor) ?_
 (repeat' (first | ((with_reducible apply gBN.cadd); exact NU.mk (by omega)) | ((with_reducible apply gBN.csub); exact NU.mk (by omega)) | ((with_reducible apply gBN.cmul); exact NU.mk (by omega)) | (with_reducible first | apply gBN.cwadd | apply gBN.cwmul) | ((with_reducible apply gCV.cint); (. exact RF.mk ⟨rfl, rfl⟩); (. exact RF.mk ⟨rfl, rfl⟩); exact NU.mk (by omega)) | ((with_reducible apply gCV.cwide); (. exact RF.mk ⟨rfl, rfl⟩); (. exact RF.mk ⟨rfl, rfl⟩)) | (with_reducible first | apply Zww | apply ZnE) | ((with_reducible apply gLB.cagg); (. exact RF.mk ⟨rfl, rfl, rfl⟩)) | ((with_reducible apply gLB.cone); (. exact RF.mk ⟨rfl, rfl⟩)) | ((with_reducible apply gLI.cagg); (. exact RF.mk ⟨rfl, rfl, rfl⟩)) | ((with_reducible apply gLI.cone); (. exact RF.mk ⟨rfl, rfl⟩)) | ((with_reducible apply gAF.cbuildA); (. exact RF.mk rfl); (. exact RF.mk ⟨rfl, rfl, rfl, rfl⟩)) | (with_reducible constructor) | exact Z4 | exact ZN | exact ZI | exact ZS | exact ZF | exact ZG | exact ZC | exact ZP | exact ZQ | (with_reducible apply Zbp) | (apply ZbB) | (with_reducible apply Zbd) | exact ZU | (with_reducible apply Zby) | (apply ZbD) | (with_reducible intro hc; (try simp only [HCs] at hc)) | exact OB_f | exact DEC.mk (by decide) | exact ZM | exact ZT | exact ZK | (with_reducible first | apply gNK | apply Zao | apply Zaf | apply Zal | apply Zan | apply Zai | apply CK_t | apply CK_f | apply ZaQ | apply Zam | apply Zap | apply Zau | apply Zbe | apply Zak | apply Za7 | apply Zas | apply ZaG | apply Zav | apply ZaM | apply ZbE | apply ZbC | apply Zes | apply Zat | apply ZbH | apply Zeu) | apply Zah Zac | apply ZaK Zac rfl | (apply ZaD; exact RF.mk rfl) | exact EQ.mk rfl | (refine Zaq (id := 0) (ι := Nat × Int) (fun ⟨i, h⟩ => ⟨[(0, .g (.ex v 1 (bs.map (GV.int .u8)))), (3, .g (.i h)), (4, .g (.i i))], []⟩) (fun ⟨i, h⟩ => (i ≤ bs.length) ∧ (newH (bs.drop i) h = newH bs (560017 + bs.length))) (fun ⟨i, h⟩ => bs.length - i) (0, 560017 + bs.length) ?_ ?_ ?_; (. (apply gLX0 <;> (repeat' (first | (with_reducible constructor) | exact Z5 | exact RF.mk (by decide) | (with_reducible apply Zae) | exact ZE)))); (. (exact ⟨by omega, rfl⟩)); (rintro ⟨i, h⟩ ⟨h1, h2⟩; (show TX _ _ _ _ _ [(0, .g (.ex v 1 (bs.map (GV.int .u8)))), (3, .g (.i h)), (4, .g (.i i))] [] _))) | exact gSel.cnil _ | apply gSel.ccons | apply gCG.cagg))
 (all_goals (first | (refine ZaR (i + 1, Zfo .and .i64 (IntKind.wrap .i64 (IntKind.wrap .i64 (IntKind.wrap .i64 (h * 313) + IntKind.wrap .i64 (nth bs i)) + 11)) 1073741823) ?_ ?_ ?_; (· (apply gLX0 <;> (repeat' (first | (with_reducible constructor) | exact Z5 | exact RF.mk (by decide) | (with_reducible apply Zae) | exact ZE)))); (· (exact ⟨by omega, by rw [← h2]; exact (Zqx (by omega)).symm⟩)); (· exact ZW)) | (((refine EQ.mk ?_; rw [ZsS (by omega)] at h2; unfold newS; rw [← h2]; rfl)); done)))
def Zjt : Nat → List Nat
 | 0 => [0]
 | 1 => [0]
 | 2 => [0, 3]
 | 3 => [0, 3, 34]
 | 4 => [0, 3]
 | 5 => [0, 3]
 | 6 => [0, 2]
 | _ => []
theorem Zg3 (args : Array Value) (w : World) : (callFunc 57 args).run Tryz.prog w = .ok (.enter 57 args) w := Zab Tryz.func57 (by decide) rfl args w
set_option maxHeartbeats 1000000 in
theorem Zmw (v : Value) (bs : List Int) (s : Nat × Int) (hl : NU (bs.length ≤ 4096)) : BoxC Tryz.prog 57 [.ex v 1 (bs.map (GV.int .u8)), .int .i64 ((s).1 : Int), .int .i64 (s).2] [] (.i (Zjw bs s)) [.ex v 1 (bs.map (GV.int .u8)), .int .i64 (((ZdV bs s)).1 : Int), .int .i64 ((ZdV bs s)).2] := by
 have hl := hl.e
 refine gCur Zjt Zac (rs := [.tmp 2]) (sl := []) (B := [.g (.ex v 1 (bs.map (GV.int .u8))), .g (.int .i64 ((s).1 : Int)), .g (.int .i64 (s).2)]) Tryz.func57 rfl Tryz.ntmps57 rfl Zg3 rfl rfl rfl rfl (by first | (simp [GV.atom]; done) | fail) rfl (by repeat constructor) (by repeat constructor) ?_
 (repeat' (first | ((with_reducible apply gBN.cadd); exact NU.mk (by omega)) | ((with_reducible apply gBN.csub); exact NU.mk (by omega)) | ((with_reducible apply gBN.cmul); exact NU.mk (by omega)) | (with_reducible first | apply gBN.cwadd | apply gBN.cwmul) | ((with_reducible apply gCV.cint); (. exact RF.mk ⟨rfl, rfl⟩); (. exact RF.mk ⟨rfl, rfl⟩); exact NU.mk (by omega)) | ((with_reducible apply gCV.cwide); (. exact RF.mk ⟨rfl, rfl⟩); (. exact RF.mk ⟨rfl, rfl⟩)) | (with_reducible first | apply ZdX | apply Zda) | ((with_reducible apply gLB.cagg); (. exact RF.mk ⟨rfl, rfl, rfl⟩)) | ((with_reducible apply gLB.cone); (. exact RF.mk ⟨rfl, rfl⟩)) | ((with_reducible apply gLI.cagg); (. exact RF.mk ⟨rfl, rfl, rfl⟩)) | ((with_reducible apply gLI.cone); (. exact RF.mk ⟨rfl, rfl⟩)) | ((with_reducible apply gAF.cbuildA); (. exact RF.mk rfl); (. exact RF.mk ⟨rfl, rfl, rfl, rfl⟩)) | (with_reducible constructor) | exact Z4 | exact ZN | exact ZI | exact ZS | exact ZF | exact ZG | exact ZC | exact ZP | exact ZQ | (with_reducible apply Zbp) | (apply ZbB) | (with_reducible apply Zbd) | exact ZU | (with_reducible apply Zby) | (apply ZbD) | (with_reducible intro hc; (try simp only [HCs] at hc)) | exact OB_f | exact DEC.mk (by decide) | exact ZM | exact ZT | exact ZK | (with_reducible first | apply gNK | apply Zao | apply Zaf | apply Zal | apply Zan | apply Zai | apply CK_t | apply CK_f | apply ZaQ | apply Zam | apply Zap | apply Zau | apply Zbe | apply Zak | apply Za7 | apply Zas | apply ZaG | apply Zav | apply ZaM | apply ZbE | apply ZbC | apply Zes | apply Zat | apply ZbH | apply Zeu) | apply Zah Zac | apply ZaK Zac rfl | (apply ZaD; exact RF.mk rfl) | exact EQ.mk rfl | exact gSel.cnil _ | apply gSel.ccons | apply gCG.cagg))
 (all_goals (first | (((refine EQ.mk ?_; (try unfold Zjw); (try unfold ZdV); (try unfold curX); (try unfold curH); (repeat (first | rw [if_pos (by first | omega | assumption)] | rw [if_neg (by first | omega | assumption)] | simp only [if_pos (show s.1 < bs.length by omega)] | simp only [if_neg (show ¬ s.1 < bs.length by omega)])); all_goals first | rfl | (simp; done))); done)))
def Zi5 : Nat → List Nat
 | 0 => [0, 1]
 | 1 => [0, 1, 10]
 | 2 => [0, 4]
 | 3 => [0, 1, 12]
 | 4 => [0, 4]
 | 5 => [0, 1, 5]
 | 6 => [0, 1, 5, 6]
 | 7 => [0, 1, 5, 6, 7]
 | 8 => [0, 1, 5, 6, 7, 8]
 | 9 => [0, 4]
 | _ => []
theorem Zgo (args : Array Value) (w : World) : (callFunc 34 args).run Tryz.prog w = .ok (.enter 34 args) w := Zab Tryz.func34 (by decide) rfl args w
set_option maxHeartbeats 1000000 in
theorem Za8 (v : Value) (bs : List Int) (s : Nat × Int) (n : Int) (hl : NU (bs.length ≤ 4096)) (hn : NU (-9223372036854775808 ≤ n ∧ n ≤ 9223372036854775807)) : BoxC Tryz.prog 34 [.ex v 1 (bs.map (GV.int .u8)), .int .i64 ((s).1 : Int), .int .i64 (s).2] [.i n] (.i (ZaH bs n s)) [.ex v 1 (bs.map (GV.int .u8)), .int .i64 (((Zag bs n s)).1 : Int), .int .i64 ((Zag bs n s)).2] := by
 have hl := hl.e
 have hn := hn.e
 have hb1 := Zgn bs s
 have hb2 := Zgn bs (ZdV bs s)
 have hb3 := Zgn bs (ZdV bs (ZdV bs s))
 have hb4 := Zgn bs (ZdV bs (ZdV bs (ZdV bs s)))
 refine gCur Zi5 Zac (rs := [.tmp 4]) (sl := [(1, .g (.i n))]) (B := [.g (.ex v 1 (bs.map (GV.int .u8))), .g (.int .i64 ((s).1 : Int)), .g (.int .i64 (s).2)]) Tryz.func34 rfl Tryz.ntmps34 rfl Zgo rfl rfl rfl rfl (by first | (simp [GV.atom]; done) | fail) rfl (by repeat constructor) (by repeat constructor) ?_
 (repeat' (first | ((with_reducible apply gAF.ccur (f := 57))) | ((with_reducible apply Zc5); first | apply Zmw) | (with_reducible first | apply ZdX | apply Zda) | ((with_reducible apply gLB.cagg); (. exact RF.mk ⟨rfl, rfl, rfl⟩)) | ((with_reducible apply gLB.cone); (. exact RF.mk ⟨rfl, rfl⟩)) | ((with_reducible apply gLI.cagg); (. exact RF.mk ⟨rfl, rfl, rfl⟩)) | ((with_reducible apply gLI.cone); (. exact RF.mk ⟨rfl, rfl⟩)) | ((with_reducible apply gAF.cbuildA); (. exact RF.mk rfl); (. exact RF.mk ⟨rfl, rfl, rfl, rfl⟩)) | (with_reducible constructor) | exact Z4 | exact ZN | exact ZI | exact ZS | exact ZF | exact ZG | exact ZC | exact ZP | exact ZQ | (with_reducible apply Zbp) | (apply ZbB) | (with_reducible apply Zbd) | exact ZU | (with_reducible apply Zby) | (apply ZbD) | (with_reducible intro hc; (try simp only [HCs] at hc)) | exact OB_f | exact DEC.mk (by decide) | exact ZM | exact ZT | exact ZK | (with_reducible first | apply gNK | apply Zao | apply Zaf | apply Zal | apply Zan | apply Zai | apply CK_t | apply CK_f | apply ZaQ | apply Zam | apply Zap | apply Zau | apply Zbe | apply Zak | apply Za7 | apply Zas | apply ZaG | apply Zav | apply ZaM | apply ZbE | apply ZbC | apply Zes | apply Zat | apply ZbH | apply Zeu) | apply Zah Zac | apply ZaK Zac rfl | (apply ZaD; exact RF.mk rfl) | exact EQ.mk rfl | exact gSel.cnil _ | apply gSel.ccons | apply gCG.cagg))
 (all_goals (first | (((refine EQ.mk ?_; (try unfold ZaH); (try unfold Zag); (try unfold Zyf); (repeat (first | rw [if_pos (by first | omega | assumption)] | rw [if_neg (by first | omega | assumption)] | simp only [if_pos (show s.1 < bs.length by omega)] | simp only [if_neg (show ¬ s.1 < bs.length by omega)])); all_goals first | rfl | (simp; done))); done)))
def Zjz : Nat → List Nat
 | 0 => [0, 1]
 | 1 => [0, 4]
 | _ => []
theorem ZgH (args : Array Value) (w : World) : (callFunc 33 args).run Tryz.prog w = .ok (.enter 33 args) w := Zab Tryz.func33 (by decide) rfl args w
set_option maxHeartbeats 1000000 in
theorem Zb6 (v : Value) (bs : List Int) (s : Nat × Int) (n : Int) (hl : NU (bs.length ≤ 4096)) (hn : NU (-9223372036854775808 ≤ n ∧ n ≤ 9223372036854775807)) : BoxC Tryz.prog 33 [.ex v 1 (bs.map (GV.int .u8)), .int .i64 ((s).1 : Int), .int .i64 (s).2] [.i n] (.bool (ZiQ bs n s)) [.ex v 1 (bs.map (GV.int .u8)), .int .i64 (((Zag bs n s)).1 : Int), .int .i64 ((Zag bs n s)).2] := by
 have hl := hl.e
 have hn := hn.e
 refine gCur Zjz Zac (rs := [.tmp 4]) (sl := [(1, .g (.i n))]) (B := [.g (.ex v 1 (bs.map (GV.int .u8))), .g (.int .i64 ((s).1 : Int)), .g (.int .i64 (s).2)]) Tryz.func33 rfl Tryz.ntmps33 rfl ZgH rfl rfl rfl rfl (by first | (simp [GV.atom]; done) | fail) rfl (by repeat constructor) (by repeat constructor) ?_
 (repeat' (first | ((with_reducible apply gAF.ccur (f := 34))) | ((with_reducible apply Zc5); first | apply Za8) | (with_reducible first | apply ZdX | apply Zda) | ((with_reducible apply gLB.cagg); (. exact RF.mk ⟨rfl, rfl, rfl⟩)) | ((with_reducible apply gLB.cone); (. exact RF.mk ⟨rfl, rfl⟩)) | ((with_reducible apply gLI.cagg); (. exact RF.mk ⟨rfl, rfl, rfl⟩)) | ((with_reducible apply gLI.cone); (. exact RF.mk ⟨rfl, rfl⟩)) | ((with_reducible apply gAF.cbuildA); (. exact RF.mk rfl); (. exact RF.mk ⟨rfl, rfl, rfl, rfl⟩)) | (with_reducible constructor) | exact Z4 | exact ZN | exact ZI | exact ZS | exact ZF | exact ZG | exact ZC | exact ZP | exact ZQ | (with_reducible apply Zbp) | (apply ZbB) | (with_reducible apply Zbd) | exact ZU | (with_reducible apply Zby) | (apply ZbD) | (with_reducible intro hc; (try simp only [HCs] at hc)) | exact OB_f | exact DEC.mk (by decide) | exact ZM | exact ZT | exact ZK | (with_reducible first | apply gNK | apply Zao | apply Zaf | apply Zal | apply Zan | apply Zai | apply CK_t | apply CK_f | apply ZaQ | apply Zam | apply Zap | apply Zau | apply Zbe | apply Zak | apply Za7 | apply Zas | apply ZaG | apply Zav | apply ZaM | apply ZbE | apply ZbC | apply Zes | apply Zat | apply ZbH | apply Zeu) | apply Zah Zac | apply ZaK Zac rfl | (apply ZaD; exact RF.mk rfl) | exact EQ.mk rfl | exact gSel.cnil _ | apply gSel.ccons | apply gCG.cagg))
 (all_goals (first | (((first | (refine Zar ?_; first | (simp_all; done) | (rw [Bool.eq_iff_iff]; simp only [Bool.and_eq_true, Bool.or_eq_true, decide_eq_true_eq, Bool.false_eq_true, false_iff, true_iff, iff_false, iff_true, not_and, not_or, Bool.not_eq_true, decide_eq_false_iff_not, beq_iff_eq, bne_iff_ne, ne_eq, Bool.not_eq_true', Bool.not_eq_false', Int.not_le, Int.not_lt]; omega)) | ((repeat (first | apply Zft | apply Za6 | apply ZcF | apply ZbV | apply Zax)); all_goals (first | exact EQ.mk rfl | exact EQ.mk (by first | (simp; done) | fail) | exact EQ.mk (by first | (simp_all; done) | fail))))); done)))
def Zjm : Nat → List Nat
 | 0 => [0, 1, 2]
 | 1 => [0, 6]
 | _ => []
theorem ZgS (args : Array Value) (w : World) : (callFunc 35 args).run Tryz.prog w = .ok (.enter 35 args) w := Zab Tryz.func35 (by decide) rfl args w
set_option maxHeartbeats 1000000 in
theorem ZfG (v : Value) (bs : List Int) (s : Nat × Int) (lo hi : Int) (hl : NU (bs.length ≤ 4096)) (hn : NU (-1048576 ≤ lo ∧ lo ≤ hi ∧ hi ≤ 1048576)) : BoxC Tryz.prog 35 [.ex v 1 (bs.map (GV.int .u8)), .int .i64 ((s).1 : Int), .int .i64 (s).2] [.i lo, .i hi] (.i (Zqi bs lo hi s)) [.ex v 1 (bs.map (GV.int .u8)), .int .i64 (((Zol bs lo hi s)).1 : Int), .int .i64 ((Zol bs lo hi s)).2] := by
 have hl := hl.e
 have hn := hn.e
 have hb1 := Za9 bs (hi - lo + 1) s
 have hb2 := hb1.2 (by omega)
 refine gCur Zjm Zac (rs := [.tmp 6]) (sl := [(1, .g (.i lo)), (2, .g (.i hi))]) (B := [.g (.ex v 1 (bs.map (GV.int .u8))), .g (.int .i64 ((s).1 : Int)), .g (.int .i64 (s).2)]) Tryz.func35 rfl Tryz.ntmps35 rfl ZgS rfl rfl rfl rfl (by first | (simp [GV.atom]; done) | fail) rfl (by repeat constructor) (by repeat constructor) ?_
 (repeat' (first | ((with_reducible apply gAF.ccur (f := 34))) | ((with_reducible apply Zc5); first | apply Za8) | (with_reducible first | apply ZdX | apply Zda) | ((with_reducible apply gLB.cagg); (. exact RF.mk ⟨rfl, rfl, rfl⟩)) | ((with_reducible apply gLB.cone); (. exact RF.mk ⟨rfl, rfl⟩)) | ((with_reducible apply gLI.cagg); (. exact RF.mk ⟨rfl, rfl, rfl⟩)) | ((with_reducible apply gLI.cone); (. exact RF.mk ⟨rfl, rfl⟩)) | ((with_reducible apply gAF.cbuildA); (. exact RF.mk rfl); (. exact RF.mk ⟨rfl, rfl, rfl, rfl⟩)) | (with_reducible constructor) | exact Z4 | exact ZN | exact ZI | exact ZS | exact ZF | exact ZG | exact ZC | exact ZP | exact ZQ | (with_reducible apply Zbp) | (apply ZbB) | (with_reducible apply Zbd) | exact ZU | (with_reducible apply Zby) | (apply ZbD) | (with_reducible intro hc; (try simp only [HCs] at hc)) | exact OB_f | exact DEC.mk (by decide) | exact ZM | exact ZT | exact ZK | (with_reducible first | apply gNK | apply Zao | apply Zaf | apply Zal | apply Zan | apply Zai | apply CK_t | apply CK_f | apply ZaQ | apply Zam | apply Zap | apply Zau | apply Zbe | apply Zak | apply Za7 | apply Zas | apply ZaG | apply Zav | apply ZaM | apply ZbE | apply ZbC | apply Zes | apply Zat | apply ZbH | apply Zeu) | apply Zah Zac | apply ZaK Zac rfl | (apply ZaD; exact RF.mk rfl) | exact EQ.mk rfl | exact gSel.cnil _ | apply gSel.ccons | apply gCG.cagg))
 (all_goals (first | (((first | (refine Zar ?_; first | (simp_all; done) | (rw [Bool.eq_iff_iff]; simp only [Bool.and_eq_true, Bool.or_eq_true, decide_eq_true_eq, Bool.false_eq_true, false_iff, true_iff, iff_false, iff_true, not_and, not_or, Bool.not_eq_true, decide_eq_false_iff_not, beq_iff_eq, bne_iff_ne, ne_eq, Bool.not_eq_true', Bool.not_eq_false', Int.not_le, Int.not_lt]; omega)) | ((repeat (first | apply Zft | apply Za6 | apply ZcF | apply ZbV | apply Zax)); all_goals (first | exact EQ.mk rfl | exact EQ.mk (by first | (simp; done) | fail) | exact EQ.mk (by first | (simp_all; done) | fail))))); done)))
def Zf6 : Nat → List Nat
 | 0 => [0, 2]
 | 1 => [0, 2, 3]
 | 2 => [0, 2, 3, 6]
 | 3 => [0, 2, 3]
 | 4 => [0, 2, 3, 15]
 | 5 => [0, 2, 3]
 | 6 => [0, 2]
 | _ => []
theorem ZeF (args : Array Value) (w : World) : (callFunc 15 args).run Tryz.prog w = .ok (.enter 15 args) w := Zab Tryz.func15 (by decide) rfl args w
set_option maxHeartbeats 1000000 in
theorem ZiT (v : Value) (bs : List Int) (s : Nat × Int) (hl : NU (bs.length ≤ 4096)) : BoxC Tryz.prog 15 [.ex v 1 (bs.map (GV.int .u8)), .int .i64 ((s).1 : Int), .int .i64 (s).2] [] (.sig (sigP bs s).1.1 (sigP bs s).1.2) [.ex v 1 (bs.map (GV.int .u8)), .int .i64 (((sigP bs s).2).1 : Int), .int .i64 ((sigP bs s).2).2] := by
 have hl := hl.e
 have hb1 := Za9 bs 2 (Zag bs 4 s)
 have hb2 := hb1.2 (by omega)
 have hb3 := Za9 bs 2 (Zag bs 2 (Zag bs 4 s))
 have hb4 := hb3.2 (by omega)
 refine gCur Zf6 Zac (rs := [.cell 2 25]) (sl := []) (B := [.g (.ex v 1 (bs.map (GV.int .u8))), .g (.int .i64 ((s).1 : Int)), .g (.int .i64 (s).2)]) Tryz.func15 rfl Tryz.ntmps15 rfl ZeF rfl rfl rfl rfl (by first | (simp [GV.atom]; done) | fail) rfl (by repeat constructor) (by repeat constructor) ?_
 (repeat' (first | ((with_reducible apply gAF.ccur (f := 33))) | ((with_reducible apply gAF.ccur (f := 34))) | ((with_reducible apply gAF.ccur (f := 35))) | ((with_reducible apply Zc5); first | apply Zb6 | apply Za8 | apply ZfG) | (with_reducible first | apply ZdX | apply Zda) | ((with_reducible apply gLB.cagg); (. exact RF.mk ⟨rfl, rfl, rfl⟩)) | ((with_reducible apply gLB.cone); (. exact RF.mk ⟨rfl, rfl⟩)) | ((with_reducible apply gLI.cagg); (. exact RF.mk ⟨rfl, rfl, rfl⟩)) | ((with_reducible apply gLI.cone); (. exact RF.mk ⟨rfl, rfl⟩)) | ((with_reducible apply gAF.cbuildA); (. exact RF.mk rfl); (. exact RF.mk ⟨rfl, rfl, rfl, rfl⟩)) | (with_reducible constructor) | exact Z4 | exact ZN | exact ZI | exact ZS | exact ZF | exact ZG | exact ZC | exact ZP | exact ZQ | (with_reducible apply Zbp) | (apply ZbB) | (with_reducible apply Zbd) | exact ZU | (with_reducible apply Zby) | (apply ZbD) | (with_reducible intro hc; (try simp only [HCs] at hc)) | exact OB_f | exact DEC.mk (by decide) | exact ZM | exact ZT | exact ZK | (with_reducible first | apply gNK | apply Zao | apply Zaf | apply Zal | apply Zan | apply Zai | apply CK_t | apply CK_f | apply ZaQ | apply Zam | apply Zap | apply Zau | apply Zbe | apply Zak | apply Za7 | apply Zas | apply ZaG | apply Zav | apply ZaM | apply ZbE | apply ZbC | apply Zes | apply Zat | apply ZbH | apply Zeu) | apply Zah Zac | apply ZaK Zac rfl | (apply ZaD; exact RF.mk rfl) | exact EQ.mk rfl | exact gSel.cnil _ | apply gSel.ccons | apply gCG.cagg))
 (all_goals (first | (((clear hb1 hb2 hb3 hb4; refine EQ.mk ?_; simp_all [sigP, sigA]; done)); done)))
end Go.Proofs.YtnieejghoaccmaaGreat

