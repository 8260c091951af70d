/- Draws: words by the cursor. No conditions but those that each theorem names. -/
import Derived.Test.YtnieejghoaccmaaGreatTab
import Derived.Test.YtnieejghoaccmaaGreatKG
import Derived.Test.YtnieejghoaccmaaGreatD1
import Derived.Test.YtnieejghoaccmaaGreatM2
import Derived.Test.YtnieejghoaccmaaGreatMG
import Derived.Test.YtnieejghoaccmaaGreatChecked
set_option linter.unusedSimpArgs false
set_option linter.unusedVariables false
namespace Go.Proofs.YtnieejghoaccmaaGreat
open Go.RowKit
open Shp
def ZkS : Nat → List Nat
 | 0 => [0, 1]
 | 1 => [0, 1, 7]
 | 2 => [4]
 | 3 => [4]
 | _ => []
theorem Zhp (args : Array Value) (w : World) : (callFunc 111 args).run Tryz.prog w = .ok (.enter 111 args) w := Zab Tryz.func111 (by decide) rfl args w
set_option maxHeartbeats 1000000 in
theorem ZoL (a b : Int) : Con Tryz.prog 111 [.i a, .i b] (.i (min a b)) := by
 refine gCon ZkS Zac (rs := [.tmp 4]) (sl := [(0, .g (.i a)), (1, .g (.i b))]) Tryz.func111 rfl Tryz.ntmps111 rfl Zhp rfl (by repeat constructor) ?_
 (repeat' (first | ((with_reducible apply gLB.cagg); (. exact RF.mk ⟨rfl, rfl, rfl⟩)) | ((with_reducible apply gLB.cone); (. exact RF.mk ⟨rfl, rfl⟩)) | ((with_reducible apply gLI.cagg); (. exact RF.mk ⟨rfl, rfl, rfl⟩)) | ((with_reducible apply gLI.cone); (. exact RF.mk ⟨rfl, rfl⟩)) | ((with_reducible apply gAF.cbuildA); (. exact RF.mk rfl); (. exact RF.mk ⟨rfl, rfl, rfl, rfl⟩)) | (with_reducible constructor) | exact Z4 | exact ZN | exact ZI | exact ZS | exact ZF | exact ZG | exact ZC | exact ZP | exact ZQ | (with_reducible apply Zbp) | (apply ZbB) | (with_reducible apply Zbd) | exact ZU | (with_reducible apply Zby) | (apply ZbD) | (with_reducible intro hc; (try simp only [HCs] at hc)) | exact OB_f | exact DEC.mk (by decide) | exact ZM | exact ZT | exact ZK | (with_reducible first | apply gNK | apply Zao | apply Zaf | apply Zal | apply Zan | apply Zai | apply CK_t | apply CK_f | apply ZaQ | apply Zam | apply Zap | apply Zau | apply Zbe | apply Zak | apply Za7 | apply Zas | apply ZaG | apply Zav | apply ZaM | apply ZbE | apply ZbC | apply Zes | apply Zat | apply ZbH | apply Zeu) | apply Zah Zac | apply ZaK Zac rfl | (apply ZaD; exact RF.mk rfl) | exact EQ.mk rfl | exact gSel.cnil _ | apply gSel.ccons | apply gCG.cagg))
 (all_goals (first | (((refine Zae (EQ.mk ?_); omega)); done)))
def Zkd : Nat → List Nat
 | 0 => [0]
 | 1 => [0, 2]
 | _ => []
theorem ZhI (args : Array Value) (w : World) : (callFunc 110 args).run Tryz.prog w = .ok (.enter 110 args) w := Zab Tryz.func110 (by decide) rfl args w
set_option maxHeartbeats 1000000 in
theorem Zod (v : Value) (bs : List Int) (s : Nat × Int) (hl : NU (bs.length ≤ 4096)) : BoxC Tryz.prog 110 [.ex v 1 (bs.map (GV.int .u8)), .int .i64 ((s).1 : Int), .int .i64 (s).2] [] (.i (oddX bs s)) [.ex v 1 (bs.map (GV.int .u8)), .int .i64 (((Zag bs 10 s)).1 : Int), .int .i64 ((Zag bs 10 s)).2] := by
 have hl := hl.e
 have hb1 := Za9 bs 10 s
 have hb2 := hb1.2 (by omega)
 refine gCur Zkd Zac (rs := [.tmp 2]) (sl := []) (B := [.g (.ex v 1 (bs.map (GV.int .u8))), .g (.int .i64 ((s).1 : Int)), .g (.int .i64 (s).2)]) Tryz.func110 rfl Tryz.ntmps110 rfl ZhI rfl rfl rfl rfl (by first | (simp [GV.atom]; done) | fail) rfl (by repeat constructor) (by repeat constructor) ?_
 (repeat' (first | ((refine gITM.cof (ys := oddT) (RF.mk rfl) ?_); exact NU.mk (show _ < 10 by omega)) | ((with_reducible apply gAF.ccur (f := 34))) | ((with_reducible apply Zc5); first | apply Za8) | (with_reducible first | apply ZdX | apply Zda) | ((with_reducible apply gLB.cagg); (. exact RF.mk ⟨rfl, rfl, rfl⟩)) | ((with_reducible apply gLB.cone); (. exact RF.mk ⟨rfl, rfl⟩)) | ((with_reducible apply gLI.cagg); (. exact RF.mk ⟨rfl, rfl, rfl⟩)) | ((with_reducible apply gLI.cone); (. exact RF.mk ⟨rfl, rfl⟩)) | ((with_reducible apply gAF.cbuildA); (. exact RF.mk rfl); (. exact RF.mk ⟨rfl, rfl, rfl, rfl⟩)) | (with_reducible constructor) | exact Z4 | exact ZN | exact ZI | exact ZS | exact ZF | exact ZG | exact ZC | exact ZP | exact ZQ | (with_reducible apply Zbp) | (apply ZbB) | (with_reducible apply Zbd) | exact ZU | (with_reducible apply Zby) | (apply ZbD) | (with_reducible intro hc; (try simp only [HCs] at hc)) | exact OB_f | exact DEC.mk (by decide) | exact ZM | exact ZT | exact ZK | (with_reducible first | apply gNK | apply Zao | apply Zaf | apply Zal | apply Zan | apply Zai | apply CK_t | apply CK_f | apply ZaQ | apply Zam | apply Zap | apply Zau | apply Zbe | apply Zak | apply Za7 | apply Zas | apply ZaG | apply Zav | apply ZaM | apply ZbE | apply ZbC | apply Zes | apply Zat | apply ZbH | apply Zeu) | apply Zah Zac | apply ZaK Zac rfl | (apply ZaD; exact RF.mk rfl) | exact EQ.mk rfl | exact gSel.cnil _ | apply gSel.ccons | apply gCG.cagg))
 (all_goals (first | (((refine EQ.mk ?_; (try simp only [oddX, Nat.zero_add]); all_goals rfl)); done)))
def ZkF : Nat → List Nat
 | 0 => [0, 1]
 | 1 => [0, 1, 6]
 | 2 => [0, 4]
 | 3 => [0, 1, 18]
 | 4 => [0, 4]
 | 5 => [0, 4]
 | _ => []
theorem ZhF (args : Array Value) (w : World) : (callFunc 101 args).run Tryz.prog w = .ok (.enter 101 args) w := Zab Tryz.func101 (by decide) rfl args w
set_option maxHeartbeats 1000000 in
theorem ZoC (v : Value) (bs : List Int) (s : Nat × Int) (m : Int) (hl : NU (bs.length ≤ 4096)) (hm : NU (0 ≤ m ∧ m ≤ 2000)) : BoxC Tryz.prog 101 [.ex v 1 (bs.map (GV.int .u8)), .int .i64 ((s).1 : Int), .int .i64 (s).2] [.i m] (.i (numD bs m s).1) [.ex v 1 (bs.map (GV.int .u8)), .int .i64 (((numD bs m s).2).1 : Int), .int .i64 ((numD bs m s).2).2] := by
 have hl := hl.e
 have hm := hm.e
 have hb1 := Za9 bs 4 (Zag bs 10 (Zag bs 10 s))
 have hb2 := hb1.2 (by omega)
 refine gCur ZkF Zac (rs := [.tmp 4]) (sl := [(1, .g (.i m))]) (B := [.g (.ex v 1 (bs.map (GV.int .u8))), .g (.int .i64 ((s).1 : Int)), .g (.int .i64 (s).2)]) Tryz.func101 rfl Tryz.ntmps101 rfl ZhF rfl rfl rfl rfl (by first | (simp [GV.atom]; done) | fail) rfl (by repeat constructor) (by repeat constructor) ?_
 (repeat' (first | ((refine gITM.cof (ys := numT bs m (Zag bs 10 s)) (RF.mk rfl) ?_); exact NU.mk (show _ < 4 by omega)) | ((with_reducible apply gAF.ccur (f := 33))) | ((with_reducible apply gAF.ccur (f := 34))) | ((with_reducible apply gAF.ccur (f := 110))) | ((with_reducible apply Zc5); first | apply Zb6 | apply Za8 | apply Zod) | (with_reducible first | apply ZdX | apply Zda) | ((with_reducible apply gLB.cagg); (. exact RF.mk ⟨rfl, rfl, rfl⟩)) | ((with_reducible apply gLB.cone); (. exact RF.mk ⟨rfl, rfl⟩)) | ((with_reducible apply gLI.cagg); (. exact RF.mk ⟨rfl, rfl, rfl⟩)) | ((with_reducible apply gLI.cone); (. exact RF.mk ⟨rfl, rfl⟩)) | ((with_reducible apply gAF.cbuildA); (. exact RF.mk rfl); (. exact RF.mk ⟨rfl, rfl, rfl, rfl⟩)) | (with_reducible constructor) | exact Z4 | exact ZN | exact ZI | exact ZS | exact ZF | exact ZG | exact ZC | exact ZP | exact ZQ | (with_reducible apply Zbp) | (apply ZbB) | (with_reducible apply Zbd) | exact ZU | (with_reducible apply Zby) | (apply ZbD) | ((with_reducible apply ZaP); first | apply ZoL) | (with_reducible intro hc; (try simp only [HCs] at hc)) | exact OB_f | exact DEC.mk (by decide) | exact ZM | exact ZT | exact ZK | (with_reducible first | apply gNK | apply Zao | apply Zaf | apply Zal | apply Zan | apply Zai | apply CK_t | apply CK_f | apply ZaQ | apply Zam | apply Zap | apply Zau | apply Zbe | apply Zak | apply Za7 | apply Zas | apply ZaG | apply Zav | apply ZaM | apply ZbE | apply ZbC | apply Zes | apply Zat | apply ZbH | apply Zeu) | apply Zah Zac | apply ZaK Zac rfl | (apply ZaD; exact RF.mk rfl) | exact EQ.mk rfl | exact gSel.cnil _ | apply gSel.ccons | apply gCG.cagg))
 (all_goals (first | (((clear hb1 hb2; refine EQ.mk ?_; (try simp only [Nat.zero_add]); simp_all [numD, numA, numB]; done)); done)))
end Go.Proofs.YtnieejghoaccmaaGreat

