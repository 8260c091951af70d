/- Draws: words by the cursor. No conditions but those that each theorem names. -/
import Derived.Test.YtnieejghoaccmaaTab
import Derived.Test.YtnieejghoaccmaaKG
import Derived.Test.YtnieejghoaccmaaD1
import Derived.Test.YtnieejghoaccmaaDW
import Derived.Test.YtnieejghoaccmaaMM
import Derived.Test.YtnieejghoaccmaaChecked
set_option linter.unusedSimpArgs false
set_option linter.unusedVariables false
namespace Go.Proofs.Ytnieejghoaccmaa
open Go.RowKit
open Shp
theorem QD40 {p : Prop} (h : p := by ((first | exact EQ.mk rfl | exact EQ.mk (by first | (simp; done) | fail) | exact ZaS (EQ.mk rfl)); done)) : p := h
def Zi7 : Nat → List Nat
 | 0 => [0, 1]
 | 1 => [0, 1, 7]
 | 2 => [4]
 | 3 => [4]
 | _ => []
theorem Zgp (args : Array Value) (w : World) : (callFunc 58 args).run Try.prog w = .ok (.enter 58 args) w := Zab Try.func58 (by decide) rfl args w
set_option maxHeartbeats 1000000 in
theorem ZmE (a b : Int) : Con Try.prog 58 [.i a, .i b] (.i (min a b)) := by
 refine gCon Zi7 Zac (rs := [.tmp 4]) (sl := [(0, .g (.i a)), (1, .g (.i b))]) Try.func58 rfl Try.ntmps58 rfl Zgp rfl (by repeat constructor) ?_
 (repeat' (first | ((with_reducible apply gLB.cagg); (. exact RF.mk ⟨rfl, rfl, rfl⟩)) | ((with_reducible apply gLB.cone); (. exact RF.mk ⟨rfl, rfl⟩)) | ((with_reducible apply gLI.cagg); (. exact RF.mk ⟨rfl, rfl, rfl⟩)) | ((with_reducible apply gLI.cone); (. exact RF.mk ⟨rfl, rfl⟩)) | ((with_reducible apply gAF.cbuildA); (. exact RF.mk rfl); (. exact RF.mk ⟨rfl, rfl, rfl, rfl⟩)) | (with_reducible constructor) | exact Z4 | exact ZN | exact ZI | exact ZS | exact ZF | exact ZG | exact ZC | exact ZP | exact ZQ | (with_reducible apply Zay) | (apply ZaB) | (with_reducible apply Zaf) | exact ZU | (with_reducible apply ZaC) | (apply Zaw) | (with_reducible intro hc; (try simp only [HCs] at hc)) | exact OB_f | exact DEC.mk (by decide) | exact ZM | exact ZT | exact ZK | (with_reducible first | apply gNK | apply ZaH | apply Zal | apply Zaj | apply Zai | apply Zam | apply CK_t | apply CK_f | apply ZaQ | apply Zar | apply ZaF | apply Zau | apply Zah | apply Zag | apply Zak | apply Zav | apply ZaA | apply Zax | apply Zaz | apply Zat | apply Zas | apply ZaR | apply ZaG | apply ZaE | apply ZaP) | apply Zaq Zac | apply Zao Zac rfl | (apply ZaD; exact RF.mk rfl) | exact EQ.mk rfl | exact gSel.cnil _ | apply gSel.ccons | apply gCG.cagg))
 (all_goals (first | (((refine Zan (EQ.mk ?_); omega)); done)))
def ZiV : Nat → List Nat
 | 0 => [0]
 | 1 => [0, 2]
 | _ => []
theorem Zgk (args : Array Value) (w : World) : (callFunc 41 args).run Try.prog w = .ok (.enter 41 args) w := Zab Try.func41 (by decide) rfl args w
set_option maxHeartbeats 1000000 in
theorem Zin (v : Value) (bs : List Int) (s : Nat × Int) (hl : NU (bs.length ≤ 4096)) : BoxC Try.prog 41 [.ex v 1 (bs.map (GV.int .u8)), .int .i64 ((s).1 : Int), .int .i64 (s).2] [] (.i (oddX bs s)) [.ex v 1 (bs.map (GV.int .u8)), .int .i64 (((Zae bs 10 s)).1 : Int), .int .i64 ((Zae bs 10 s)).2] := by
 have hl := hl.e
 have hb1 := ZaW bs 10 s
 have hb2 := hb1.2 (by omega)
 refine gCur ZiV Zac (rs := [.tmp 2]) (sl := []) (B := [.g (.ex v 1 (bs.map (GV.int .u8))), .g (.int .i64 ((s).1 : Int)), .g (.int .i64 (s).2)]) Try.func41 rfl Try.ntmps41 rfl Zgk rfl rfl rfl rfl (by first | (simp [GV.atom]; done) | fail) rfl (by repeat constructor) (by repeat constructor) ?_
 (repeat' (first | ((refine gITM.cof (ys := oddT) (RF.mk rfl) ?_); exact NU.mk (show _ < 10 by omega)) | ((with_reducible apply gAF.ccur (f := 35))) | ((with_reducible apply ZcI); first | apply Za4) | (with_reducible first | apply ZcK | apply ZcB) | ((with_reducible apply gLB.cagg); (. exact RF.mk ⟨rfl, rfl, rfl⟩)) | ((with_reducible apply gLB.cone); (. exact RF.mk ⟨rfl, rfl⟩)) | ((with_reducible apply gLI.cagg); (. exact RF.mk ⟨rfl, rfl, rfl⟩)) | ((with_reducible apply gLI.cone); (. exact RF.mk ⟨rfl, rfl⟩)) | ((with_reducible apply gAF.cbuildA); (. exact RF.mk rfl); (. exact RF.mk ⟨rfl, rfl, rfl, rfl⟩)) | (with_reducible constructor) | exact Z4 | exact ZN | exact ZI | exact ZS | exact ZF | exact ZG | exact ZC | exact ZP | exact ZQ | (with_reducible apply Zay) | (apply ZaB) | (with_reducible apply Zaf) | exact ZU | (with_reducible apply ZaC) | (apply Zaw) | (with_reducible intro hc; (try simp only [HCs] at hc)) | exact OB_f | exact DEC.mk (by decide) | exact ZM | exact ZT | exact ZK | (with_reducible first | apply gNK | apply ZaH | apply Zal | apply Zaj | apply Zai | apply Zam | apply CK_t | apply CK_f | apply ZaQ | apply Zar | apply ZaF | apply Zau | apply Zah | apply Zag | apply Zak | apply Zav | apply ZaA | apply Zax | apply Zaz | apply Zat | apply Zas | apply ZaR | apply ZaG | apply ZaE | apply ZaP) | apply Zaq Zac | apply Zao Zac rfl | (apply ZaD; exact RF.mk rfl) | exact EQ.mk rfl | exact gSel.cnil _ | apply gSel.ccons | apply gCG.cagg))
 (all_goals (first | (((refine EQ.mk ?_; (try simp only [oddX, Nat.zero_add]); all_goals rfl)); done)))
def ZiS : Nat → List Nat
 | 0 => [0, 1]
 | 1 => [0, 1, 6]
 | 2 => [0, 4]
 | 3 => [0, 1, 18]
 | 4 => [0, 4]
 | 5 => [0, 4]
 | _ => []
theorem Zgx (args : Array Value) (w : World) : (callFunc 40 args).run Try.prog w = .ok (.enter 40 args) w := Zab Try.func40 (by decide) rfl args w
set_option maxHeartbeats 1000000 in
theorem Zik (v : Value) (bs : List Int) (s : Nat × Int) (m : Int) (hl : NU (bs.length ≤ 4096)) (hm : NU (0 ≤ m ∧ m ≤ 2000)) : BoxC Try.prog 40 [.ex v 1 (bs.map (GV.int .u8)), .int .i64 ((s).1 : Int), .int .i64 (s).2] [.i m] (.i (numD bs m s).1) [.ex v 1 (bs.map (GV.int .u8)), .int .i64 (((numD bs m s).2).1 : Int), .int .i64 ((numD bs m s).2).2] := by
 have hl := hl.e
 have hm := hm.e
 have hb1 := ZaW bs 4 (Zae bs 10 (Zae bs 10 s))
 have hb2 := hb1.2 (by omega)
 refine gCur ZiS Zac (rs := [.tmp 4]) (sl := [(1, .g (.i m))]) (B := [.g (.ex v 1 (bs.map (GV.int .u8))), .g (.int .i64 ((s).1 : Int)), .g (.int .i64 (s).2)]) Try.func40 rfl Try.ntmps40 rfl Zgx rfl rfl rfl rfl (by first | (simp [GV.atom]; done) | fail) rfl (by repeat constructor) (by repeat constructor) ?_
 (repeat' (first | ((refine gITM.cof (ys := numT bs m (Zae bs 10 s)) (RF.mk rfl) ?_); exact NU.mk (show _ < 4 by omega)) | ((with_reducible apply gAF.ccur (f := 34))) | ((with_reducible apply gAF.ccur (f := 35))) | ((with_reducible apply gAF.ccur (f := 41))) | ((with_reducible apply ZcI); first | apply ZbA | apply Za4 | apply Zin) | (with_reducible first | apply ZcK | apply ZcB) | ((with_reducible apply gLB.cagg); (. exact RF.mk ⟨rfl, rfl, rfl⟩)) | ((with_reducible apply gLB.cone); (. exact RF.mk ⟨rfl, rfl⟩)) | ((with_reducible apply gLI.cagg); (. exact RF.mk ⟨rfl, rfl, rfl⟩)) | ((with_reducible apply gLI.cone); (. exact RF.mk ⟨rfl, rfl⟩)) | ((with_reducible apply gAF.cbuildA); (. exact RF.mk rfl); (. exact RF.mk ⟨rfl, rfl, rfl, rfl⟩)) | (with_reducible constructor) | exact Z4 | exact ZN | exact ZI | exact ZS | exact ZF | exact ZG | exact ZC | exact ZP | exact ZQ | (with_reducible apply Zay) | (apply ZaB) | (with_reducible apply Zaf) | exact ZU | (with_reducible apply ZaC) | (apply Zaw) | ((with_reducible apply Za0); first | apply ZmE) | (with_reducible intro hc; (try simp only [HCs] at hc)) | exact OB_f | exact DEC.mk (by decide) | exact ZM | exact ZT | exact ZK | (with_reducible first | apply gNK | apply ZaH | apply Zal | apply Zaj | apply Zai | apply Zam | apply CK_t | apply CK_f | apply ZaQ | apply Zar | apply ZaF | apply Zau | apply Zah | apply Zag | apply Zak | apply Zav | apply ZaA | apply Zax | apply Zaz | apply Zat | apply Zas | apply ZaR | apply ZaG | apply ZaE | apply ZaP) | apply Zaq Zac | apply Zao Zac rfl | (apply ZaD; exact RF.mk rfl) | exact EQ.mk rfl | exact gSel.cnil _ | apply gSel.ccons | apply gCG.cagg))
 (all_goals (first | (((clear hb1 hb2; refine EQ.mk ?_; (try simp only [Nat.zero_add]); simp_all [numD, numA, numB]; done)); done)))
def ZeO : Nat → List Nat
 | 0 => [0, 1, 2]
 | 1 => [0, 1, 2, 7]
 | 2 => [0, 1, 7, 8]
 | 3 => [0, 1, 7, 8, 15]
 | 4 => [0, 1, 7, 8]
 | 5 => [0, 1, 7, 8]
 | 6 => [0, 6]
 | _ => []
theorem ZdO (args : Array Value) (w : World) : (callFunc 39 args).run Try.prog w = .ok (.enter 39 args) w := Zab Try.func39 (by decide) rfl args w
set_option maxHeartbeats 1000000 in
theorem ZgI (v : Value) (bs : List Int) (s : Nat × Int) (n least : Int) (hl : NU (bs.length ≤ 4096)) (hn : NU (-9223372036854775808 ≤ n ∧ n ≤ 9223372036854775807)) (hm : NU (0 ≤ least ∧ least ≤ 100)) : BoxC Try.prog 39 [.ex v 1 (bs.map (GV.int .u8)), .int .i64 ((s).1 : Int), .int .i64 (s).2] [.i n, .i least] (.ints (ZeC bs n least s).1) [.ex v 1 (bs.map (GV.int .u8)), .int .i64 (((ZeC bs n least s).2).1 : Int), .int .i64 ((ZeC bs n least s).2).2] := by
 have hl := hl.e
 have hn := hn.e
 have hm := hm.e
 have hb1 := ZaW bs 5 s
 have hb2 := hb1.2 (by omega)
 refine gCur ZeO Zac (rs := [.tmp 6]) (sl := [(1, .g (.i n)), (2, .g (.i least))]) (B := [.g (.ex v 1 (bs.map (GV.int .u8))), .g (.int .i64 ((s).1 : Int)), .g (.int .i64 (s).2)]) Try.func39 rfl Try.ntmps39 rfl ZdO rfl rfl rfl rfl (by first | (simp [GV.atom]; done) | fail) rfl (by repeat constructor) (by repeat constructor) ?_
 (repeat' (first | ((with_reducible apply gAF.ccur (f := 35))) | ((with_reducible apply ZcI); first | apply Za4) | (with_reducible first | apply ZcK | apply ZcB) | ((with_reducible apply gLB.cagg); (. exact RF.mk ⟨rfl, rfl, rfl⟩)) | ((with_reducible apply gLB.cone); (. exact RF.mk ⟨rfl, rfl⟩)) | ((with_reducible apply gLI.cagg); (. exact RF.mk ⟨rfl, rfl, rfl⟩)) | ((with_reducible apply gLI.cone); (. exact RF.mk ⟨rfl, rfl⟩)) | ((with_reducible apply gAF.cbuildA); (. exact RF.mk rfl); (. exact RF.mk ⟨rfl, rfl, rfl, rfl⟩)) | (with_reducible constructor) | exact Z4 | exact ZN | exact ZI | exact ZS | exact ZF | exact ZG | exact ZC | exact ZP | exact ZQ | (with_reducible apply Zay) | (apply ZaB) | (with_reducible apply Zaf) | exact ZU | (with_reducible apply ZaC) | (apply Zaw) | (with_reducible intro hc; (try simp only [HCs] at hc)) | exact OB_f | exact DEC.mk (by decide) | exact ZM | exact ZT | exact ZK | (with_reducible first | apply gNK | apply ZaH | apply Zal | apply Zaj | apply Zai | apply Zam | apply CK_t | apply CK_f | apply ZaQ | apply Zar | apply ZaF | apply Zau | apply Zah | apply Zag | apply Zak | apply Zav | apply ZaA | apply Zax | apply Zaz | apply Zat | apply Zas | apply ZaR | apply ZaG | apply ZaE | apply ZaP) | apply Zaq Zac | apply Zao Zac rfl | (apply ZaD; exact RF.mk rfl) | exact EQ.mk rfl | (refine ZaN (id := 0) (ι := Int × (List Int) × (Nat × Int)) (fun ⟨k, a, t⟩ => ⟨[(0, .ptr 0 0), (1, .g (.i n)), (7, .own 1 0 a.length), (8, .g (.i k))], [(0, .box [.g (.ex v 1 (bs.map (GV.int .u8))), .g (.int .i64 ((t).1 : Int)), .g (.int .i64 (t).2)]), (1, .arr 1 true (a.map GV.i))]⟩) (fun ⟨k, a, t⟩ => (0 ≤ k ∧ k + a.length ≤ 1000) ∧ (lstC bs n k.toNat a t = ZeC bs n least s)) (fun ⟨k, a, t⟩ => k.toNat) (least + ZaL bs 5 s, [], Zae bs 5 s) ?_ ?_ ?_; (. (apply gLX2 <;> (repeat' (first | (with_reducible constructor) | exact Z5 | exact RF.mk (by decide) | (with_reducible apply Zan) | exact ZE)); (all_goals exact QD40))); (. (exact ⟨by simp; omega, rfl⟩)); (rintro ⟨k, a, t⟩ ⟨h1, h2⟩; (show TX _ _ _ _ _ [(0, .ptr 0 0), (1, .g (.i n)), (7, .own 1 0 a.length), (8, .g (.i k))] [(0, .box [.g (.ex v 1 (bs.map (GV.int .u8))), .g (.int .i64 ((t).1 : Int)), .g (.int .i64 (t).2)]), (1, .arr 1 true (a.map GV.i))] _))) | exact gSel.cnil _ | apply gSel.ccons | apply gCG.cagg))
 (all_goals (first | (refine Zbf (k - 1, a ++ [ZaL bs n t], Zae bs n t) ?_ ?_ ?_; (· (apply gLX2 <;> (repeat' (first | (with_reducible constructor) | exact Z5 | exact RF.mk (by decide) | (with_reducible apply Zan) | exact ZE)); (all_goals exact QD40))); (· ((refine ⟨by simp; omega, ?_⟩; rw [← h2, show k.toNat = (k - 1).toNat + 1 by omega]; rfl))); (· exact ZW)) | (((rw [show k.toNat = 0 by omega] at h2; simp only [lstC] at h2; rw [← h2]; first | exact EQ.mk rfl | exact ZbY (ZaS (EQ.mk rfl)))); done)))
def Zhk : Nat → List Nat
 | 0 => [0, 1, 4]
 | 1 => [0, 1, 4]
 | 2 => [0, 1, 4, 5]
 | 3 => [0, 1, 4, 5, 16]
 | 4 => [0, 1, 4, 5, 18]
 | 5 => [0, 1, 4, 5, 18, 19]
 | 6 => [0, 4, 5]
 | 7 => [0, 1, 4, 5, 18, 23]
 | 8 => [0, 4, 5]
 | 9 => [0, 4, 5, 18, 33]
 | 10 => [0, 4, 5]
 | 11 => [0, 4, 5, 42]
 | 12 => [0, 4, 5]
 | 13 => [0, 4]
 | _ => []
theorem Zfg (args : Array Value) (w : World) : (callFunc 16 args).run Try.prog w = .ok (.enter 16 args) w := Zab Try.func16 (by decide) rfl args w
set_option maxHeartbeats 1000000 in
theorem ZjK (v : Value) (bs : List Int) (s : Nat × Int) (n : Int) (hl : NU (bs.length ≤ 4096)) (hn : NU (-1000 ≤ n ∧ n ≤ 1000)) : BoxC Try.prog 16 [.ex v 1 (bs.map (GV.int .u8)), .int .i64 ((s).1 : Int), .int .i64 (s).2] [.i n] (.word (wrdD bs n s).1.1 (wrdD bs n s).1.2) [.ex v 1 (bs.map (GV.int .u8)), .int .i64 (((wrdD bs n s).2).1 : Int), .int .i64 ((wrdD bs n s).2).2] := by
 have hl := hl.e
 have hn := hn.e
 have hq1 := Zff (bs := bs) (n := max n 1) s (Int.le_refl 0)
 have hq2 := Zff (bs := bs) (n := max n 1) (least := 1) (ZeC bs (max n 1) 0 s).2 (by omega)
 have hq3 := ZaW bs 2 (Zae bs 4 (Zae bs 15 (ZeC bs (max n 1) 1 (ZeC bs (max n 1) 0 s).2).2))
 have hq4 := hq3.2 (by omega)
 have hq5 := ZaW bs 4 (Zae bs 15 (ZeC bs (max n 1) 1 (ZeC bs (max n 1) 0 s).2).2)
 have hq6 := hq5.2 (by omega)
 refine gCur Zhk Zac (rs := [.cell 4 32]) (sl := [(1, .g (.i n))]) (B := [.g (.ex v 1 (bs.map (GV.int .u8))), .g (.int .i64 ((s).1 : Int)), .g (.int .i64 (s).2)]) Try.func16 rfl Try.ntmps16 rfl Zfg rfl rfl rfl rfl (by first | (simp [GV.atom]; done) | fail) rfl (by repeat constructor) (by repeat constructor) ?_
 (repeat' (first | ((with_reducible apply gAF.ccur (f := 34))) | ((with_reducible apply gAF.ccur (f := 35))) | ((with_reducible apply gAF.ccur (f := 39))) | ((with_reducible apply gAF.ccur (f := 40))) | ((with_reducible apply gAF.ccur (f := 41))) | ((with_reducible apply ZcI); first | apply ZbA | apply Za4 | apply ZgI | apply Zik | apply Zin) | (with_reducible first | apply ZcK | apply ZcB) | ((with_reducible apply gLB.cagg); (. exact RF.mk ⟨rfl, rfl, rfl⟩)) | ((with_reducible apply gLB.cone); (. exact RF.mk ⟨rfl, rfl⟩)) | ((with_reducible apply gLI.cagg); (. exact RF.mk ⟨rfl, rfl, rfl⟩)) | ((with_reducible apply gLI.cone); (. exact RF.mk ⟨rfl, rfl⟩)) | ((with_reducible apply gAF.cbuildA); (. exact RF.mk rfl); (. exact RF.mk ⟨rfl, rfl, rfl, rfl⟩)) | (with_reducible constructor) | exact Z4 | exact ZN | exact ZI | exact ZS | exact ZF | exact ZG | exact ZC | exact ZP | exact ZQ | (with_reducible apply Zay) | (apply ZaB) | (with_reducible apply Zaf) | exact ZU | (with_reducible apply ZaC) | (apply Zaw) | ((with_reducible apply Za0); first | apply Zf3) | (with_reducible intro hc; (try simp only [HCs] at hc)) | exact OB_f | exact DEC.mk (by decide) | exact ZM | exact ZT | exact ZK | (with_reducible first | apply gNK | apply ZaH | apply Zal | apply Zaj | apply Zai | apply Zam | apply CK_t | apply CK_f | apply ZaQ | apply Zar | apply ZaF | apply Zau | apply Zah | apply Zag | apply Zak | apply Zav | apply ZaA | apply Zax | apply Zaz | apply Zat | apply Zas | apply ZaR | apply ZaG | apply ZaE | apply ZaP) | apply Zaq Zac | apply Zao Zac rfl | (apply ZaD; exact RF.mk rfl) | exact EQ.mk rfl | exact gSel.cnil _ | apply gSel.ccons | apply gCG.cagg))
 (all_goals (first | (((clear hq1 hq2 hq3 hq4; first | (exfalso; omega) | (clear hq5 hq6; (repeat (first | apply Zbd | apply Zcn | apply ZbY | apply ZaS)); all_goals (refine EQ.mk ?_; first | rfl | (simp_all [wrdD, ZsX, Zd4, ZdF, Zly]; done))))); done)))
def Zgt : Nat → List Nat
 | 0 => [0, 1]
 | 1 => [0, 1, 10]
 | 2 => [4]
 | 3 => [0, 1, 5]
 | 4 => [0, 1, 5, 14]
 | 5 => [0, 1, 5]
 | 6 => [0, 1, 5, 25]
 | 7 => [4]
 | 8 => [4]
 | _ => []
theorem ZcC (args : Array Value) (w : World) : (callFunc 7 args).run Try.prog w = .ok (.enter 7 args) w := Zab Try.func7 (by decide) rfl args w
set_option maxHeartbeats 1000000 in
theorem ZiN (xs ys : List Int) : Con Try.prog 7 [.ints xs, .ints ys] (.bool (ZlL xs ys)) := by
 refine Con.fit ZcC fun hfit => ?_
 have hb_xs : xs.length ≤ 9223372036854775807 := GFits.ints (show GFits (.ints xs) from hfit 0 (ZL rfl))
 have hb_ys : ys.length ≤ 9223372036854775807 := GFits.ints (show GFits (.ints ys) from hfit 1 (ZL rfl))
 clear hfit
 refine gCon Zgt Zac (rs := [.tmp 4]) (sl := [(0, .g (.ints xs)), (1, .g (.ints ys))]) Try.func7 rfl Try.ntmps7 rfl ZcC rfl (by repeat constructor) ?_
 (repeat' (first | ((with_reducible apply gLB.cagg); (. exact RF.mk ⟨rfl, rfl, rfl⟩)) | ((with_reducible apply gLB.cone); (. exact RF.mk ⟨rfl, rfl⟩)) | ((with_reducible apply gLI.cagg); (. exact RF.mk ⟨rfl, rfl, rfl⟩)) | ((with_reducible apply gLI.cone); (. exact RF.mk ⟨rfl, rfl⟩)) | ((with_reducible apply gAF.cbuildA); (. exact RF.mk rfl); (. exact RF.mk ⟨rfl, rfl, rfl, rfl⟩)) | (with_reducible constructor) | exact Z4 | exact ZN | exact ZI | exact ZS | exact ZF | exact ZG | exact ZC | exact ZP | exact ZQ | (with_reducible apply Zay) | (apply ZaB) | (with_reducible apply Zaf) | exact ZU | (with_reducible apply ZaC) | (apply Zaw) | (with_reducible intro hc; (try simp only [HCs] at hc)) | exact OB_f | exact DEC.mk (by decide) | exact ZM | exact ZT | exact ZK | (with_reducible first | apply gNK | apply ZaH | apply Zal | apply Zaj | apply Zai | apply Zam | apply CK_t | apply CK_f | apply ZaQ | apply Zar | apply ZaF | apply Zau | apply Zah | apply Zag | apply Zak | apply Zav | apply ZaA | apply Zax | apply Zaz | apply Zat | apply Zas | apply ZaR | apply ZaG | apply ZaE | apply ZaP) | apply Zaq Zac | apply Zao Zac rfl | (apply ZaD; exact RF.mk rfl) | exact EQ.mk rfl | (refine ZaN (id := 0) (ι := Nat) (fun i => ⟨[(0, .g (.ints xs)), (1, .g (.ints ys)), (5, .g (.i i))], []⟩) (fun i => (i ≤ xs.length) ∧ (∀ z, z < i → (fun i => nth xs i == nth ys i) z = true)) (fun i => xs.length - i) (0) ?_ ?_ ?_; (. (apply gLX0 <;> (repeat' (first | (with_reducible constructor) | exact Z5 | exact RF.mk (by decide) | (with_reducible apply Zan) | exact ZE)))); (. (exact ⟨by omega, ZbJ⟩)); (rintro i ⟨h1, h2⟩; (show TX _ _ _ _ _ [(0, .g (.ints xs)), (1, .g (.ints ys)), (5, .g (.i i))] [] _))) | exact gSel.cnil _ | apply gSel.ccons | apply gCG.cagg))
 (all_goals (first | (refine Zbf (i + 1) ?_ ?_ ?_; (· (apply gLX0 <;> (repeat' (first | (with_reducible constructor) | exact Z5 | exact RF.mk (by decide) | (with_reducible apply Zan) | exact ZE)))); (· ((refine ⟨by omega, ZbL h2 ?_⟩; ((try simp only [BOa] at *); (first | omega | assumption | grind))))); (· exact ZW)) | (((refine ZaY ?_; unfold ZlL; first | (rw [Zba (fun j hj => h2 j (by omega))]; simp; omega) | (rw [Za8 i (by omega) (by first | (simp_all; done) | fail)]; simp; done) | (simp; omega) | (simp_all; done))); done)))
end Go.Proofs.Ytnieejghoaccmaa

