/- Draws: the dice of the laws. No conditions but those that each theorem names. -/
import Derived.Test.YtnieejghoaccmaaGreatTab
import Derived.Test.YtnieejghoaccmaaGreatKG
import Derived.Test.YtnieejghoaccmaaGreatM2
import Derived.Test.YtnieejghoaccmaaGreatD0
import Derived.Test.YtnieejghoaccmaaGreatChecked
set_option linter.unusedSimpArgs false
set_option linter.unusedVariables false
namespace Go.Proofs.YtnieejghoaccmaaGreat
open Go.RowKit
open Shp
theorem QD22 {p : Prop} (h : p := by ((first | exact EQ.mk rfl | exact EQ.mk (by first | (simp; done) | fail) | exact Zax (EQ.mk rfl)); done)) : p := h
theorem QD21 {p : Prop} (h : p := by ((first | exact EQ.mk rfl | exact EQ.mk (by first | (simp; done) | fail) | exact Zax (EQ.mk rfl) | (have e := h2; rw [show k.toNat = 0 by omega] at e; simp only [lstD] at e; rw [← e]; first | exact EQ.mk rfl | exact Zax (EQ.mk rfl))); done)) : p := h
theorem QD20 {p : Prop} (h : p := by first | exact ZO | ((have e := ZeO (bs := bs) (show (0 : Int) < 4 by omega) t; omega))) : p := h
def Zlo : Nat → List Nat
 | 0 => [0, 1]
 | 1 => [0, 5]
 | 2 => [0, 5, 6]
 | 3 => [0, 5, 6, 19]
 | 4 => [0, 5, 6]
 | 5 => [0, 5, 6]
 | 6 => [4]
 | _ => []
theorem Ziu (args : Array Value) (w : World) : (callFunc 8 args).run Tryz.prog w = .ok (.enter 8 args) w := Zab Tryz.func8 (by decide) rfl args w
set_option maxHeartbeats 1000000 in
theorem ZoZ (v : Value) (bs : List Int) (k : Int) (hl : NU (bs.length ≤ 4096)) : NewC Tryz.prog 8 [.ex v 1 (bs.map (GV.int .u8)), .int .u64 k] [.ex v 1 (bs.map (GV.int .u8)), .int .i64 (((Zi8 bs k)).1 : Int), .int .u64 ((Zi8 bs k)).2] := by
 have hl := hl.e
 refine gNew Zlo Zac (rs := [.tmp 4]) (sl := [(0, .g (.ex v 1 (bs.map (GV.int .u8)))), (1, .g (.int .u64 k))]) Tryz.func8 rfl Tryz.ntmps8 rfl Ziu rfl rfl (by first | (simp [GV.atom]; done) | fail) (by repeat constructor) ?_
 (repeat' (first | ((with_reducible apply gBN.cadd); exact NU.mk (by omega)) | (with_reducible first | apply gBN.cwadd | apply gBN.cwmul) | ((with_reducible apply gCV.cwide); (. exact RF.mk ⟨rfl, rfl⟩); (. exact RF.mk ⟨rfl, rfl⟩)) | (with_reducible apply ZnE) | ((with_reducible apply gLB.cone); (. exact RF.mk ⟨rfl, rfl⟩)) | ((with_reducible apply gLI.cone); (. exact RF.mk ⟨rfl, rfl⟩)) | (with_reducible constructor) | exact Z4 | exact ZN | exact ZS | exact ZF | (with_reducible intro hc; (try simp only [HCs] at hc)) | exact OB_f | exact ZK | (with_reducible first | apply gNK | apply Zao | apply Zaf | apply Zal | apply Zai | apply ZaQ | apply Zam | apply Zap | apply Zau | apply Zak | apply Zas | apply Zav) | apply Zah Zac | apply ZaK Zac rfl | (apply ZaD; exact RF.mk rfl) | (refine Zaq (id := 0) (ι := Nat × Int) (fun ⟨i, h⟩ => ⟨[(0, .g (.ex v 1 (bs.map (GV.int .u8)))), (5, .ptr 0 0), (6, .g (.i i))], [(0, .box [.g (.ex v 1 (bs.map (GV.int .u8))), .g (.int .i64 0), .g (.int .u64 h)])]⟩) (fun ⟨i, h⟩ => (i ≤ bs.length) ∧ (Zms (bs.drop i) h = Zms bs (IntKind.wrap .u64 (IntKind.wrap .u64 (k * 7919) + IntKind.wrap .u64 bs.length)))) (fun ⟨i, h⟩ => bs.length - i) (0, IntKind.wrap .u64 (IntKind.wrap .u64 (k * 7919) + IntKind.wrap .u64 bs.length)) ?_ ?_ ?_; (. (apply gLX1 <;> (repeat' (first | (with_reducible constructor) | exact Z5 | exact RF.mk (by decide) | (with_reducible apply Zae) | exact ZE)))); (. (exact ⟨by omega, rfl⟩)); (rintro ⟨i, h⟩ ⟨h1, h2⟩; (show TX _ _ _ _ _ [(0, .g (.ex v 1 (bs.map (GV.int .u8)))), (5, .ptr 0 0), (6, .g (.i i))] [(0, .box [.g (.ex v 1 (bs.map (GV.int .u8))), .g (.int .i64 0), .g (.int .u64 h)])] _))) | apply gSel.ccons))
 (all_goals (first | (refine ZaR (i + 1, IntKind.wrap .u64 (IntKind.wrap .u64 (IntKind.wrap .u64 (h * 1099511628211) + IntKind.wrap .u64 (nth bs i)) + 3)) ?_ ?_ ?_; (· (apply gLX1 <;> (repeat' (first | (with_reducible constructor) | exact Z5 | exact RF.mk (by decide) | (with_reducible apply Zae) | exact ZE)))); (· (exact ⟨by omega, by rw [← h2]; exact (ZoS (by omega)).symm⟩)); (· exact ZW)) | (((refine EQ.mk ?_; rw [Zpc (by omega)] at h2; unfold Zi8; rw [← h2]; rfl)); done)))
def Zlc : Nat → List Nat
 | 0 => [0, 1]
 | 1 => [0, 1]
 | 2 => [0, 1, 5]
 | 3 => [0, 1, 5, 31]
 | 4 => [0, 1, 5]
 | 5 => [0, 1, 5]
 | 6 => [0, 4]
 | _ => []
theorem ZhB (args : Array Value) (w : World) : (callFunc 22 args).run Tryz.prog w = .ok (.enter 22 args) w := Zab Tryz.func22 (by decide) rfl args w
set_option maxHeartbeats 1000000 in
theorem Zoq (v : Value) (bs : List Int) (s : Nat × Int) (n : Int) (hl : NU (bs.length ≤ 4096)) (hb : HY (bytesB bs)) (hn : NU (0 < n ∧ n ≤ 9223372036854775807)) : BoxC Tryz.prog 22 [.ex v 1 (bs.map (GV.int .u8)), .int .i64 ((s).1 : Int), .int .u64 (s).2] [.i n] (.i (ZgE bs n s)) [.ex v 1 (bs.map (GV.int .u8)), .int .i64 (((dieS bs s)).1 : Int), .int .u64 ((dieS bs s)).2] := by
 have hl := hl.e
 have hb := hb.e
 have hn := hn.e
 refine gCur Zlc Zac (rs := [.tmp 4]) (sl := [(1, .g (.i n))]) (B := [.g (.ex v 1 (bs.map (GV.int .u8))), .g (.int .i64 ((s).1 : Int)), .g (.int .u64 (s).2)]) Tryz.func22 rfl Tryz.ntmps22 rfl ZhB rfl rfl rfl rfl (by first | (simp [GV.atom]; done) | fail) rfl (by repeat constructor) (by repeat constructor) ?_
 (repeat' (first | ((with_reducible apply gBN.cadd); exact NU.mk (by omega)) | (with_reducible first | apply gBN.cwadd | apply gBN.cwmul) | ((with_reducible apply gCV.cwide); (. exact RF.mk ⟨rfl, rfl⟩); (. exact RF.mk ⟨rfl, rfl⟩)) | (with_reducible apply Zda) | ((with_reducible apply gLB.cone); (. exact RF.mk ⟨rfl, rfl⟩)) | ((with_reducible apply gLI.cone); (. exact RF.mk ⟨rfl, rfl⟩)) | (with_reducible constructor) | exact Z3 | exact NU.mk (by first | exact ZO | ((have q := Ztw hb s; unfold rawX dieX dieH at q; (first | rw [if_pos (by omega)] at q | rw [if_neg (by omega)] at q); refine ⟨q, by omega⟩))) | exact ZS | exact ZF | (with_reducible intro hc; (try simp only [HCs] at hc)) | exact OB_f | exact ZK | (with_reducible first | apply gNK | apply Zao | apply Zaf | apply Zai | apply ZaQ | apply Zam | apply Zap | apply Zat) | apply Zah Zac | apply ZaK Zac rfl | apply gSel.ccons))
 (all_goals (first | (((refine EQ.mk ?_; (try unfold ZgE); (try unfold dieS); (try unfold rawX); (try unfold dieX); (try unfold dieH); (repeat (first | rw [if_pos (by first | omega | assumption)] | rw [if_neg (by first | omega | assumption)] | simp only [if_pos (show s.1 < bs.length by omega)] | simp only [if_neg (show ¬ s.1 < bs.length by omega)])); all_goals first | rfl | (simp; done))); done)))
def Zje : Nat → List Nat
 | 0 => [0, 1, 4]
 | 1 => [0, 1, 4, 5]
 | 2 => [0, 1, 4, 5, 6]
 | 3 => [0, 1, 4, 5, 6, 12]
 | 4 => [0, 1, 4, 5, 6]
 | 5 => [0, 1, 4, 5, 6]
 | 6 => [0, 1, 4, 5, 7]
 | 7 => [0, 1, 4, 5, 7, 27]
 | 8 => [0, 1, 4, 5, 7]
 | 9 => [0, 1, 4, 5, 7]
 | 10 => [0, 4]
 | _ => []
theorem ZgX (args : Array Value) (w : World) : (callFunc 9 args).run Tryz.prog w = .ok (.enter 9 args) w := Zab Tryz.func9 (by decide) rfl args w
set_option maxHeartbeats 1000000 in
theorem Zm8 (v : Value) (bs : List Int) (s : Nat × Int) (n : Int) (hl : NU (bs.length ≤ 4096)) (hb : HY (bytesB bs)) (hn : NU (1 ≤ n ∧ n ≤ 1000)) : BoxC Tryz.prog 9 [.ex v 1 (bs.map (GV.int .u8)), .int .i64 ((s).1 : Int), .int .u64 (s).2] [.i n] (.word (Zfj bs n s).1.1 (Zfj bs n s).1.2) [.ex v 1 (bs.map (GV.int .u8)), .int .i64 (((Zfj bs n s).2).1 : Int), .int .u64 ((Zfj bs n s).2).2] := by
 have hl := hl.e
 have hb := hb.e
 have hn := hn.e
 have r1 := ZeO (bs := bs) (show (0 : Int) < 4 by omega) s
 have r2 := ZeO (bs := bs) (show (0 : Int) < 4 by omega) (wrdS bs n s).2
 refine gCur Zje Zac (rs := [.cell 4 39]) (sl := [(1, .g (.i n))]) (B := [.g (.ex v 1 (bs.map (GV.int .u8))), .g (.int .i64 ((s).1 : Int)), .g (.int .u64 (s).2)]) Tryz.func9 rfl Tryz.ntmps9 rfl ZgX rfl rfl rfl rfl (by first | (simp [GV.atom]; done) | fail) rfl (by repeat constructor) (by repeat constructor) ?_
 (repeat' (first | ((with_reducible apply gAF.ccur (f := 22))) | ((with_reducible apply Zc5); first | apply Zoq) | (with_reducible apply Zda) | ((with_reducible apply gLB.cagg); (. exact RF.mk ⟨rfl, rfl, rfl⟩)) | ((with_reducible apply gLB.cone); (. exact RF.mk ⟨rfl, rfl⟩)) | (with_reducible constructor) | exact Z4 | exact NU.mk QD20 | exact ZS | exact ZF | exact ZC | (with_reducible intro hc; (try simp only [HCs] at hc)) | exact OB_f | exact ZK | (with_reducible first | apply gNK | apply Zao | apply Zaf | apply Zal | apply Zai | apply ZaQ | apply Zam | apply Zap | apply Zau | apply Zak | apply Zas | apply Zav | apply Zat) | apply Zah Zac | apply ZaK Zac rfl | (apply ZaD; exact RF.mk rfl) | (refine Zaq (id := 0) (ι := Int × (List Int) × (Nat × Int)) (fun ⟨k, a, t⟩ => ⟨[(0, .ptr 0 0), (1, .g (.i n)), (4, .ptr 1 0), (5, .ptr 2 0), (6, .g (.i k))], [(0, .box [.g (.ex v 1 (bs.map (GV.int .u8))), .g (.int .i64 ((t).1 : Int)), .g (.int .u64 (t).2)]), (1, .box [.nils 1, .nils 1]), (2, .box [.own 3 0 a.length, .nils 1]), (3, .arr 1 true (a.map GV.i))]⟩) (fun ⟨k, a, t⟩ => (0 ≤ k ∧ k + a.length ≤ 4) ∧ (lstD bs n k.toNat a t = wrdS bs n s)) (fun ⟨k, a, t⟩ => k.toNat) (ZgE bs 4 s, [], dieS bs s) ?_ ?_ ?_; (. (apply Zcn (t := 5) (c := 0) (k := 900000); (. (repeat' (first | (with_reducible constructor) | exact Z4))); (. (repeat' (first | (with_reducible constructor) | exact Z4))); (. exact RF.mk rfl); (. (repeat' (first | (with_reducible constructor) | exact Z4))); (. (apply RF.mk; dsimp only [List.set])); apply gLX4 <;> (repeat' (first | (with_reducible constructor) | exact Z5 | exact RF.mk (by decide) | (with_reducible apply Zae) | exact EQ.mk QD20)); (all_goals exact QD22))); (. (exact ⟨by simp; omega, rfl⟩)); (rintro ⟨k, a, t⟩ ⟨h1, h2⟩; (show TX _ _ _ _ _ [(0, .ptr 0 0), (1, .g (.i n)), (4, .ptr 1 0), (5, .ptr 2 0), (6, .g (.i k))] [(0, .box [.g (.ex v 1 (bs.map (GV.int .u8))), .g (.int .i64 ((t).1 : Int)), .g (.int .u64 (t).2)]), (1, .box [.nils 1, .nils 1]), (2, .box [.own 3 0 a.length, .nils 1]), (3, .arr 1 true (a.map GV.i))] _))) | (refine Zaq (id := 2) (ι := Int × (List Int) × (Nat × Int)) (fun ⟨k, a, t⟩ => ⟨[(0, .ptr 0 0), (1, .g (.i n)), (4, .ptr 1 0), (5, .ptr 2 0), (7, .g (.i k))], [(0, .box [.g (.ex v 1 (bs.map (GV.int .u8))), .g (.int .i64 ((t).1 : Int)), .g (.int .u64 (t).2)]), (1, .box [.nils 1, .nils 1]), (2, .box [.own 3 0 (wrdS bs n s).1.length, .own 4 0 a.length]), (3, .arr 1 true ((wrdS bs n s).1.map GV.i)), (4, .arr 1 true (a.map GV.i))]⟩) (fun ⟨k, a, t⟩ => (0 ≤ k ∧ k + a.length ≤ 5) ∧ (lstD bs n k.toNat a t = wrdL bs n (wrdS bs n s).2)) (fun ⟨k, a, t⟩ => k.toNat) (1 + ZgE bs 4 (wrdS bs n s).2, [], dieS bs (wrdS bs n s).2) ?_ ?_ ?_; (. (apply Zcn (t := 5) (c := 1) (k := 900200); (. (repeat' (first | (with_reducible constructor) | exact Z4))); (. (repeat' (first | (with_reducible constructor) | exact Z4))); (. exact RF.mk rfl); (. (repeat' (first | (with_reducible constructor) | exact Z4))); (. (apply RF.mk; dsimp only [List.set])); apply gLX5 <;> (repeat' (first | (with_reducible constructor) | exact Z5 | exact RF.mk (by decide) | (with_reducible apply Zae) | exact EQ.mk QD20)); (all_goals exact QD21))); (. (exact ⟨by simp; omega, rfl⟩)); (rintro ⟨k, a, t⟩ ⟨h1, h2⟩; (show TX _ _ _ _ _ [(0, .ptr 0 0), (1, .g (.i n)), (4, .ptr 1 0), (5, .ptr 2 0), (7, .g (.i k))] [(0, .box [.g (.ex v 1 (bs.map (GV.int .u8))), .g (.int .i64 ((t).1 : Int)), .g (.int .u64 (t).2)]), (1, .box [.nils 1, .nils 1]), (2, .box [.own 3 0 (wrdS bs n s).1.length, .own 4 0 a.length]), (3, .arr 1 true ((wrdS bs n s).1.map GV.i)), (4, .arr 1 true (a.map GV.i))] _))) | apply gSel.ccons))
 (all_goals (first | (refine ZaR (k - 1, a ++ [ZgE bs n t], dieS bs t) ?_ ?_ ?_; (· (apply gLX4 <;> (repeat' (first | (with_reducible constructor) | exact Z5 | exact RF.mk (by decide) | (with_reducible apply Zae) | exact EQ.mk QD20)); (all_goals exact QD22))); (· ((refine ⟨by simp; omega, ?_⟩; rw [← h2, show k.toNat = (k - 1).toNat + 1 by omega]; rfl))); (· exact ZW)) | (refine ZaR (k - 1, a ++ [ZgE bs n t], dieS bs t) ?_ ?_ ?_; (· (apply gLX5 <;> (repeat' (first | (with_reducible constructor) | exact Z5 | exact RF.mk (by decide) | (with_reducible apply Zae) | exact EQ.mk QD20)); (all_goals exact QD21))); (· ((refine ⟨by simp; omega, ?_⟩; rw [← h2, show k.toNat = (k - 1).toNat + 1 by omega]; rfl))); (· exact ZW)) | (((unfold Zfj; rw [show k.toNat = 0 by omega] at h2; simp only [lstD] at h2; rw [← h2]; first | exact EQ.mk rfl | ((repeat (first | apply Za6 | apply ZcF | apply ZbV | apply Zax)); all_goals exact EQ.mk rfl))); done)))
end Go.Proofs.YtnieejghoaccmaaGreat

