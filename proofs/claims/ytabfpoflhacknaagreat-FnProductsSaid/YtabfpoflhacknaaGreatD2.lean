/- Draws: the dice of the laws. No conditions but those that each theorem names. -/
import Derived.Test.YtabfpoflhacknaaGreatTab
import Derived.Test.YtabfpoflhacknaaGreatKG
import Derived.Test.YtabfpoflhacknaaGreatDD
import Derived.Test.YtabfpoflhacknaaGreatD0
import Derived.Test.YtabfpoflhacknaaGreatChecked
set_option linter.unusedSimpArgs false
set_option linter.unusedVariables false
namespace Go.Proofs.YtabfpoflhacknaaGreat
open Go.RowKit
open Shp
theorem QD22 {p : Prop} (h : p := by ((first | exact EQ.mk rfl | exact EQ.mk (by first | (simp; done) | fail) | exact Zau (EQ.mk rfl) | (have e := h2; rw [show k.toNat = 0 by omega] at e; simp only [lstD] at e; rw [← e]; first | exact EQ.mk rfl | exact Zau (EQ.mk rfl))); done)) : p := h
theorem QD21 {p : Prop} (h : p := by ((first | exact EQ.mk rfl | exact EQ.mk (by first | (simp; done) | fail) | exact Zau (EQ.mk rfl)); done)) : p := h
theorem QD20 {p : Prop} (h : p := by first | exact ZO | ((have e := Zct (bs := bs) (show (0 : Int) < 4 by omega) t; omega))) : p := h
def Zl7 : Nat → List Nat
 | 0 => [0, 1]
 | 1 => [0, 5]
 | 2 => [0, 5, 6]
 | 3 => [0, 5, 6, 19]
 | 4 => [0, 5, 6]
 | 5 => [0, 5, 6]
 | 6 => [4]
 | _ => []
theorem Zjx (args : Array Value) (w : World) : (callFunc 9 args).run Tryz.prog w = .ok (.enter 9 args) w := Zab Tryz.func9 (by decide) rfl args w
set_option maxHeartbeats 1000000 in
theorem Zqa (v : Value) (bs : List Int) (k : Int) (hl : NU (bs.length ≤ 4096)) : NewC Tryz.prog 9 [.ex v 1 (bs.map (GV.int .u8)), .int .u64 k] [.ex v 1 (bs.map (GV.int .u8)), .int .i64 (((Zb0 bs k)).1 : Int), .int .u64 ((Zb0 bs k)).2] := by
 have hl := hl.e
 refine gNew Zl7 Zad (rs := [.tmp 4]) (sl := [(0, .g (.ex v 1 (bs.map (GV.int .u8)))), (1, .g (.int .u64 k))]) Tryz.func9 rfl Tryz.ntmps9 rfl Zjx rfl rfl (by first | (simp [GV.atom]; done) | fail) (by repeat constructor) ?_
 (repeat' (first | ((with_reducible apply gBN.cadd); exact NU.mk (by omega)) | (with_reducible first | apply gBN.cwadd | apply gBN.cwmul) | ((with_reducible apply gCV.cwide); (. exact RF.mk ⟨rfl, rfl⟩); (. exact RF.mk ⟨rfl, rfl⟩)) | (with_reducible apply ZsD) | ((with_reducible apply gLB.cone); (. exact RF.mk ⟨rfl, rfl⟩)) | ((with_reducible apply gLI.cone); (. exact RF.mk ⟨rfl, rfl⟩)) | (with_reducible constructor) | exact Z4 | exact ZN | exact ZS | exact ZF | (with_reducible intro hc; (try simp only [HCs] at hc)) | exact OB_f | exact ZK | (with_reducible first | apply gNK | apply Zam | apply Zaf | apply Zaq | apply Zai | apply ZaR | apply Zar | apply Zas | apply Zay | apply Zap | apply Zaw | apply Zax) | apply Zah Zad | apply ZaQ Zad rfl | (apply ZaF; exact RF.mk rfl) | (refine Zak (id := 0) (ι := Nat × Int) (fun ⟨i, h⟩ => ⟨[(0, .g (.ex v 1 (bs.map (GV.int .u8)))), (5, .ptr 0 0), (6, .g (.i i))], [(0, .box [.g (.ex v 1 (bs.map (GV.int .u8))), .g (.int .i64 0), .g (.int .u64 h)])]⟩) (fun ⟨i, h⟩ => (i ≤ bs.length) ∧ (ZnG (bs.drop i) h = ZnG bs (IntKind.wrap .u64 (IntKind.wrap .u64 (k * 7919) + IntKind.wrap .u64 bs.length)))) (fun ⟨i, h⟩ => bs.length - i) (0, IntKind.wrap .u64 (IntKind.wrap .u64 (k * 7919) + IntKind.wrap .u64 bs.length)) ?_ ?_ ?_; (. (apply gLX1 <;> (repeat' (first | (with_reducible constructor) | exact Z5 | exact RF.mk (by decide) | (with_reducible apply Zae) | exact ZE)))); (. (exact ⟨by omega, rfl⟩)); (rintro ⟨i, h⟩ ⟨h1, h2⟩; (show TX _ _ _ _ _ [(0, .g (.ex v 1 (bs.map (GV.int .u8)))), (5, .ptr 0 0), (6, .g (.i i))] [(0, .box [.g (.ex v 1 (bs.map (GV.int .u8))), .g (.int .i64 0), .g (.int .u64 h)])] _))) | apply gSel.ccons))
 (all_goals (first | (refine ZaJ (i + 1, IntKind.wrap .u64 (IntKind.wrap .u64 (IntKind.wrap .u64 (h * 1099511628211) + IntKind.wrap .u64 (nth bs i)) + 3)) ?_ ?_ ?_; (· (apply gLX1 <;> (repeat' (first | (with_reducible constructor) | exact Z5 | exact RF.mk (by decide) | (with_reducible apply Zae) | exact ZE)))); (· (exact ⟨by omega, by rw [← h2]; exact (Zpu (by omega)).symm⟩)); (· exact ZW)) | (((refine EQ.mk ?_; rw [Zrm (by omega)] at h2; unfold Zb0; rw [← h2]; rfl)); done)))
def Zlw : Nat → List Nat
 | 0 => [0, 1]
 | 1 => [0, 1]
 | 2 => [0, 1, 5]
 | 3 => [0, 1, 5, 31]
 | 4 => [0, 1, 5]
 | 5 => [0, 1, 5]
 | 6 => [0, 4]
 | _ => []
theorem ZhW (args : Array Value) (w : World) : (callFunc 29 args).run Tryz.prog w = .ok (.enter 29 args) w := Zab Tryz.func29 (by decide) rfl args w
set_option maxHeartbeats 1000000 in
theorem Zft (v : Value) (bs : List Int) (s : Nat × Int) (n : Int) (hl : NU (bs.length ≤ 4096)) (hb : HY (bytesB bs)) (hn : NU (0 < n ∧ n ≤ 9223372036854775807)) : BoxC Tryz.prog 29 [.ex v 1 (bs.map (GV.int .u8)), .int .i64 ((s).1 : Int), .int .u64 (s).2] [.i n] (.i (ZdY bs n s)) [.ex v 1 (bs.map (GV.int .u8)), .int .i64 (((dieS bs s)).1 : Int), .int .u64 ((dieS bs s)).2] := by
 have hl := hl.e
 have hb := hb.e
 have hn := hn.e
 refine gCur Zlw Zad (rs := [.tmp 4]) (sl := [(1, .g (.i n))]) (B := [.g (.ex v 1 (bs.map (GV.int .u8))), .g (.int .i64 ((s).1 : Int)), .g (.int .u64 (s).2)]) Tryz.func29 rfl Tryz.ntmps29 rfl ZhW rfl rfl rfl rfl (by first | (simp [GV.atom]; done) | fail) rfl (by repeat constructor) (by repeat constructor) ?_
 (repeat' (first | ((with_reducible apply gBN.cadd); exact NU.mk (by omega)) | (with_reducible first | apply gBN.cwadd | apply gBN.cwmul) | ((with_reducible apply gCV.cwide); (. exact RF.mk ⟨rfl, rfl⟩); (. exact RF.mk ⟨rfl, rfl⟩)) | (with_reducible apply ZmR) | ((with_reducible apply gLB.cone); (. exact RF.mk ⟨rfl, rfl⟩)) | ((with_reducible apply gLI.cone); (. exact RF.mk ⟨rfl, rfl⟩)) | (with_reducible constructor) | exact Z3 | exact NU.mk (by first | exact ZO | ((have q := ZuL hb s; unfold rawX dieX dieH at q; (first | rw [if_pos (by omega)] at q | rw [if_neg (by omega)] at q); refine ⟨q, by omega⟩))) | exact ZS | exact ZF | (with_reducible intro hc; (try simp only [HCs] at hc)) | exact OB_f | exact ZK | (with_reducible first | apply gNK | apply Zam | apply Zaf | apply Zai | apply ZaR | apply Zar | apply Zas | apply Zav) | apply Zah Zad | apply ZaQ Zad rfl | apply gSel.ccons))
 (all_goals (first | (((refine EQ.mk ?_; (try unfold ZdY); (try unfold dieS); (try unfold rawX); (try unfold dieX); (try unfold dieH); (repeat (first | rw [if_pos (by first | omega | assumption)] | rw [if_neg (by first | omega | assumption)] | simp only [if_pos (show s.1 < bs.length by omega)] | simp only [if_neg (show ¬ s.1 < bs.length by omega)])); all_goals first | rfl | (simp; done))); done)))
def Zk2 : Nat → List Nat
 | 0 => [0, 1]
 | 1 => [0, 1, 5]
 | 2 => [0, 1, 5, 6]
 | 3 => [0, 1, 5, 6, 10]
 | 4 => [0, 1, 5, 6]
 | 5 => [0, 1, 5, 6, 15]
 | 6 => [0, 1, 5, 6]
 | 7 => [0, 4]
 | _ => []
theorem Zia (args : Array Value) (w : World) : (callFunc 75 args).run Tryz.prog w = .ok (.enter 75 args) w := Zab Tryz.func75 (by decide) rfl args w
set_option maxHeartbeats 1000000 in
theorem ZoV (v : Value) (bs : List Int) (s : Nat × Int) (n : Int) (hl : NU (bs.length ≤ 4096)) (hb : HY (bytesB bs)) (hn : NU (0 ≤ n ∧ n ≤ 1000)) : BoxC Tryz.prog 75 [.ex v 1 (bs.map (GV.int .u8)), .int .i64 ((s).1 : Int), .int .u64 (s).2] [.i n] (.ints (setD bs n.toNat 0 [] s).1) [.ex v 1 (bs.map (GV.int .u8)), .int .i64 (((setD bs n.toNat 0 [] s).2).1 : Int), .int .u64 ((setD bs n.toNat 0 [] s).2).2] := by
 have hl := hl.e
 have hb := hb.e
 have hn := hn.e
 refine gCur Zk2 Zad (rs := [.tmp 4]) (sl := [(1, .g (.i n))]) (B := [.g (.ex v 1 (bs.map (GV.int .u8))), .g (.int .i64 ((s).1 : Int)), .g (.int .u64 (s).2)]) Tryz.func75 rfl Tryz.ntmps75 rfl Zia rfl rfl rfl rfl (by first | (simp [GV.atom]; done) | fail) rfl (by repeat constructor) (by repeat constructor) ?_
 (repeat' (first | ((with_reducible apply gAF.ccur (f := 29))) | ((with_reducible apply ZmN); first | apply Zft) | (with_reducible apply ZmR) | (with_reducible constructor) | exact Z2 | exact ZN | exact ZS | exact ZC | (with_reducible intro hc; (try simp only [HCs] at hc)) | exact OB_f | (with_reducible first | apply gNK | apply Zam | apply Zaf | apply Zaq | apply Zai | apply ZaR | apply Zar | apply Zas | apply Zay | apply Zap | apply Zaw | apply Zax | apply Zav) | apply Zah Zad | (apply ZaF; exact RF.mk rfl) | (refine Zak (id := 0) (ι := Nat × (List Int) × (Nat × Int)) (fun ⟨i, a, t⟩ => ⟨[(0, .ptr 0 0), (1, .g (.i n)), (5, .own 1 0 a.length), (6, .g (.i i))], [(0, .box [.g (.ex v 1 (bs.map (GV.int .u8))), .g (.int .i64 ((t).1 : Int)), .g (.int .u64 (t).2)]), (1, .arr 1 true (a.map GV.i))]⟩) (fun ⟨i, a, t⟩ => (i ≤ n.toNat) ∧ (setD bs (n.toNat - i) i a t = setD bs n.toNat 0 [] s) ∧ (a.length ≤ i)) (fun ⟨i, a, t⟩ => n.toNat - i) (0, [], s) ?_ ?_ ?_; (. (apply gLX2 <;> (repeat' (first | (with_reducible constructor) | exact Z5 | exact RF.mk (by decide) | (with_reducible apply Zae) | exact ZE)); (all_goals exact QD21))); (. (exact ⟨by omega, rfl, by simp⟩)); (rintro ⟨i, a, t⟩ ⟨h1, h2, h3⟩; (show TX _ _ _ _ _ [(0, .ptr 0 0), (1, .g (.i n)), (5, .own 1 0 a.length), (6, .g (.i i))] [(0, .box [.g (.ex v 1 (bs.map (GV.int .u8))), .g (.int .i64 ((t).1 : Int)), .g (.int .u64 (t).2)]), (1, .arr 1 true (a.map GV.i))] _))) | apply gSel.ccons))
 (all_goals (first | (refine ZaJ (i + 1, a, dieS bs t) ?_ ?_ ?_; (· (apply gLX2 <;> (repeat' (first | (with_reducible constructor) | exact Z5 | exact RF.mk (by decide) | (with_reducible apply Zae) | exact ZE)); (all_goals exact QD21))); (· ((refine ⟨by omega, ?_, by first | omega | (simp; omega)⟩; rw [← h2, show n.toNat - i = (n.toNat - (i + 1)) + 1 by omega]; simp only [setD]; first | (rw [if_pos (by assumption)]; rfl) | (rw [if_neg (by assumption)]; rfl)))); (· exact ZW)) | (refine ZaJ (i + 1, a ++ [(i : Int)], dieS bs t) ?_ ?_ ?_; (· (apply gLX2 <;> (repeat' (first | (with_reducible constructor) | exact Z5 | exact RF.mk (by decide) | (with_reducible apply Zae) | exact ZE)); (all_goals exact QD21))); (· ((refine ⟨by omega, ?_, by first | omega | (simp; omega)⟩; rw [← h2, show n.toNat - i = (n.toNat - (i + 1)) + 1 by omega]; simp only [setD]; first | (rw [if_pos (by assumption)]; rfl) | (rw [if_neg (by assumption)]; rfl)))); (· exact ZW)) | (((rw [show n.toNat - i = 0 by omega] at h2; simp only [setD] at h2; rw [← h2]; first | exact EQ.mk rfl | exact Zby (Zau (EQ.mk rfl)))); done)))
def Zif : Nat → List Nat
 | 0 => [0, 2]
 | 1 => [0, 2, 3]
 | 2 => [0, 2, 3, 22]
 | 3 => [0, 2, 3]
 | 4 => [0, 2]
 | _ => []
theorem Zgf (args : Array Value) (w : World) : (callFunc 40 args).run Tryz.prog w = .ok (.enter 40 args) w := Zab Tryz.func40 (by decide) rfl args w
set_option maxHeartbeats 1000000 in
theorem Zlq (v : Value) (bs : List Int) (s : Nat × Int) (hl : NU (bs.length ≤ 4096)) (hb : HY (bytesB bs)) : BoxC Tryz.prog 40 [.ex v 1 (bs.map (GV.int .u8)), .int .i64 ((s).1 : Int), .int .u64 (s).2] [] (.clause (clD bs s).1.1 (clD bs s).1.2.1 (clD bs s).1.2.2) [.ex v 1 (bs.map (GV.int .u8)), .int .i64 (((clD bs s).2).1 : Int), .int .u64 ((clD bs s).2).2] := by
 have hl := hl.e
 have hb := hb.e
 have r1 := Zct (bs := bs) (show (0 : Int) < 7 by omega) s
 refine gCur Zif Zad (rs := [.cell 2 69]) (sl := []) (B := [.g (.ex v 1 (bs.map (GV.int .u8))), .g (.int .i64 ((s).1 : Int)), .g (.int .u64 (s).2)]) Tryz.func40 rfl Tryz.ntmps40 rfl Zgf rfl rfl rfl rfl (by first | (simp [GV.atom]; done) | fail) rfl (by repeat constructor) (by repeat constructor) ?_
 (repeat' (first | ((with_reducible apply gAF.ccur (f := 29))) | ((with_reducible apply gAF.ccur (f := 75))) | ((with_reducible apply ZmN); first | apply Zft | apply ZoV) | (with_reducible apply ZmR) | ((with_reducible apply gLB.cagg); (. exact RF.mk ⟨rfl, rfl, rfl⟩)) | ((with_reducible apply gLB.cone); (. exact RF.mk ⟨rfl, rfl⟩)) | (with_reducible constructor) | exact Z4 | exact ZN | exact ZF | exact ZC | (with_reducible intro hc; (try simp only [HCs] at hc)) | exact OB_f | (with_reducible first | apply gNK | apply Zam | apply Zaf | apply Zai | apply CK_t | apply ZaR | apply Zar | apply Zas | apply Zav) | apply Zah Zad | apply gSel.ccons))
 (all_goals (first | (((unfold clD; (first | rw [if_pos (show ZdU (1 + ZdY bs 7 s) = true by unfold ZdU; simp only [Bool.or_eq_true, decide_eq_true_eq]; omega)] | rw [if_neg (show ¬ ZdU (1 + ZdY bs 7 s) = true by unfold ZdU; simp only [Bool.or_eq_true, decide_eq_true_eq]; omega)]); first | exact EQ.mk rfl | ((repeat (first | apply Zbb | apply ZbL | apply Zby | apply Zau)); all_goals exact EQ.mk rfl))); done)))
def ZjI : Nat → List Nat
 | 0 => [0, 1, 4]
 | 1 => [0, 1, 4, 5]
 | 2 => [0, 1, 4, 5, 6]
 | 3 => [0, 1, 4, 5, 6, 12]
 | 4 => [0, 1, 4, 5, 6]
 | 5 => [0, 1, 4, 5, 6]
 | 6 => [0, 1, 4, 5, 7]
 | 7 => [0, 1, 4, 5, 7, 27]
 | 8 => [0, 1, 4, 5, 7]
 | 9 => [0, 1, 4, 5, 7]
 | 10 => [0, 4]
 | _ => []
theorem Zhi (args : Array Value) (w : World) : (callFunc 10 args).run Tryz.prog w = .ok (.enter 10 args) w := Zab Tryz.func10 (by decide) rfl args w
set_option maxHeartbeats 1000000 in
theorem Znl (v : Value) (bs : List Int) (s : Nat × Int) (n : Int) (hl : NU (bs.length ≤ 4096)) (hb : HY (bytesB bs)) (hn : NU (1 ≤ n ∧ n ≤ 1000)) : BoxC Tryz.prog 10 [.ex v 1 (bs.map (GV.int .u8)), .int .i64 ((s).1 : Int), .int .u64 (s).2] [.i n] (.word (Zjt bs n s).1.1 (Zjt bs n s).1.2) [.ex v 1 (bs.map (GV.int .u8)), .int .i64 (((Zjt bs n s).2).1 : Int), .int .u64 ((Zjt bs n s).2).2] := by
 have hl := hl.e
 have hb := hb.e
 have hn := hn.e
 have r1 := Zct (bs := bs) (show (0 : Int) < 4 by omega) s
 have r2 := Zct (bs := bs) (show (0 : Int) < 4 by omega) (wrdS bs n s).2
 refine gCur ZjI Zad (rs := [.cell 4 39]) (sl := [(1, .g (.i n))]) (B := [.g (.ex v 1 (bs.map (GV.int .u8))), .g (.int .i64 ((s).1 : Int)), .g (.int .u64 (s).2)]) Tryz.func10 rfl Tryz.ntmps10 rfl Zhi rfl rfl rfl rfl (by first | (simp [GV.atom]; done) | fail) rfl (by repeat constructor) (by repeat constructor) ?_
 (repeat' (first | ((with_reducible apply gAF.ccur (f := 29))) | ((with_reducible apply ZmN); first | apply Zft) | (with_reducible apply ZmR) | ((with_reducible apply gLB.cagg); (. exact RF.mk ⟨rfl, rfl, rfl⟩)) | ((with_reducible apply gLB.cone); (. exact RF.mk ⟨rfl, rfl⟩)) | (with_reducible constructor) | exact Z4 | exact NU.mk QD20 | exact ZS | exact ZF | exact ZC | (with_reducible intro hc; (try simp only [HCs] at hc)) | exact OB_f | exact ZK | (with_reducible first | apply gNK | apply Zam | apply Zaf | apply Zaq | apply Zai | apply ZaR | apply Zar | apply Zas | apply Zay | apply Zap | apply Zaw | apply Zax | apply Zav) | apply Zah Zad | apply ZaQ Zad rfl | (apply ZaF; exact RF.mk rfl) | (refine Zak (id := 0) (ι := Int × (List Int) × (Nat × Int)) (fun ⟨k, a, t⟩ => ⟨[(0, .ptr 0 0), (1, .g (.i n)), (4, .ptr 1 0), (5, .ptr 2 0), (6, .g (.i k))], [(0, .box [.g (.ex v 1 (bs.map (GV.int .u8))), .g (.int .i64 ((t).1 : Int)), .g (.int .u64 (t).2)]), (1, .box [.nils 1, .nils 1]), (2, .box [.own 3 0 a.length, .nils 1]), (3, .arr 1 true (a.map GV.i))]⟩) (fun ⟨k, a, t⟩ => (0 ≤ k ∧ k + a.length ≤ 4) ∧ (lstD bs n k.toNat a t = wrdS bs n s)) (fun ⟨k, a, t⟩ => k.toNat) (ZdY bs 4 s, [], dieS bs s) ?_ ?_ ?_; (. (apply Zez (t := 5) (c := 0) (k := 900000); (. (repeat' (first | (with_reducible constructor) | exact Z4))); (. (repeat' (first | (with_reducible constructor) | exact Z4))); (. exact RF.mk rfl); (. (repeat' (first | (with_reducible constructor) | exact Z4))); (. (apply RF.mk; dsimp only [List.set])); apply gLX4 <;> (repeat' (first | (with_reducible constructor) | exact Z5 | exact RF.mk (by decide) | (with_reducible apply Zae) | exact EQ.mk QD20)); (all_goals exact QD21))); (. (exact ⟨by simp; omega, rfl⟩)); (rintro ⟨k, a, t⟩ ⟨h1, h2⟩; (show TX _ _ _ _ _ [(0, .ptr 0 0), (1, .g (.i n)), (4, .ptr 1 0), (5, .ptr 2 0), (6, .g (.i k))] [(0, .box [.g (.ex v 1 (bs.map (GV.int .u8))), .g (.int .i64 ((t).1 : Int)), .g (.int .u64 (t).2)]), (1, .box [.nils 1, .nils 1]), (2, .box [.own 3 0 a.length, .nils 1]), (3, .arr 1 true (a.map GV.i))] _))) | (refine Zak (id := 2) (ι := Int × (List Int) × (Nat × Int)) (fun ⟨k, a, t⟩ => ⟨[(0, .ptr 0 0), (1, .g (.i n)), (4, .ptr 1 0), (5, .ptr 2 0), (7, .g (.i k))], [(0, .box [.g (.ex v 1 (bs.map (GV.int .u8))), .g (.int .i64 ((t).1 : Int)), .g (.int .u64 (t).2)]), (1, .box [.nils 1, .nils 1]), (2, .box [.own 3 0 (wrdS bs n s).1.length, .own 4 0 a.length]), (3, .arr 1 true ((wrdS bs n s).1.map GV.i)), (4, .arr 1 true (a.map GV.i))]⟩) (fun ⟨k, a, t⟩ => (0 ≤ k ∧ k + a.length ≤ 5) ∧ (lstD bs n k.toNat a t = wrdL bs n (wrdS bs n s).2)) (fun ⟨k, a, t⟩ => k.toNat) (1 + ZdY bs 4 (wrdS bs n s).2, [], dieS bs (wrdS bs n s).2) ?_ ?_ ?_; (. (apply Zez (t := 5) (c := 1) (k := 900200); (. (repeat' (first | (with_reducible constructor) | exact Z4))); (. (repeat' (first | (with_reducible constructor) | exact Z4))); (. exact RF.mk rfl); (. (repeat' (first | (with_reducible constructor) | exact Z4))); (. (apply RF.mk; dsimp only [List.set])); apply gLX5 <;> (repeat' (first | (with_reducible constructor) | exact Z5 | exact RF.mk (by decide) | (with_reducible apply Zae) | exact EQ.mk QD20)); (all_goals exact QD22))); (. (exact ⟨by simp; omega, rfl⟩)); (rintro ⟨k, a, t⟩ ⟨h1, h2⟩; (show TX _ _ _ _ _ [(0, .ptr 0 0), (1, .g (.i n)), (4, .ptr 1 0), (5, .ptr 2 0), (7, .g (.i k))] [(0, .box [.g (.ex v 1 (bs.map (GV.int .u8))), .g (.int .i64 ((t).1 : Int)), .g (.int .u64 (t).2)]), (1, .box [.nils 1, .nils 1]), (2, .box [.own 3 0 (wrdS bs n s).1.length, .own 4 0 a.length]), (3, .arr 1 true ((wrdS bs n s).1.map GV.i)), (4, .arr 1 true (a.map GV.i))] _))) | apply gSel.ccons))
 (all_goals (first | (refine ZaJ (k - 1, a ++ [ZdY bs n t], dieS bs t) ?_ ?_ ?_; (· (apply gLX4 <;> (repeat' (first | (with_reducible constructor) | exact Z5 | exact RF.mk (by decide) | (with_reducible apply Zae) | exact EQ.mk QD20)); (all_goals exact QD21))); (· ((refine ⟨by simp; omega, ?_⟩; rw [← h2, show k.toNat = (k - 1).toNat + 1 by omega]; rfl))); (· exact ZW)) | (refine ZaJ (k - 1, a ++ [ZdY bs n t], dieS bs t) ?_ ?_ ?_; (· (apply gLX5 <;> (repeat' (first | (with_reducible constructor) | exact Z5 | exact RF.mk (by decide) | (with_reducible apply Zae) | exact EQ.mk QD20)); (all_goals exact QD22))); (· ((refine ⟨by simp; omega, ?_⟩; rw [← h2, show k.toNat = (k - 1).toNat + 1 by omega]; rfl))); (· exact ZW)) | (((unfold Zjt; rw [show k.toNat = 0 by omega] at h2; simp only [lstD] at h2; rw [← h2]; first | exact EQ.mk rfl | ((repeat (first | apply Zbb | apply ZbL | apply Zby | apply Zau)); all_goals exact EQ.mk rfl))); done)))
end Go.Proofs.YtabfpoflhacknaaGreat

