/- Contracts: products of clauses. No conditions but those that each theorem names. -/
import Derived.Test.YtnieejghoaccmaaGreatPO
import Derived.Test.YtnieejghoaccmaaGreatTab
import Derived.Test.YtnieejghoaccmaaGreatKG
import Derived.Test.YtnieejghoaccmaaGreatM6
import Derived.Test.YtnieejghoaccmaaGreatChecked
import Derived.Test.YtnieejghoaccmaaGreatM8
import Derived.Test.YtnieejghoaccmaaGreatM2
namespace Go.Proofs.YtnieejghoaccmaaGreat
open Go.RowKit
open Shp
section
variable {i o : Int} {cs : List (Int × List Int × List Int)} {j : Nat} {x : List (List Int) × List (List Int × List Int)}
def Zhz (i o : Int) (cs : List (Int × List Int × List Int)) (j : Nat) (x : List (List Int) × List (List Int × List Int)) : (List (List Int) × List (List Int × List Int)) × Bool :=
 ZaX i o x.1 x.2 (monN (nth cs j).1 (nth cs j).2.1 (nth cs j).2.2 (Zaa i o).toNat) [monP (nth cs j).1]
theorem Zx2 {k : Int} {a b : List Int} (hs : sigB i o = true) (h : ZdE (Zaa i o) k a b = true) : monB i o k a b = (monN k a b (Zaa i o).toNat, [monP k]) := by
 unfold monB; rw [if_pos (by rw [hs, h]; rfl)]
theorem ZnR (hc : ZaV i o cs = true) (hj : j < cs.length) : detB i o (monN (nth cs j).1 (nth cs j).2.1 (nth cs j).2.2 (Zaa i o).toNat) [monP (nth cs j).1] = true := by
 obtain ⟨h1, _, h3⟩ := ZeK hc
 exact ZpC h1 (ZfQ (h3 j hj))
theorem Zkf (hc : ZaV i o cs = true) (hj : j < cs.length) (hx : detB i o x.1 x.2 = true) : Zhz i o cs j x = Zbs x.1 x.2 (monN (nth cs j).1 (nth cs j).2.1 (nth cs j).2.2 (Zaa i o).toNat) [monP (nth cs j).1] := Zgi hx (ZnR hc hj)
theorem Zss (hc : ZaV i o cs = true) (hj : j < cs.length) (hx : detB i o x.1 x.2 = true) (h : (Zhz i o cs j x).2 = true) : detB i o (Zhz i o cs j x).1.1 (Zhz i o cs j x).1.2 = true := by
 rw [Zkf hc hj hx] at h ⊢
 exact Zfe hx (ZnR hc hj) h
theorem Zst (hc : ZaV i o cs = true) (hj : j < cs.length) (hx : detB i o x.1 x.2 = true) (h : (Zhz i o cs j x).2 = true) {r : (List (List Int) × List (List Int × List Int)) × Bool} (hr : Zex (Zaa i o).toNat (cs.drop j) x.1 x.2 = r) : Zex (Zaa i o).toNat (cs.drop (j + 1)) (Zhz i o cs j x).1.1 (Zhz i o cs j x).1.2 = r := by
 rw [← hr, Zmp hj, ← Zkf hc hj hx, if_pos h]
theorem Zus (hc : ZaV i o cs = true) (hj : j < cs.length) (hx : detB i o x.1 x.2 = true) (h : (Zhz i o cs j x).2 = false) (hr : Zex (Zaa i o).toNat (cs.drop j) x.1 x.2 = Zex (Zaa i o).toNat cs [List.replicate (Zaa i o).toNat 0] []) : Zea i o cs = (([], []), false) := by
 unfold Zea
 rw [if_pos hc, ← hr, Zmp hj, ← Zkf hc hj hx, if_neg (by rw [h]; simp)]
theorem Zru (hc : ZaV i o cs = true) (hj : cs.length ≤ j) (hr : Zex (Zaa i o).toNat (cs.drop j) x.1 x.2 = Zex (Zaa i o).toNat cs [List.replicate (Zaa i o).toNat 0] []) : Zea i o cs = ((x.1, x.2), true) := by
 unfold Zea
 rw [if_pos hc, ← hr, List.drop_eq_nil_of_le hj]; rfl
theorem ZgP (h : ZaV i o cs = false) : Zea i o cs = (([], []), false) := by unfold Zea; rw [if_neg (by rw [h]; simp)]
theorem ZnA (h : sigB i o = false) : Zea i o cs = (([], []), false) := ZgP (by unfold ZaV; rw [h]; rfl)
theorem Zk7 (h : (decide (cs.length ≤ 3) && allN cs.length (Zed (Zaa i o) cs)) = false) : Zea i o cs = (([], []), false) := ZgP (by unfold ZaV; rw [Bool.and_assoc, h]; simp)
theorem ZoW (h : sigB i o = true) (h2 : (decide (cs.length ≤ 3) && allN cs.length (Zed (Zaa i o) cs)) = true) : ZaV i o cs = true := by unfold ZaV; rw [Bool.and_assoc, h, h2]; rfl
theorem Zcr (h : sigB i o = true) (h2 : cs.length ≤ 3 ∧ allN cs.length (Zed (Zaa i o) cs) = true) : ZaV i o cs = true := ZoW h (by rw [h2.2]; simpa using h2.1)
theorem Znt (h2 : ¬ cs.length ≤ 3 ∨ allN cs.length (Zed (Zaa i o) cs) = false) : Zea i o cs = (([], []), false) := Zk7 (by rcases h2 with h | h <;> simp [h])
theorem Zml {L : Nat} : ∀ {cs : List (Int × List Int × List Int)} {n : List (List Int)} {ps : List (List Int × List Int)}, L = (Zaa i o).toNat → detB i o n ps = true → cntR n ≤ 1000 → Zis ps ≤ 1000 → (∀ c ∈ cs, 1 ≤ c.1 ∧ c.1 ≤ 7) → cntR (Zex L cs n ps).1.1 ≤ 1000 ∧ Zis (Zex L cs n ps).1.2 ≤ 1000
 | [], n, ps, _, _, h1, h2, _ => ⟨h1, h2⟩
 | c :: cs, n, ps, hL, hd, h1, h2, hk => by
  simp only [Zex]
  subst hL
  have hs := (detB_iff.1 hd).1
  have hm := ZpC (a := c.2.1) (b := c.2.2) hs (hk c (.head _))
  split
  ·rename_i h
   have h3 := ZqU hd hm
   exact Zml rfl (Zfe hd hm h) h3.1 h3.2 fun d hd => hk d (.tail _ hd)
  ·simp [cntR, Zis, cntG]
theorem Zo1 : cntR (Zea i o cs).1.1 ≤ 1000 ∧ Zis (Zea i o cs).1.2 ≤ 1000 := by
 cases h : ZaV i o cs
 ·rw [ZgP h]; simp [cntR, Zis, cntG]
 ·obtain ⟨h1, h2, h3⟩ := ZeK h
  have hL := Zaw i o
  unfold Zea; rw [if_pos h]
  refine Zml (i := i) (o := o) rfl (ZmM h1) ?_ (by simp [Zis, cntG]) fun c hc => ?_
  ·simp only [cntR, cntG, List.length_replicate]; omega
  ·obtain ⟨k, hk, rfl⟩ := Zbx hc
   exact ZfQ (h3 k hk)
end
end Go.Proofs.YtnieejghoaccmaaGreat

namespace Go.Proofs.YtnieejghoaccmaaGreat
open Go.RowKit
open Shp
end Go.Proofs.YtnieejghoaccmaaGreat

namespace Go.Proofs.YtnieejghoaccmaaGreat
open Go.RowKit
open Shp
theorem QMP1 {p : Prop} (h : p := by ((first | exact EQ.mk rfl | exact EQ.mk (by first | (simp; done) | fail) | (refine EQ.mk ?_; rw [← Zcz (show sigB i o = true by assumption)]; simp)); done)) : p := h
theorem QMP0 {p : Prop} (h : p := by first | exact ZO | (first | omega | (have q := Zaw i o; omega) | (have q := Zj2 (show sigB i o = true by assumption); omega))) : p := h
theorem ZhL (i o k : Int) (a b : List Int) (hs : sigB i o = true) (h : ZdE (Zaa i o) k a b = true) : Con Tryz.prog 77 [.sig i o, .clause k a b] (.det (monN k a b (Zaa i o).toNat) [monP k]) := by
 have h1 := Zi7 i o k a b
 rw [Zx2 hs h] at h1
 exact h1
theorem ZlP (i o : Int) (cs : List (Int × List Int × List Int)) (j : Nat) (x : List (List Int) × List (List Int × List Int)) : Con Tryz.prog 7 [.sig i o, .det x.1 x.2, .det (monN (nth cs j).1 (nth cs j).2.1 (nth cs j).2.2 (Zaa i o).toNat) [monP (nth cs j).1]] (.tup [.det (Zhz i o cs j x).1.1 (Zhz i o cs j x).1.2, .bool (Zhz i o cs j x).2]) := Zfu i o x.1 x.2 _ _
def ZgZ : Nat → List Nat
 | 0 => [1, 2, 4]
 | 1 => [1, 2, 4, 13]
 | 2 => [4, 5]
 | 3 => [1, 2, 4, 6]
 | 4 => [1, 2, 4, 6, 7]
 | 5 => [1, 2, 4, 6, 7, 23]
 | 6 => [1, 2, 4, 6, 7]
 | 7 => [1, 2, 4, 6, 7, 8, 9]
 | 8 => [1, 2, 4, 6, 7, 8, 39]
 | 9 => [4, 5]
 | 10 => [1, 2, 4, 6, 7]
 | 11 => [4, 5]
 | _ => []
theorem ZcM (args : Array Value) (w : World) : (callFunc 58 args).run Tryz.prog w = .ok (.enter 58 args) w := Zab Tryz.func58 (by decide) rfl args w
set_option maxHeartbeats 1000000 in
theorem Zi9 (i o : Int) (cs : List (Int × List Int × List Int)) : Con Tryz.prog 58 [.sig i o, .clauses cs] (.tup [.det (Zea i o cs).1.1 (Zea i o cs).1.2, .bool (Zea i o cs).2]) := by
 refine Con.fit ZcM fun hfit => ?_
 have hb_cs : cs.length ≤ 9223372036854775807 := GFits.lenm (show GFits (.clauses cs) from hfit 1 (ZL rfl))
 have hr_cs : ∀ r ∈ cs, r.2.1.length ≤ 9223372036854775807 ∧ r.2.2.length ≤ 9223372036854775807 := fun r hr => ⟨GFits.ints (GFits.cell (GFits.elm (show GFits (.clauses cs) from hfit 1 (ZL rfl)) r hr) (.tail _ (.head _))), GFits.ints (GFits.cell (GFits.elm (show GFits (.clauses cs) from hfit 1 (ZL rfl)) r hr) (.tail _ (.tail _ (.head _))))⟩
 clear hfit
 refine gCon ZgZ Zac (rs := [.cell 4 29, .tmp 5]) (sl := [(0, .g (.sig i o)), (1, .g (.clauses cs))]) Tryz.func58 rfl Tryz.ntmps58 rfl ZcM rfl (by repeat constructor) ?_
 (repeat' (first | ((with_reducible apply gLB.cagg); (. exact RF.mk ⟨rfl, rfl, rfl⟩)) | ((with_reducible apply gLI.cagg); (. exact RF.mk ⟨rfl, rfl, rfl⟩)) | (with_reducible constructor) | exact Z4 | exact NU.mk QMP0 | exact ZS | exact ZC | ((with_reducible apply Zch); (. exact ZA); (. exact NU.mk QMP0)) | ((with_reducible apply ZaP); first | (exact ZhL i o _ _ _ hk.1 (hk.2.2 j (by omega))) | (exact ZlP i o cs j x) | apply Za2 | apply Zjq) | (with_reducible intro hc; (try simp only [HCs] at hc)) | exact OB_f | exact ZM | exact ZK | (with_reducible first | apply gNK | apply Zao | apply Zaf | apply Zal | apply Zan | apply Zai | apply ZaQ | apply Zam | apply Zap | apply Zau | apply Zak | apply Zas | apply ZaG | apply Zav | apply ZaM | apply ZbH) | apply Zah Zac | apply ZaK Zac rfl | (apply ZaD; exact RF.mk rfl) | (refine Zaq (id := 0) (ι := Nat × (List (List Int) × List (List Int × List Int))) (fun ⟨j, x⟩ => ⟨[(1, .g (.clauses cs)), (2, .ptr 4 0), (4, .ptr 0 0), (6, .ptr 1 0), (7, .g (.i j))], [(0, .box [.nils 1, .nils 2]), (1, .box [.own 2 0 x.1.length, .own 3 0 x.2.length]), (2, .arr 1 true (x.1.map GV.ints)), (3, .arr 2 true (x.2.map GV.pairP)), (4, .box [.g (.i i), .g (.i o)])]⟩) (fun ⟨j, x⟩ => (j ≤ cs.length) ∧ (detB i o x.1 x.2 = true) ∧ (Zex (Zaa i o).toNat (cs.drop j) x.1 x.2 = Zex (Zaa i o).toNat cs [List.replicate (Zaa i o).toNat (0 : Int)] [])) (fun ⟨j, x⟩ => cs.length - j) (0, ([List.replicate (Zaa i o).toNat (0 : Int)], [])) ?_ ?_ ?_; (. (apply Zcn (t := 6) (c := 1) (k := 900000); (. (repeat' (first | (with_reducible constructor) | exact Z4))); (. (repeat' (first | (with_reducible constructor) | exact Z4))); (. exact RF.mk rfl); (. (repeat' (first | (with_reducible constructor) | exact Z4))); (. (apply RF.mk; dsimp only [List.set])); apply gLX5 <;> (repeat' (first | (with_reducible constructor) | exact Z5 | exact RF.mk (by decide) | (with_reducible apply Zae) | exact EQ.mk QMP0)); (all_goals exact QMP1))); (. (exact ⟨by omega, ZmM (ZeK (show ZaV i o cs = true by first | assumption | exact Zcr (by assumption) (by assumption))).1, rfl⟩)); (rintro ⟨j, x⟩ ⟨h1, h2, h3⟩; have hk := ZeK (show ZaV i o cs = true by first | assumption | exact Zcr (by assumption) (by assumption)); (show TX _ _ _ _ _ [(1, .g (.clauses cs)), (2, .ptr 4 0), (4, .ptr 0 0), (6, .ptr 1 0), (7, .g (.i j))] [(0, .box [.nils 1, .nils 2]), (1, .box [.own 2 0 x.1.length, .own 3 0 x.2.length]), (2, .arr 1 true (x.1.map GV.ints)), (3, .arr 2 true (x.2.map GV.pairP)), (4, .box [.g (.i i), .g (.i o)])] _))) | apply gSel.ccons))
 (all_goals (first | (refine ZaR (j + 1, (Zhz i o cs j x).1) ?_ ?_ ?_; (· (apply gLX5 <;> (repeat' (first | (with_reducible constructor) | exact Z5 | exact RF.mk (by decide) | (with_reducible apply Zae) | exact EQ.mk QMP0)); (all_goals exact QMP1))); (· (exact ⟨by omega, Zss (show ZaV i o cs = true by first | assumption | exact Zcr (by assumption) (by assumption)) (by omega) h2 (by assumption), Zst (show ZaV i o cs = true by first | assumption | exact Zcr (by assumption) (by assumption)) (by omega) h2 (by assumption) h3⟩)); (· exact ZW)) | ((first | (rw [ZgP (by assumption)]; exact EQ.mk rfl) | (rw [ZnA (by assumption)]; exact EQ.mk rfl) | (rw [Zk7 (by assumption)]; exact EQ.mk rfl) | (rw [Znt (by assumption)]; exact EQ.mk rfl) | (rw [Zus (x := x) (show ZaV i o cs = true by first | assumption | exact Zcr (by assumption) (by assumption)) (by omega) h2 (by assumption) h3]; exact EQ.mk rfl) | (rw [Zru (x := x) (show ZaV i o cs = true by first | assumption | exact Zcr (by assumption) (by assumption)) (by omega) h3]; first | exact EQ.mk rfl | (refine Zft (Za6 (ZcF (Za6 (ZbV (Zax (EQ.mk ?_))) (Za6 (ZbV (Zax (EQ.mk ?_))) (EQ.mk rfl)))) (EQ.mk rfl)); all_goals (first | rfl | exact List.take_of_length_le (Nat.le_refl _)))) | (rcases hc with hc | hc <;> first | (rw [ZgP (by assumption)]; exact EQ.mk rfl) | (rw [ZnA (by assumption)]; exact EQ.mk rfl) | (rw [Zk7 (by assumption)]; exact EQ.mk rfl) | (rw [Znt (by assumption)]; exact EQ.mk rfl))); done)))
end Go.Proofs.YtnieejghoaccmaaGreat

