/- Draws: lists of clauses by dice. No conditions but those that each theorem names. -/
import Derived.Test.YtabfpoflhacknaaGreatDD
import Derived.Test.YtabfpoflhacknaaGreatTab
import Derived.Test.YtabfpoflhacknaaGreatKG
import Derived.Test.YtabfpoflhacknaaGreatD2
import Derived.Test.YtabfpoflhacknaaGreatChecked
namespace Go.Proofs.YtabfpoflhacknaaGreat
open Go.RowKit
open Shp
def clsG (bs : List Int) : Nat → List (Int × List Int × List Int) → Nat × Int → List (Int × List Int × List Int) × (Nat × Int)
 | 0, a, t => (a, t)
 | k + 1, a, t => clsG bs k (a ++ [(clD bs t).1]) (clD bs t).2
def clsD (bs : List Int) (m : Int) (s : Nat × Int) : List (Int × List Int × List Int) × (Nat × Int) := clsG bs (ZdY bs (m + 1) s).toNat [] (dieS bs s)
theorem Zof {bs : List Int} : ∀ (k : Nat) (a : List (Int × List Int × List Int)) (t : Nat × Int), (clsG bs k a t).1.length = a.length + k
 | 0, a, t => rfl
 | k + 1, a, t => by simp only [clsG]; rw [Zof]; simp; omega
theorem Zro {bs : List Int} : ∀ (k : Nat) (a : List (Int × List Int × List Int)) (t : Nat × Int), (∀ c ∈ a, ZbR 4 c.1 c.2.1 c.2.2 = true) → ∀ c ∈ (clsG bs k a t).1, ZbR 4 c.1 c.2.1 c.2.2 = true
 | 0, a, t, h => h
 | k + 1, a, t, h => Zro k _ _ fun c hc => by
  rcases List.mem_append.1 hc with hc | hc
  ·exact h c hc
  ·simp only [List.mem_singleton] at hc; subst hc; exact ZzF bs t
theorem Zot (bs : List Int) {m : Int} (hm : 0 ≤ m) (s : Nat × Int) : ((clsD bs m s).1.length : Int) ≤ m := by
 have h := Zct (bs := bs) (show 0 < m + 1 by omega) s
 unfold clsD; rw [Zof]; simp; omega
theorem Zwy (bs : List Int) {m : Int} (hm : 0 ≤ m ∧ m ≤ 3) (s : Nat × Int) : ZaB 1 1 (clsD bs m s).1 = true := by
 have h1 := Zot bs hm.1 s
 have hL : Zaa 1 1 = 4 := by decide
 unfold ZaB
 rw [hL]
 simp only [Bool.and_eq_true, decide_eq_true_eq]
 refine ⟨⟨by decide, by omega⟩, ?_⟩
 rw [allN_iff]
 intro j hj
 exact Zro _ _ _ (fun c hc => by cases hc) _ (Zal hj)
end Go.Proofs.YtabfpoflhacknaaGreat

namespace Go.Proofs.YtabfpoflhacknaaGreat
open Go.RowKit
open Shp
theorem QD50 {p : Prop} (h : p := by ((first | exact EQ.mk rfl | exact EQ.mk (by first | (simp; done) | fail) | exact Zau (EQ.mk rfl) | (refine EQ.mk ?_; rw [List.map_append]; rfl)); done)) : p := h
def Zhy : Nat → List Nat
 | 0 => [0, 1]
 | 1 => [0, 1, 5]
 | 2 => [0, 5, 6]
 | 3 => [0, 5, 6, 13]
 | 4 => [0, 5, 6]
 | 5 => [0, 5, 6]
 | 6 => [0, 4]
 | _ => []
theorem ZfR (args : Array Value) (w : World) : (callFunc 15 args).run Tryz.prog w = .ok (.enter 15 args) w := Zab Tryz.func15 (by decide) rfl args w
set_option maxHeartbeats 1000000 in
theorem Zj5 (v : Value) (bs : List Int) (s : Nat × Int) (m : Int) (hl : NU (bs.length ≤ 4096)) (hb : HY (bytesB bs)) (hm : NU (0 ≤ m ∧ m ≤ 100)) : BoxC Tryz.prog 15 [.ex v 1 (bs.map (GV.int .u8)), .int .i64 ((s).1 : Int), .int .u64 (s).2] [.i m] (.clauses (clsD bs m s).1) [.ex v 1 (bs.map (GV.int .u8)), .int .i64 (((clsD bs m s).2).1 : Int), .int .u64 ((clsD bs m s).2).2] := by
 have hl := hl.e
 have hb := hb.e
 have hm := hm.e
 have r1 := Zct (bs := bs) (show (0 : Int) < m + 1 by omega) s
 refine gCur Zhy Zad (rs := [.tmp 4]) (sl := [(1, .g (.i m))]) (B := [.g (.ex v 1 (bs.map (GV.int .u8))), .g (.int .i64 ((s).1 : Int)), .g (.int .u64 (s).2)]) Tryz.func15 rfl Tryz.ntmps15 rfl ZfR rfl rfl rfl rfl (by first | (simp [GV.atom]; done) | fail) rfl (by repeat constructor) (by repeat constructor) ?_
 (repeat' (first | ((with_reducible apply gAF.ccur (f := 29))) | ((with_reducible apply gAF.ccur (f := 40))) | ((with_reducible apply ZmN); first | apply Zft | apply Zlq) | (with_reducible apply ZmR) | (with_reducible constructor) | exact Z2 | exact ZN | exact ZS | exact ZC | (with_reducible intro hc; (try simp only [HCs] at hc)) | exact OB_f | (with_reducible first | apply gNK | apply Zam | apply Zaf | apply Zaq | apply Zai | apply ZaR | apply Zar | apply Zas | apply Zay | apply Zap | apply Zaw | apply Zax | apply Zav) | apply Zah Zad | (apply ZaF; exact RF.mk rfl) | (refine Zak (id := 0) (ι := Int × (List (Int × List Int × List Int)) × (Nat × Int)) (fun ⟨k, a, t⟩ => ⟨[(0, .ptr 0 0), (5, .own 1 0 a.length), (6, .g (.i k))], [(0, .box [.g (.ex v 1 (bs.map (GV.int .u8))), .g (.int .i64 ((t).1 : Int)), .g (.int .u64 (t).2)]), (1, .arr 3 true (a.map GV.clauseP))]⟩) (fun ⟨k, a, t⟩ => (0 ≤ k ∧ k + a.length ≤ 100) ∧ (clsG bs k.toNat a t = clsD bs m s)) (fun ⟨k, a, t⟩ => k.toNat) (ZdY bs (m + 1) s, [], dieS bs s) ?_ ?_ ?_; (. (apply gLX2 <;> (repeat' (first | (with_reducible constructor) | exact Z5 | exact RF.mk (by decide) | (with_reducible apply Zae) | exact ZE)); (all_goals exact QD50))); (. (exact ⟨by simp; omega, rfl⟩)); (rintro ⟨k, a, t⟩ ⟨h1, h2⟩; (show TX _ _ _ _ _ [(0, .ptr 0 0), (5, .own 1 0 a.length), (6, .g (.i k))] [(0, .box [.g (.ex v 1 (bs.map (GV.int .u8))), .g (.int .i64 ((t).1 : Int)), .g (.int .u64 (t).2)]), (1, .arr 3 true (a.map GV.clauseP))] _))) | apply gSel.ccons))
 (all_goals (first | (refine ZaJ (k - 1, a ++ [(clD bs t).1], (clD bs t).2) ?_ ?_ ?_; (· (apply gLX2 <;> (repeat' (first | (with_reducible constructor) | exact Z5 | exact RF.mk (by decide) | (with_reducible apply Zae) | exact ZE)); (all_goals exact QD50))); (· ((refine ⟨by simp; omega, ?_⟩; rw [← h2, show k.toNat = (k - 1).toNat + 1 by omega]; rfl))); (· exact ZW)) | (((rw [show k.toNat = 0 by omega] at h2; simp only [clsG] at h2; rw [← h2]; first | exact EQ.mk rfl | exact Zby (Zau (EQ.mk rfl)))); done)))
end Go.Proofs.YtabfpoflhacknaaGreat

