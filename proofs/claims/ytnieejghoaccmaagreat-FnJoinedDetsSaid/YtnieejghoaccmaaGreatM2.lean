/- Contracts: clauses on words. No conditions but those that each theorem names. -/
import Derived.Test.YtnieejghoaccmaaGreatMG
import Derived.Test.YtnieejghoaccmaaGreatD0
import Derived.Test.YtnieejghoaccmaaGreatTab
import Derived.Test.YtnieejghoaccmaaGreatKG
import Derived.Test.YtnieejghoaccmaaGreatM1
import Derived.Test.YtnieejghoaccmaaGreatChecked
namespace Go.Proofs.YtnieejghoaccmaaGreat
open Go.RowKit
open Shp
variable {xs a ys b : List Int} {p : Bool} {o : Int} {cs : List (Int × List Int × List Int)} {j : Nat} {n n2 : List (List Int)} {ps ps2 : List (List Int × List Int)}
theorem ZsY  {i : Nat} (h : i < xs.length) : nth (xs ++ ys) i = nth xs i := by unfold nth; simp only [List.getD_eq_getElem?_getD]; rw [List.getElem?_append_left h]
theorem ZrC  {i : Nat} (h : xs.length ≤ i) : nth (xs ++ ys) i = nth ys (i - xs.length) := by unfold nth; simp only [List.getD_eq_getElem?_getD]; rw [List.getElem?_append_right h]
theorem Zs2 {i : Int}   (h : detB i o n ps = true) : sigB i o = true := (Zdy h).1
end Go.Proofs.YtnieejghoaccmaaGreat

namespace Go.Proofs.YtnieejghoaccmaaGreat
open Go.RowKit
open Shp
variable {x k n m : Int} {a b xs ys : List Int}
theorem ZsX {s l : List Int} (hl : 1 ≤ l.length) (i : Nat) : letN s l i ∈ s ++ l := by
 unfold letN; split
 ·rename_i h; exact List.mem_append.2 (.inl (Zaz h))
 ·exact List.mem_append.2 (.inr (Zaz (Nat.mod_lt _ (by omega))))
theorem wordB_parts {s l : List Int}  : ZaN s l n = true ↔ s.length ≤ 600 ∧ l.length ≤ 600 ∧ 1 ≤ l.length ∧ below s n = true ∧ below l n = true := by
 unfold ZaN; simp only [Bool.and_eq_true, decide_eq_true_eq]; constructor
 ·rintro ⟨⟨⟨⟨a, b⟩, c⟩, d⟩, e⟩; exact ⟨a, b, c, d, e⟩
 ·rintro ⟨a, b, c, d, e⟩; exact ⟨⟨⟨⟨a, b⟩, c⟩, d⟩, e⟩
end Go.Proofs.YtnieejghoaccmaaGreat

namespace Go.Proofs.YtnieejghoaccmaaGreat
open Go.RowKit
open Shp
variable {n : Int} {bs : List Int}
def lstD (bs : List Int) (n : Int) : Nat → List Int → Nat × Int → List Int × (Nat × Int)
 | 0, a, s => (a, s)
 | k + 1, a, s => lstD bs n k (a ++ [ZgE bs n s]) (dieS bs s)
theorem Zkh {bs : List Int} {n : Int} : ∀ (k : Nat) (a : List Int) (s : Nat × Int), (lstD bs n k a s).1.length = a.length + k
 | 0, a, s => rfl
 | k + 1, a, s => by simp only [lstD]; rw [Zkh]; simp; omega
theorem ZqZ {x : Int} (h : 0 ≤ x ∧ x < n) : below [x] n = true := by
 rw [below_iff]; intro j hj
 have : j = 0 := by simpa using hj
 subst this; exact h
theorem Zog {xs ys : List Int}  (h1 : below xs n = true) (h2 : below ys n = true) : below (xs ++ ys) n = true := by
 rw [below_iff] at h1 h2 ⊢
 intro j hj
 rw [List.length_append] at hj
 by_cases h : j < xs.length
 ·rw [ZsY h]; exact h1 j h
 ·rw [ZrC (by omega)]; exact h2 _ (by omega)
theorem Zmi (n : Int) : below [] n = true := by rw [below_iff]; intro j hj; simp at hj
theorem ZgG {bs : List Int} {n : Int} (hn : 0 < n) : ∀ (k : Nat) (a : List Int) (s : Nat × Int), below a n = true → below (lstD bs n k a s).1 n = true
 | 0, a, s, h => h
 | k + 1, a, s, h => ZgG hn k _ _ (Zog h (ZqZ (ZeO hn s)))
def wrdS (bs : List Int) (n : Int) (s : Nat × Int) : List Int × (Nat × Int) := lstD bs n (ZgE bs 4 s).toNat [] (dieS bs s)
def wrdL (bs : List Int) (n : Int) (s : Nat × Int) : List Int × (Nat × Int) := lstD bs n (1 + ZgE bs 4 s).toNat [] (dieS bs s)
def Zfj (bs : List Int) (n : Int) (s : Nat × Int) : (List Int × List Int) × (Nat × Int) := (((wrdS bs n s).1, (wrdL bs n (wrdS bs n s).2).1), (wrdL bs n (wrdS bs n s).2).2)
theorem Zmj (bs : List Int) (n : Int) (s : Nat × Int) : (Zfj bs n s).1.1.length ≤ 3 ∧ 1 ≤ (Zfj bs n s).1.2.length ∧ (Zfj bs n s).1.2.length ≤ 4 := by
 have h := fun s => ZeO (bs := bs) (show (0 : Int) < 4 by omega) s
 show (wrdS bs n s).1.length ≤ 3 ∧ 1 ≤ (wrdL bs n (wrdS bs n s).2).1.length ∧ (wrdL bs n (wrdS bs n s).2).1.length ≤ 4
 have h1 := h s
 have h2 := h (wrdS bs n s).2
 have e1 : (wrdS bs n s).1.length = (ZgE bs 4 s).toNat := by unfold wrdS; rw [Zkh]; simp
 have e2 : (wrdL bs n (wrdS bs n s).2).1.length = (1 + ZgE bs 4 (wrdS bs n s).2).toNat := by
  generalize (wrdS bs n s).2 = t
  unfold wrdL; rw [Zkh]; simp
 omega
theorem ZsI  (hn : 0 < n) (s : Nat × Int) : ZaN (Zfj bs n s).1.1 (Zfj bs n s).1.2 n = true := by
 have h := Zmj bs n s
 unfold ZaN
 simp only [Bool.and_eq_true, decide_eq_true_eq]
 exact ⟨⟨⟨⟨by omega, by omega⟩, by omega⟩, ZgG hn _ _ _ (Zmi n)⟩, ZgG hn _ _ _ (Zmi n)⟩
end Go.Proofs.YtnieejghoaccmaaGreat

namespace Go.Proofs.YtnieejghoaccmaaGreat
open Go.RowKit
open Shp
variable {bs s2 l2 : List Int}
def lstC (bs : List Int) (n : Int) : Nat → List Int → Nat × Int → List Int × (Nat × Int)
 | 0, a, s => (a, s)
 | k + 1, a, s => lstC bs n k (a ++ [ZaH bs n s]) (Zag bs n s)
theorem Znw {bs : List Int} {n : Int} : ∀ (k : Nat) (a : List Int) (s : Nat × Int), (lstC bs n k a s).1.length = a.length + k
 | 0, a, s => rfl
 | k + 1, a, s => by simp only [lstC]; rw [Znw]; simp; omega
def oddT : List Int := [-1, 0, 1, 2147483648, -2147483648, 1099511627776, 4611686018427387904, -4611686018427387904, 9223372036854775807, -9223372036854775808]
def oddX (bs : List Int) (s : Nat × Int) : Int := nth oddT (ZaH bs 10 s).toNat
def numT (bs : List Int) (m : Int) (s : Nat × Int) : List Int := [-1, m, m + 1, oddX bs s]
def numA (bs : List Int) (m : Int) (s : Nat × Int) : Int × (Nat × Int) := (nth (numT bs m s) (ZaH bs 4 (Zag bs 10 s)).toNat, Zag bs 4 (Zag bs 10 s))
def numB (bs : List Int) (m : Int) (s : Nat × Int) : Int × (Nat × Int) := if ZiQ bs 2 s = true then (ZaH bs (min m 4 + 1) (Zag bs 2 s), Zag bs (min m 4 + 1) (Zag bs 2 s)) else (ZaH bs (m + 1) (Zag bs 2 s), Zag bs (m + 1) (Zag bs 2 s))
def numD (bs : List Int) (m : Int) (s : Nat × Int) : Int × (Nat × Int) := if ZiQ bs 10 s = true then numA bs m (Zag bs 10 s) else numB bs m (Zag bs 10 s)
end Go.Proofs.YtnieejghoaccmaaGreat

namespace Go.Proofs.YtnieejghoaccmaaGreat
open Go.RowKit
open Shp
def ZgT : Nat → List Nat
 | 0 => [1, 2]
 | 1 => [1, 2, 13]
 | 2 => [4]
 | 3 => [1, 2, 5]
 | 4 => [1, 2, 5, 17]
 | 5 => [1, 2, 5]
 | 6 => [1, 2, 5, 26]
 | 7 => [4]
 | 8 => [4]
 | _ => []
theorem ZcO (args : Array Value) (w : World) : (callFunc 76 args).run Tryz.prog w = .ok (.enter 76 args) w := Zab Tryz.func76 (by decide) rfl args w
set_option maxHeartbeats 1000000 in
theorem Zjq (i o : Int) (cs : List (Int × List Int × List Int)) : Con Tryz.prog 76 [.sig i o, .clauses cs] (.bool (ZaV i o cs)) := by
 refine Con.fit ZcO fun hfit => ?_
 have hb_cs : cs.length ≤ 9223372036854775807 := GFits.lenm (show GFits (.clauses cs) from hfit 1 (ZL rfl))
 have hr_cs : ∀ r ∈ cs, r.2.1.length ≤ 9223372036854775807 ∧ r.2.2.length ≤ 9223372036854775807 := fun r hr => ⟨GFits.ints (GFits.cell (GFits.elm (show GFits (.clauses cs) from hfit 1 (ZL rfl)) r hr) (.tail _ (.head _))), GFits.ints (GFits.cell (GFits.elm (show GFits (.clauses cs) from hfit 1 (ZL rfl)) r hr) (.tail _ (.tail _ (.head _))))⟩
 clear hfit
 refine gCon ZgT Zac (rs := [.tmp 4]) (sl := [(0, .g (.sig i o)), (1, .g (.clauses cs))]) Tryz.func76 rfl Tryz.ntmps76 rfl ZcO rfl (by repeat constructor) ?_
 (repeat' (first | ((with_reducible apply gLB.cagg); (. exact RF.mk ⟨rfl, rfl, rfl⟩)) | ((with_reducible apply gLI.cagg); (. exact RF.mk ⟨rfl, rfl, rfl⟩)) | (with_reducible constructor) | exact Z2 | exact ZN | exact ZS | ((with_reducible apply ZaP); first | apply ZdS | apply Zgh) | (with_reducible intro hc; (try simp only [HCs] at hc)) | exact OB_f | exact ZK | (with_reducible first | apply gNK | apply Zao | apply Zaf | apply Zal | apply Zan | apply Zai | apply CK_t | apply ZaQ | apply Zam | apply Zap | apply Zau | apply Zak | apply Zas | apply ZaG | apply Zav | apply ZaM | apply Zat) | apply Zah Zac | apply ZaK Zac rfl | (apply ZaD; exact RF.mk rfl) | (refine Zaq (id := 0) (ι := Nat) (fun j => ⟨[(1, .g (.clauses cs)), (2, .ptr 0 0), (5, .g (.i j))], [(0, .box [.g (.i i), .g (.i o)])]⟩) (fun j => (j ≤ cs.length) ∧ (∀ z, z < j → (Zed (Zaa i o) cs) z = true)) (fun j => cs.length - j) (0) ?_ ?_ ?_; (. (apply gLX1 <;> (repeat' (first | (with_reducible constructor) | exact Z5 | exact RF.mk (by decide) | (with_reducible apply Zae) | exact ZE)))); (. (exact ⟨by omega, ZbT⟩)); (rintro j ⟨h1, h2⟩; (show TX _ _ _ _ _ [(1, .g (.clauses cs)), (2, .ptr 0 0), (5, .g (.i j))] [(0, .box [.g (.i i), .g (.i o)])] _))) | apply gSel.ccons))
 (all_goals (first | (refine ZaR (j + 1) ?_ ?_ ?_; (· (apply gLX1 <;> (repeat' (first | (with_reducible constructor) | exact Z5 | exact RF.mk (by decide) | (with_reducible apply Zae) | exact ZE)))); (· ((refine ⟨by omega, ZbM h2 ?_⟩; unfold Zed; simp_all))); (· exact ZW)) | (((refine Zar ?_; unfold ZaV; first | (rw [Zbh (fun j hj => h2 j (by omega))]; (rw [Bool.eq_iff_iff]; (try simp only [BOa, Int.natCast_eq_zero, List.length_eq_zero_iff, Bool.true_eq_false, Bool.false_eq_true, true_iff, false_iff, iff_true, iff_false, true_and, and_true, false_and, and_false, not_and, not_or, Bool.not_eq_true, Bool.not_eq_false, Int.not_lt, Int.not_le] at *); first | done | omega | (simp_all; done) | grind)) | (rw [Za5 j (by omega) (by unfold Zed; simp_all)]; simp; done) | (rw [Bool.eq_iff_iff]; (try simp only [BOa, Int.natCast_eq_zero, List.length_eq_zero_iff, Bool.true_eq_false, Bool.false_eq_true, true_iff, false_iff, iff_true, iff_false, true_and, and_true, false_and, and_false, not_and, not_or, Bool.not_eq_true, Bool.not_eq_false, Int.not_lt, Int.not_le] at *); first | done | omega | (simp_all; done) | grind))); done)))
def ZiH : Nat → List Nat
 | 0 => [0, 1]
 | 1 => [0, 1, 7, 8]
 | 2 => [0, 1, 7, 8, 9]
 | 3 => [0, 1, 5, 7, 8]
 | 4 => [0, 1, 5, 7, 8, 16]
 | 5 => [4]
 | 6 => [0, 1, 7, 8]
 | 7 => [4]
 | _ => []
theorem Zdx (args : Array Value) (w : World) : (callFunc 64 args).run Tryz.prog w = .ok (.enter 64 args) w := Zab Tryz.func64 (by decide) rfl args w
set_option maxHeartbeats 1000000 in
theorem ZlX (xs : List Int) (x : Int) : Con Tryz.prog 64 [.ints xs, .i x] (.i (ZbK xs x)) := by
 refine Con.fit Zdx fun hfit => ?_
 have hb_xs : xs.length ≤ 9223372036854775807 := GFits.ints (show GFits (.ints xs) from hfit 0 (ZL rfl))
 clear hfit
 refine gCon ZiH Zac (rs := [.tmp 4]) (sl := [(0, .g (.ints xs)), (1, .g (.i x))]) Tryz.func64 rfl Tryz.ntmps64 rfl Zdx rfl (by repeat constructor) ?_
 (repeat' (first | ((with_reducible apply gLI.cone); (. exact RF.mk ⟨rfl, rfl⟩)) | (with_reducible constructor) | exact Z2 | exact ZN | exact ZS | (with_reducible intro hc; (try simp only [HCs] at hc)) | exact OB_f | (with_reducible first | apply gNK | apply Zao | apply Zaf | apply Zal | apply Zan | apply Zai | apply ZaQ | apply Zam | apply Zap | apply Zau | apply Zak | apply Zas | apply ZaG | apply Zav | apply ZaM | apply Zat) | apply Zah Zac | (apply ZaD; exact RF.mk rfl) | (refine Zaq (id := 0) (ι := Nat) (fun i => ⟨[(0, .g (.ints xs)), (1, .g (.i x)), (7, .g (.i xs.length)), (8, .g (.i i))], []⟩) (fun i => (i ≤ xs.length) ∧ (∀ z, z < i → (fun i => nth xs i == x) z = false)) (fun i => xs.length - i) (0) ?_ ?_ ?_; (. (apply gLX0 <;> (repeat' (first | (with_reducible constructor) | exact Z5 | exact RF.mk (by decide) | (with_reducible apply Zae) | exact ZE)))); (. (exact ⟨by omega, Zcp⟩)); (rintro i ⟨h1, h2⟩; (show TX _ _ _ _ _ [(0, .g (.ints xs)), (1, .g (.i x)), (7, .g (.i xs.length)), (8, .g (.i i))] [] _))) | apply gSel.ccons))
 (all_goals (first | (refine ZaR (i + 1) ?_ ?_ ?_; (· (apply gLX0 <;> (repeat' (first | (with_reducible constructor) | exact Z5 | exact RF.mk (by decide) | (with_reducible apply Zae) | exact ZE)))); (· ((refine ⟨by omega, Zct h2 ?_⟩; ((try simp only [BOa] at *); (first | omega | assumption | grind))))); (· exact ZW)) | (((refine Zae (EQ.mk ?_); (try unfold ZbK); first | exact Eq.symm (Zb4 fun j hj => h2 j (by omega)) | (refine Eq.symm (ZbW i (by omega) ?_ h2); ((try simp only [BOa] at *); (first | omega | assumption | grind))))); done)))
def Zgy : Nat → List Nat
 | 0 => [0, 1]
 | 1 => [4]
 | _ => []
theorem ZcE (args : Array Value) (w : World) : (callFunc 40 args).run Tryz.prog w = .ok (.enter 40 args) w := Zab Tryz.func40 (by decide) rfl args w
set_option maxHeartbeats 1000000 in
theorem ZcY (xs : List Int) (x : Int) : Con Tryz.prog 40 [.ints xs, .i x] (.bool (has xs x)) := by
 refine Con.fit ZcE fun hfit => ?_
 have hb_xs : xs.length ≤ 9223372036854775807 := GFits.ints (show GFits (.ints xs) from hfit 0 (ZL rfl))
 clear hfit
 refine gCon Zgy Zac (rs := [.tmp 4]) (sl := [(0, .g (.ints xs)), (1, .g (.i x))]) Tryz.func40 rfl Tryz.ntmps40 rfl ZcE rfl (by repeat constructor) ?_
 (repeat' (first | (with_reducible constructor) | exact Z2 | ((with_reducible apply ZaP); first | apply ZlX) | exact OB_f | (with_reducible first | apply gNK | apply Zao | apply Zaf | apply Zap | apply Zat) | apply Zah Zac | apply gSel.ccons))
 (all_goals (first | (((refine Zar ?_; exact Zh3)); done)))
end Go.Proofs.YtnieejghoaccmaaGreat

