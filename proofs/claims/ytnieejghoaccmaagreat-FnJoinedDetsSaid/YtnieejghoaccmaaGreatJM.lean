/- Two automata joined: the search of pairs of states, at most so many. No program in sight; no conditions. -/
import Derived.Test.YtnieejghoaccmaaGreatMS
import Derived.Test.YtnieejghoaccmaaGreatKG
import Derived.Test.YtnieejghoaccmaaGreatTab
import Derived.Test.YtnieejghoaccmaaGreatM2
import Derived.Test.YtnieejghoaccmaaGreatMR
import Derived.Test.YtnieejghoaccmaaGreatChecked
namespace Go.Proofs.YtnieejghoaccmaaGreat
open Go.RowKit
open Shp
variable {v q o : Int} {α : Type} {n2 out2 : List (List Int)}
def Zbv (xs : List (Int × Int)) (x : Int × Int) : Int := Zc4 xs.length fun i => decide (nth xs i = x)
def hasP (xs : List (Int × Int)) (x : Int × Int) : Bool := !allN xs.length fun i => !decide (nth xs i = x)
theorem hasP_iff {xs : List (Int × Int)} {v : Int × Int} : hasP xs v = true ↔ v ∈ xs := by
 unfold hasP
 constructor
 ·intro h
  apply Classical.byContradiction
  intro hn
  rw [Zbh (fun j hj => by
   have : nth xs j ≠ v := fun e => hn (by rw [← e]; exact Zaz hj)
   simpa using this)] at h
  cases h
 ·intro h
  obtain ⟨i, hi, e⟩ := Zbx h
  rw [Za5 i hi (by simp [e])]; rfl
def PsOk (a b : List (List Int)) (os : List (Int × Int)) : Prop := os.Nodup ∧ ∀ x ∈ os, VP a.length b.length x
theorem PsOk.len {a b : List (List Int)} {os : List (Int × Int)} (h : PsOk a b os) (ha : a.length ≤ 48) (hb : b.length ≤ 48) : os.length ≤ 2304 := Zqu ha hb os h.1 h.2
theorem PsOk.at {a b : List (List Int)} {os : List (Int × Int)} (h : PsOk a b os) {k : Nat} (hk : k < os.length) : (0 ≤ (nth os k).1 ∧ (nth os k).1 < (a.length : Int)) ∧ (0 ≤ (nth os k).2 ∧ (nth os k).2 < (b.length : Int)) := h.2 _ (Zaz hk)
theorem PsOk.add {a b : List (List Int)} {os : List (Int × Int)} (h : PsOk a b os) {y : Int × Int} (hy : VP a.length b.length y) (hn : hasP os y = false) : PsOk a b (os ++ [y]) := by
 refine ⟨ZjN h.1 (fun hm => by rw [hasP_iff.2 hm] at hn; cases hn), fun z hz => ?_⟩
 rcases List.mem_append.1 hz with h1 | h1
 ·exact h.2 z h1
 ·simp only [List.mem_singleton] at h1; subst h1; exact hy
def Ext {α : Type} (os ps : List α) : Prop := ∃ t, ps = os ++ t
theorem Ext.refl  (os : List α) : Ext os os := ⟨[], by simp⟩
theorem Ext.snoc  {os ps : List α} (h : Ext os ps) (y : α) : Ext os (ps ++ [y]) := by
 obtain ⟨t, rfl⟩ := h; exact ⟨t ++ [y], by simp⟩
theorem Ext.nth {α : Type} [Inhabited α] {os ps : List α} (h : Ext os ps) {k : Nat} (hk : k < os.length) : nth ps k = nth os k := by
 obtain ⟨t, rfl⟩ := h; exact Zmk hk
theorem Ext.len {α : Type} {os ps : List α} (h : Ext os ps) : os.length ≤ ps.length := by
 obtain ⟨t, rfl⟩ := h; simp
section
variable {a oa b ob : List (List Int)} {W : Nat} {os ps : List (Int × Int)} {k x f : Nat}
theorem PsOk.one (ha : MOk a oa W) (hb : MOk b ob W) : PsOk a b [(0, 0)] := ⟨by simp, fun y hy => by simp only [List.mem_singleton] at hy; subst hy; exact Zvg ha hb⟩
end
section
variable {n out : List (List Int)} {os ps : List Int} {k x f : Nat}
theorem Zkt {β : Type} [Inhabited α] {g : α → β} {xs : List α} {k : Nat} (h : k < xs.length) : (xs.map g).take k ++ [g (nth xs k)] = (xs.map g).take (k + 1) := by
 rw [← List.map_take, ← List.map_take, Zce h]; simp
end
section
variable {n out : List (List Int)} {os ps : List Int} {k x f : Nat}
end
end Go.Proofs.YtnieejghoaccmaaGreat

namespace Go.Proofs.YtnieejghoaccmaaGreat
open Go.RowKit
open Shp
abbrev GV.pr (p : Int × Int) : GV := .agg [.i p.1, .i p.2]
abbrev GV.prs (ps : List (Int × Int)) : GV := .sl 2 (ps.map GV.pr)
abbrev GV.detP (d : List (List Int) × List (List Int × List Int)) : GV := .det d.1 d.2
end Go.Proofs.YtnieejghoaccmaaGreat

namespace Go.Proofs.YtnieejghoaccmaaGreat
open Go.RowKit
open Shp
end Go.Proofs.YtnieejghoaccmaaGreat

namespace Go.Proofs.YtnieejghoaccmaaGreat
open Go.RowKit
open Shp
def Zhm : Nat → List Nat
 | 0 => [0, 3]
 | 1 => [0, 3, 7, 8]
 | 2 => [0, 3, 7, 8, 9]
 | 3 => [0, 3, 5, 7, 8]
 | 4 => [0, 3, 5, 7, 8, 16]
 | 5 => [4]
 | 6 => [0, 3, 7, 8]
 | 7 => [4]
 | _ => []
theorem Zdg (args : Array Value) (w : World) : (callFunc 39 args).run Tryz.prog w = .ok (.enter 39 args) w := Zab Tryz.func39 (by decide) rfl args w
set_option maxHeartbeats 1000000 in
theorem Zk0 (xs : List (Int × Int)) (x : Int × Int) : Con Tryz.prog 39 [.prs xs, .pr x] (.i (Zbv xs x)) := by
 refine Con.fit Zdg fun hfit => ?_
 have hb_xs : xs.length ≤ 9223372036854775807 := GFits.lenm (show GFits (.prs xs) from hfit 0 (ZL rfl))
 clear hfit
 refine gCon Zhm Zac (rs := [.tmp 4]) (sl := [(0, .g (.prs xs)), (1, .g (.pr x))]) Tryz.func39 rfl Tryz.ntmps39 rfl Zdg rfl (by repeat constructor) ?_
 (repeat' (first | ((with_reducible apply gLB.cagg); (. exact RF.mk ⟨rfl, rfl, rfl⟩)) | ((with_reducible apply gLI.cagg); (. exact RF.mk ⟨rfl, rfl, rfl⟩)) | (with_reducible constructor) | exact Z2 | exact ZN | exact ZS | (with_reducible intro hc; (try simp only [HCs] at hc)) | exact OB_f | exact ZK | (with_reducible first | apply gNK | apply Zao | apply Zaf | apply Zal | apply Zan | apply Zai | apply ZaQ | apply Zam | apply Zap | apply Zau | apply Zak | apply Zas | apply ZaG | apply Zav | apply ZaM | apply Zat) | apply Zah Zac | apply ZaK Zac rfl | (apply ZaD; exact RF.mk rfl) | (refine Zaq (id := 0) (ι := Nat) (fun i => ⟨[(0, .g (.prs xs)), (3, .ptr 0 0), (7, .g (.i xs.length)), (8, .g (.i i))], [(0, .box [.g (.i x.1), .g (.i x.2)])]⟩) (fun i => (i ≤ xs.length) ∧ (∀ z, z < i → (fun i => decide (nth xs i = x)) z = false)) (fun i => xs.length - i) (0) ?_ ?_ ?_; (. (apply gLX1 <;> (repeat' (first | (with_reducible constructor) | exact Z5 | exact RF.mk (by decide) | (with_reducible apply Zae) | exact ZE)))); (. (exact ⟨by omega, Zcp⟩)); (rintro i ⟨h1, h2⟩; (show TX _ _ _ _ _ [(0, .g (.prs xs)), (3, .ptr 0 0), (7, .g (.i xs.length)), (8, .g (.i i))] [(0, .box [.g (.i x.1), .g (.i x.2)])] _))) | apply gSel.ccons))
 (all_goals (first | (refine ZaR (i + 1) ?_ ?_ ?_; (· (apply gLX1 <;> (repeat' (first | (with_reducible constructor) | exact Z5 | exact RF.mk (by decide) | (with_reducible apply Zae) | exact ZE)))); (· ((refine ⟨by omega, Zct h2 ?_⟩; exact decide_eq_false fun e => hc e.symm))); (· exact ZW)) | (((refine Zae (EQ.mk ?_); unfold Zbv; first | exact Eq.symm (Zb4 fun j hj => h2 j (by omega)) | (refine Eq.symm (ZbW i (by omega) ?_ h2); exact decide_eq_true hc.symm))); done)))
end Go.Proofs.YtnieejghoaccmaaGreat

namespace Go.Proofs.YtnieejghoaccmaaGreat
open Go.RowKit
open Shp
variable {xs t os : List (Int × Int)} {v : Int × Int} {a b n n2 : List (List Int)} {k : Nat} {ps ps2 : List (List Int × List Int)}
def jnG (a b : List (List Int)) : Nat → Nat → List (Int × Int) → Option (List (Int × Int))
 | 0, _, os => some os
 | f + 1, k, os => if k < os.length then (if 48 < (addG os (Zbr a b (nth os k))).length then none else jnG a b f (k + 1) (addG os (Zbr a b (nth os k)))) else some os
def jnF (a b : List (List Int)) : Option (List (Int × Int)) := jnG a b 48 0 [(0, 0)]
def Za3 (a b : List (List Int)) (os : List (Int × Int)) (k : Nat) : List (List Int) := (os.take k).map fun x => (Zbr a b x).map (Zbv os)
def ZaJ (s : List Int) (xs : List Int) : Nat → List Int
 | 0 => []
 | i + 1 => if has s (nth xs i) = true then ZaJ s xs i ++ [(i : Int)] else ZaJ s xs i
def pairP (xs : List Int) (p : List Int × List Int) : List Int × List Int := (ZaJ p.1 xs xs.length, ZaJ p.2 xs xs.length)
def Zbn (ps : List (List Int × List Int)) (xs : List Int) : List (List Int × List Int) := ps.map (pairP xs)
theorem Zd4  {x : Int × Int} (h : x ∈ xs) : ∃ j : Nat, j < xs.length ∧ Zbv xs x = (j : Int) ∧ nth xs j = x ∧ ∀ z, z < j → decide (nth xs z = x) = false := by
 unfold Zbv
 rcases ZcC xs.length (fun i => decide (nth xs i = x)) with ⟨h1, h2⟩ | ⟨i, h1, h2, h3, h4⟩
 ·obtain ⟨i, hi, e⟩ := Zbx h
  have := h2 i hi
  rw [e] at this; simp at this
 ·exact ⟨i, h1, h2, by simpa using h3, h4⟩
theorem ZjM  (h : v ∈ xs) : Zbv (xs ++ t) v = Zbv xs v := by
 obtain ⟨i, hi, e, h2, h3⟩ := Zd4 h
 rw [e]; unfold Zbv
 refine ZbW i (by rw [List.length_append]; omega) (by rw [Zmk hi, h2]; simp) fun j hj => ?_
 rw [Zmk (by omega)]; exact h3 j hj
theorem Zoe  (h : hasP xs v = false) : Zbv (xs ++ [v]) v = (xs.length : Int) := by
 unfold Zbv
 refine ZbW xs.length (by simp) (by rw [Zx4 (by omega)]; simp [nth]) fun j hj => ?_
 rw [Zmk hj]
 rw [decide_eq_false_iff_not]
 intro e
 rw [hasP_iff.2 (by rw [← e]; exact Zaz hj)] at h; cases h
theorem Zba  (h : Zbv xs v < 0) : hasP xs v = false := by
 cases e : hasP xs v
 ·rfl
 ·obtain ⟨j, _, e2, _⟩ := Zd4 (hasP_iff.1 e); omega
theorem ZbA  (h : ¬ Zbv xs v < 0) : hasP xs v = true := by
 have e : decide (Zbv xs v ≥ 0) = hasP xs v := Zh3
 rw [← e]; simpa using h
def Clo (a b : List (List Int)) (os : List (Int × Int)) (k : Nat) : Prop := ∀ j, j < k → ∀ y ∈ Zbr a b (nth os j), y ∈ os
theorem ZpY  (hc : Clo a b os k) (hk : k ≤ os.length) : Za3 a b (os ++ t) k = Za3 a b os k := by
 unfold Za3
 rw [List.take_append_of_le_length hk]
 refine List.map_congr_left fun x hx => List.map_congr_left fun y hy => ZjM ?_
 obtain ⟨j, hj, rfl⟩ := Zbx hx
 rw [List.length_take] at hj
 have e : nth (os.take k) j = nth os j := by
  unfold nth; simp only [List.getD_eq_getElem?_getD]; rw [List.getElem?_take_of_lt (by omega)]
 rw [e] at hy
 exact hc j (by omega) y hy
theorem Zoo  (hk : k < os.length) : Za3 a b os (k + 1) = Za3 a b os k ++ [(Zbr a b (nth os k)).map (Zbv os)] := by
 unfold Za3; rw [Zce hk, List.map_append]; rfl
theorem Zbb  (hk : k ≤ os.length) : (Za3 a b os k).length = k := by
 unfold Za3; rw [List.length_map, List.length_take]; omega
theorem Clo.ext  {ps : List (Int × Int)}  (hc : Clo a b os k) (h : Ext os ps) (hk : k ≤ os.length) : Clo a b ps k := fun j hj y hy => by
 obtain ⟨t, rfl⟩ := h
 rw [Zmk (by omega)] at hy
 exact List.mem_append.2 (.inl (hc j hj y hy))
theorem Clo.next  {ps : List (Int × Int)}  (hc : Clo a b ps k) (h : ∀ y ∈ Zbr a b (nth ps k), y ∈ ps) : Clo a b ps (k + 1) := fun j hj y hy => by
 by_cases e : j = k
 ·subst e; exact h y hy
 ·exact hc j (by omega) y hy
theorem Zyn  (h : jnF a b = jnG a b (48 - k) k os) (hk : k < os.length) (hl : os.length ≤ 48) : jnF a b = if 48 < (addG os ((Zbr a b (nth os k)).drop 0)).length then none else jnG a b (48 - (k + 1)) (k + 1) (addG os ((Zbr a b (nth os k)).drop 0)) := by
 rw [h, List.drop_zero, show 48 - k = (48 - (k + 1)) + 1 by omega]
 simp only [jnG]; rw [if_pos hk]
theorem ZpN  {f : Nat} (h : jnF a b = jnG a b f k os) (hk : os.length ≤ k) : jnF a b = some os := by
 rw [h]; cases f with
 | zero => rfl
 | succ f => simp only [jnG]; rw [if_neg (by omega)]
def Zbs (n : List (List Int)) (ps : List (List Int × List Int)) (n2 : List (List Int)) (ps2 : List (List Int × List Int)) : (List (List Int) × List (List Int × List Int)) × Bool :=
 if ps.length + ps2.length ≤ 4 then (match jnF n n2 with
  | some os => ((Za3 n n2 os os.length, Zbn ps (os.map Prod.fst) ++ Zbn ps2 (os.map Prod.snd)), true)
  | none => (([], []), false)) else (([], []), false)
theorem Zb7  (h : ¬ ps.length + ps2.length ≤ 4) : Zbs n ps n2 ps2 = (([], []), false) := by
 unfold Zbs; rw [if_neg h]
theorem Zcm  (h : jnF n n2 = none) : Zbs n ps n2 ps2 = (([], []), false) := by
 unfold Zbs; rw [h]; split <;> rfl
theorem Zcv  (hl : ps.length + ps2.length ≤ 4) (h : jnF n n2 = some os) : Zbs n ps n2 ps2 = ((Za3 n n2 os os.length, Zbn ps (os.map Prod.fst) ++ Zbn ps2 (os.map Prod.snd)), true) := by
 unfold Zbs; rw [if_pos hl, h]
theorem Zj0 {s xs : List Int} {i : Nat} (h : has s (nth xs i) = true) : ZaJ s xs i ++ [(i : Int)] = ZaJ s xs (i + 1) := by simp only [ZaJ]; rw [if_pos h]
theorem Zma {s xs : List Int} {i : Nat} (h : has s (nth xs i) = false) : ZaJ s xs i = ZaJ s xs (i + 1) := by simp only [ZaJ]; rw [if_neg (by rw [h]; simp)]
theorem ZcW {s xs : List Int} : ∀ {i : Nat}, (ZaJ s xs i).length ≤ i
 | 0 => Nat.le_refl _
 | i + 1 => by
  have := ZcW (s := s) (xs := xs) (i := i)
  simp only [ZaJ]; split
  ·simp; omega
  ·omega
def ZaX (i o : Int) (n : List (List Int)) (ps : List (List Int × List Int)) (n2 : List (List Int)) (ps2 : List (List Int × List Int)) : (List (List Int) × List (List Int × List Int)) × Bool :=
 if detB i o n ps = true ∧ detB i o n2 ps2 = true then Zbs n ps n2 ps2 else (([], []), false)
end Go.Proofs.YtnieejghoaccmaaGreat

