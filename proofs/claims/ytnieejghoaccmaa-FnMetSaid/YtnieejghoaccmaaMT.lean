/- Two machines side by side: the steps of the search. No program in sight; no conditions. -/
import Derived.Test.YtnieejghoaccmaaM4
import Derived.Test.YtnieejghoaccmaaMK0
namespace Go.Proofs.Ytnieejghoaccmaa
open Go.RowKit
open Shp
variable {q p N r : Nat} {x : Int} {xs c : List Int} {al : Bool}
def MOk (n out : List (List Int)) (W : Nat) : Prop := (1 ≤ n.length ∧ n.length ≤ 48) ∧ GoOk n (W : Int) ∧ Zw3 n out W
def inN (N : Nat) (q : Int) : Prop := 0 ≤ q ∧ q < (N : Int)
section
variable {n out : List (List Int)} {W : Nat}
theorem MOk.row (h : MOk n out W) {q : Int} (hq : inN n.length q) : (rowN n q).length = W ∧ (rowN out q).length = W := h.2.2 q.toNat (by unfold inN at hq; omega)
theorem MOk.step (h : MOk n out W) {q : Int} (hq : inN n.length q) {i : Nat} (hi : i < W) : inN n.length (nth (rowN n q) i) := by
 have := h.2.1.step (x := (i : Int)) hq (by omega)
 rwa [Int.toNat_natCast] at this
theorem below_cons  {W : Int} : below (x :: xs) W = true ↔ (0 ≤ x ∧ x < W) ∧ below xs W = true := by
 rw [below_iff, below_iff]
 constructor
 ·intro h
  refine ⟨by have := h 0 (by simp); simpa [nth] using this, fun j hj => by have := h (j + 1) (by simpa using hj); simpa [nth] using this⟩
 ·rintro ⟨h1, h2⟩ j hj
  rcases j with _ | j
  ·simpa [nth] using h1
  ·have := h2 j (by simpa using hj); simpa [nth] using this
theorem Zja {α β : Type} [Inhabited α] [Inhabited β] {f : α → β} {xs : List α} {i : Nat} (h : i < xs.length) : nth (xs.map f) i = f (nth xs i) := by
 rw [Zbx (by simpa using h), Zbx h, List.getElem_map]
theorem ZiB  (h : x ∈ xs) : ∃ j : Nat, j < xs.length ∧ ZbE xs x = (j : Int) ∧ nth xs j = x := by
 unfold ZbE
 rcases Zc0 xs.length (fun i => nth xs i == x) with ⟨h1, h2⟩ | ⟨i, h1, h2, h3, _⟩
 ·obtain ⟨i, hi, e⟩ := ZbW h
  have := h2 i hi
  rw [e] at this; simp at this
 ·exact ⟨i, h1, h2, by simpa using h3⟩
end
def Zbu (a b : List (List Int)) (x : Int × Int) : List (Int × Int) := (List.range (rowN a x.1).length).map fun i => (nth (rowN a x.1) i, nth (rowN b x.2) i)
theorem Zbp {a b : List (List Int)} {x : Int × Int} : (Zbu a b x).length = (rowN a x.1).length := by simp [Zbu]
theorem ZcL {a b : List (List Int)} {x : Int × Int} {i : Nat} (h : i < (rowN a x.1).length) : nth (Zbu a b x) i = (nth (rowN a x.1) i, nth (rowN b x.2) i) := by
 rw [Zbx (by rw [Zbp]; exact h)]; simp [Zbu]
def VP (A B : Nat) (x : Int × Int) : Prop := inN A x.1 ∧ inN B x.2
theorem Zov {A B : Nat} (ha : A ≤ 48) (hb : B ≤ 48) (xs : List (Int × Int)) (hn : xs.Nodup) (hv : ∀ x ∈ xs, VP A B x) : xs.length ≤ 2304 := by
 have h1 : (xs.map fun x => x.1 * 48 + x.2).Nodup := Zhs hn fun x hx y hy e => by
  have a := hv x hx; have b := hv y hy
  unfold VP inN at a b
  refine Prod.ext ?_ ?_ <;> omega
 have h2 := Zd9 2304 _ h1 fun x hx => by
  obtain ⟨y, hy, rfl⟩ := List.mem_map.1 hx
  have a := hv y hy
  unfold VP inN at a
  omega
 simpa using h2
section
variable {a oa b ob : List (List Int)} {W : Nat}
theorem ZrE (ha : MOk a oa W) (hb : MOk b ob W) : VP a.length b.length (0, 0) := ⟨⟨by simp, by have := ha.1; simp; omega⟩, ⟨by simp, by have := hb.1; simp; omega⟩⟩
end
end Go.Proofs.Ytnieejghoaccmaa

namespace Go.Proofs.Ytnieejghoaccmaa
open Go.RowKit
open Shp
variable {n out : List (List Int)} {o k j : Int} {a b : List Int}
theorem Zf7 {α : Type} {cn : α → Nat} {m : Nat} : ∀ {xs : List α}, (∀ x ∈ xs, cn x ≤ m) → cntG cn xs ≤ xs.length * m
 | [], _ => by simp [cntG]
 | x :: xs, h => by
  have h1 := h x (.head _)
  have h2 := Zf7 (xs := xs) fun y hy => h y (.tail _ hy)
  simp only [cntG, List.length_cons, Nat.add_mul, Nat.one_mul]; omega
end Go.Proofs.Ytnieejghoaccmaa

namespace Go.Proofs.Ytnieejghoaccmaa
open Go.RowKit
open Shp
variable {v q o : Int} {α : Type} {n2 out2 : List (List Int)}
def ZbH (xs : List (Int × Int)) (x : Int × Int) : Int := Zeh xs.length fun i => decide (nth xs i = x)
def hasP (xs : List (Int × Int)) (x : Int × Int) : Bool := !allN xs.length fun i => !decide (nth xs i = x)
theorem hasP_iff {xs : List (Int × Int)} {v : Int × Int} : hasP xs v = true ↔ v ∈ xs := by
 unfold hasP
 constructor
 ·intro h
  apply Classical.byContradiction
  intro hn
  rw [Zba (fun j hj => by
   have : nth xs j ≠ v := fun e => hn (by rw [← e]; exact Zbk hj)
   simpa using this)] at h
  cases h
 ·intro h
  obtain ⟨i, hi, e⟩ := ZbW h
  rw [Za8 i hi (by simp [e])]; rfl
def PsOk (a b : List (List Int)) (os : List (Int × Int)) : Prop := os.Nodup ∧ ∀ x ∈ os, VP a.length b.length x
theorem PsOk.len {a b : List (List Int)} {os : List (Int × Int)} (h : PsOk a b os) (ha : a.length ≤ 48) (hb : b.length ≤ 48) : os.length ≤ 2304 := Zov ha hb os h.1 h.2
theorem PsOk.at {a b : List (List Int)} {os : List (Int × Int)} (h : PsOk a b os) {k : Nat} (hk : k < os.length) : (0 ≤ (nth os k).1 ∧ (nth os k).1 < (a.length : Int)) ∧ (0 ≤ (nth os k).2 ∧ (nth os k).2 < (b.length : Int)) := h.2 _ (Zbk hk)
theorem PsOk.add {a b : List (List Int)} {os : List (Int × Int)} (h : PsOk a b os) {y : Int × Int} (hy : VP a.length b.length y) (hn : hasP os y = false) : PsOk a b (os ++ [y]) := by
 refine ⟨ZiA h.1 (fun hm => by rw [hasP_iff.2 hm] at hn; cases hn), fun z hz => ?_⟩
 rcases List.mem_append.1 hz with h1 | h1
 ·exact h.2 z h1
 ·simp only [List.mem_singleton] at h1; subst h1; exact hy
def Ext {α : Type} (os ps : List α) : Prop := ∃ t, ps = os ++ t
theorem Ext.refl  (os : List α) : Ext os os := ⟨[], by simp⟩
theorem Ext.snoc  {os ps : List α} (h : Ext os ps) (y : α) : Ext os (ps ++ [y]) := by
 obtain ⟨t, rfl⟩ := h; exact ⟨t ++ [y], by simp⟩
theorem Ext.nth {α : Type} [Inhabited α] {os ps : List α} (h : Ext os ps) {k : Nat} (hk : k < os.length) : nth ps k = nth os k := by
 obtain ⟨t, rfl⟩ := h; exact Zkw hk
theorem Ext.len {α : Type} {os ps : List α} (h : Ext os ps) : os.length ≤ ps.length := by
 obtain ⟨t, rfl⟩ := h; simp
section
variable {a oa b ob : List (List Int)} {W : Nat} {os ps : List (Int × Int)} {k x f : Nat}
theorem PsOk.one (ha : MOk a oa W) (hb : MOk b ob W) : PsOk a b [(0, 0)] := ⟨by simp, fun y hy => by simp only [List.mem_singleton] at hy; subst hy; exact ZrE ha hb⟩
end
section
variable {n out : List (List Int)} {os ps : List Int} {k x f : Nat}
theorem Zjp {β : Type} [Inhabited α] {g : α → β} {xs : List α} {k : Nat} (h : k < xs.length) : (xs.map g).take k ++ [g (nth xs k)] = (xs.map g).take (k + 1) := by
 rw [← List.map_take, ← List.map_take, ZcW h]; simp
end
section
variable {n out : List (List Int)} {os ps : List Int} {k x f : Nat}
end
end Go.Proofs.Ytnieejghoaccmaa

