/- Two machines side by side: the steps of the search. No program in sight; no conditions. -/
import Derived.Test.YtabfpoflhacknaaGreatMF
namespace Go.Proofs.YtabfpoflhacknaaGreat
open Go.RowKit
open Shp
variable {q p N r : Nat} {x : Int} {xs c : List Int} {al : Bool}
def MOk (n out : List (List Int)) (W : Nat) : Prop := (1 ≤ n.length ∧ n.length ≤ 48) ∧ GoOk n (W : Int) ∧ ZBk n out W
theorem ZoQ {n : List (List Int)} : ∀ (m : Nat) (c : List Int), ClOk n.length c → msrN n.length c ≤ m → ∃ j, ZcM n (it (ZcM n) j c) = it (ZcM n) j c
 | m, c, hc, hm => by
  by_cases e : ZcM n c = c
  ·exact ⟨0, e⟩
  ·have h1 := Zr5 hc e
   match m, hm with
   | 0, hm => omega
   | m + 1, hm =>
    obtain ⟨j, hj⟩ := ZoQ m (ZcM n c) Zow (by omega)
    exact ⟨j + 1, hj⟩
def Zxb (c : List Int) (q : Int) : Int := nth c q.toNat
def inN (N : Nat) (q : Int) : Prop := 0 ≤ q ∧ q < (N : Int)
section
variable {n out : List (List Int)} {W : Nat}
theorem MOk.row (h : MOk n out W) {q : Int} (hq : inN n.length q) : (rowN n q).length = W ∧ (rowN out q).length = W := h.2.2 q.toNat (by unfold inN at hq; omega)
theorem MOk.step (h : MOk n out W) {q : Int} (hq : inN n.length q) {i : Nat} (hi : i < W) : inN n.length (nth (rowN n q) i) := by
 have := h.2.1.step (x := (i : Int)) hq (by omega)
 rwa [Int.toNat_natCast] at this
theorem below_cons  {W : Int} : below (x :: xs) W = true ↔ (0 ≤ x ∧ x < W) ∧ below xs W = true := by
 rw [below_iff, below_iff]
 constructor
 ·intro h
  refine ⟨by have := h 0 (by simp); simpa [nth] using this, fun j hj => by have := h (j + 1) (by simpa using hj); simpa [nth] using this⟩
 ·rintro ⟨h1, h2⟩ j hj
  rcases j with _ | j
  ·simpa [nth] using h1
  ·have := h2 j (by simpa using hj); simpa [nth] using this
theorem Zir  {near : Nat → Nat → Bool}  (hp : p < N) (hq : q < N) (rp : near p p = true) (rq : near q q = true) (h : ∀ z, z < N → near z p = near z q) : nth (clsN N near) p = nth (clsN N near) q := by
 obtain ⟨r, h1, h2, h3, h4⟩ := ZbQ hp rp
 obtain ⟨r2, g1, g2, g3, g4⟩ := ZbQ hq rq
 have a : ¬ r < r2 := fun hl => by have := g4 r hl; rw [← h r (by omega), h3] at this; cases this
 have b : ¬ r2 < r := fun hl => by have := h4 r2 hl; rw [h r2 (by omega), g3] at this; cases this
 omega
def cT (n : List (List Int)) (c : List Int) (q : Int) : List Int := (rowN n q).map (Zxb c)
theorem ZkB  {q : Int} : (cT n c q).length = (rowN n q).length := by simp [cT]
theorem ZbE {α β : Type} [Inhabited α] [Inhabited β] {f : α → β} {xs : List α} {i : Nat} (h : i < xs.length) : nth (xs.map f) i = f (nth xs i) := by
 rw [Zbi (by simpa using h), Zbi h, List.getElem_map]
theorem ZcF  (h : x ∈ xs) : ∃ j : Nat, j < xs.length ∧ Za5 xs x = (j : Int) ∧ nth xs j = x := by
 unfold Za5
 rcases ZbP xs.length (fun i => nth xs i == x) with ⟨h1, h2⟩ | ⟨i, h1, h2, h3, _⟩
 ·obtain ⟨i, hi, e⟩ := Za1 h
  have := h2 i hi
  rw [e] at this; simp at this
 ·exact ⟨i, h1, h2, by simpa using h3⟩
end
def Zbj (a b : List (List Int)) (x : Int × Int) : List (Int × Int) := (List.range (rowN a x.1).length).map fun i => (nth (rowN a x.1) i, nth (rowN b x.2) i)
theorem Zbo {a b : List (List Int)} {x : Int × Int} : (Zbj a b x).length = (rowN a x.1).length := by simp [Zbj]
theorem Zch {a b : List (List Int)} {x : Int × Int} {i : Nat} (h : i < (rowN a x.1).length) : nth (Zbj a b x) i = (nth (rowN a x.1) i, nth (rowN b x.2) i) := by
 rw [Zbi (by rw [Zbo]; exact h)]; simp [Zbj]
def VP (A B : Nat) (x : Int × Int) : Prop := inN A x.1 ∧ inN B x.2
theorem ZqC {A B : Nat} (ha : A ≤ 48) (hb : B ≤ 48) (xs : List (Int × Int)) (hn : xs.Nodup) (hv : ∀ x ∈ xs, VP A B x) : xs.length ≤ 2304 := by
 have h1 : (xs.map fun x => x.1 * 48 + x.2).Nodup := Zgx hn fun x hx y hy e => by
  have a := hv x hx; have b := hv y hy
  unfold VP inN at a b
  refine Prod.ext ?_ ?_ <;> omega
 have h2 := ZcL 2304 _ h1 fun x hx => by
  obtain ⟨y, hy, rfl⟩ := List.mem_map.1 hx
  have a := hv y hy
  unfold VP inN at a
  omega
 simpa using h2
section
variable {a oa b ob : List (List Int)} {W : Nat}
theorem ZuS (ha : MOk a oa W) (hb : MOk b ob W) : VP a.length b.length (0, 0) := ⟨⟨by simp, by have := ha.1; simp; omega⟩, ⟨by simp, by have := hb.1; simp; omega⟩⟩
end
theorem Ziz  (h : xs.length ≤ q) : (xs.take q).take q = xs := by
 rw [List.take_take, Nat.min_self, List.take_of_length_le h]
theorem ZlH  (h : xs.length ≤ q) : ((xs.take q).drop 0).take q = xs := by
 rw [List.drop_zero, Ziz h]
end Go.Proofs.YtabfpoflhacknaaGreat

namespace Go.Proofs.YtabfpoflhacknaaGreat
open Go.RowKit
open Shp
variable {v q o : Int} {α : Type} {n2 out2 : List (List Int)}
def ZbS (xs : List (Int × Int)) (x : Int × Int) : Int := ZcB xs.length fun i => decide (nth xs i = x)
def hasP (xs : List (Int × Int)) (x : Int × Int) : Bool := !allN xs.length fun i => !decide (nth xs i = x)
theorem hasP_iff {xs : List (Int × Int)} {v : Int × Int} : hasP xs v = true ↔ v ∈ xs := by
 unfold hasP
 constructor
 ·intro h
  apply Classical.byContradiction
  intro hn
  rw [ZaS (fun j hj => by
   have : nth xs j ≠ v := fun e => hn (by rw [← e]; exact Zal hj)
   simpa using this)] at h
  cases h
 ·intro h
  obtain ⟨i, hi, e⟩ := Za1 h
  rw [ZaM i hi (by simp [e])]; rfl
def PsOk (a b : List (List Int)) (os : List (Int × Int)) : Prop := os.Nodup ∧ ∀ x ∈ os, VP a.length b.length x
theorem PsOk.len {a b : List (List Int)} {os : List (Int × Int)} (h : PsOk a b os) (ha : a.length ≤ 48) (hb : b.length ≤ 48) : os.length ≤ 2304 := ZqC ha hb os h.1 h.2
theorem PsOk.at {a b : List (List Int)} {os : List (Int × Int)} (h : PsOk a b os) {k : Nat} (hk : k < os.length) : (0 ≤ (nth os k).1 ∧ (nth os k).1 < (a.length : Int)) ∧ (0 ≤ (nth os k).2 ∧ (nth os k).2 < (b.length : Int)) := h.2 _ (Zal hk)
theorem PsOk.add {a b : List (List Int)} {os : List (Int × Int)} (h : PsOk a b os) {y : Int × Int} (hy : VP a.length b.length y) (hn : hasP os y = false) : PsOk a b (os ++ [y]) := by
 refine ⟨ZhE h.1 (fun hm => by rw [hasP_iff.2 hm] at hn; cases hn), fun z hz => ?_⟩
 rcases List.mem_append.1 hz with h1 | h1
 ·exact h.2 z h1
 ·simp only [List.mem_singleton] at h1; subst h1; exact hy
def Ext {α : Type} (os ps : List α) : Prop := ∃ t, ps = os ++ t
theorem Ext.refl  (os : List α) : Ext os os := ⟨[], by simp⟩
theorem Ext.snoc  {os ps : List α} (h : Ext os ps) (y : α) : Ext os (ps ++ [y]) := by
 obtain ⟨t, rfl⟩ := h; exact ⟨t ++ [y], by simp⟩
theorem Ext.nth {α : Type} [Inhabited α] {os ps : List α} (h : Ext os ps) {k : Nat} (hk : k < os.length) : nth ps k = nth os k := by
 obtain ⟨t, rfl⟩ := h; exact Zh7 hk
theorem Ext.len {α : Type} {os ps : List α} (h : Ext os ps) : os.length ≤ ps.length := by
 obtain ⟨t, rfl⟩ := h; simp
section
variable {a oa b ob : List (List Int)} {W : Nat} {os ps : List (Int × Int)} {k x f : Nat}
theorem PsOk.one (ha : MOk a oa W) (hb : MOk b ob W) : PsOk a b [(0, 0)] := ⟨by simp, fun y hy => by simp only [List.mem_singleton] at hy; subst hy; exact ZuS ha hb⟩
end
section
variable {n out : List (List Int)} {os ps : List Int} {k x f : Nat}
theorem ZrV {xs t : List Int}  (h : v ∈ xs) : Za5 (xs ++ t) v = Za5 xs v := by
 have h1 : ∃ i, i < xs.length ∧ Za5 xs v = (i : Int) ∧ nth xs i = v ∧ ∀ j, j < i → (nth xs j == v) = false := by
  unfold Za5
  rcases ZbP xs.length (fun i => nth xs i == v) with ⟨h1, h2⟩ | ⟨i, h1, h2, h3, h4⟩
  ·obtain ⟨i, hi, e⟩ := Za1 h
   have := h2 i hi
   rw [e] at this; simp at this
  ·exact ⟨i, h1, h2, by simpa using h3, h4⟩
 obtain ⟨i, hi, e, h2, h3⟩ := h1
 rw [e]
 unfold Za5
 refine Zbn i (by rw [List.length_append]; omega) (by rw [Zh7 hi, h2]; simp) fun j hj => ?_
 rw [Zh7 (by omega)]; exact h3 j hj
theorem ZgM {β : Type} [Inhabited α] {g : α → β} {xs : List α} {k : Nat} (h : k < xs.length) : (xs.map g).take k ++ [g (nth xs k)] = (xs.map g).take (k + 1) := by
 rw [← List.map_take, ← List.map_take, ZbX h]; simp
end
section
variable {n out : List (List Int)} {os ps : List Int} {k x f : Nat}
end
end Go.Proofs.YtabfpoflhacknaaGreat

