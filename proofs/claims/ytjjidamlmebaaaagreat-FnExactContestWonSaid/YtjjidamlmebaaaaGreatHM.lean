/- Clauses on words. No program in sight; no conditions. -/
import Derived.Test.YtjjidamlmebaaaaGreatKG
namespace Go.Proofs.YtjjidamlmebaaaaGreat
open Go.RowKit
open Shp
variable {n o : Int} {p : Nat → Bool} {xs : List Int}
theorem Zdy {n : Nat}  (i : Nat) (hi : i < n) (h : p i = false) : (!allN n p) = true := by rw [Za5 i hi h]; rfl
theorem ZcF {n : Nat}  (h : ∀ j, j < n → p j = true) : (!allN n p) = false := by rw [ZaV h]; rfl
theorem ZoF  (h : Zbc xs n = true) : (xs.length : Int) ≤ n ∨ xs = [] := by
 unfold Zbc at h
 rw [allN_iff] at h
 have key : ∀ i : Nat, i < xs.length → (i : Int) ≤ nth xs i := by
  intro i
  induction i with
  | zero => intro hi; have := h 0 hi; simp at this; omega
  | succ i ih =>
   intro hi
   have h1 := ih (by omega)
   have h2 := h (i + 1) hi
   simp at h2
   omega
 rcases Nat.eq_zero_or_pos xs.length with h0 | h0
 ·exact .inr (List.eq_nil_of_length_eq_zero h0)
 ·have h1 := key (xs.length - 1) (by omega)
  have h2 := h (xs.length - 1) (by omega)
  simp at h2
  left; omega
def setB (xs : List Int) (n : Int) : Bool := decide ((xs.length : Int) ≤ n) && Zbc xs n
theorem Zn2  (hn : 0 ≤ n) : setB xs n = Zbc xs n := by
 unfold setB
 cases e : Zbc xs n
 ·simp
 ·rcases ZoF e with h | h
  ·simp [h]
  ·subst h; simpa using hn
def pw (n : Int) : Int := 2 ^ n.toNat
def sigB (i o : Int) : Bool := decide (1 ≤ i) && decide (i ≤ 2) && decide (1 ≤ o) && decide (o ≤ 2)
theorem Zor : pw 1 = 2 ∧ pw 2 = 4 ∧ pw 3 = 8 ∧ pw 4 = 16 ∧ pw 0 = 1 := by decide
def Zbv (i o : Int) : Int := if sigB i o = true then pw (i + o) else 0
theorem ZkM {i : Int} (h : sigB i o = true) : Zbv i o = pw (i + o) := if_pos h
theorem ZiZ (i o : Int) : 0 ≤ Zbv i o ∧ Zbv i o ≤ 16 := by
 unfold Zbv sigB
 split
 ·rename_i h
  simp only [Bool.and_eq_true, decide_eq_true_eq] at h
  have h1 : i = 1 ∨ i = 2 := by omega
  have h2 : o = 1 ∨ o = 2 := by omega
  obtain ⟨p1, p2, p3, p4, _⟩ := Zor
  rcases h1 with rfl | rfl <;> rcases h2 with rfl | rfl <;> simp [p1, p2, p3, p4]
 ·omega
theorem ZoN {i : Int} (h : sigB i o = true) : 1 ≤ i ∧ i ≤ 2 ∧ 1 ≤ o ∧ o ≤ 2 := by
 unfold sigB at h
 simp only [Bool.and_eq_true, decide_eq_true_eq] at h
 omega
theorem Zt2 : ∀ k : Nat, k ≤ 10 → (1 : Int) ≤ 2 ^ k ∧ (2 : Int) ^ k ≤ 1024 := by decide
end Go.Proofs.YtjjidamlmebaaaaGreat

namespace Go.Proofs.YtjjidamlmebaaaaGreat
open Go.RowKit
open Shp
variable {α : Type} {k n m : Nat} {r : List Int × List Int} {s2 l2 : List Int}
end Go.Proofs.YtjjidamlmebaaaaGreat

namespace Go.Proofs.YtjjidamlmebaaaaGreat
open Go.RowKit
open Shp
variable {p o W q : Int} {n out : List (List Int)} {ps : List (List Int × List Int)} {xs : List Int}
theorem Zsc {w : Int} (h : 0 ≤ p) (h2 : p ≤ 1000) (h3 : 0 ≤ w) (h4 : w ≤ 1000) : 0 ≤ p * w ∧ p * w ≤ 1000000 := ⟨Int.mul_nonneg h h3, by have := Int.mul_le_mul h2 h4 h3 (by omega); omega⟩
theorem Zdx {i : Int} (h : sigB i o = true) : 1 ≤ i ∧ i ≤ 2 ∧ 1 ≤ o ∧ o ≤ 2 ∧ 2 ≤ pw i ∧ pw i ≤ 4 ∧ 2 ≤ pw o ∧ pw o ≤ 4 ∧ 4 ≤ pw (i + o) ∧ pw (i + o) ≤ 16 ∧ Zbv i o = pw (i + o) ∧ pw (i + o) = pw i * pw o ∧ pw i = 2 ^ i.toNat ∧ pw o = 2 ^ o.toNat ∧ pw (i + o) = 2 ^ (i + o).toNat := by
 obtain ⟨h1, h2, h3, h4⟩ := ZoN h
 have e := ZkM h
 obtain ⟨p1, p2, p3, p4, _⟩ := Zor
 have a : i = 1 ∨ i = 2 := by omega
 have b : o = 1 ∨ o = 2 := by omega
 refine ⟨h1, h2, h3, h4, ?_, ?_, ?_, ?_, ?_, ?_, e, ?_, rfl, rfl, rfl⟩ <;> rcases a with rfl | rfl <;> rcases b with rfl | rfl <;> simp_all
def setN (s : List Int) (n : Int) : Bool := decide (0 ≤ n) && decide (n ≤ 256) && setB s n
theorem Zn5 {s : List Int} {n : Int} (h0 : 0 ≤ n) (h1 : n ≤ 256) : setN s n = Zbc s n := by unfold setN; rw [Zn2 h0]; simp [h0, h1]
def ZdQ (ps : List (List Int × List Int)) (n : Int) (k : Nat) : Bool := Zbc (nth ps k).1 n && Zbc (nth ps k).2 n
def ZbR (ps : List (List Int × List Int)) (n : Int) : Bool := decide (ps.length ≤ 4) && allN ps.length (ZdQ ps n)
def ZgL (i o : Int) (n : List (List Int)) (q : Nat) : Bool := decide (((nth n q).length : Int) = Zbv i o) && below (nth n q) n.length
def detB (i o : Int) (n : List (List Int)) (ps : List (List Int × List Int)) : Bool := sigB i o && decide (1 ≤ n.length) && decide (n.length ≤ 48) && ZbR ps n.length && allN n.length (ZgL i o n)
theorem Zdg {i : Int}   (h : detB i o n ps = true) : sigB i o = true ∧ 1 ≤ n.length ∧ n.length ≤ 48 ∧ ZbR ps n.length = true ∧ ∀ q, q < n.length → ((nth n q).length : Int) = Zbv i o ∧ below (nth n q) n.length = true := by
 unfold detB at h
 simp only [Bool.and_eq_true, decide_eq_true_eq, allN_iff, ZgL] at h
 obtain ⟨⟨⟨⟨h1, h2⟩, h3⟩, h4⟩, h5⟩ := h
 exact ⟨h1, h2, h3, h4, h5⟩
def GoOk (n : List (List Int)) (W : Int) : Prop := ∀ q, q < n.length → ((nth n q).length : Int) = W ∧ below (nth n q) n.length = true
theorem GoOk.row  (h : GoOk n W)  (h1 : 0 ≤ q) (h2 : q < n.length) : ((nth n q.toNat).length : Int) = W := (h q.toNat (by omega)).1
theorem GoOk.step  (h : GoOk n W) {x : Int} (h1 : 0 ≤ q ∧ q < n.length) (h2 : 0 ≤ x ∧ x < W) : 0 ≤ nth (nth n q.toNat) x.toNat ∧ nth (nth n q.toNat) x.toNat < n.length := by
 have a := h q.toNat (by omega)
 exact below_iff.1 a.2 x.toNat (by omega)
end Go.Proofs.YtjjidamlmebaaaaGreat

namespace Go.Proofs.YtjjidamlmebaaaaGreat
open Go.RowKit
open Shp
variable {xs a ys b : List Int} {p : Bool} {o : Int} {cs : List (Int × List Int × List Int)} {j : Nat} {n n2 : List (List Int)} {ps ps2 : List (List Int × List Int)}
end Go.Proofs.YtjjidamlmebaaaaGreat

