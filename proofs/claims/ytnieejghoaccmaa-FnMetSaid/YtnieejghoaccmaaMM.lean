/- Machines, deterministic automata, guesses: tests and runs. No program in sight; no conditions. -/
import Derived.Test.YtnieejghoaccmaaOG
import Derived.Test.YtnieejghoaccmaaTab
import Derived.Test.YtnieejghoaccmaaKG
import Derived.Test.YtnieejghoaccmaaC1
import Derived.Test.YtnieejghoaccmaaChecked
namespace Go.Proofs.Ytnieejghoaccmaa
open Go.RowKit
open Shp
variable {α : Type} {k n m : Nat} {r : List Int × List Int} {s2 l2 : List Int}
theorem ZpH  [Inhabited α] (xs : List α) (n i : Nat) (h : i < n) : nth (xs.take n) i = nth xs i := by
 unfold nth; simp [List.getElem?_take, h]
def letN (s l : List Int) (i : Nat) : Int := if i < s.length then nth s i else nth l ((i - s.length) % l.length)
end Go.Proofs.Ytnieejghoaccmaa

namespace Go.Proofs.Ytnieejghoaccmaa
open Go.RowKit
open Shp
variable {f : Nat → Int} {n p : Nat} {s2 l2 : List Int}
end Go.Proofs.Ytnieejghoaccmaa

namespace Go.Proofs.Ytnieejghoaccmaa
open Go.RowKit
open Shp
end Go.Proofs.Ytnieejghoaccmaa

namespace Go.Proofs.Ytnieejghoaccmaa
open Go.RowKit
open Shp
variable {k : Int} {q : Nat}
end Go.Proofs.Ytnieejghoaccmaa

namespace Go.Proofs.Ytnieejghoaccmaa
open Go.RowKit
open Shp
end Go.Proofs.Ytnieejghoaccmaa

namespace Go.Proofs.Ytnieejghoaccmaa
open Go.RowKit
open Shp
variable {p o W q : Int} {n out : List (List Int)} {ps : List (List Int × List Int)} {xs : List Int}
theorem Zhg {i : Int} (h : sigB i o = true) : 1 ≤ i ∧ i ≤ 2 ∧ 1 ≤ o ∧ o ≤ 2 ∧ 2 ≤ pw i ∧ pw i ≤ 4 ∧ 2 ≤ pw o ∧ pw o ≤ 4 ∧ 4 ≤ pw (i + o) ∧ pw (i + o) ≤ 16 ∧ Zaa i o = pw (i + o) ∧ pw (i + o) = pw i * pw o ∧ pw i = 2 ^ i.toNat ∧ pw o = 2 ^ o.toNat ∧ pw (i + o) = 2 ^ (i + o).toNat := by
 obtain ⟨h1, h2, h3, h4⟩ := ZnN h
 have e := ZcS h
 obtain ⟨p1, p2, p3, p4, _⟩ := ZnU
 have a : i = 1 ∨ i = 2 := by omega
 have b : o = 1 ∨ o = 2 := by omega
 refine ⟨h1, h2, h3, h4, ?_, ?_, ?_, ?_, ?_, ?_, e, ?_, rfl, rfl, rfl⟩ <;> rcases a with rfl | rfl <;> rcases b with rfl | rfl <;> simp_all
def setN (s : List Int) (n : Int) : Bool := decide (0 ≤ n) && decide (n ≤ 256) && setB s n
theorem Zip {s : List Int} {n : Int} (h0 : 0 ≤ n) (h1 : n ≤ 256) : setN s n = Zb5 s n := by unfold setN; rw [Ziw h0]; simp [h0, h1]
def Zea (ps : List (List Int × List Int)) (n : Int) (k : Nat) : Bool := Zb5 (nth ps k).1 n && Zb5 (nth ps k).2 n
def ZeJ (ps : List (List Int × List Int)) (n : Int) : Bool := decide (ps.length ≤ 4) && allN ps.length (Zea ps n)
def Zgi (i o : Int) (n : List (List Int)) (q : Nat) : Bool := decide (((nth n q).length : Int) = Zaa i o) && below (nth n q) n.length
def detB (i o : Int) (n : List (List Int)) (ps : List (List Int × List Int)) : Bool := sigB i o && decide (1 ≤ n.length) && decide (n.length ≤ 48) && ZeJ ps n.length && allN n.length (Zgi i o n)
theorem ZfL {i : Int}   (h : detB i o n ps = true) : sigB i o = true ∧ 1 ≤ n.length ∧ n.length ≤ 48 ∧ ZeJ ps n.length = true ∧ ∀ q, q < n.length → ((nth n q).length : Int) = Zaa i o ∧ below (nth n q) n.length = true := by
 unfold detB at h
 simp only [Bool.and_eq_true, decide_eq_true_eq, allN_iff, Zgi] at h
 obtain ⟨⟨⟨⟨h1, h2⟩, h3⟩, h4⟩, h5⟩ := h
 exact ⟨h1, h2, h3, h4, h5⟩
def Zdt (n : Int) (cs : List (Int × List Int × List Int)) (k : Nat) : Bool := Zc5 n (nth cs k).1 (nth cs k).2.1 (nth cs k).2.2
def ZaZ (i o : Int) (cs : List (Int × List Int × List Int)) : Bool := sigB i o && decide (cs.length ≤ 3) && allN cs.length (Zdt (Zaa i o) cs)
def goN (n : List (List Int)) : Int → List Int → Int
 | q, [] => q
 | q, x :: xs => goN n (nth (nth n q.toNat) x.toNat) xs
def GoOk (n : List (List Int)) (W : Int) : Prop := ∀ q, q < n.length → ((nth n q).length : Int) = W ∧ below (nth n q) n.length = true
theorem GoOk.row  (h : GoOk n W)  (h1 : 0 ≤ q) (h2 : q < n.length) : ((nth n q.toNat).length : Int) = W := (h q.toNat (by omega)).1
theorem GoOk.step  (h : GoOk n W) {x : Int} (h1 : 0 ≤ q ∧ q < n.length) (h2 : 0 ≤ x ∧ x < W) : 0 ≤ nth (nth n q.toNat) x.toNat ∧ nth (nth n q.toNat) x.toNat < n.length := by
 have a := h q.toNat (by omega)
 exact below_iff.1 a.2 x.toNat (by omega)
theorem ZlI  {i : Nat} (h : i < xs.length) : goN n p (xs.drop i) = goN n (nth (nth n p.toNat) (nth xs i).toNat) (xs.drop (i + 1)) := by rw [Zfj h]; rfl
theorem Zoq  {i : Nat} (h : xs.length ≤ i) : goN n p (xs.drop i) = p := by rw [List.drop_eq_nil_of_le h]; rfl
theorem ZbC {n : List (List Int)} {W : Int} (h : GoOk n W) : ∀ {xs : List Int} {q : Int}, below xs W = true → 0 ≤ q ∧ q < n.length → 0 ≤ goN n q xs ∧ goN n q xs < n.length
 | [], q, _, hq => hq
 | x :: xs, q, hb, hq => by
  rw [below_iff] at hb
  refine ZbC h (xs := xs) (below_iff.2 fun j hj => ?_) (h.step hq ?_)
  ·have := hb (j + 1) (by simpa using hj); simpa [nth] using this
  ·have := hb 0 (by simp); simpa [nth] using this
theorem ZbT {i : Int}   (h : detB i o n ps = true) : GoOk n (Zaa i o) := (ZfL h).2.2.2.2
def atD (i o : Int) (n : List (List Int)) (ps : List (List Int × List Int)) (xs : List Int) : Int := if (detB i o n ps && decide (xs.length ≤ 600) && below xs (Zaa i o)) = true then goN n 0 xs else -1
end Go.Proofs.Ytnieejghoaccmaa

