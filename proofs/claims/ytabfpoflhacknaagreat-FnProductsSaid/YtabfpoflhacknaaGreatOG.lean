/- What the types of the arguments of the statements read as. No conditions but those that each theorem names. -/
import Derived.Test.YtabfpoflhacknaaGreatKG
import Derived.Test.YtabfpoflhacknaaGreatTab
import Derived.Test.YtabfpoflhacknaaGreatGFrame
import Derived.Test.YtabfpoflhacknaaGreatChecked
namespace Go.Proofs.YtabfpoflhacknaaGreat
open Go.RowKit
open Shp
variable {n o : Int} {p : Nat → Bool} {xs : List Int}
theorem ZcD {n : Nat}  (i : Nat) (hi : i < n) (h : p i = false) : (!allN n p) = true := by rw [ZaM i hi h]; rfl
theorem Zcb {n : Nat}  (h : ∀ j, j < n → p j = true) : (!allN n p) = false := by rw [ZaS h]; rfl
theorem ZrJ  (h : Zbx xs n = true) : (xs.length : Int) ≤ n ∨ xs = [] := by
 unfold Zbx at h
 rw [allN_iff] at h
 have key : ∀ i : Nat, i < xs.length → (i : Int) ≤ nth xs i := by
  intro i
  induction i with
  | zero => intro hi; have := h 0 hi; simp at this; omega
  | succ i ih =>
   intro hi
   have h1 := ih (by omega)
   have h2 := h (i + 1) hi
   simp at h2
   omega
 rcases Nat.eq_zero_or_pos xs.length with h0 | h0
 ·exact .inr (List.eq_nil_of_length_eq_zero h0)
 ·have h1 := key (xs.length - 1) (by omega)
  have h2 := h (xs.length - 1) (by omega)
  simp at h2
  left; omega
def setB (xs : List Int) (n : Int) : Bool := decide ((xs.length : Int) ≤ n) && Zbx xs n
theorem Zkz  (hn : 0 ≤ n) : setB xs n = Zbx xs n := by
 unfold setB
 cases e : Zbx xs n
 ·simp
 ·rcases ZrJ e with h | h
  ·simp [h]
  ·subst h; simpa using hn
def ZaI (s l : List Int) (n : Int) : Bool := decide (s.length ≤ 600) && decide (l.length ≤ 600) && decide (1 ≤ l.length) && below s n && below l n
theorem ZfY {s l : List Int}  (h : ZaI s l n = true) : 1 ≤ l.length ∧ l.length ≤ 600 ∧ s.length ≤ 600 := by
 unfold ZaI at h; simp only [Bool.and_eq_true, decide_eq_true_eq] at h; omega
def pw (n : Int) : Int := 2 ^ n.toNat
def sigB (i o : Int) : Bool := decide (1 ≤ i) && decide (i ≤ 2) && decide (1 ≤ o) && decide (o ≤ 2)
theorem ZpJ : pw 1 = 2 ∧ pw 2 = 4 ∧ pw 3 = 8 ∧ pw 4 = 16 ∧ pw 0 = 1 := by decide
def Zaa (i o : Int) : Int := if sigB i o = true then pw (i + o) else 0
theorem ZaW {i : Int} (h : sigB i o = true) : Zaa i o = pw (i + o) := if_pos h
theorem ZaE (i o : Int) : 0 ≤ Zaa i o ∧ Zaa i o ≤ 16 := by
 unfold Zaa sigB
 split
 ·rename_i h
  simp only [Bool.and_eq_true, decide_eq_true_eq] at h
  have h1 : i = 1 ∨ i = 2 := by omega
  have h2 : o = 1 ∨ o = 2 := by omega
  obtain ⟨p1, p2, p3, p4, _⟩ := ZpJ
  rcases h1 with rfl | rfl <;> rcases h2 with rfl | rfl <;> simp [p1, p2, p3, p4]
 ·omega
theorem Zks {i : Int} (h : sigB i o = true) : 1 ≤ i ∧ i ≤ 2 ∧ 1 ≤ o ∧ o ≤ 2 := by
 unfold sigB at h
 simp only [Bool.and_eq_true, decide_eq_true_eq] at h
 omega
theorem Zx3 : ∀ k : Nat, k ≤ 10 → (1 : Int) ≤ 2 ^ k ∧ (2 : Int) ^ k ≤ 1024 := by decide
def ZdU (k : Int) : Bool := decide (k = 2) || decide (k = 3) || decide (k = 7)
def ZbR (n k : Int) (a b : List Int) : Bool := decide (1 ≤ k) && decide (k ≤ 7) && Zbx a n && Zbx b n && (ZdU k || decide (b = []))
end Go.Proofs.YtabfpoflhacknaaGreat

namespace Go.Proofs.YtabfpoflhacknaaGreat
open Go.RowKit
open Shp
theorem ZnT {α : Type} [Inhabited α] [DecidableEq α] {xs ys : List α} (hl : xs.length = ys.length) : (allN xs.length fun i => decide (nth xs i = nth ys i)) = decide (xs = ys) := by
 rw [Bool.eq_iff_iff, allN_iff, decide_eq_true_eq]
 constructor
 ·intro h; exact Zfl hl fun i hi => by simpa using h i hi
 ·rintro rfl; intro j hj; simp
end Go.Proofs.YtabfpoflhacknaaGreat

namespace Go.Proofs.YtabfpoflhacknaaGreat
open Go.RowKit
open Shp
variable {α : Type} {k n m : Nat} {r : List Int × List Int} {s2 l2 : List Int}
theorem Zsu  [Inhabited α] (xs : List α) (n i : Nat) (h : i < n) : nth (xs.take n) i = nth xs i := by
 unfold nth; simp [List.getElem?_take, h]
theorem Zlr  [Inhabited α] (xs : List α) (n i : Nat) : nth (xs.drop n) i = nth xs (n + i) := by
 unfold nth; simp [List.getElem?_drop]
def letN (s l : List Int) (i : Nat) : Int := if i < s.length then nth s i else nth l ((i - s.length) % l.length)
end Go.Proofs.YtabfpoflhacknaaGreat

namespace Go.Proofs.YtabfpoflhacknaaGreat
open Go.RowKit
open Shp
variable {k : Int} {q : Nat}
end Go.Proofs.YtabfpoflhacknaaGreat

namespace Go.Proofs.YtabfpoflhacknaaGreat
open Go.RowKit
open Shp
theorem ZBr : ownKnob Tryz.prog.godebug = none := by kernel_rfl
theorem ZzB : laidOutB Tryz.prog = true := by kernel_rfl
theorem io : Tryz.prog.initOrder.toList = (([104, 97, 114, 110, 101, 115, 115] : List Nat).map Char.ofNat) ++ Char.ofNat 32 :: ((([102, 102, 57, 53, 99, 53, 53, 54, 55, 49, 51, 100, 100, 56, 49, 50, 56, 50, 101, 51, 53, 55, 97, 50, 51, 97, 56, 101, 98, 51, 48, 53, 98, 57, 56, 48, 99, 54, 98, 97, 49, 55, 101, 48, 49, 55, 50, 50, 97, 53, 56, 52, 53, 48, 50, 98, 100, 56, 53, 55, 56, 100, 52, 97] : List Nat).map Char.ofNat) ++ Char.ofNat 32 :: ((([99, 117, 116] : List Nat).map Char.ofNat) ++ Char.ofNat 32 :: (([97, 116, 32, 108, 111, 111, 112, 46, 101, 120, 97, 109, 112, 108, 101, 47, 103, 48, 48, 56, 54, 57, 47, 108, 97, 119, 115, 46, 70, 110, 74, 111, 105, 110, 101, 100, 68, 101, 116, 115, 32, 108, 111, 111, 112, 46, 101, 120, 97, 109, 112, 108, 101, 47, 103, 48, 48, 56, 54, 57, 47, 108, 97, 119, 115, 46, 70, 110, 80, 114, 111, 100, 117, 99, 116, 115] : List Nat).map Char.ofNat))) :=
 (congrArg String.toList (by kernel_rfl : Tryz.prog.initOrder = String.ofList (([104, 97, 114, 110, 101, 115, 115, 32, 102, 102, 57, 53, 99, 53, 53, 54, 55, 49, 51, 100, 100, 56, 49, 50, 56, 50, 101, 51, 53, 55, 97, 50, 51, 97, 56, 101, 98, 51, 48, 53, 98, 57, 56, 48, 99, 54, 98, 97, 49, 55, 101, 48, 49, 55, 50, 50, 97, 53, 56, 52, 53, 48, 50, 98, 100, 56, 53, 55, 56, 100, 52, 97, 32, 99, 117, 116, 32, 97, 116, 32, 108, 111, 111, 112, 46, 101, 120, 97, 109, 112, 108, 101, 47, 103, 48, 48, 56, 54, 57, 47, 108, 97, 119, 115, 46, 70, 110, 74, 111, 105, 110, 101, 100, 68, 101, 116, 115, 32, 108, 111, 111, 112, 46, 101, 120, 97, 109, 112, 108, 101, 47, 103, 48, 48, 56, 54, 57, 47, 108, 97, 119, 115, 46, 70, 110, 80, 114, 111, 100, 117, 99, 116, 115] : List Nat).map Char.ofNat))).trans (String.toList_ofList.trans (by kernel_rfl))
theorem ws : behindMainWord (wordsSigns Tryz.prog.initOrder.toList) = "cut".toList :: wordsSigns (([97, 116, 32, 108, 111, 111, 112, 46, 101, 120, 97, 109, 112, 108, 101, 47, 103, 48, 48, 56, 54, 57, 47, 108, 97, 119, 115, 46, 70, 110, 74, 111, 105, 110, 101, 100, 68, 101, 116, 115, 32, 108, 111, 111, 112, 46, 101, 120, 97, 109, 112, 108, 101, 47, 103, 48, 48, 56, 54, 57, 47, 108, 97, 119, 115, 46, 70, 110, 80, 114, 111, 100, 117, 99, 116, 115] : List Nat).map Char.ofNat) := (ZxK io (by kernel_rfl) (by kernel_rfl) (by kernel_rfl) (by kernel_rfl) (by kernel_rfl)).trans (by kernel_rfl)
theorem Znt : Tryz.prog.mayEnter = true := ZnY ws (by kernel_rfl) (by kernel_rfl) (by kernel_rfl)
theorem Zwj : Tryz.prog.make = some .cut := ZuB ws
theorem Ztw : Tryz.prog.liftsFinal = false := Zsr ws
theorem Zr7 : OG Tryz.prog 22 (fun xs : List Int => [GV.sl 1 (xs.map (GV.int .u8))]) (fun xs => ∀ x ∈ xs, 0 ≤ x ∧ x ≤ 255) := ZsU (sz := 1) (GV.int .u8) false (fun _ => rfl) Tryz.underlying22 (by kernel_rfl) (by kernel_rfl) (by decide) (ZA8 Tryz.underlying5 (by kernel_rfl))
end Go.Proofs.YtabfpoflhacknaaGreat

