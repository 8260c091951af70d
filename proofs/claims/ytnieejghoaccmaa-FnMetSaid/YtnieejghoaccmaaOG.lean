/- What the types of the arguments of the statements read as. No conditions but those that each theorem names. -/
import Derived.Test.YtnieejghoaccmaaKG
import Derived.Test.YtnieejghoaccmaaTab
import Derived.Test.YtnieejghoaccmaaGFrame
import Derived.Test.YtnieejghoaccmaaChecked
namespace Go.Proofs.Ytnieejghoaccmaa
open Go.RowKit
open Shp
variable {n o : Int} {p : Nat → Bool} {xs : List Int}
theorem Zes {n : Nat}  (i : Nat) (hi : i < n) (h : p i = false) : (!allN n p) = true := by rw [Za8 i hi h]; rfl
theorem Zdq {n : Nat}  (h : ∀ j, j < n → p j = true) : (!allN n p) = false := by rw [Zba h]; rfl
theorem Zm2  (h : Zb5 xs n = true) : (xs.length : Int) ≤ n ∨ xs = [] := by
 unfold Zb5 at h
 rw [allN_iff] at h
 have key : ∀ i : Nat, i < xs.length → (i : Int) ≤ nth xs i := by
  intro i
  induction i with
  | zero => intro hi; have := h 0 hi; simp at this; omega
  | succ i ih =>
   intro hi
   have h1 := ih (by omega)
   have h2 := h (i + 1) hi
   simp at h2
   omega
 rcases Nat.eq_zero_or_pos xs.length with h0 | h0
 ·exact .inr (List.eq_nil_of_length_eq_zero h0)
 ·have h1 := key (xs.length - 1) (by omega)
  have h2 := h (xs.length - 1) (by omega)
  simp at h2
  left; omega
def setB (xs : List Int) (n : Int) : Bool := decide ((xs.length : Int) ≤ n) && Zb5 xs n
theorem Ziw  (hn : 0 ≤ n) : setB xs n = Zb5 xs n := by
 unfold setB
 cases e : Zb5 xs n
 ·simp
 ·rcases Zm2 e with h | h
  ·simp [h]
  ·subst h; simpa using hn
def ZaX (s l : List Int) (n : Int) : Bool := decide (s.length ≤ 600) && decide (l.length ≤ 600) && decide (1 ≤ l.length) && below s n && below l n
theorem ZiH {s l : List Int}  (h : ZaX s l n = true) : 1 ≤ l.length ∧ l.length ≤ 600 ∧ s.length ≤ 600 := by
 unfold ZaX at h; simp only [Bool.and_eq_true, decide_eq_true_eq] at h; omega
def pw (n : Int) : Int := 2 ^ n.toNat
def sigB (i o : Int) : Bool := decide (1 ≤ i) && decide (i ≤ 2) && decide (1 ≤ o) && decide (o ≤ 2)
theorem ZnU : pw 1 = 2 ∧ pw 2 = 4 ∧ pw 3 = 8 ∧ pw 4 = 16 ∧ pw 0 = 1 := by decide
def Zaa (i o : Int) : Int := if sigB i o = true then pw (i + o) else 0
theorem ZcS {i : Int} (h : sigB i o = true) : Zaa i o = pw (i + o) := if_pos h
theorem ZaJ (i o : Int) : 0 ≤ Zaa i o ∧ Zaa i o ≤ 16 := by
 unfold Zaa sigB
 split
 ·rename_i h
  simp only [Bool.and_eq_true, decide_eq_true_eq] at h
  have h1 : i = 1 ∨ i = 2 := by omega
  have h2 : o = 1 ∨ o = 2 := by omega
  obtain ⟨p1, p2, p3, p4, _⟩ := ZnU
  rcases h1 with rfl | rfl <;> rcases h2 with rfl | rfl <;> simp [p1, p2, p3, p4]
 ·omega
theorem ZnN {i : Int} (h : sigB i o = true) : 1 ≤ i ∧ i ≤ 2 ∧ 1 ≤ o ∧ o ≤ 2 := by
 unfold sigB at h
 simp only [Bool.and_eq_true, decide_eq_true_eq] at h
 omega
theorem ZuD : ∀ k : Nat, k ≤ 10 → (1 : Int) ≤ 2 ^ k ∧ (2 : Int) ^ k ≤ 1024 := by decide
def ZhE (k : Int) : Bool := decide (k = 2) || decide (k = 3) || decide (k = 7)
def Zc5 (n k : Int) (a b : List Int) : Bool := decide (1 ≤ k) && decide (k ≤ 7) && Zb5 a n && Zb5 b n && (ZhE k || decide (b = []))
end Go.Proofs.Ytnieejghoaccmaa

namespace Go.Proofs.Ytnieejghoaccmaa
open Go.RowKit
open Shp
end Go.Proofs.Ytnieejghoaccmaa

namespace Go.Proofs.Ytnieejghoaccmaa
open Go.RowKit
open Shp
theorem Zwh : ownKnob Try.prog.godebug = none := by kernel_rfl
theorem Zvn : laidOutB Try.prog = true := by kernel_rfl
theorem io : Try.prog.initOrder.toList = (([104, 97, 114, 110, 101, 115, 115] : List Nat).map Char.ofNat) ++ Char.ofNat 32 :: ((([56, 55, 97, 51, 55, 99, 97, 55, 99, 56, 56, 99, 51, 54, 49, 97, 55, 55, 57, 56, 54, 98, 51, 52, 52, 54, 48, 50, 56, 49, 57, 56, 53, 97, 98, 49, 57, 55, 54, 53, 51, 51, 52, 56, 101, 100, 48, 53, 53, 54, 101, 55, 52, 49, 98, 102, 102, 55, 102, 54, 55, 57, 57, 57] : List Nat).map Char.ofNat) ++ Char.ofNat 32 :: ((([99, 117, 116] : List Nat).map Char.ofNat) ++ Char.ofNat 32 :: (([97, 116, 32, 108, 111, 111, 112, 46, 101, 120, 97, 109, 112, 108, 101, 47, 103, 48, 48, 56, 54, 57, 47, 108, 97, 119, 115, 46, 70, 110, 77, 101, 116] : List Nat).map Char.ofNat))) :=
 (congrArg String.toList (by kernel_rfl : Try.prog.initOrder = String.ofList (([104, 97, 114, 110, 101, 115, 115, 32, 56, 55, 97, 51, 55, 99, 97, 55, 99, 56, 56, 99, 51, 54, 49, 97, 55, 55, 57, 56, 54, 98, 51, 52, 52, 54, 48, 50, 56, 49, 57, 56, 53, 97, 98, 49, 57, 55, 54, 53, 51, 51, 52, 56, 101, 100, 48, 53, 53, 54, 101, 55, 52, 49, 98, 102, 102, 55, 102, 54, 55, 57, 57, 57, 32, 99, 117, 116, 32, 97, 116, 32, 108, 111, 111, 112, 46, 101, 120, 97, 109, 112, 108, 101, 47, 103, 48, 48, 56, 54, 57, 47, 108, 97, 119, 115, 46, 70, 110, 77, 101, 116] : List Nat).map Char.ofNat))).trans (String.toList_ofList.trans (by kernel_rfl))
theorem ws : behindMainWord (wordsSigns Try.prog.initOrder.toList) = "cut".toList :: wordsSigns (([97, 116, 32, 108, 111, 111, 112, 46, 101, 120, 97, 109, 112, 108, 101, 47, 103, 48, 48, 56, 54, 57, 47, 108, 97, 119, 115, 46, 70, 110, 77, 101, 116] : List Nat).map Char.ofNat) := (Zup io (by kernel_rfl) (by kernel_rfl) (by kernel_rfl) (by kernel_rfl) (by kernel_rfl)).trans (by kernel_rfl)
theorem Zk8 : Try.prog.mayEnter = true := Zld ws (by kernel_rfl) (by kernel_rfl) (by kernel_rfl)
theorem Zr7 : Try.prog.make = some .cut := ZsO ws
theorem ZpM : Try.prog.liftsFinal = false := ZpC ws
theorem Zqf : OG Try.prog 22 (fun xs : List Int => [GV.sl 1 (xs.map (GV.int .u8))]) (fun xs => ∀ x ∈ xs, 0 ≤ x ∧ x ≤ 255) := Zqb (sz := 1) (GV.int .u8) false (fun _ => rfl) Try.underlying22 (by kernel_rfl) (by kernel_rfl) (by decide) (ZwB Try.underlying5 (by kernel_rfl))
end Go.Proofs.Ytnieejghoaccmaa

