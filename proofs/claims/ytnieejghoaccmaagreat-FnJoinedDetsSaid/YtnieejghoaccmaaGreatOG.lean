/- What the types of the arguments of the statements read as. No conditions but those that each theorem names. -/
import Derived.Test.YtnieejghoaccmaaGreatKG
import Derived.Test.YtnieejghoaccmaaGreatTab
import Derived.Test.YtnieejghoaccmaaGreatGFrame
import Derived.Test.YtnieejghoaccmaaGreatChecked
namespace Go.Proofs.YtnieejghoaccmaaGreat
open Go.RowKit
open Shp
variable {n o : Int} {p : Nat → Bool} {xs : List Int}
theorem ZdN {n : Nat}  (i : Nat) (hi : i < n) (h : p i = false) : (!allN n p) = true := by rw [Za5 i hi h]; rfl
theorem Zc3 {n : Nat}  (h : ∀ j, j < n → p j = true) : (!allN n p) = false := by rw [Zbh h]; rfl
theorem Zqs  (h : ZbS xs n = true) : (xs.length : Int) ≤ n ∨ xs = [] := by
 unfold ZbS at h
 rw [allN_iff] at h
 have key : ∀ i : Nat, i < xs.length → (i : Int) ≤ nth xs i := by
  intro i
  induction i with
  | zero => intro hi; have := h 0 hi; simp at this; omega
  | succ i ih =>
   intro hi
   have h1 := ih (by omega)
   have h2 := h (i + 1) hi
   simp at h2
   omega
 rcases Nat.eq_zero_or_pos xs.length with h0 | h0
 ·exact .inr (List.eq_nil_of_length_eq_zero h0)
 ·have h1 := key (xs.length - 1) (by omega)
  have h2 := h (xs.length - 1) (by omega)
  simp at h2
  left; omega
def setB (xs : List Int) (n : Int) : Bool := decide ((xs.length : Int) ≤ n) && ZbS xs n
theorem ZjU  (hn : 0 ≤ n) : setB xs n = ZbS xs n := by
 unfold setB
 cases e : ZbS xs n
 ·simp
 ·rcases Zqs e with h | h
  ·simp [h]
  ·subst h; simpa using hn
def ZaN (s l : List Int) (n : Int) : Bool := decide (s.length ≤ 600) && decide (l.length ≤ 600) && decide (1 ≤ l.length) && below s n && below l n
theorem Zmt {s l : List Int}  (h : ZaN s l n = true) : 1 ≤ l.length ∧ l.length ≤ 600 ∧ s.length ≤ 600 := by
 unfold ZaN at h; simp only [Bool.and_eq_true, decide_eq_true_eq] at h; omega
def pw (n : Int) : Int := 2 ^ n.toNat
def sigB (i o : Int) : Bool := decide (1 ≤ i) && decide (i ≤ 2) && decide (1 ≤ o) && decide (o ≤ 2)
theorem Zqa : pw 1 = 2 ∧ pw 2 = 4 ∧ pw 3 = 8 ∧ pw 4 = 16 ∧ pw 0 = 1 := by decide
def Zaa (i o : Int) : Int := if sigB i o = true then pw (i + o) else 0
theorem Zcz {i : Int} (h : sigB i o = true) : Zaa i o = pw (i + o) := if_pos h
theorem Zaw (i o : Int) : 0 ≤ Zaa i o ∧ Zaa i o ≤ 16 := by
 unfold Zaa sigB
 split
 ·rename_i h
  simp only [Bool.and_eq_true, decide_eq_true_eq] at h
  have h1 : i = 1 ∨ i = 2 := by omega
  have h2 : o = 1 ∨ o = 2 := by omega
  obtain ⟨p1, p2, p3, p4, _⟩ := Zqa
  rcases h1 with rfl | rfl <;> rcases h2 with rfl | rfl <;> simp [p1, p2, p3, p4]
 ·omega
theorem Zqe {i : Int} (h : sigB i o = true) : 1 ≤ i ∧ i ≤ 2 ∧ 1 ≤ o ∧ o ≤ 2 := by
 unfold sigB at h
 simp only [Bool.and_eq_true, decide_eq_true_eq] at h
 omega
theorem ZyU : ∀ k : Nat, k ≤ 10 → (1 : Int) ≤ 2 ^ k ∧ (2 : Int) ^ k ≤ 1024 := by decide
def Zia (k : Int) : Bool := decide (k = 2) || decide (k = 3) || decide (k = 7)
def ZdE (n k : Int) (a b : List Int) : Bool := decide (1 ≤ k) && decide (k ≤ 7) && ZbS a n && ZbS b n && (Zia k || decide (b = []))
end Go.Proofs.YtnieejghoaccmaaGreat

namespace Go.Proofs.YtnieejghoaccmaaGreat
open Go.RowKit
open Shp
end Go.Proofs.YtnieejghoaccmaaGreat

namespace Go.Proofs.YtnieejghoaccmaaGreat
open Go.RowKit
open Shp
theorem ZzZ : ownKnob Tryz.prog.godebug = none := by kernel_rfl
theorem ZyO : laidOutB Tryz.prog = true := by kernel_rfl
theorem io : Tryz.prog.initOrder.toList = (([104, 97, 114, 110, 101, 115, 115] : List Nat).map Char.ofNat) ++ Char.ofNat 32 :: ((([48, 49, 54, 51, 55, 99, 102, 100, 98, 49, 99, 101, 56, 52, 53, 101, 98, 102, 99, 48, 56, 97, 102, 55, 48, 52, 50, 52, 49, 97, 100, 48, 97, 97, 52, 101, 101, 52, 49, 100, 56, 100, 55, 54, 55, 100, 50, 101, 48, 50, 97, 55, 100, 97, 50, 51, 54, 52, 55, 53, 55, 50, 101, 101] : List Nat).map Char.ofNat) ++ Char.ofNat 32 :: ((([99, 117, 116] : List Nat).map Char.ofNat) ++ Char.ofNat 32 :: (([97, 116, 32, 108, 111, 111, 112, 46, 101, 120, 97, 109, 112, 108, 101, 47, 103, 48, 48, 56, 54, 57, 47, 108, 97, 119, 115, 46, 70, 110, 74, 111, 105, 110, 101, 100, 68, 101, 116, 115] : List Nat).map Char.ofNat))) :=
 (congrArg String.toList (by kernel_rfl : Tryz.prog.initOrder = String.ofList (([104, 97, 114, 110, 101, 115, 115, 32, 48, 49, 54, 51, 55, 99, 102, 100, 98, 49, 99, 101, 56, 52, 53, 101, 98, 102, 99, 48, 56, 97, 102, 55, 48, 52, 50, 52, 49, 97, 100, 48, 97, 97, 52, 101, 101, 52, 49, 100, 56, 100, 55, 54, 55, 100, 50, 101, 48, 50, 97, 55, 100, 97, 50, 51, 54, 52, 55, 53, 55, 50, 101, 101, 32, 99, 117, 116, 32, 97, 116, 32, 108, 111, 111, 112, 46, 101, 120, 97, 109, 112, 108, 101, 47, 103, 48, 48, 56, 54, 57, 47, 108, 97, 119, 115, 46, 70, 110, 74, 111, 105, 110, 101, 100, 68, 101, 116, 115] : List Nat).map Char.ofNat))).trans (String.toList_ofList.trans (by kernel_rfl))
theorem ws : behindMainWord (wordsSigns Tryz.prog.initOrder.toList) = "cut".toList :: wordsSigns (([97, 116, 32, 108, 111, 111, 112, 46, 101, 120, 97, 109, 112, 108, 101, 47, 103, 48, 48, 56, 54, 57, 47, 108, 97, 119, 115, 46, 70, 110, 74, 111, 105, 110, 101, 100, 68, 101, 116, 115] : List Nat).map Char.ofNat) := (Zyt io (by kernel_rfl) (by kernel_rfl) (by kernel_rfl) (by kernel_rfl) (by kernel_rfl)).trans (by kernel_rfl)
theorem ZmQ : Tryz.prog.mayEnter = true := ZmN ws (by kernel_rfl) (by kernel_rfl) (by kernel_rfl)
theorem ZtM : Tryz.prog.make = some .cut := Zt4 ws
theorem Zq4 : Tryz.prog.liftsFinal = false := Zrn ws
theorem Zrc : OG Tryz.prog 22 (fun xs : List Int => [GV.sl 1 (xs.map (GV.int .u8))]) (fun xs => ∀ x ∈ xs, 0 ≤ x ∧ x ≤ 255) := Zrw (sz := 1) (GV.int .u8) false (fun _ => rfl) Tryz.underlying22 (by kernel_rfl) (by kernel_rfl) (by decide) (Zzn Tryz.underlying5 (by kernel_rfl))
end Go.Proofs.YtnieejghoaccmaaGreat

