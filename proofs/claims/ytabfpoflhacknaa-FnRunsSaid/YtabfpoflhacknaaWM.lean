/- Words, clauses, machines: plain laws. No program in sight; no conditions. -/
import Derived.Test.YtabfpoflhacknaaKG
set_option linter.unusedSimpArgs false
set_option linter.unusedVariables false
namespace Go.Proofs.Ytabfpoflhacknaa
open Go.RowKit
open Shp
theorem nallN_true {n : Nat} {p : Nat → Bool} (i : Nat) (hi : i < n) (h : p i = false) : (!allN n p) = true := by rw [allN_false i hi h]; rfl
theorem nallN_false {n : Nat} {p : Nat → Bool} (h : ∀ j, j < n → p j = true) : (!allN n p) = false := by rw [allN_true h]; rfl
def wordB (s l : List Int) (n : Int) : Bool := decide (s.length ≤ 600) && decide (l.length ≤ 600) && decide (1 ≤ l.length) && below s n && below l n
theorem wordB_r {s l : List Int} {n : Int} (h : wordB s l n = true) : 1 ≤ l.length ∧ l.length ≤ 600 ∧ s.length ≤ 600 := by
  unfold wordB at h; simp only [Bool.and_eq_true, decide_eq_true_eq] at h; omega
def pw (n : Int) : Int := 2 ^ n.toNat
def sigB (i o : Int) : Bool := decide (1 ≤ i) && decide (i ≤ 2) && decide (1 ≤ o) && decide (o ≤ 2)
theorem pw_vals : pw 1 = 2 ∧ pw 2 = 4 ∧ pw 3 = 8 ∧ pw 4 = 16 ∧ pw 0 = 1 := by decide
def lettersB (i o : Int) : Int := if sigB i o = true then pw (i + o) else 0
theorem lettersB_pos {i o : Int} (h : sigB i o = true) : lettersB i o = pw (i + o) := if_pos h
theorem lettersB_range (i o : Int) : 0 ≤ lettersB i o ∧ lettersB i o ≤ 16 := by
  unfold lettersB sigB
  split
  · rename_i h
    simp only [Bool.and_eq_true, decide_eq_true_eq] at h
    have h1 : i = 1 ∨ i = 2 := by omega
    have h2 : o = 1 ∨ o = 2 := by omega
    obtain ⟨p1, p2, p3, p4, _⟩ := pw_vals
    rcases h1 with rfl | rfl <;> rcases h2 with rfl | rfl <;> simp [p1, p2, p3, p4]
  · omega
theorem sigB_r {i o : Int} (h : sigB i o = true) : 1 ≤ i ∧ i ≤ 2 ∧ 1 ≤ o ∧ o ≤ 2 := by
  unfold sigB at h
  simp only [Bool.and_eq_true, decide_eq_true_eq] at h
  omega
theorem p2_le : ∀ k : Nat, k ≤ 10 → (1 : Int) ≤ 2 ^ k ∧ (2 : Int) ^ k ≤ 1024 := by decide
end Go.Proofs.Ytabfpoflhacknaa

