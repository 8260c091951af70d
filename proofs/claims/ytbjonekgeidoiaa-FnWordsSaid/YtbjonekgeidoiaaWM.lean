/- Words, clauses, machines: plain laws. No program in sight; no conditions. -/
import Derived.Test.YtbjonekgeidoiaaKG
set_option linter.unusedSimpArgs false
set_option linter.unusedVariables false
namespace Go.Proofs.Ytbjonekgeidoiaa
open Go.RowKit
open Shp

theorem nallN_true {n : Nat} {p : Nat → Bool} (i : Nat) (hi : i < n) (h : p i = false) : (!allN n p) = true := by rw [allN_false i hi h]; rfl
theorem nallN_false {n : Nat} {p : Nat → Bool} (h : ∀ j, j < n → p j = true) : (!allN n p) = false := by rw [allN_true h]; rfl

/-- a word of letters below n -/
def wordB (s l : List Int) (n : Int) : Bool := decide (s.length ≤ 600) && decide (l.length ≤ 600) && decide (1 ≤ l.length) && below s n && below l n
theorem wordB_r {s l : List Int} {n : Int} (h : wordB s l n = true) : 1 ≤ l.length ∧ l.length ≤ 600 ∧ s.length ≤ 600 := by
  unfold wordB at h; simp only [Bool.and_eq_true, decide_eq_true_eq] at h; omega
end Go.Proofs.Ytbjonekgeidoiaa

