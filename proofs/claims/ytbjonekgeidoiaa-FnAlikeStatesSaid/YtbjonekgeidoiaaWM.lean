/- Words, clauses, machines: plain laws. No program in sight; no conditions. -/
import Derived.Test.YtbjonekgeidoiaaKG
set_option linter.unusedSimpArgs false
set_option linter.unusedVariables false
namespace Go.Proofs.Ytbjonekgeidoiaa
open Go.RowKit
open Shp

/-- 2 to a small power -/
def pw (n : Int) : Int := 2 ^ n.toNat
def sigB (i o : Int) : Bool := decide (1 ≤ i) && decide (i ≤ 2) && decide (1 ≤ o) && decide (o ≤ 2)
theorem pw_vals : pw 1 = 2 ∧ pw 2 = 4 ∧ pw 3 = 8 ∧ pw 4 = 16 ∧ pw 0 = 1 := by decide
def lettersB (i o : Int) : Int := if sigB i o = true then pw (i + o) else 0
theorem lettersB_pos {i o : Int} (h : sigB i o = true) : lettersB i o = pw (i + o) := if_pos h
theorem sigB_r {i o : Int} (h : sigB i o = true) : 1 ≤ i ∧ i ≤ 2 ∧ 1 ≤ o ∧ o ≤ 2 := by
  unfold sigB at h
  simp only [Bool.and_eq_true, decide_eq_true_eq] at h
  omega
theorem p2_le : ∀ k : Nat, k ≤ 10 → (1 : Int) ≤ 2 ^ k ∧ (2 : Int) ^ k ≤ 1024 := by decide
end Go.Proofs.Ytbjonekgeidoiaa

