/- Monitors, outputs to states, joined automata. No program in sight; no conditions. -/
import Derived.Test.YtbjonekgeidoiaaMF
set_option linter.unusedSimpArgs false
set_option linter.unusedVariables false
namespace Go.Proofs.Ytbjonekgeidoiaa
open Go.RowKit
open Shp
def letterB (i o x y : Int) : Int := if sigB i o = true ∧ 0 ≤ x ∧ x < pw i ∧ 0 ≤ y ∧ y < pw o then y * pw i + x else -1
theorem letter_r {i o k m : Int} {row : List Int} (hp : 1 ≤ i ∧ i ≤ 2 ∧ 1 ≤ o ∧ o ≤ 2 ∧ 2 ≤ pw i ∧ pw i ≤ 4 ∧ 2 ≤ pw o ∧ pw o ≤ 4 ∧ 4 ≤ pw (i + o) ∧ pw (i + o) ≤ 16 ∧ lettersB i o = pw (i + o) ∧ pw (i + o) = pw i * pw o ∧ pw i = 2 ^ i.toNat ∧ pw o = 2 ^ o.toNat ∧ pw (i + o) = 2 ^ (i + o).toNat) (hm : 0 ≤ m ∧ m < pw o) (hk : 0 ≤ k ∧ k < pw i) (hr : (row.length : Int) = lettersB i o) : 0 ≤ m * pw i ∧ m * pw i + k < row.length := by
  have e : lettersB i o = pw i * pw o := by omega
  have h1 : m * pw i ≤ (pw o - 1) * pw i := Int.mul_le_mul_of_nonneg_right (by omega) (by omega)
  have h2 : (pw o - 1) * pw i = pw i * pw o - pw i := by rw [Int.sub_mul, Int.mul_comm]; omega
  have h3 : 0 ≤ m * pw i := Int.mul_nonneg (by omega) (by omega)
  omega
end Go.Proofs.Ytbjonekgeidoiaa

