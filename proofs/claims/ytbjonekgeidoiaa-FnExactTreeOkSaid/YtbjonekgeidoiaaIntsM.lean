/- Plain lists of numbers: taking a prefix by one more, equality, marks. No program in sight; no conditions. -/
import Derived.Test.YtbjonekgeidoiaaBase
set_option linter.unusedSimpArgs false
set_option linter.unusedVariables false
namespace Go.Proofs.Ytbjonekgeidoiaa

/-- The numbers k, k+1, .. of a list that 'mark' leaves. -/
def marks (k : Int) (n : Nat) : List Int := (List.range n).map fun (i : Nat) => k + (i : Int)

/-- What is left of a measure behind n pieces. -/
def sz (n : Nat) (left : Int) : Int := if left - n < 0 then -1 else left - n

end Go.Proofs.Ytbjonekgeidoiaa

