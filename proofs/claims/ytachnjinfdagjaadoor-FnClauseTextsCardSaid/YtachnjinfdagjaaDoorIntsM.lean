/- Plain lists of numbers: taking a prefix by one more, equality, marks. No program in sight; no conditions. -/
import Derived.Test.YtachnjinfdagjaaDoorBase
set_option linter.unusedSimpArgs false
set_option linter.unusedVariables false
namespace Go.Proofs.YtachnjinfdagjaaDoor
def marks (k : Int) (n : Nat) : List Int := (List.range n).map fun (i : Nat) => k + (i : Int)
def held (xs : List Int) (k : Int) : Int := if xs = marks k xs.length then k + xs.length else -1
def sz (n : Nat) (left : Int) : Int := if left - n < 0 then -1 else left - n
end Go.Proofs.YtachnjinfdagjaaDoor

