/- Machines that answer alike have one least machine. No program in sight; no conditions. -/
import Derived.Test.YtachnjinfdagjaaDoorMF
set_option linter.unusedSimpArgs false
set_option linter.unusedVariables false
namespace Go.Proofs.YtachnjinfdagjaaDoor
open Go.RowKit
open Shp
section
variable {n out : List (List Int)} {W : Nat}
end
section
variable {a oa b ob : List (List Int)} {W : Nat}
end
end Go.Proofs.YtachnjinfdagjaaDoor

