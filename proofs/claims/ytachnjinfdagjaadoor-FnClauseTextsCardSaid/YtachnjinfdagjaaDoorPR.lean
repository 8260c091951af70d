/- Products of clauses, step by step. No program in sight; no conditions. -/
import Derived.Test.YtachnjinfdagjaaDoorJM
import Derived.Test.YtachnjinfdagjaaDoorM4
set_option linter.unusedSimpArgs false
set_option linter.unusedVariables false
namespace Go.Proofs.YtachnjinfdagjaaDoor
open Go.RowKit
open Shp
section
variable {a b : List (List Int)} {os ps : List (Int × Int)} {k x : Nat}
end
end Go.Proofs.YtachnjinfdagjaaDoor

namespace Go.Proofs.YtachnjinfdagjaaDoor
open Go.RowKit
open Shp
end Go.Proofs.YtachnjinfdagjaaDoor

namespace Go.Proofs.YtachnjinfdagjaaDoor
open Go.RowKit
open Shp
section
variable {i o : Int} {cs : List (Int × List Int × List Int)} {j : Nat} {x : List (List Int) × List (List Int × List Int)}
end
end Go.Proofs.YtachnjinfdagjaaDoor

