/- Two machines side by side: the steps of the search. No program in sight; no conditions. -/
import Derived.Test.YtachnjinfdagjaaDoorMS
set_option linter.unusedSimpArgs false
set_option linter.unusedVariables false
namespace Go.Proofs.YtachnjinfdagjaaDoor
open Go.RowKit
open Shp
section
variable {a oa b ob : List (List Int)} {W : Nat} {os ps : List (Int × Int)} {k x f : Nat}
end
section
variable {n out : List (List Int)} {os ps : List Int} {k x f : Nat}
end
section
variable {n out : List (List Int)} {os ps : List Int} {k x f : Nat}
end
end Go.Proofs.YtachnjinfdagjaaDoor

