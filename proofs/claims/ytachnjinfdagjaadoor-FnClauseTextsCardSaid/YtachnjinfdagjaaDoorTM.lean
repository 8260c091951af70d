/- The types of the laws: sizes, equality. No program in sight; no conditions. -/
import Derived.Test.YtachnjinfdagjaaDoorWM
set_option linter.unusedSimpArgs false
set_option linter.unusedVariables false
namespace Go.Proofs.YtachnjinfdagjaaDoor
open Go.RowKit
open Shp
end Go.Proofs.YtachnjinfdagjaaDoor

