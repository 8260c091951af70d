/- How many numbers the data of the laws hold, by their sizes. No program in sight; no conditions. -/
import Derived.Test.YtachnjinfdagjaaDoorTM
import Derived.Test.YtachnjinfdagjaaDoorMK0
set_option linter.unusedSimpArgs false
set_option linter.unusedVariables false
namespace Go.Proofs.YtachnjinfdagjaaDoor
open Go.RowKit
open Shp
end Go.Proofs.YtachnjinfdagjaaDoor

