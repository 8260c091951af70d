/- Machines: outputs, states found, states alike. No program in sight; no conditions. -/
import Derived.Test.YtachnjinfdagjaaDoorMM
set_option linter.unusedSimpArgs false
set_option linter.unusedVariables false
namespace Go.Proofs.YtachnjinfdagjaaDoor
open Go.RowKit
open Shp
end Go.Proofs.YtachnjinfdagjaaDoor

