/- Monitors, outputs to states, joined automata. No program in sight; no conditions. -/
import Derived.Test.YtachnjinfdagjaaDoorMF
set_option linter.unusedSimpArgs false
set_option linter.unusedVariables false
namespace Go.Proofs.YtachnjinfdagjaaDoor
open Go.RowKit
open Shp
end Go.Proofs.YtachnjinfdagjaaDoor

