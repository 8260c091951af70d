/- Search in breadth, over data of any kind. No program in sight; no conditions. -/
import Derived.Test.YtachnjinfdagjaaDoorMN
set_option linter.unusedSimpArgs false
set_option linter.unusedVariables false
namespace Go.Proofs.YtachnjinfdagjaaDoor
open Go.RowKit
open Shp
section
variable {α : Type} [DecidableEq α]
variable [Inhabited α]
end
section
variable {α β : Type} [DecidableEq α] [DecidableEq β] [Inhabited α] [Inhabited β]
end
end Go.Proofs.YtachnjinfdagjaaDoor

