/- Contracts of the laws' own functions over data: sizes, copies, equality. No conditions but those that each theorem names. -/
import Derived.Test.YtachnjinfdagjaaDoorTab
import Derived.Test.YtachnjinfdagjaaDoorKG
import Derived.Test.YtachnjinfdagjaaDoorTM
import Derived.Test.YtachnjinfdagjaaDoorW1
import Derived.Test.YtachnjinfdagjaaDoorChecked
set_option linter.unusedSimpArgs false
set_option linter.unusedVariables false
namespace Go.Proofs.YtachnjinfdagjaaDoor
open Go.RowKit
open Shp
end Go.Proofs.YtachnjinfdagjaaDoor

namespace Go.Proofs.YtachnjinfdagjaaDoor
open Go.RowKit
open Shp
end Go.Proofs.YtachnjinfdagjaaDoor

