/- Contracts: products of clauses. No conditions but those that each theorem names. -/
import Derived.Test.YtachnjinfdagjaaDoorTab
import Derived.Test.YtachnjinfdagjaaDoorKG
import Derived.Test.YtachnjinfdagjaaDoorM4
import Derived.Test.YtachnjinfdagjaaDoorMS
import Derived.Test.YtachnjinfdagjaaDoorChecked
import Derived.Test.YtachnjinfdagjaaDoorPK3
import Derived.Test.YtachnjinfdagjaaDoorJM
import Derived.Test.YtachnjinfdagjaaDoorPR
set_option linter.unusedSimpArgs false
set_option linter.unusedVariables false
namespace Go.Proofs.YtachnjinfdagjaaDoor
open Go.RowKit
open Shp
end Go.Proofs.YtachnjinfdagjaaDoor

namespace Go.Proofs.YtachnjinfdagjaaDoor
open Go.RowKit
open Shp
end Go.Proofs.YtachnjinfdagjaaDoor

namespace Go.Proofs.YtachnjinfdagjaaDoor
open Go.RowKit
open Shp
end Go.Proofs.YtachnjinfdagjaaDoor

namespace Go.Proofs.YtachnjinfdagjaaDoor
open Go.RowKit
open Shp
end Go.Proofs.YtachnjinfdagjaaDoor

namespace Go.Proofs.YtachnjinfdagjaaDoor
open Go.RowKit
open Shp
end Go.Proofs.YtachnjinfdagjaaDoor

namespace Go.Proofs.YtachnjinfdagjaaDoor
open Go.RowKit
open Shp
end Go.Proofs.YtachnjinfdagjaaDoor

namespace Go.Proofs.YtachnjinfdagjaaDoor
open Go.RowKit
open Shp
end Go.Proofs.YtachnjinfdagjaaDoor

namespace Go.Proofs.YtachnjinfdagjaaDoor
open Go.RowKit
open Shp
end Go.Proofs.YtachnjinfdagjaaDoor

namespace Go.Proofs.YtachnjinfdagjaaDoor
open Go.RowKit
open Shp
end Go.Proofs.YtachnjinfdagjaaDoor

namespace Go.Proofs.YtachnjinfdagjaaDoor
open Go.RowKit
open Shp
end Go.Proofs.YtachnjinfdagjaaDoor

