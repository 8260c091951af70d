/- Contracts of the laws' own functions over data: sizes, copies, equality. No conditions but those that each theorem names. -/
import Derived.Test.YtnieejghoaccmaaTab
import Derived.Test.YtnieejghoaccmaaKG
import Derived.Test.YtnieejghoaccmaaOG
import Derived.Test.YtnieejghoaccmaaW1
import Derived.Test.YtnieejghoaccmaaChecked
set_option linter.unusedSimpArgs false
set_option linter.unusedVariables false
namespace Go.Proofs.Ytnieejghoaccmaa
open Go.RowKit
open Shp
end Go.Proofs.Ytnieejghoaccmaa

namespace Go.Proofs.Ytnieejghoaccmaa
open Go.RowKit
open Shp
end Go.Proofs.Ytnieejghoaccmaa

