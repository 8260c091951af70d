/- Sizes of results. No program in sight; no conditions. -/
import Derived.Test.YtabfpoflhacknaaMQ
import Derived.Test.YtabfpoflhacknaaMS
import Derived.Test.YtabfpoflhacknaaMK0
set_option linter.unusedSimpArgs false
set_option linter.unusedVariables false
namespace Go.Proofs.Ytabfpoflhacknaa
open Go.RowKit
open Shp
end Go.Proofs.Ytabfpoflhacknaa

