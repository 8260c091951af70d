/- Contracts: outputs of machines, states found, states alike. No conditions but those that each theorem names. -/
import Derived.Test.YtabfpoflhacknaaTab
import Derived.Test.YtabfpoflhacknaaKG
import Derived.Test.YtabfpoflhacknaaM2
import Derived.Test.YtabfpoflhacknaaMS
import Derived.Test.YtabfpoflhacknaaMQ
import Derived.Test.YtabfpoflhacknaaChecked
set_option linter.unusedSimpArgs false
set_option linter.unusedVariables false
namespace Go.Proofs.Ytabfpoflhacknaa
open Go.RowKit
open Shp

end Go.Proofs.Ytabfpoflhacknaa

