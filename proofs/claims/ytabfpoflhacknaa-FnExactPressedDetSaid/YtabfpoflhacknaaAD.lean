/- Contracts: states of automata that are alike. No conditions but those that each theorem names. -/
import Derived.Test.YtabfpoflhacknaaTab
import Derived.Test.YtabfpoflhacknaaKG
import Derived.Test.YtabfpoflhacknaaAA
import Derived.Test.YtabfpoflhacknaaAC
import Derived.Test.YtabfpoflhacknaaPD
import Derived.Test.YtabfpoflhacknaaChecked
set_option linter.unusedSimpArgs false
set_option linter.unusedVariables false
namespace Go.Proofs.Ytabfpoflhacknaa
open Go.RowKit
open Shp

end Go.Proofs.Ytabfpoflhacknaa

