/- Contracts: clauses on words. No conditions but those that each theorem names. -/
import Derived.Test.YtgfnpphhdkjlmaaTab
import Derived.Test.YtgfnpphhdkjlmaaKG
import Derived.Test.YtgfnpphhdkjlmaaM1
import Derived.Test.YtgfnpphhdkjlmaaHM
import Derived.Test.YtgfnpphhdkjlmaaChecked
set_option linter.unusedSimpArgs false
set_option linter.unusedVariables false
namespace Go.Proofs.Ytgfnpphhdkjlmaa
open Go.RowKit
open Shp

end Go.Proofs.Ytgfnpphhdkjlmaa

