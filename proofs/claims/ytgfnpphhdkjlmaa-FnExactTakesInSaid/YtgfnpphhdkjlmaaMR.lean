/- Sizes of results. No program in sight; no conditions. -/
import Derived.Test.YtgfnpphhdkjlmaaMQ
import Derived.Test.YtgfnpphhdkjlmaaMS
import Derived.Test.YtgfnpphhdkjlmaaMK0
set_option linter.unusedSimpArgs false
set_option linter.unusedVariables false
namespace Go.Proofs.Ytgfnpphhdkjlmaa
open Go.RowKit
open Shp
end Go.Proofs.Ytgfnpphhdkjlmaa

