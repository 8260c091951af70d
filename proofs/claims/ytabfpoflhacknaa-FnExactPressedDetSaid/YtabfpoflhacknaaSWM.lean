/- Infinite words: their letters, least representations. No program in sight; no conditions. -/
import Derived.Test.YtabfpoflhacknaaWM
set_option linter.unusedSimpArgs false
set_option linter.unusedVariables false
namespace Go.Proofs.Ytabfpoflhacknaa
open Go.RowKit
open Shp

/-! two representations of one word -/
end Go.Proofs.Ytabfpoflhacknaa

