/- Clauses on words. No program in sight; no conditions. -/
import Derived.Test.YtabfpoflhacknaaMM
set_option linter.unusedSimpArgs false
set_option linter.unusedVariables false
namespace Go.Proofs.Ytabfpoflhacknaa
open Go.RowKit
open Shp

/-! what the program's ways come to -/
end Go.Proofs.Ytabfpoflhacknaa

