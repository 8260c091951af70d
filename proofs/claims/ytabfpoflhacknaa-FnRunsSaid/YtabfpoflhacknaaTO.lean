/- Plain suffixes of infinite words. No program in sight; no conditions. -/
import Derived.Test.YtabfpoflhacknaaSWM
set_option linter.unusedSimpArgs false
set_option linter.unusedVariables false
namespace Go.Proofs.Ytabfpoflhacknaa
open Go.RowKit
open Shp
end Go.Proofs.Ytabfpoflhacknaa

