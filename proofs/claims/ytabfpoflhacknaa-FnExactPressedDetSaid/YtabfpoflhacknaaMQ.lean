/- Monitors, outputs to states, joined automata. No program in sight; no conditions. -/
import Derived.Test.YtabfpoflhacknaaMF
set_option linter.unusedSimpArgs false
set_option linter.unusedVariables false
namespace Go.Proofs.Ytabfpoflhacknaa
open Go.RowKit
open Shp

def bit (b : Bool) : Int := if b then 1 else 0
end Go.Proofs.Ytabfpoflhacknaa

