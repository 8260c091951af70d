/- Monitors, outputs to states, joined automata. No program in sight; no conditions. -/
import Derived.Test.YtabfpoflhacknaaMF
set_option linter.unusedSimpArgs false
set_option linter.unusedVariables false
namespace Go.Proofs.Ytabfpoflhacknaa
open Go.RowKit
open Shp
def letterB (i o x y : Int) : Int := if sigB i o = true ∧ 0 ≤ x ∧ x < pw i ∧ 0 ≤ y ∧ y < pw o then y * pw i + x else -1
end Go.Proofs.Ytabfpoflhacknaa

