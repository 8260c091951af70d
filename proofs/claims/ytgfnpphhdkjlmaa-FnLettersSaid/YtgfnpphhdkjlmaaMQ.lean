/- Monitors, outputs to states, joined automata. No program in sight; no conditions. -/
import Derived.Test.YtgfnpphhdkjlmaaMF
set_option linter.unusedSimpArgs false
set_option linter.unusedVariables false
namespace Go.Proofs.Ytgfnpphhdkjlmaa
open Go.RowKit
open Shp

def bit (b : Bool) : Int := if b then 1 else 0
/-- a letter -/
def letterB (i o x y : Int) : Int := if sigB i o = true ∧ 0 ≤ x ∧ x < pw i ∧ 0 ≤ y ∧ y < pw o then y * pw i + x else -1
end Go.Proofs.Ytgfnpphhdkjlmaa

