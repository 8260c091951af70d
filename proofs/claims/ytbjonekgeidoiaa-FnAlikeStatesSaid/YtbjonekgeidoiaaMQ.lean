/- Monitors, outputs to states, joined automata. No program in sight; no conditions. -/
import Derived.Test.YtbjonekgeidoiaaMF
set_option linter.unusedSimpArgs false
set_option linter.unusedVariables false
namespace Go.Proofs.Ytbjonekgeidoiaa
open Go.RowKit
open Shp

def bit (b : Bool) : Int := if b then 1 else 0
noncomputable def alikeB (i o : Int) (n out : List (List Int)) : List Int := if machB i o n out = true then alikeN n out else []
end Go.Proofs.Ytbjonekgeidoiaa

