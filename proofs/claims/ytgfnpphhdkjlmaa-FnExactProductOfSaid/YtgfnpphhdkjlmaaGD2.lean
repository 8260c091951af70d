/- Pairs of numbers, as trees. No program in sight; no conditions. -/
import Derived.Test.YtgfnpphhdkjlmaaKG
set_option linter.unusedSimpArgs false
set_option linter.unusedVariables false
namespace Go.Proofs.Ytgfnpphhdkjlmaa
open Go.RowKit
open Shp
abbrev GV.pr (p : Int × Int) : GV := .agg [.i p.1, .i p.2]
abbrev GV.prs (ps : List (Int × Int)) : GV := .sl 2 (ps.map GV.pr)
abbrev GV.detP (d : List (List Int) × List (List Int × List Int)) : GV := .det d.1 d.2
end Go.Proofs.Ytgfnpphhdkjlmaa

