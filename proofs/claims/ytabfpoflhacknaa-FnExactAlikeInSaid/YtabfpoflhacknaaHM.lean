/- Clauses on words. No program in sight; no conditions. -/
import Derived.Test.YtabfpoflhacknaaMM
set_option linter.unusedSimpArgs false
set_option linter.unusedVariables false
namespace Go.Proofs.Ytabfpoflhacknaa
open Go.RowKit
open Shp

/-! what the program's ways come to -/
theorem detB_sig {i o : Int} {n : List (List Int)} {ps : List (List Int × List Int)} (h : detB i o n ps = true) : sigB i o = true := (detB_r h).1
end Go.Proofs.Ytabfpoflhacknaa

