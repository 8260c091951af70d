/- Sets that meet, pairs that are broken. No program in sight; no conditions. -/
import Derived.Test.YtabfpoflhacknaaME
import Derived.Test.YtabfpoflhacknaaPO
set_option linter.unusedSimpArgs false
set_option linter.unusedVariables false
namespace Go.Proofs.Ytabfpoflhacknaa
open Go.RowKit
open Shp
section
variable {ps : List (List Int × List Int)} {met : List Int} {k : Nat}
end
section
variable {i o : Int} {n : List (List Int)} {ps : List (List Int × List Int)} {s l : List Int}
end
end Go.Proofs.Ytabfpoflhacknaa

