/- Two automata joined: pairs as rows, parts of pairs, what the product is. No program in sight; no conditions. -/
import Derived.Test.YtabfpoflhacknaaJM
set_option linter.unusedSimpArgs false
set_option linter.unusedVariables false
namespace Go.Proofs.Ytabfpoflhacknaa
open Go.RowKit
open Shp
section
variable {a b : List (List Int)} {os ps : List (Int × Int)} {k x : Nat}
end
end Go.Proofs.Ytabfpoflhacknaa

