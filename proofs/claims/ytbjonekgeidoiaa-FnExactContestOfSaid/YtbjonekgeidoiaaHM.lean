/- Clauses on words. No program in sight; no conditions. -/
import Derived.Test.YtbjonekgeidoiaaMM
set_option linter.unusedSimpArgs false
set_option linter.unusedVariables false
namespace Go.Proofs.Ytbjonekgeidoiaa
open Go.RowKit
open Shp
end Go.Proofs.Ytbjonekgeidoiaa

