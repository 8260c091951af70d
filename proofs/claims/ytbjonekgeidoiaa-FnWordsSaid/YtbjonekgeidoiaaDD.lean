/- Draws by dice: sets, clauses, words, machines. No program in sight; no conditions. -/
import Derived.Test.YtbjonekgeidoiaaHM
import Derived.Test.YtbjonekgeidoiaaDR
set_option linter.unusedSimpArgs false
set_option linter.unusedVariables false
namespace Go.Proofs.Ytbjonekgeidoiaa
open Go.RowKit
open Shp

end Go.Proofs.Ytbjonekgeidoiaa

