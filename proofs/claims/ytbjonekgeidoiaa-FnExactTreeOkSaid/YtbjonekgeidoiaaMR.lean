/- Sizes of results. No program in sight; no conditions. -/
import Derived.Test.YtbjonekgeidoiaaMQ
import Derived.Test.YtbjonekgeidoiaaMS
import Derived.Test.YtbjonekgeidoiaaMK0
set_option linter.unusedSimpArgs false
set_option linter.unusedVariables false
namespace Go.Proofs.Ytbjonekgeidoiaa
open Go.RowKit
open Shp

end Go.Proofs.Ytbjonekgeidoiaa

