/- Contracts of the laws' own functions over data: sizes, copies, equality. No conditions but those that each theorem names. -/
import Derived.Test.YtabfpoflhacknaaGreatTab
import Derived.Test.YtabfpoflhacknaaGreatKG
import Derived.Test.YtabfpoflhacknaaGreatOG
import Derived.Test.YtabfpoflhacknaaGreatW1
import Derived.Test.YtabfpoflhacknaaGreatChecked
set_option linter.unusedSimpArgs false
set_option linter.unusedVariables false
namespace Go.Proofs.YtabfpoflhacknaaGreat
open Go.RowKit
open Shp
end Go.Proofs.YtabfpoflhacknaaGreat

namespace Go.Proofs.YtabfpoflhacknaaGreat
open Go.RowKit
open Shp
end Go.Proofs.YtabfpoflhacknaaGreat

