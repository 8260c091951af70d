/- Contracts of the laws' own functions over data: sizes, copies, equality. No conditions but those that each theorem names. -/
import Derived.Test.YtknkdgacdeeemaaTab
import Derived.Test.YtknkdgacdeeemaaGD
import Derived.Test.YtknkdgacdeeemaaT1
import Derived.Test.YtknkdgacdeeemaaChecked
set_option linter.unusedSimpArgs false
set_option linter.unusedVariables false
namespace Go.Proofs.Ytknkdgacdeeemaa
open Go.RowKit
open Shp

end Go.Proofs.Ytknkdgacdeeemaa
