/- The library's numerals and words as contracts. No conditions but those that each theorem names. -/
import Derived.Test.YtachnjinfdagjaaDoorSX
import Derived.Test.YtachnjinfdagjaaDoorKG
set_option linter.unusedSimpArgs false
set_option linter.unusedVariables false
namespace Go.Proofs.YtachnjinfdagjaaDoor
open Go.RowKit
open Shp
end Go.Proofs.YtachnjinfdagjaaDoor

