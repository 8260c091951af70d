/- The library's search in an ascending slice of numbers. No conditions but those that each theorem names. -/
import Derived.Test.YtbjonekgeidoiaaSO
import Derived.Test.YtbjonekgeidoiaaIN
import Derived.Deep.LoopGhost
set_option linter.unusedSimpArgs false
set_option linter.unusedVariables false
namespace Go.Proofs.Ytbjonekgeidoiaa
open Go.RowKit
open Shp

end Go.Proofs.Ytbjonekgeidoiaa

