/- The library's strings.Split at one byte, as a contract. No conditions but those that each theorem names. -/
import Derived.Test.YtachnjinfdagjaaDoorTC
set_option linter.unusedSimpArgs false
set_option linter.unusedVariables false
namespace Go.Proofs.YtachnjinfdagjaaDoor
open Go.RowKit Go.Shelf Go.Lib
open Shp
section
variable {P : Program} {ρ : Ren}
end
end Go.Proofs.YtachnjinfdagjaaDoor

