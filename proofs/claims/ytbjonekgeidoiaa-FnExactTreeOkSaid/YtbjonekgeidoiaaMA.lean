/- Contracts: sets that meet, pairs that are broken, what an automaton accepts. No conditions but those that each theorem names. -/
import Derived.Test.YtbjonekgeidoiaaTab
import Derived.Test.YtbjonekgeidoiaaKG
import Derived.Test.YtbjonekgeidoiaaM9
import Derived.Test.YtbjonekgeidoiaaBS
import Derived.Test.YtbjonekgeidoiaaPB
import Derived.Test.YtbjonekgeidoiaaChecked
set_option linter.unusedSimpArgs false
set_option linter.unusedVariables false
namespace Go.Proofs.Ytbjonekgeidoiaa
open Go.RowKit
open Shp

end Go.Proofs.Ytbjonekgeidoiaa

