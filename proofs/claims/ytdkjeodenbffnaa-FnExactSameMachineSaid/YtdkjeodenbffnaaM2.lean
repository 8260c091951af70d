/- Contracts: clauses on words. No conditions but those that each theorem names. -/
import Derived.Test.YtdkjeodenbffnaaTab
import Derived.Test.YtdkjeodenbffnaaKG
import Derived.Test.YtdkjeodenbffnaaM1
import Derived.Test.YtdkjeodenbffnaaHM
import Derived.Test.YtdkjeodenbffnaaChecked
set_option linter.unusedSimpArgs false
set_option linter.unusedVariables false
namespace Go.Proofs.Ytdkjeodenbffnaa
open Go.RowKit
open Shp

end Go.Proofs.Ytdkjeodenbffnaa
