/- Contracts: machines, automata, their runs. No conditions but those that each theorem names. -/
import Derived.Test.YtdkjeodenbffnaaTab
import Derived.Test.YtdkjeodenbffnaaGD
import Derived.Test.YtdkjeodenbffnaaC1
import Derived.Test.YtdkjeodenbffnaaMM
import Derived.Test.YtdkjeodenbffnaaChecked
set_option linter.unusedSimpArgs false
set_option linter.unusedVariables false
namespace Go.Proofs.Ytdkjeodenbffnaa
open Go.RowKit
open Shp

end Go.Proofs.Ytdkjeodenbffnaa
