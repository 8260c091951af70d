/- Contracts of the laws' own functions over data: sizes, copies, equality. No conditions but those that each theorem names. -/
import Derived.Test.YtdkjeodenbffnaaTab
import Derived.Test.YtdkjeodenbffnaaGD
import Derived.Test.YtdkjeodenbffnaaT1
import Derived.Test.YtdkjeodenbffnaaChecked
set_option linter.unusedSimpArgs false
set_option linter.unusedVariables false
namespace Go.Proofs.Ytdkjeodenbffnaa
open Go.RowKit
open Shp

end Go.Proofs.Ytdkjeodenbffnaa
