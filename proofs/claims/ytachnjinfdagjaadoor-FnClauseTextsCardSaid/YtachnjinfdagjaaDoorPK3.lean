/- A store into a row of a list of rows of the call's own: the rules of a walk. Over any program; no conditions. -/
import Derived.Test.YtachnjinfdagjaaDoorKC
import Derived.Laws.IdiomCopy
import Derived.Test.YtachnjinfdagjaaDoorKG
set_option linter.unusedSimpArgs false
set_option linter.unusedVariables false
namespace Go.Proofs.YtachnjinfdagjaaDoor
open Go.RowKit
open Shp
def kv (k : Bool) : Value → Bool
  | .bool _ => k
  | .int .i64 _ => !k
  | _ => false
end Go.Proofs.YtachnjinfdagjaaDoor

namespace Go.Proofs.YtachnjinfdagjaaDoor
open Go.RowKit
open Shp
section
variable {P : Program} {tab : Tab}
end
end Go.Proofs.YtachnjinfdagjaaDoor

namespace Go.Proofs.YtachnjinfdagjaaDoor
open Go.RowKit
open Shp
end Go.Proofs.YtachnjinfdagjaaDoor

namespace Go.Proofs.YtachnjinfdagjaaDoor
open Go.RowKit
open Shp
section
variable {lv : Nat → List Nat} {P : Program} {tab : Tab} {n : Nat} {sl : List (Nat × PV)} {hl : List (Nat × Block)} {Q : Exit → AState → Prop}
end
end Go.Proofs.YtachnjinfdagjaaDoor

