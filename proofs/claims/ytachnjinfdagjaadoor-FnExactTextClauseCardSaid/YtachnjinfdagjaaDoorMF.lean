/- Machines: states found, states alike. No program in sight; no conditions. -/
import Derived.Test.YtachnjinfdagjaaDoorMG
set_option linter.unusedSimpArgs false
set_option linter.unusedVariables false
namespace Go.Proofs.YtachnjinfdagjaaDoor
open Go.RowKit
open Shp
def it {α : Type} (f : α → α) : Nat → α → α
  | 0, c => c
  | j + 1, c => it f j (f c)
end Go.Proofs.YtachnjinfdagjaaDoor

