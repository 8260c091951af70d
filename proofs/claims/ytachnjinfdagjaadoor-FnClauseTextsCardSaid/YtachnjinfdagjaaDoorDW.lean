/- Draws by the cursor: words. No program in sight; no conditions. -/
import Derived.Test.YtachnjinfdagjaaDoorM4
set_option linter.unusedSimpArgs false
set_option linter.unusedVariables false
namespace Go.Proofs.YtachnjinfdagjaaDoor
open Go.RowKit
open Shp
def oddT : List Int := [-1, 0, 1, 2147483648, -2147483648, 1099511627776, 4611686018427387904, -4611686018427387904, 9223372036854775807, -9223372036854775808]
def oddX (bs : List Int) (s : Nat × Int) : Int := nth oddT (belowX bs 10 s).toNat
def numT (bs : List Int) (m : Int) (s : Nat × Int) : List Int := [-1, m, m + 1, oddX bs s]
def numA (bs : List Int) (m : Int) (s : Nat × Int) : Int × (Nat × Int) := (nth (numT bs m s) (belowX bs 4 (belowS bs 10 s)).toNat, belowS bs 4 (belowS bs 10 s))
def numB (bs : List Int) (m : Int) (s : Nat × Int) : Int × (Nat × Int) := if onceB bs 2 s = true then (belowX bs (min m 4 + 1) (belowS bs 2 s), belowS bs (min m 4 + 1) (belowS bs 2 s)) else (belowX bs (m + 1) (belowS bs 2 s), belowS bs (m + 1) (belowS bs 2 s))
def numD (bs : List Int) (m : Int) (s : Nat × Int) : Int × (Nat × Int) := if onceB bs 10 s = true then numA bs m (belowS bs 10 s) else numB bs m (belowS bs 10 s)
end Go.Proofs.YtachnjinfdagjaaDoor

