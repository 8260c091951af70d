/- Two automata joined: the search of pairs of states, at most so many. No program in sight; no conditions. -/
import Derived.Test.YtachnjinfdagjaaDoorMS
import Derived.Test.YtachnjinfdagjaaDoorM4
set_option linter.unusedSimpArgs false
set_option linter.unusedVariables false
namespace Go.Proofs.YtachnjinfdagjaaDoor
open Go.RowKit
open Shp
section
variable {a oa b ob : List (List Int)} {W : Nat} {os ps : List (Int × Int)} {k x f : Nat}
end
section
variable {n out : List (List Int)} {os ps : List Int} {k x f : Nat}
end
section
variable {n out : List (List Int)} {os ps : List Int} {k x f : Nat}
end
end Go.Proofs.YtachnjinfdagjaaDoor

namespace Go.Proofs.YtachnjinfdagjaaDoor
open Go.RowKit
open Shp
def inPart (s : List Int) (xs : List Int) : Nat → List Int
  | 0 => []
  | i + 1 => if has s (nth xs i) = true then inPart s xs i ++ [(i : Int)] else inPart s xs i
def pairP (xs : List Int) (p : List Int × List Int) : List Int × List Int := (inPart p.1 xs xs.length, inPart p.2 xs xs.length)
end Go.Proofs.YtachnjinfdagjaaDoor

