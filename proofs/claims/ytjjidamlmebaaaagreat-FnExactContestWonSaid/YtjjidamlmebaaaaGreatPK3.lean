/- A store into a row of a list of rows of the call's own: the rules of a walk. Over any program; no conditions. -/
import Derived.Test.YtjjidamlmebaaaaGreatKC
import Derived.Laws.IdiomCopy
import Derived.Test.YtjjidamlmebaaaaGreatKG
namespace Go.Proofs.YtjjidamlmebaaaaGreat
open Go.RowKit
open Shp
variable {k : Bool} {x : GV} {u v : Value} {w w' : World} {F : List Nat}
def kv (k : Bool) : Value → Bool
 | .bool _ => k
 | .int .i64 _ => !k
 | _ => false
end Go.Proofs.YtjjidamlmebaaaaGreat

namespace Go.Proofs.YtjjidamlmebaaaaGreat
open Go.RowKit
open Shp
variable {w : World} {S : AState} {a : Act} {o1 o2 o : Oper} {Q : Exit → Act → World → Prop} {id : Nat} {l0 : List Oper}
section
variable {P : Program} {tab : Tab}
end
end Go.Proofs.YtjjidamlmebaaaaGreat

namespace Go.Proofs.YtjjidamlmebaaaaGreat
open Go.RowKit
open Shp
abbrev GV.pr (p : Int × Int) : GV := .agg [.i p.1, .i p.2]
end Go.Proofs.YtjjidamlmebaaaaGreat

namespace Go.Proofs.YtjjidamlmebaaaaGreat
open Go.RowKit
open Shp
variable {S : AState} {id kk b rid tp E t j cap m : Nat} {dp k : Bool} {xs : List GV} {p q : PV} {l0 : List Oper} {o1 o2 : Oper} {α : Type} {x ix yo : Operand} {L : List Nat} {pos1 pos2 : String} {af1 af2 : Array Edge} {ei ti : TI} {ad : Addr} {sl' : List (Nat × PV)} {A : List (List Bool)}
abbrev GV.bools (xs : List Bool) : GV := .sl 1 (xs.map GV.bool)
section
variable {lv : Nat → List Nat} {P : Program} {tab : Tab} {n : Nat} {sl : List (Nat × PV)} {hl : List (Nat × Block)} {Q : Exit → AState → Prop}
end
end Go.Proofs.YtjjidamlmebaaaaGreat

