/- Texts out of bytes, abstract states: the operation and the walk's rule. Over any program; the table is right ('TabOk'). -/
import Derived.Test.YtjjidamlmebaaaaGreatKF
import Derived.Lib.ConvBytes
namespace Go.Proofs.YtjjidamlmebaaaaGreat
open Go.RowKit
open Shp
variable {w : World} {w0 : W0} {S : AState} {a : Act} {μ : Lay} {who : Nat → Option Nat} {o : Oper} {dst t : TypeId} {x : Operand} {id lo nid : Nat} {dp : Bool} {xs : List GV}
section
variable {tab : Tab} {sl : List (Nat × PV)} {hl : List (Nat × Block)} {P : Program} {ops : Array Oper} {n nx i d : Nat} {dr : Bool} {acc : List (List Nat × List Nat)} {ty : TypeId} {pos : String} {af : Array Edge} {os : List Oper}
variable {K : AState → List (List Nat × List Nat) → Prop}
end
section
variable {tab : Tab} {sl : List (Nat × PV)} {hl : List (Nat × Block)} {P : Program} {ops : Array Oper} {n nx i d : Nat} {dr : Bool} {acc : List (List Nat × List Nat)} {ty : TypeId} {pos : String} {af : Array Edge} {os : List Oper}
variable {K : AState → List (List Nat × List Nat) → Prop}
end
end Go.Proofs.YtjjidamlmebaaaaGreat

