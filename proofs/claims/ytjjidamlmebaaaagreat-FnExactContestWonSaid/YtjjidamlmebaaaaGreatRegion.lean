/- A region that draws its order: operations that yield one value whatever has grown are taken first; the others come in a forced order, with growth allowed between them. No program in sight; no conditions. -/
import Derived.Test.YtjjidamlmebaaaaGreatBase
namespace Go.Proofs.YtjjidamlmebaaaaGreat
open Go.RowKit
variable {listed : Array Bool} {w0 w w' : World} {a a' : Act} {o oi : Oper} {K K' : Act → World → Prop} {v : Value}
section
variable {P : Program} {ops : Array Oper} {md : Region.Mode}
theorem Zlf  {i : Nat} (h : listed.getD i true = false) : listed.getD i false = false := by
 rcases Nat.lt_or_ge i listed.size with h' | h'
 ·simp [h'] at h ⊢; exact h
 ·simp [Array.getElem?_eq_none h'] at h
theorem Zjd {L : List Nat} {w : World} : Keeps L w w ↔ True := ⟨fun _ => trivial, fun _ => Keeps.refl _ _⟩
attribute [go_sem] Zjd
def Oper.steadyUpon (P : Program) (w : World) (v : Value) : Result Next → Prop
 | .ok (.value u) w' => Keeps [] w w' ∧ u = v
 | .ok .skip w' => Keeps [] w w' ∧ v = undef
 | .ok (.enter f args) w' => w' = w ∧ Calls P f args w (fun e w'' => e = .returned v ∧ Keeps [] w w'')
 | _ => False
def Oper.steadyAt (P : Program) (o : Oper) (a : Act) (w0 : World) (v : Value) : Prop := ∀ x : After w0, Oper.steadyUpon P x.w v ((execOp a.eval o).run P x.w)
def Oper.steady (P : Program) (o : Oper) (a : Act) (w0 : World) (next : Act → Prop) : Prop := ∃ v, Oper.steadyAt P o a w0 v ∧ next (a.put o.dst v)
attribute [go_sem] Oper.steady Oper.steadyAt Oper.steadyUpon
variable {Q : Act → World → Prop}
end
end Go.Proofs.YtjjidamlmebaaaaGreat

