/- A region that draws its order: operations that yield one value whatever has grown are taken first; the others come in a forced order, with growth allowed between them. No program in sight; no conditions. -/
import Derived.Test.YtabfpoflhacknaaBase
set_option linter.unusedSimpArgs false
set_option linter.unusedVariables false
namespace Go.Proofs.Ytabfpoflhacknaa
open Go.RowKit

section
variable {P : Program} {ops : Array Oper} {md : Region.Mode}

theorem getD_both {listed : Array Bool} {i : Nat} (h : listed.getD i true = false) : listed.getD i false = false := by
  rcases Nat.lt_or_ge i listed.size with h' | h'
  · simp [h'] at h ⊢; exact h
  · simp [Array.getElem?_eq_none h'] at h

theorem keeps_refl_iff {L : List Nat} {w : World} : Keeps L w w ↔ True := ⟨fun _ => trivial, fun _ => Keeps.refl _ _⟩
attribute [go_sem] keeps_refl_iff

def Oper.steadyUpon (P : Program) (w : World) (v : Value) : Result Next → Prop
  | .ok (.value u) w' => Keeps [] w w' ∧ u = v
  | .ok .skip w' => Keeps [] w w' ∧ v = undef
  | .ok (.enter f args) w' => w' = w ∧ Calls P f args w (fun e w'' => e = .returned v ∧ Keeps [] w w'')
  | _ => False

/-- In every world behind w0 it yields v, and changes nothing that was there. -/
def Oper.steadyAt (P : Program) (o : Oper) (a : Act) (w0 : World) (v : Value) : Prop := ∀ x : After w0, Oper.steadyUpon P x.w v ((execOp a.eval o).run P x.w)

def Oper.steady (P : Program) (o : Oper) (a : Act) (w0 : World) (next : Act → Prop) : Prop := ∃ v, Oper.steadyAt P o a w0 v ∧ next (a.put o.dst v)
attribute [go_sem] Oper.steady Oper.steadyAt Oper.steadyUpon

variable {Q : Act → World → Prop}

/-- In state a operation o leaves v in its slot. -/
def SteadyIn (P : Program) (ops : Array Oper) (o : Oper) (v : Value) (a : Act) (w : World) : Prop :=
  (Region.wanted o (yielded ops a.tmps) = true ∧ Oper.steadyAt P o a w v) ∨ (Region.wanted o (yielded ops a.tmps) = false ∧ v = undef)

theorem SteadyIn.grow {o : Oper} {v : Value} {a : Act} {w w' : World} (h : SteadyIn P ops o v a w) (hk : Keeps [] w w') : SteadyIn P ops o v a w' := by
  rcases h with ⟨h1, h2⟩ | h
  · exact .inl ⟨h1, fun x => h2 ⟨x.w, hk.trans x.k⟩⟩
  · exact .inr h

end
end Go.Proofs.Ytabfpoflhacknaa

