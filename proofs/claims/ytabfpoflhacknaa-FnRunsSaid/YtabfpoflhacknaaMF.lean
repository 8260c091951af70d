/- Machines: states found, states alike. No program in sight; no conditions. -/
import Derived.Test.YtabfpoflhacknaaMG
set_option linter.unusedSimpArgs false
set_option linter.unusedVariables false
namespace Go.Proofs.Ytabfpoflhacknaa
open Go.RowKit
open Shp
def it {α : Type} (f : α → α) : Nat → α → α
  | 0, c => c
  | j + 1, c => it f j (f c)
theorem it_succ {α : Type} {f : α → α} : ∀ {j : Nat} {c : α}, it f (j + 1) c = f (it f j c)
  | 0, _ => rfl
  | j + 1, c => by show it f (j + 1) (f c) = _; rw [it_succ]; rfl
end Go.Proofs.Ytabfpoflhacknaa

