/- Machines, deterministic automata, guesses: tests and runs. No program in sight; no conditions. -/
import Derived.Test.YtbjonekgeidoiaaSWM
set_option linter.unusedSimpArgs false
set_option linter.unusedVariables false
namespace Go.Proofs.Ytbjonekgeidoiaa
open Go.RowKit
open Shp

/-- rows of one width, into the states -/
def GoOk (n : List (List Int)) (W : Int) : Prop := ∀ q, q < n.length → ((nth n q).length : Int) = W ∧ below (nth n q) n.length = true
theorem GoOk.row {n : List (List Int)} {W : Int} (h : GoOk n W) {q : Int} (h1 : 0 ≤ q) (h2 : q < n.length) : ((nth n q.toNat).length : Int) = W := (h q.toNat (by omega)).1
theorem GoOk.step {n : List (List Int)} {W : Int} (h : GoOk n W) {q x : Int} (h1 : 0 ≤ q ∧ q < n.length) (h2 : 0 ≤ x ∧ x < W) : 0 ≤ nth (nth n q.toNat) x.toNat ∧ nth (nth n q.toNat) x.toNat < n.length := by
  have a := h q.toNat (by omega)
  exact below_iff.1 a.2 x.toNat (by omega)
end Go.Proofs.Ytbjonekgeidoiaa

