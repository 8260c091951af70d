/- Machines: outputs, states found, states alike. No program in sight; no conditions. -/
import Derived.Test.YtabfpoflhacknaaMM
set_option linter.unusedSimpArgs false
set_option linter.unusedVariables false
namespace Go.Proofs.Ytabfpoflhacknaa
open Go.RowKit
open Shp

/-- rows of outputs fit the rows of states -/
def OutOk (n o : List (List Int)) (W V : Int) : Prop := GoOk n W ∧ (∀ q, q < n.length → ((nth o q).length : Int) = W ∧ below (nth o q) V = true) ∧ o.length = n.length
theorem OutOk.at {n o : List (List Int)} {W V : Int} (h : OutOk n o W V) {q x : Int} (h1 : 0 ≤ q ∧ q < n.length) (h2 : 0 ≤ x ∧ x < W) : x < (nth o q.toNat).length ∧ 0 ≤ nth (nth o q.toNat) x.toNat ∧ nth (nth o q.toNat) x.toNat < V := by
  have a := h.2.1 q.toNat (by omega)
  have b := below_iff.1 a.2 x.toNat (by omega)
  exact ⟨by omega, b⟩
end Go.Proofs.Ytabfpoflhacknaa

