/- Machines, deterministic automata, guesses: tests and runs. No program in sight; no conditions. -/
import Derived.Test.YtbjonekgeidoiaaSWM
set_option linter.unusedSimpArgs false
set_option linter.unusedVariables false
namespace Go.Proofs.Ytbjonekgeidoiaa
open Go.RowKit
open Shp

def setN (s : List Int) (n : Int) : Bool := decide (0 ≤ n) && decide (n ≤ 256) && setB s n
theorem setN_rises {s : List Int} {n : Int} (h0 : 0 ≤ n) (h1 : n ≤ 256) : setN s n = rises s n := by unfold setN; rw [setB_rises h0]; simp [h0, h1]
def guessRow (n : List (List (List Int))) (q : Nat) : Bool := decide ((nth n q).length = (nth n 0).length) && allN (nth n q).length fun k => rises (nth (nth n q) k) n.length
def guessB (n : List (List (List Int))) (f : List Int) : Bool := decide (1 ≤ n.length) && decide (n.length ≤ 4) && rises f n.length && decide (1 ≤ (nth n 0).length) && decide ((nth n 0).length ≤ 4) && allN n.length (guessRow n)
/-- rows of one width, into the states -/
def GoOk (n : List (List Int)) (W : Int) : Prop := ∀ q, q < n.length → ((nth n q).length : Int) = W ∧ below (nth n q) n.length = true
theorem GoOk.row {n : List (List Int)} {W : Int} (h : GoOk n W) {q : Int} (h1 : 0 ≤ q) (h2 : q < n.length) : ((nth n q.toNat).length : Int) = W := (h q.toNat (by omega)).1
theorem GoOk.step {n : List (List Int)} {W : Int} (h : GoOk n W) {q x : Int} (h1 : 0 ≤ q ∧ q < n.length) (h2 : 0 ≤ x ∧ x < W) : 0 ≤ nth (nth n q.toNat) x.toNat ∧ nth (nth n q.toNat) x.toNat < n.length := by
  have a := h q.toNat (by omega)
  exact below_iff.1 a.2 x.toNat (by omega)
end Go.Proofs.Ytbjonekgeidoiaa

