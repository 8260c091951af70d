/- Machines, deterministic automata, guesses: tests and runs. No program in sight; no conditions. -/
import Derived.Test.YtgfnpphhdkjlmaaSWM
set_option linter.unusedSimpArgs false
set_option linter.unusedVariables false
namespace Go.Proofs.Ytgfnpphhdkjlmaa
open Go.RowKit
open Shp

theorem mul_r {p w : Int} (h : 0 ≤ p) (h2 : p ≤ 1000) (h3 : 0 ≤ w) (h4 : w ≤ 1000) : 0 ≤ p * w ∧ p * w ≤ 1000000 := ⟨Int.mul_nonneg h h3, by have := Int.mul_le_mul h2 h4 h3 (by omega); omega⟩
theorem sig_pw {i o : Int} (h : sigB i o = true) : 1 ≤ i ∧ i ≤ 2 ∧ 1 ≤ o ∧ o ≤ 2 ∧ 2 ≤ pw i ∧ pw i ≤ 4 ∧ 2 ≤ pw o ∧ pw o ≤ 4 ∧ 4 ≤ pw (i + o) ∧ pw (i + o) ≤ 16 ∧ lettersB i o = pw (i + o) ∧ pw (i + o) = pw i * pw o ∧ pw i = 2 ^ i.toNat ∧ pw o = 2 ^ o.toNat ∧ pw (i + o) = 2 ^ (i + o).toNat := by
  obtain ⟨h1, h2, h3, h4⟩ := sigB_r h
  have e := lettersB_pos h
  obtain ⟨p1, p2, p3, p4, _⟩ := pw_vals
  have a : i = 1 ∨ i = 2 := by omega
  have b : o = 1 ∨ o = 2 := by omega
  refine ⟨h1, h2, h3, h4, ?_, ?_, ?_, ?_, ?_, ?_, e, ?_, rfl, rfl, rfl⟩ <;> rcases a with rfl | rfl <;> rcases b with rfl | rfl <;> simp_all
/-- rows of one width, into the states -/
def GoOk (n : List (List Int)) (W : Int) : Prop := ∀ q, q < n.length → ((nth n q).length : Int) = W ∧ below (nth n q) n.length = true
theorem GoOk.row {n : List (List Int)} {W : Int} (h : GoOk n W) {q : Int} (h1 : 0 ≤ q) (h2 : q < n.length) : ((nth n q.toNat).length : Int) = W := (h q.toNat (by omega)).1
theorem GoOk.step {n : List (List Int)} {W : Int} (h : GoOk n W) {q x : Int} (h1 : 0 ≤ q ∧ q < n.length) (h2 : 0 ≤ x ∧ x < W) : 0 ≤ nth (nth n q.toNat) x.toNat ∧ nth (nth n q.toNat) x.toNat < n.length := by
  have a := h q.toNat (by omega)
  exact below_iff.1 a.2 x.toNat (by omega)
end Go.Proofs.Ytgfnpphhdkjlmaa

