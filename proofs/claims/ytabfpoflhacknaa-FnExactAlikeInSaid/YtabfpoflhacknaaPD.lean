/- The quotient of an automaton: the classes found, the rows by their places. No program in sight; no conditions. -/
import Derived.Test.YtabfpoflhacknaaAI
import Derived.Test.YtabfpoflhacknaaPO
set_option linter.unusedSimpArgs false
set_option linter.unusedVariables false
namespace Go.Proofs.Ytabfpoflhacknaa
open Go.RowKit
open Shp

section
variable {n : List (List Int)} {cl : List Int} {os ps : List Int} {k x f : Nat}
end
theorem det_go {i o : Int} {n : List (List Int)} {ps : List (List Int × List Int)} (h : detB i o n ps = true) : GoOk n ((lettersB i o).toNat : Int) ∧ 1 ≤ n.length ∧ n.length ≤ 48 ∧ ps.length ≤ 4 ∧ (lettersB i o).toNat ≤ 16 := by
  obtain ⟨a1, ⟨a2, a3⟩, a4, a5⟩ := detB_iff.1 h
  have hL := lettersB_range i o
  exact ⟨by rw [letters_nat]; exact a5, a2, a3, pairs4 h, by omega⟩
theorem alikeB26_len0 {i o : Int} {n : List (List Int)} {ps : List (List Int × List Int)} : (if detB i o n ps = true then alike26 n ps else []).length ≤ 48 := by
  split
  · rename_i h; have := det_go h; rw [alike26_len]; omega
  · simp
end Go.Proofs.Ytabfpoflhacknaa

