/- Machines that answer alike have one least machine. No program in sight; no conditions. -/
import Derived.Test.YtabfpoflhacknaaMF
set_option linter.unusedSimpArgs false
set_option linter.unusedVariables false
namespace Go.Proofs.Ytabfpoflhacknaa
open Go.RowKit
open Shp
section
variable {n out : List (List Int)} {W : Nat}
theorem place_spec {xs : List Int} {x : Int} (h : x ∈ xs) : ∃ j : Nat, j < xs.length ∧ place xs x = (j : Int) ∧ nth xs j = x := by
  unfold place
  rcases firstN_cases xs.length (fun i => nth xs i == x) with ⟨h1, h2⟩ | ⟨i, h1, h2, h3, _⟩
  · obtain ⟨i, hi, e⟩ := mem_nth h
    have := h2 i hi
    rw [e] at this; simp at this
  · exact ⟨i, h1, h2, by simpa using h3⟩
end
section
variable {a oa b ob : List (List Int)} {W : Nat}
end
end Go.Proofs.Ytabfpoflhacknaa

