/- Machines that answer alike have one least machine. No program in sight; no conditions. -/
import Derived.Test.YtgfnpphhdkjlmaaMF
set_option linter.unusedSimpArgs false
set_option linter.unusedVariables false
namespace Go.Proofs.Ytgfnpphhdkjlmaa
open Go.RowKit
open Shp
def MOk (n out : List (List Int)) (W : Nat) : Prop := (1 ≤ n.length ∧ n.length ≤ 48) ∧ GoOk n (W : Int) ∧ RowsW n out W
def inN (N : Nat) (q : Int) : Prop := 0 ≤ q ∧ q < (N : Int)
section
variable {n out : List (List Int)} {W : Nat}
theorem MOk.row (h : MOk n out W) {q : Int} (hq : inN n.length q) : (rowN n q).length = W ∧ (rowN out q).length = W := h.2.2 q.toNat (by unfold inN at hq; omega)
theorem MOk.step (h : MOk n out W) {q : Int} (hq : inN n.length q) {i : Nat} (hi : i < W) : inN n.length (nth (rowN n q) i) := by
  have := h.2.1.step (x := (i : Int)) hq (by omega)
  rwa [Int.toNat_natCast] at this
theorem below_cons {x : Int} {xs : List Int} {W : Int} : below (x :: xs) W = true ↔ (0 ≤ x ∧ x < W) ∧ below xs W = true := by
  rw [below_iff, below_iff]
  constructor
  · intro h
    refine ⟨by have := h 0 (by simp); simpa [nth] using this, fun j hj => by have := h (j + 1) (by simpa using hj); simpa [nth] using this⟩
  · rintro ⟨h1, h2⟩ j hj
    rcases j with _ | j
    · simpa [nth] using h1
    · have := h2 j (by simpa using hj); simpa [nth] using this
theorem place_spec {xs : List Int} {x : Int} (h : x ∈ xs) : ∃ j : Nat, j < xs.length ∧ place xs x = (j : Int) ∧ nth xs j = x := by
  unfold place
  rcases firstN_cases xs.length (fun i => nth xs i == x) with ⟨h1, h2⟩ | ⟨i, h1, h2, h3, _⟩
  · obtain ⟨i, hi, e⟩ := mem_nth h
    have := h2 i hi
    rw [e] at this; simp at this
  · exact ⟨i, h1, h2, by simpa using h3⟩
end
section
variable {a oa b ob : List (List Int)} {W : Nat}
end
end Go.Proofs.Ytgfnpphhdkjlmaa

