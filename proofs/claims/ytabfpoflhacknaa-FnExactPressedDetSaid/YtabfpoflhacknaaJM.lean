/- Two automata joined: the search of pairs of states, at most so many. No program in sight; no conditions. -/
import Derived.Test.YtabfpoflhacknaaMT
import Derived.Test.YtabfpoflhacknaaMQ
set_option linter.unusedSimpArgs false
set_option linter.unusedVariables false
namespace Go.Proofs.Ytabfpoflhacknaa
open Go.RowKit
open Shp

/-- the places of the pairs of which one part is in a set -/
def inPart (s : List Int) (xs : List Int) : Nat → List Int
  | 0 => []
  | i + 1 => if has s (nth xs i) = true then inPart s xs i ++ [(i : Int)] else inPart s xs i
def pairP (xs : List Int) (p : List Int × List Int) : List Int × List Int := (inPart p.1 xs xs.length, inPart p.2 xs xs.length)
def pairsP (ps : List (List Int × List Int)) (xs : List Int) : List (List Int × List Int) := ps.map (pairP xs)
/-- all that the first k lead to has been found -/
def Clo (a b : List (List Int)) (os : List (Int × Int)) (k : Nat) : Prop := ∀ j, j < k → ∀ y ∈ succP a b (nth os j), y ∈ os
theorem Clo.ext {a b : List (List Int)} {os ps : List (Int × Int)} {k : Nat} (hc : Clo a b os k) (h : Ext os ps) (hk : k ≤ os.length) : Clo a b ps k := fun j hj y hy => by
  obtain ⟨t, rfl⟩ := h
  rw [nthA1 (by omega)] at hy
  exact List.mem_append.2 (.inl (hc j hj y hy))
theorem Clo.next {a b : List (List Int)} {ps : List (Int × Int)} {k : Nat} (hc : Clo a b ps k) (h : ∀ y ∈ succP a b (nth ps k), y ∈ ps) : Clo a b ps (k + 1) := fun j hj y hy => by
  by_cases e : j = k
  · subst e; exact h y hy
  · exact hc j (by omega) y hy
theorem inPart_yes {s xs : List Int} {i : Nat} (h : has s (nth xs i) = true) : inPart s xs i ++ [(i : Int)] = inPart s xs (i + 1) := by simp only [inPart]; rw [if_pos h]
theorem inPart_no {s xs : List Int} {i : Nat} (h : has s (nth xs i) = false) : inPart s xs i = inPart s xs (i + 1) := by simp only [inPart]; rw [if_neg (by rw [h]; simp)]
theorem inPart_len {s xs : List Int} : ∀ {i : Nat}, (inPart s xs i).length ≤ i
  | 0 => Nat.le_refl _
  | i + 1 => by
    have := inPart_len (s := s) (xs := xs) (i := i)
    simp only [inPart]; split
    · simp; omega
    · omega
end Go.Proofs.Ytabfpoflhacknaa

