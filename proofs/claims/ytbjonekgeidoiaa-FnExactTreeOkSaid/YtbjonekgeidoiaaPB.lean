/- Sets that meet, pairs that are broken. No program in sight; no conditions. -/
import Derived.Test.YtbjonekgeidoiaaME
import Derived.Test.YtbjonekgeidoiaaPO
set_option linter.unusedSimpArgs false
set_option linter.unusedVariables false
namespace Go.Proofs.Ytbjonekgeidoiaa
open Go.RowKit
open Shp

/-- those that are not there -/
def lessZ (xs ys : List Int) : List Int := xs.filter fun x => !has ys x
theorem lessZ_len {xs ys : List Int} : (lessZ xs ys).length ≤ xs.length := List.length_filter_le _ _
theorem lessZ_yes {xs ys : List Int} {i : Nat} (h : i < xs.length) (hh : has ys (nth xs i) = false) : lessZ (xs.take (i + 1)) ys = lessZ (xs.take i) ys ++ [nth xs i] := by
  unfold lessZ; rw [take_nth h, List.filter_append]; simp [hh]
theorem lessZ_no {xs ys : List Int} {i : Nat} (h : i < xs.length) (hh : has ys (nth xs i) = true) : lessZ (xs.take (i + 1)) ys = lessZ (xs.take i) ys := by
  unfold lessZ; rw [take_nth h, List.filter_append]; simp [hh]
/-- do they meet? -/
def meetB (xs ys : List Int) : Bool := xs.any fun x => has ys x
theorem meetB_iff {xs ys : List Int} : meetB xs ys = true ↔ ∃ v, v ∈ xs ∧ v ∈ ys := by
  unfold meetB; rw [List.any_eq_true]
  constructor
  · rintro ⟨v, h1, h2⟩; exact ⟨v, h1, has_iff.1 h2⟩
  · rintro ⟨v, h1, h2⟩; exact ⟨v, h1, has_iff.2 h2⟩
theorem meetB_of {xs ys : List Int} : decide (((lessZ xs ys).length : Int) < (xs.length : Nat)) = meetB xs ys := by
  have key : ∀ xs : List Int, ((lessZ xs ys).length < xs.length) ↔ meetB xs ys = true := by
    intro xs
    induction xs with
    | nil => simp [lessZ, meetB]
    | cons x xs ih =>
      have hle := lessZ_len (xs := xs) (ys := ys)
      cases e : has ys x
      · have h1 : lessZ (x :: xs) ys = x :: lessZ xs ys := by simp [lessZ, e]
        have h2 : meetB (x :: xs) ys = meetB xs ys := by simp [meetB, e]
        rw [h1, h2, List.length_cons, List.length_cons, ← ih]; omega
      · have h1 : lessZ (x :: xs) ys = lessZ xs ys := by simp [lessZ, e]
        have h2 : meetB (x :: xs) ys = true := by simp [meetB, e]
        rw [h1, h2, List.length_cons]
        simp; omega
  rw [Bool.eq_iff_iff, decide_eq_true_eq, ← key xs]; omega
section
variable {ps : List (List Int × List Int)} {met : List Int} {k : Nat}
end
section
variable {i o : Int} {n : List (List Int)} {ps : List (List Int × List Int)} {s l : List Int}
end
end Go.Proofs.Ytbjonekgeidoiaa

