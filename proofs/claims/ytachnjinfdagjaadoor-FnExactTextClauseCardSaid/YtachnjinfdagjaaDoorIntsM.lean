/- Plain lists of numbers: taking a prefix by one more, equality, marks. No program in sight; no conditions. -/
import Derived.Test.YtachnjinfdagjaaDoorBase
set_option linter.unusedSimpArgs false
set_option linter.unusedVariables false
namespace Go.Proofs.YtachnjinfdagjaaDoor
theorem take_succ_nth {α : Type} [Inhabited α] (xs : List α) (k : Nat) (h : k < xs.length) : xs.take (k + 1) = xs.take k ++ [nth xs k] := by
  rw [List.take_succ_eq_append_getElem h, nth_eq h]
def marks (k : Int) (n : Nat) : List Int := (List.range n).map fun (i : Nat) => k + (i : Int)
theorem marks_len (k : Int) (n : Nat) : (marks k n).length = n := by simp [marks]
theorem marks_nth (k : Int) (n i : Nat) (h : i < n) : nth (marks k n) i = k + (i : Int) := by
  rw [nth_eq (by rw [marks_len]; exact h)]
  simp [marks]
def held (xs : List Int) (k : Int) : Int := if xs = marks k xs.length then k + xs.length else -1
def sz (n : Nat) (left : Int) : Int := if left - n < 0 then -1 else left - n
theorem take_set_succ {α : Type} [Inhabited α] (xs : List α) (k : Nat) (v : α) (h : k < xs.length) : (xs.set k v).take (k + 1) = xs.take k ++ [v] := by
  rw [take_succ_nth _ k (by simpa using h), List.take_set, List.set_eq_of_length_le (by rw [List.length_take]; omega), nth_eq (by simpa using h)]
  simp
theorem marks_succ (k : Int) (j : Nat) : marks k (j + 1) = marks k j ++ [k + (j : Int)] := by
  simp [marks, List.range_succ]
end Go.Proofs.YtachnjinfdagjaaDoor

