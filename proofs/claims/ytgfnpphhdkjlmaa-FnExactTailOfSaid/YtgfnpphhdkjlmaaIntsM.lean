/- Plain lists of numbers: taking a prefix by one more, equality, marks. No program in sight; no conditions. -/
import Derived.Test.YtgfnpphhdkjlmaaBase
set_option linter.unusedSimpArgs false
set_option linter.unusedVariables false
namespace Go.Proofs.Ytgfnpphhdkjlmaa
def eqL {α : Type} [DecidableEq α] (xs ys : List α) : Bool := decide (xs = ys)
theorem eqL_refl {α : Type} [DecidableEq α] (xs : List α) : eqL xs xs = true := by unfold eqL; simp
theorem take_succ_nth {α : Type} [Inhabited α] (xs : List α) (k : Nat) (h : k < xs.length) : xs.take (k + 1) = xs.take k ++ [nth xs k] := by
  rw [List.take_succ_eq_append_getElem h, nth_eq h]
theorem take_eq_succ {α : Type} [Inhabited α] {xs ys : List α} {k : Nat} (h : xs.take k = ys.take k) (h1 : k < xs.length) (h2 : k < ys.length) (he : nth xs k = nth ys k) : xs.take (k + 1) = ys.take (k + 1) := by
  rw [take_succ_nth _ _ h1, take_succ_nth _ _ h2, h, he]
theorem eqL_no {α : Type} [Inhabited α] [DecidableEq α] {xs ys : List α} {k : Nat} (he : nth xs k ≠ nth ys k) : eqL xs ys = false := by
  unfold eqL; simp; rintro rfl; exact he rfl
theorem eqL_take {α : Type} [DecidableEq α] {xs ys : List α} (hl : xs.length = ys.length) (h : xs.take xs.length = ys.take xs.length) : eqL xs ys = true := by
  rw [List.take_length, hl, List.take_length] at h
  rw [h]; exact eqL_refl _
theorem eqL_len {α : Type} [DecidableEq α] {xs ys : List α} (hl : xs.length ≠ ys.length) : eqL xs ys = false := by
  unfold eqL; simp; rintro rfl; exact hl rfl
def marks (k : Int) (n : Nat) : List Int := (List.range n).map fun (i : Nat) => k + (i : Int)
theorem marks_len (k : Int) (n : Nat) : (marks k n).length = n := by simp [marks]
theorem marks_nth (k : Int) (n i : Nat) (h : i < n) : nth (marks k n) i = k + (i : Int) := by
  rw [nth_eq (by rw [marks_len]; exact h)]
  simp [marks]
def held (xs : List Int) (k : Int) : Int := if xs = marks k xs.length then k + xs.length else -1
def sz (n : Nat) (left : Int) : Int := if left - n < 0 then -1 else left - n
theorem take_set_succ {α : Type} [Inhabited α] (xs : List α) (k : Nat) (v : α) (h : k < xs.length) : (xs.set k v).take (k + 1) = xs.take k ++ [v] := by
  rw [take_succ_nth _ k (by simpa using h), List.take_set, List.set_eq_of_length_le (by rw [List.length_take]; omega), nth_eq (by simpa using h)]
  simp
theorem marks_succ (k : Int) (j : Nat) : marks k (j + 1) = marks k j ++ [k + (j : Int)] := by
  simp [marks, List.range_succ]
theorem marks_take (k : Int) {n j : Nat} (h : j ≤ n) : (marks k n).take j = marks k j := by
  unfold marks
  rw [← List.map_take, List.take_range, Nat.min_eq_left h]
theorem marks_in {k : Int} {n : Nat} (h0 : 0 ≤ k) (h : k + n ≤ 9223372036854775807) : ∀ x ∈ marks k n, inI64 x := by
  intro x hx
  simp only [marks, List.mem_map, List.mem_range] at hx
  obtain ⟨i, hi, rfl⟩ := hx
  unfold inI64
  omega
theorem held_yes (xs : List Int) (k : Int) (h : xs = marks k xs.length) : held xs k = k + xs.length := by unfold held; rw [if_pos h]
theorem held_marks (k : Int) (n : Nat) : held (marks k n) k = k + n := by
  rw [held_yes _ _ (by rw [marks_len]), marks_len]
theorem held_no {xs : List Int} {k : Int} {j : Nat} (hj : j < xs.length) (h : nth xs j ≠ k + (j : Int)) : held xs k = -1 := by
  unfold held; rw [if_neg]; intro e
  rw [e, marks_nth _ _ _ hj] at h; exact h rfl
end Go.Proofs.Ytgfnpphhdkjlmaa
