/- Clauses as laws of the letters: the same for each way to write a word; on tails. No program in sight; no conditions. -/
import Derived.Test.YtabfpoflhacknaaHM
import Derived.Test.YtabfpoflhacknaaTO
set_option linter.unusedSimpArgs false
set_option linter.unusedVariables false
namespace Go.Proofs.Ytabfpoflhacknaa
open Go.RowKit
open Shp
theorem letN_mem {s l : List Int} (hl : 1 ≤ l.length) (i : Nat) : letN s l i ∈ s ++ l := by
  unfold letN; split
  · rename_i h; exact List.mem_append.2 (.inl (nth_mem h))
  · exact List.mem_append.2 (.inr (nth_mem (Nat.mod_lt _ (by omega))))
theorem below_sub {xs ys : List Int} {n m : Int} (h : below ys n = true) (hn : n ≤ m) (hs : ∀ x ∈ xs, x ∈ ys) : below xs m = true := by
  rw [below_iff] at h ⊢
  intro j hj
  obtain ⟨i, hi, e⟩ := mem_nth (hs _ (nth_mem hj))
  have := h i hi
  rw [e] at this; omega
theorem wordB_parts {s l : List Int} {n : Int} : wordB s l n = true ↔ s.length ≤ 600 ∧ l.length ≤ 600 ∧ 1 ≤ l.length ∧ below s n = true ∧ below l n = true := by
  unfold wordB; simp only [Bool.and_eq_true, decide_eq_true_eq]; constructor
  · rintro ⟨⟨⟨⟨a, b⟩, c⟩, d⟩, e⟩; exact ⟨a, b, c, d, e⟩
  · rintro ⟨a, b, c, d, e⟩; exact ⟨⟨⟨⟨a, b⟩, c⟩, d⟩, e⟩
theorem wordB_more {s l : List Int} {n m : Int} (h : wordB s l n = true) (hn : n ≤ m) : wordB s l m = true := by
  obtain ⟨a, b, c, d, e⟩ := wordB_parts.1 h
  exact wordB_parts.2 ⟨a, b, c, below_sub d hn fun _ h => h, below_sub e hn fun _ h => h⟩
end Go.Proofs.Ytabfpoflhacknaa

