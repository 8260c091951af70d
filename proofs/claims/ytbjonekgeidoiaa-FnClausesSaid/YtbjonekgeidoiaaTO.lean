/- Plain suffixes of infinite words. No program in sight; no conditions. -/
import Derived.Test.YtbjonekgeidoiaaSWM
set_option linter.unusedSimpArgs false
set_option linter.unusedVariables false
namespace Go.Proofs.Ytbjonekgeidoiaa
open Go.RowKit
open Shp

/-- A loop from its i-th letter on. -/
def rot (l : List Int) (i : Nat) : List Int := l.drop i ++ l.take i
theorem rot_len {l : List Int} {i : Nat} (h : i ≤ l.length) : (rot l i).length = l.length := by
  unfold rot; rw [List.length_append, List.length_drop, List.length_take]; omega
theorem rot_nth {l : List Int} {i j : Nat} (hi : i < l.length) (hj : j < l.length) : nth (rot l i) j = nth l ((i + j) % l.length) := by
  have h1 : j < (rot l i).length := by rw [rot_len (by omega)]; exact hj
  have h2 : (i + j) % l.length < l.length := Nat.mod_lt _ (by omega)
  rw [nth_eq h1, nth_eq h2]
  unfold rot at h1 ⊢
  by_cases h : j < l.length - i
  · rw [List.getElem_append_left (by rw [List.length_drop]; exact h), List.getElem_drop]
    congr 1
    rw [Nat.mod_eq_of_lt (by omega)]
  · rw [List.getElem_append_right (by rw [List.length_drop]; omega), List.getElem_take]
    congr 1
    rw [List.length_drop, Nat.mod_eq_sub_mod (by omega), Nat.mod_eq_of_lt (by omega)]
    omega
/-- where a suffix's loop begins -/
def tailI (s l : List Int) (k : Int) : Nat := ((k - s.length) % (l.length : Int)).toNat
def tailO (s l : List Int) (k : Int) : List Int × List Int :=
  if wordB s l 16 = true ∧ 0 ≤ k ∧ k ≤ 1200 then
    if k ≤ s.length then (s.drop k.toNat, l) else ([], rot l (tailI s l k))
  else ([], [])
theorem tailI_lt {s l : List Int} {k : Int} (hl : 1 ≤ l.length) : tailI s l k < l.length := by
  unfold tailI
  have h1 : 0 ≤ (k - s.length) % (l.length : Int) := Int.emod_nonneg _ (by omega)
  have h2 : (k - s.length) % (l.length : Int) < l.length := Int.emod_lt_of_pos _ (by omega)
  omega
theorem tailO_no {s l : List Int} {k : Int} (h : ¬ (wordB s l 16 = true ∧ 0 ≤ k ∧ k ≤ 1200)) : tailO s l k = ([], []) := by unfold tailO; rw [if_neg h]
theorem tailO_stem {s l : List Int} {k : Int} (h : wordB s l 16 = true) (h0 : 0 ≤ k) (h1 : k ≤ 1200) (hk : k ≤ s.length) : tailO s l k = (s.drop k.toNat, l) := by unfold tailO; rw [if_pos ⟨h, h0, h1⟩, if_pos hk]
theorem tailO_loop {s l : List Int} {k : Int} (h : wordB s l 16 = true) (h0 : 0 ≤ k) (h1 : k ≤ 1200) (hk : (s.length : Int) < k) : tailO s l k = ([], rot l (tailI s l k)) := by unfold tailO; rw [if_pos ⟨h, h0, h1⟩, if_neg (by omega)]
end Go.Proofs.Ytbjonekgeidoiaa

