/- Plain suffixes of infinite words. No program in sight; no conditions. -/
import Derived.Test.YtbjonekgeidoiaaSWM
set_option linter.unusedSimpArgs false
set_option linter.unusedVariables false
namespace Go.Proofs.Ytbjonekgeidoiaa
open Go.RowKit
open Shp

/-- A loop from its i-th letter on. -/
def rot (l : List Int) (i : Nat) : List Int := l.drop i ++ l.take i
theorem rot_len {l : List Int} {i : Nat} (h : i ≤ l.length) : (rot l i).length = l.length := by
  unfold rot; rw [List.length_append, List.length_drop, List.length_take]; omega
theorem rot_nth {l : List Int} {i j : Nat} (hi : i < l.length) (hj : j < l.length) : nth (rot l i) j = nth l ((i + j) % l.length) := by
  have h1 : j < (rot l i).length := by rw [rot_len (by omega)]; exact hj
  have h2 : (i + j) % l.length < l.length := Nat.mod_lt _ (by omega)
  rw [nth_eq h1, nth_eq h2]
  unfold rot at h1 ⊢
  by_cases h : j < l.length - i
  · rw [List.getElem_append_left (by rw [List.length_drop]; exact h), List.getElem_drop]
    congr 1
    rw [Nat.mod_eq_of_lt (by omega)]
  · rw [List.getElem_append_right (by rw [List.length_drop]; omega), List.getElem_take]
    congr 1
    rw [List.length_drop, Nat.mod_eq_sub_mod (by omega), Nat.mod_eq_of_lt (by omega)]
    omega
/-- where a suffix's loop begins -/
def tailI (s l : List Int) (k : Int) : Nat := ((k - s.length) % (l.length : Int)).toNat
def tailO (s l : List Int) (k : Int) : List Int × List Int :=
  if wordB s l 16 = true ∧ 0 ≤ k ∧ k ≤ 1200 then
    if k ≤ s.length then (s.drop k.toNat, l) else ([], rot l (tailI s l k))
  else ([], [])
theorem tailI_lt {s l : List Int} {k : Int} (hl : 1 ≤ l.length) : tailI s l k < l.length := by
  unfold tailI
  have h1 : 0 ≤ (k - s.length) % (l.length : Int) := Int.emod_nonneg _ (by omega)
  have h2 : (k - s.length) % (l.length : Int) < l.length := Int.emod_lt_of_pos _ (by omega)
  omega
theorem tailO_no {s l : List Int} {k : Int} (h : ¬ (wordB s l 16 = true ∧ 0 ≤ k ∧ k ≤ 1200)) : tailO s l k = ([], []) := by unfold tailO; rw [if_neg h]
theorem tailO_stem {s l : List Int} {k : Int} (h : wordB s l 16 = true) (h0 : 0 ≤ k) (h1 : k ≤ 1200) (hk : k ≤ s.length) : tailO s l k = (s.drop k.toNat, l) := by unfold tailO; rw [if_pos ⟨h, h0, h1⟩, if_pos hk]
theorem tailO_loop {s l : List Int} {k : Int} (h : wordB s l 16 = true) (h0 : 0 ≤ k) (h1 : k ≤ 1200) (hk : (s.length : Int) < k) : tailO s l k = ([], rot l (tailI s l k)) := by unfold tailO; rw [if_pos ⟨h, h0, h1⟩, if_neg (by omega)]
theorem atW_rot {s l : List Int} {k : Int} {q : Nat} (hk : (s.length : Int) < k) (hq : q < l.length) : atW s l (k + q) = nth (rot l (tailI s l k)) q := by
  have hl : 1 ≤ l.length := by omega
  unfold atW
  rw [if_neg (by omega), rot_nth (tailI_lt hl) hq]
  congr 1
  have h1 : 0 ≤ (k - s.length) % (l.length : Int) := Int.emod_nonneg _ (by omega)
  have h3 : (tailI s l k : Int) = (k - s.length) % (l.length : Int) := by unfold tailI; omega
  have h4 : ((k + q - s.length) % (l.length : Int)) = (((tailI s l k + q) % l.length : Nat) : Int) := by
    rw [Int.natCast_emod, Int.natCast_add, h3, Int.emod_add_emod]; congr 1; omega
  rw [h4, Int.toNat_natCast]
theorem tail_take {s l : List Int} {k : Int} {q : Nat} (hk : (s.length : Int) < k) (hq : q < l.length) : (rot l (tailI s l k)).take q ++ [atW s l (k + q)] = (rot l (tailI s l k)).take (q + 1) := by
  have hl : 1 ≤ l.length := by omega
  have := tailI_lt (s := s) (k := k) hl
  rw [take_nth (by rw [rot_len (by omega)]; exact hq), atW_rot hk hq]
theorem tailO_len {s l : List Int} {k : Int} : (tailO s l k).1.length ≤ 600 ∧ (tailO s l k).2.length ≤ 600 := by
  unfold tailO
  split
  · rename_i h
    obtain ⟨h1, h2, h3⟩ := wordB_r h.1
    have := tailI_lt (s := s) (k := k) h1
    split
    · simp only [List.length_drop]; omega
    · simp only [rot_len (Nat.le_of_lt this), List.length_nil]; omega
  · exact ⟨by simp, by simp⟩
end Go.Proofs.Ytbjonekgeidoiaa

