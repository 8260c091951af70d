/- Clauses on words. No program in sight; no conditions. -/
import Derived.Test.YtbjonekgeidoiaaMM
set_option linter.unusedSimpArgs false
set_option linter.unusedVariables false
namespace Go.Proofs.Ytbjonekgeidoiaa
open Go.RowKit
open Shp

/-- some letter of the list is in the set -/
def someH (xs a : List Int) : Bool := !allN xs.length fun i => !has a (nth xs i)
def eachH (xs a : List Int) : Bool := allN xs.length fun i => has a (nth xs i)
theorem eachH_iff {xs a : List Int} : eachH xs a = true ↔ ∀ x ∈ xs, x ∈ a := by
  unfold eachH; rw [allN_iff]
  constructor
  · intro h x hx
    obtain ⟨i, hi, rfl⟩ := mem_nth hx
    exact has_iff.1 (h i hi)
  · intro h j hj; exact has_iff.2 (h _ (nth_mem hj))
theorem someH_iff {xs a : List Int} : someH xs a = true ↔ ∃ x ∈ xs, x ∈ a := by
  unfold someH
  constructor
  · intro h
    apply Classical.byContradiction
    intro hn
    rw [allN_true (fun j hj => ?_)] at h
    · cases h
    · cases e : has a (nth xs j)
      · rfl
      · exact absurd ⟨_, nth_mem hj, has_iff.1 e⟩ hn
  · rintro ⟨x, hx, ha⟩
    obtain ⟨i, hi, rfl⟩ := mem_nth hx
    rw [allN_false i hi (by rw [has_iff.2 ha]; rfl)]; rfl
/-- each letter of a is followed by one of b -/
def nextRow (all : List Int) (back : Nat) (a b : List Int) (i : Nat) : Bool := !(has a (nth all i)) || has b (nth all (if i + 1 < all.length then i + 1 else back))
def nextH (all : List Int) (back : Nat) (a b : List Int) : Bool := allN all.length (nextRow all back a b)
theorem nth_app1 {xs ys : List Int} {i : Nat} (h : i < xs.length) : nth (xs ++ ys) i = nth xs i := by unfold nth; simp only [List.getD_eq_getElem?_getD]; rw [List.getElem?_append_left h]
theorem nth_app2 {xs ys : List Int} {i : Nat} (h : xs.length ≤ i) : nth (xs ++ ys) i = nth ys (i - xs.length) := by unfold nth; simp only [List.getD_eq_getElem?_getD]; rw [List.getElem?_append_right h]
def ansRow (all a b : List Int) (i : Nat) : Bool := !(has a (nth all i)) || someH (all.drop i) b
def ansH (s l a b : List Int) : Bool := someH l b || allN (s ++ l).length (ansRow (s ++ l) a b)
/-- does the clause hold on the word? -/
def holdsB (k : Int) (a b s l : List Int) : Bool :=
  if k = 1 then eachH (s ++ l) a else if k = 2 then nextH (s ++ l) s.length a b else if k = 3 then ansH s l a b else if k = 4 then someH l a else if k = 5 then eachH l a else if k = 6 then someH (s ++ l) a else !someH l a || someH l b
def holdsO (i o k : Int) (a b s l : List Int) : Bool := sigB i o && clauseB (lettersB i o) k a b && wordB s l (lettersB i o) && holdsB k a b s l
/-! what the program's ways come to -/
end Go.Proofs.Ytbjonekgeidoiaa

