/- Words, clauses, machines: plain laws. No program in sight; no conditions. -/
import Derived.Test.YtbjonekgeidoiaaKG
set_option linter.unusedSimpArgs false
set_option linter.unusedVariables false
namespace Go.Proofs.Ytbjonekgeidoiaa
open Go.RowKit
open Shp

theorem nallN_true {n : Nat} {p : Nat → Bool} (i : Nat) (hi : i < n) (h : p i = false) : (!allN n p) = true := by rw [allN_false i hi h]; rfl
theorem nallN_false {n : Nat} {p : Nat → Bool} (h : ∀ j, j < n → p j = true) : (!allN n p) = false := by rw [allN_true h]; rfl

theorem rises_len {xs : List Int} {n : Int} (h : rises xs n = true) : (xs.length : Int) ≤ n ∨ xs = [] := by
  unfold rises at h
  rw [allN_iff] at h
  have key : ∀ i : Nat, i < xs.length → (i : Int) ≤ nth xs i := by
    intro i
    induction i with
    | zero => intro hi; have := h 0 hi; simp at this; omega
    | succ i ih =>
      intro hi
      have h1 := ih (by omega)
      have h2 := h (i + 1) hi
      simp at h2
      omega
  rcases Nat.eq_zero_or_pos xs.length with h0 | h0
  · exact .inr (List.eq_nil_of_length_eq_zero h0)
  · have h1 := key (xs.length - 1) (by omega)
    have h2 := h (xs.length - 1) (by omega)
    simp at h2
    left; omega
/-- a set below n, as the reference tests it -/
def setB (xs : List Int) (n : Int) : Bool := decide ((xs.length : Int) ≤ n) && rises xs n
theorem setB_rises {xs : List Int} {n : Int} (hn : 0 ≤ n) : setB xs n = rises xs n := by
  unfold setB
  cases e : rises xs n
  · simp
  · rcases rises_len e with h | h
    · simp [h]
    · subst h; simpa using hn

end Go.Proofs.Ytbjonekgeidoiaa

