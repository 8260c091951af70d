/- Words, clauses, machines: plain laws. No program in sight; no conditions. -/
import Derived.Test.YtachnjinfdagjaaDoorKG
set_option linter.unusedSimpArgs false
set_option linter.unusedVariables false
namespace Go.Proofs.YtachnjinfdagjaaDoor
open Go.RowKit
open Shp
theorem nallN_true {n : Nat} {p : Nat → Bool} (i : Nat) (hi : i < n) (h : p i = false) : (!allN n p) = true := by rw [allN_false i hi h]; rfl
theorem nallN_false {n : Nat} {p : Nat → Bool} (h : ∀ j, j < n → p j = true) : (!allN n p) = false := by rw [allN_true h]; rfl
theorem rises_len {xs : List Int} {n : Int} (h : rises xs n = true) : (xs.length : Int) ≤ n ∨ xs = [] := by
  unfold rises at h
  rw [allN_iff] at h
  have key : ∀ i : Nat, i < xs.length → (i : Int) ≤ nth xs i := by
    intro i
    induction i with
    | zero => intro hi; have := h 0 hi; simp at this; omega
    | succ i ih =>
      intro hi
      have h1 := ih (by omega)
      have h2 := h (i + 1) hi
      simp at h2
      omega
  rcases Nat.eq_zero_or_pos xs.length with h0 | h0
  · exact .inr (List.eq_nil_of_length_eq_zero h0)
  · have h1 := key (xs.length - 1) (by omega)
    have h2 := h (xs.length - 1) (by omega)
    simp at h2
    left; omega
def setB (xs : List Int) (n : Int) : Bool := decide ((xs.length : Int) ≤ n) && rises xs n
theorem setB_rises {xs : List Int} {n : Int} (hn : 0 ≤ n) : setB xs n = rises xs n := by
  unfold setB
  cases e : rises xs n
  · simp
  · rcases rises_len e with h | h
    · simp [h]
    · subst h; simpa using hn
def pw (n : Int) : Int := 2 ^ n.toNat
def sigB (i o : Int) : Bool := decide (1 ≤ i) && decide (i ≤ 2) && decide (1 ≤ o) && decide (o ≤ 2)
theorem pw_vals : pw 1 = 2 ∧ pw 2 = 4 ∧ pw 3 = 8 ∧ pw 4 = 16 ∧ pw 0 = 1 := by decide
def lettersB (i o : Int) : Int := if sigB i o = true then pw (i + o) else 0
theorem lettersB_pos {i o : Int} (h : sigB i o = true) : lettersB i o = pw (i + o) := if_pos h
theorem lettersB_range (i o : Int) : 0 ≤ lettersB i o ∧ lettersB i o ≤ 16 := by
  unfold lettersB sigB
  split
  · rename_i h
    simp only [Bool.and_eq_true, decide_eq_true_eq] at h
    have h1 : i = 1 ∨ i = 2 := by omega
    have h2 : o = 1 ∨ o = 2 := by omega
    obtain ⟨p1, p2, p3, p4, _⟩ := pw_vals
    rcases h1 with rfl | rfl <;> rcases h2 with rfl | rfl <;> simp [p1, p2, p3, p4]
  · omega
theorem sigB_r {i o : Int} (h : sigB i o = true) : 1 ≤ i ∧ i ≤ 2 ∧ 1 ≤ o ∧ o ≤ 2 := by
  unfold sigB at h
  simp only [Bool.and_eq_true, decide_eq_true_eq] at h
  omega
theorem p2_le : ∀ k : Nat, k ≤ 10 → (1 : Int) ≤ 2 ^ k ∧ (2 : Int) ^ k ≤ 1024 := by decide
def secondB (k : Int) : Bool := decide (k = 2) || decide (k = 3) || decide (k = 7)
def clauseB (n k : Int) (a b : List Int) : Bool := decide (1 ≤ k) && decide (k ≤ 7) && rises a n && rises b n && (secondB k || decide (b = []))
end Go.Proofs.YtachnjinfdagjaaDoor

