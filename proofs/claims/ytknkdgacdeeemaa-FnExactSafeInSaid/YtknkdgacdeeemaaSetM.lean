/- Plain sets: rising lists of numbers from 0 to n - 1. No program in sight; no conditions. -/
import Derived.Test.YtknkdgacdeeemaaIntsM
namespace Go.Proofs.Ytknkdgacdeeemaa

/-- Strictly rising, all from 0 to n - 1. -/
def setAt (n : Int) (s : List Int) (k : Nat) : Prop := 0 ≤ nth s k ∧ nth s k < n ∧ (0 < k → nth s (k - 1) < nth s k)
instance (n : Int) (s : List Int) (k : Nat) : Decidable (setAt n s k) := by unfold setAt; exact inferInstance

def isSet (n : Int) (s : List Int) : Bool := decide (∀ k, k < s.length → setAt n s k)

theorem isSet_iff {n : Int} {s : List Int} : isSet n s = true ↔ ∀ k, k < s.length → setAt n s k := by unfold isSet; simp
theorem isSet_no {n : Int} {s : List Int} {k : Nat} (hk : k < s.length) (h : ¬ setAt n s k) : isSet n s = false := by
  cases hb : isSet n s
  · rfl
  · exact absurd (isSet_iff.1 hb k hk) h

theorem isSet_rise {n : Int} {s : List Int} (h : isSet n s = true) : ∀ k, k < s.length → (k : Int) ≤ nth s k := by
  intro k
  induction k with
  | zero => intro hk; exact (isSet_iff.1 h 0 hk).1
  | succ k ih =>
    intro hk
    have h1 := ih (by omega)
    have h2 := (isSet_iff.1 h (k + 1) hk).2.2 (by omega)
    simp at h2
    omega

theorem isSet_len {n : Int} {s : List Int} (hn : 0 ≤ n) (h : isSet n s = true) : (s.length : Int) ≤ n := by
  rcases Nat.eq_zero_or_pos s.length with h0 | h0
  · omega
  · have h1 := isSet_rise h (s.length - 1) (by omega)
    have h2 := (isSet_iff.1 h (s.length - 1) (by omega)).2.1
    omega

end Go.Proofs.Ytknkdgacdeeemaa
