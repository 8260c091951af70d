/- Infinite words: two representations of one word have the same least representation. No program in sight; no conditions. -/
import Derived.Test.YtbjonekgeidoiaaSWM
set_option linter.unusedSimpArgs false
set_option linter.unusedVariables false
namespace Go.Proofs.Ytbjonekgeidoiaa
open Go.RowKit
open Shp

/-- from n on, it comes again after p -/
def PerF (f : Nat → Int) (n p : Nat) : Prop := ∀ i, n ≤ i → f (i + p) = f i
theorem PerF.sub {f : Nat → Int} {n p q : Nat} (h1 : PerF f n p) (h2 : PerF f n q) (h : p ≤ q) : PerF f n (q - p) := fun i hi => by
  have a := h1 (i + (q - p)) (by omega)
  rw [show i + (q - p) + p = i + q by omega, h2 i hi] at a
  exact a.symm
theorem PerF.mono {f : Nat → Int} {n m p : Nat} (h : PerF f n p) (hn : n ≤ m) : PerF f m p := fun i hi => h i (by omega)
theorem PerF.mul {f : Nat → Int} {n p : Nat} (h : PerF f n p) (k : Nat) : PerF f n (k * p) := by
  induction k with
  | zero => intro i _; simp
  | succ k ih => intro i hi; rw [Nat.succ_mul, ← Nat.add_assoc, h _ (by omega), ih i hi]
end Go.Proofs.Ytbjonekgeidoiaa

