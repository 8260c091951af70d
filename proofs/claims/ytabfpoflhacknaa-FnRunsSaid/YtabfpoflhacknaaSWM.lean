/- Infinite words: their letters, least representations. No program in sight; no conditions. -/
import Derived.Test.YtabfpoflhacknaaWM
set_option linter.unusedSimpArgs false
set_option linter.unusedVariables false
namespace Go.Proofs.Ytabfpoflhacknaa
open Go.RowKit
open Shp
def atW (s l : List Int) (i : Int) : Int := if i < s.length then nth s i.toNat else nth l ((i - s.length) % l.length).toNat
theorem nth_take {α : Type} [Inhabited α] (xs : List α) (n i : Nat) (h : i < n) : nth (xs.take n) i = nth xs i := by
  unfold nth; simp [List.getElem?_take, h]
theorem nth_drop {α : Type} [Inhabited α] (xs : List α) (n i : Nat) : nth (xs.drop n) i = nth xs (n + i) := by
  unfold nth; simp [List.getElem?_drop]
def letN (s l : List Int) (i : Nat) : Int := if i < s.length then nth s i else nth l ((i - s.length) % l.length)
theorem atW_nat (s l : List Int) (i : Nat) : atW s l i = letN s l i := by
  unfold atW letN
  by_cases h : i < s.length
  · rw [if_pos (by omega), if_pos h]; rfl
  · rw [if_neg (by omega), if_neg h, show ((i : Int) - s.length) = ((i - s.length : Nat) : Int) by omega, ← Int.natCast_emod]; rfl
end Go.Proofs.Ytabfpoflhacknaa

