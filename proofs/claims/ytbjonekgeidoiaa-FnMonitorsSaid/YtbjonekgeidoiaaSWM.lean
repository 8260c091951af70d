/- Infinite words: their letters, least representations. No program in sight; no conditions. -/
import Derived.Test.YtbjonekgeidoiaaWM
set_option linter.unusedSimpArgs false
set_option linter.unusedVariables false
namespace Go.Proofs.Ytbjonekgeidoiaa
open Go.RowKit
open Shp

theorem nth_take {α : Type} [Inhabited α] (xs : List α) (n i : Nat) (h : i < n) : nth (xs.take n) i = nth xs i := by
  unfold nth; simp [List.getElem?_take, h]
theorem nth_drop {α : Type} [Inhabited α] (xs : List α) (n i : Nat) : nth (xs.drop n) i = nth xs (n + i) := by
  unfold nth; simp [List.getElem?_drop]

/-! two representations of one word -/
/-- the letter at a natural index -/
def letN (s l : List Int) (i : Nat) : Int := if i < s.length then nth s i else nth l ((i - s.length) % l.length)
end Go.Proofs.Ytbjonekgeidoiaa

