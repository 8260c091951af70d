/- The types of the laws: sizes, equality. No program in sight; no conditions. -/
import Derived.Test.YtachnjinfdagjaaDoorWM
set_option linter.unusedSimpArgs false
set_option linter.unusedVariables false
namespace Go.Proofs.YtachnjinfdagjaaDoor
open Go.RowKit
open Shp
theorem decide_rows {α : Type} [Inhabited α] [DecidableEq α] {xs ys : List α} (hl : xs.length = ys.length) : (allN xs.length fun i => decide (nth xs i = nth ys i)) = decide (xs = ys) := by
  rw [Bool.eq_iff_iff, allN_iff, decide_eq_true_eq]
  constructor
  · intro h; exact list_ext hl fun i hi => by simpa using h i hi
  · rintro rfl; intro j hj; simp
end Go.Proofs.YtachnjinfdagjaaDoor

