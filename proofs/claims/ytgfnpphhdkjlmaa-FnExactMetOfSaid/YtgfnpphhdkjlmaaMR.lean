/- Sizes of results. No program in sight; no conditions. -/
import Derived.Test.YtgfnpphhdkjlmaaMQ
import Derived.Test.YtgfnpphhdkjlmaaMS
import Derived.Test.YtgfnpphhdkjlmaaMK0
set_option linter.unusedSimpArgs false
set_option linter.unusedVariables false
namespace Go.Proofs.Ytgfnpphhdkjlmaa
open Go.RowKit
open Shp
theorem RF_ok {n : Nat} {sl : List (Nat × PV)} {hl : List (Nat × Block)} (h : (okSL n sl && okBL hl) = true) : RF ((okSL n sl && okBL hl) = true) := RF.mk h
theorem marks_tk (k : Int) (n : Nat) : (marks k n).take n = marks k n := List.take_of_length_le (by rw [marks_len]; exact Nat.le_refl _)
theorem markG_tk {α : Type} {mk : Int → α → α} {cn : α → Nat} (k : Int) (xs : List α) : (markG mk cn k xs).take xs.length = markG mk cn k xs := List.take_of_length_le (by rw [markG_len]; exact Nat.le_refl _)
end Go.Proofs.Ytgfnpphhdkjlmaa

