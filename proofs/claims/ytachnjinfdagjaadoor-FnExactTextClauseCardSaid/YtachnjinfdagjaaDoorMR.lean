/- Sizes of results. No program in sight; no conditions. -/
import Derived.Test.YtachnjinfdagjaaDoorMQ
import Derived.Test.YtachnjinfdagjaaDoorMS
import Derived.Test.YtachnjinfdagjaaDoorMK0
set_option linter.unusedSimpArgs false
set_option linter.unusedVariables false
namespace Go.Proofs.YtachnjinfdagjaaDoor
open Go.RowKit
open Shp
theorem RF_ok {n : Nat} {sl : List (Nat × PV)} {hl : List (Nat × Block)} (h : (okSL n hl sl && okBL hl) = true) : RF ((okSL n hl sl && okBL hl) = true) := RF.mk h
theorem marks_tk (k : Int) (n : Nat) : (marks k n).take n = marks k n := List.take_of_length_le (by rw [marks_len]; exact Nat.le_refl _)
theorem markG_tk {α : Type} {mk : Int → α → α} {cn : α → Nat} (k : Int) (xs : List α) : (markG mk cn k xs).take xs.length = markG mk cn k xs := List.take_of_length_le (by rw [markG_len]; exact Nat.le_refl _)
theorem markPs_idem2 {j k : Int} (h : j = k) (xs : List (List Int × List Int)) : markPs j xs = markPs k (markPs j xs) := by subst h; exact markPs_idem _ _
theorem markR_idem2 {j k : Int} (h : j = k) (xs : List (List Int)) : markR j xs = markR k (markR j xs) := by subst h; exact markR_idem _ _
end Go.Proofs.YtachnjinfdagjaaDoor

