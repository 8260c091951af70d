/- Sets as ascending lists; the states that are met again and again. No program in sight; no conditions. -/
import Derived.Test.YtabfpoflhacknaaMS
import Derived.Lib.SlicesCompact
set_option linter.unusedSimpArgs false
set_option linter.unusedVariables false
namespace Go.Proofs.Ytabfpoflhacknaa
open Go.RowKit
open Shp
section
variable {n : List (List Int)} {W : Int} {l : List Int}
abbrev lapN (n : List (List Int)) (l : List Int) (q : Int) : Int := goN n q l
theorem lap_in (hg : GoOk n W) (hl : below l W = true) {q : Int} (hq : 0 ≤ q ∧ q < n.length) : ∀ k, 0 ≤ it (lapN n l) k q ∧ it (lapN n l) k q < (n.length : Int)
  | 0 => hq
  | k + 1 => by rw [it_succ]; exact goN_range hg hl (lap_in hg hl hq k)
end
section
variable {n : List (List Int)} {W : Int} {s l : List Int}
end
theorem wordB_b {s l : List Int} {n : Int} (h : wordB s l n = true) : below s n = true ∧ below l n = true := by
  unfold wordB at h
  simp only [Bool.and_eq_true] at h
  exact ⟨h.1.2, h.2⟩
end Go.Proofs.Ytabfpoflhacknaa

