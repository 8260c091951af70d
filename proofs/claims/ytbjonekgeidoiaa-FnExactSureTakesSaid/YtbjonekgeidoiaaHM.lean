/- Clauses on words. No program in sight; no conditions. -/
import Derived.Test.YtbjonekgeidoiaaMM
set_option linter.unusedSimpArgs false
set_option linter.unusedVariables false
namespace Go.Proofs.Ytbjonekgeidoiaa
open Go.RowKit
open Shp
def someH (xs a : List Int) : Bool := !allN xs.length fun i => !has a (nth xs i)
theorem someH_iff {xs a : List Int} : someH xs a = true ↔ ∃ x ∈ xs, x ∈ a := by
  unfold someH
  constructor
  · intro h
    apply Classical.byContradiction
    intro hn
    rw [allN_true (fun j hj => ?_)] at h
    · cases h
    · cases e : has a (nth xs j)
      · rfl
      · exact absurd ⟨_, nth_mem hj, has_iff.1 e⟩ hn
  · rintro ⟨x, hx, ha⟩
    obtain ⟨i, hi, rfl⟩ := mem_nth hx
    rw [allN_false i hi (by rw [has_iff.2 ha]; rfl)]; rfl
end Go.Proofs.Ytbjonekgeidoiaa

