/- Sets that meet, pairs that are broken. No program in sight; no conditions. -/
import Derived.Test.YtbjonekgeidoiaaME
import Derived.Test.YtbjonekgeidoiaaPO
set_option linter.unusedSimpArgs false
set_option linter.unusedVariables false
namespace Go.Proofs.Ytbjonekgeidoiaa
open Go.RowKit
open Shp
section
variable {ps : List (List Int × List Int)} {met : List Int} {k : Nat}
end
theorem rises_mono {xs : List Int} {n m : Int} (h : rises xs n = true) (hm : n ≤ m) : rises xs m = true := by
  unfold rises at *
  rw [allN_iff] at h ⊢
  intro j hj
  have := h j hj
  simp only [Bool.and_eq_true, Bool.or_eq_true, decide_eq_true_eq] at this ⊢
  exact ⟨⟨this.1.1, by omega⟩, this.2⟩
theorem pairs256 {i o : Int} {n : List (List Int)} {ps : List (List Int × List Int)} (h : detB i o n ps = true) : pairsB ps 256 = true := by
  obtain ⟨_, ⟨_, h1⟩, h2, _⟩ := detB_iff.1 h
  obtain ⟨h3, h4⟩ := pairsB_iff.1 h2
  exact pairsB_iff.2 ⟨h3, fun p hp => ⟨rises_mono (h4 p hp).1 (by omega), rises_mono (h4 p hp).2 (by omega)⟩⟩
theorem rises_len6 {xs : List Int} {n : Int} (h : rises xs n = true) (h0 : n ≤ 600) : xs.length ≤ 600 := by
  have hb := below_iff.1 (rises_below h)
  exact asc_len (N := 600) (rises_asc h) fun v hv => by
    obtain ⟨k, hk, rfl⟩ := mem_nth hv
    have := hb k hk; omega
theorem pairs_asc {i o : Int} {n : List (List Int)} {ps : List (List Int × List Int)} (h : detB i o n ps = true) : ∀ k, k < ps.length → (Asc (nth ps k).1 ∧ (nth ps k).1.length ≤ 600) ∧ Asc (nth ps k).2 ∧ (nth ps k).2.length ≤ 600 := fun k hk => by
  have := (pairsB_iff.1 (pairs256 h)).2 _ (nth_mem hk)
  exact ⟨⟨rises_asc this.1, rises_len6 this.1 (by omega)⟩, rises_asc this.2, rises_len6 this.2 (by omega)⟩
section
variable {i o : Int} {n : List (List Int)} {ps : List (List Int × List Int)} {s l : List Int}
end
end Go.Proofs.Ytbjonekgeidoiaa

