/- Products of monitors: a product of valid automata is valid. No program in sight; no conditions. -/
import Derived.Test.YtabfpoflhacknaaJN
import Derived.Test.YtabfpoflhacknaaMR
set_option linter.unusedSimpArgs false
set_option linter.unusedVariables false
namespace Go.Proofs.Ytabfpoflhacknaa
open Go.RowKit
open Shp

theorem pairsB_iff {ps : List (List Int × List Int)} {n : Int} : pairsB ps n = true ↔ ps.length ≤ 4 ∧ ∀ p ∈ ps, rises p.1 n = true ∧ rises p.2 n = true := by
  unfold pairsB
  rw [Bool.and_eq_true, decide_eq_true_eq, allN_iff]
  refine and_congr_right fun _ => ⟨fun h p hp => ?_, fun h k hk => ?_⟩
  · obtain ⟨k, hk, rfl⟩ := mem_nth hp
    have := h k hk
    unfold pairRow at this; rwa [Bool.and_eq_true] at this
  · unfold pairRow; rw [Bool.and_eq_true]; exact h _ (nth_mem hk)
theorem detB_iff {i o : Int} {n : List (List Int)} {ps : List (List Int × List Int)} : detB i o n ps = true ↔ sigB i o = true ∧ (1 ≤ n.length ∧ n.length ≤ 48) ∧ pairsB ps n.length = true ∧ GoOk n (lettersB i o) := by
  unfold detB GoOk
  simp only [Bool.and_eq_true, decide_eq_true_eq, allN_iff, detRow]
  constructor
  · rintro ⟨⟨⟨⟨h1, h2⟩, h3⟩, h4⟩, h5⟩; exact ⟨h1, ⟨h2, h3⟩, h4, h5⟩
  · rintro ⟨h1, ⟨h2, h3⟩, h4, h5⟩; exact ⟨⟨⟨⟨h1, h2⟩, h3⟩, h4⟩, h5⟩
theorem letters_nat (i o : Int) : ((lettersB i o).toNat : Int) = lettersB i o := by have := lettersB_range i o; omega
theorem detB_sig0 {i o : Int} {n : List (List Int)} {ps : List (List Int × List Int)} (h : sigB i o = false) : detB i o n ps = false := by unfold detB; rw [h]; rfl
theorem pairs4 {i o : Int} {n : List (List Int)} {ps : List (List Int × List Int)} (h : detB i o n ps = true) : ps.length ≤ 4 := (pairsB_iff.1 (detB_iff.1 h).2.2.1).1
theorem inPart_len2 {s xs : List Int} : (inPart s xs xs.length).length ≤ xs.length := inPart_len
end Go.Proofs.Ytabfpoflhacknaa

