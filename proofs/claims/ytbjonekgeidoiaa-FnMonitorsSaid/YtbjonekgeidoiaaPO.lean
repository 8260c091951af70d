/- Products of monitors: a product of valid automata is valid. No program in sight; no conditions. -/
import Derived.Test.YtbjonekgeidoiaaJN
import Derived.Test.YtbjonekgeidoiaaMR
set_option linter.unusedSimpArgs false
set_option linter.unusedVariables false
namespace Go.Proofs.Ytbjonekgeidoiaa
open Go.RowKit
open Shp

theorem pairsB_iff {ps : List (List Int × List Int)} {n : Int} : pairsB ps n = true ↔ ps.length ≤ 4 ∧ ∀ p ∈ ps, rises p.1 n = true ∧ rises p.2 n = true := by
  unfold pairsB
  rw [Bool.and_eq_true, decide_eq_true_eq, allN_iff]
  refine and_congr_right fun _ => ⟨fun h p hp => ?_, fun h k hk => ?_⟩
  · obtain ⟨k, hk, rfl⟩ := mem_nth hp
    have := h k hk
    unfold pairRow at this; rwa [Bool.and_eq_true] at this
  · unfold pairRow; rw [Bool.and_eq_true]; exact h _ (nth_mem hk)
theorem detB_iff {i o : Int} {n : List (List Int)} {ps : List (List Int × List Int)} : detB i o n ps = true ↔ sigB i o = true ∧ (1 ≤ n.length ∧ n.length ≤ 48) ∧ pairsB ps n.length = true ∧ GoOk n (lettersB i o) := by
  unfold detB GoOk
  simp only [Bool.and_eq_true, decide_eq_true_eq, allN_iff, detRow]
  constructor
  · rintro ⟨⟨⟨⟨h1, h2⟩, h3⟩, h4⟩, h5⟩; exact ⟨h1, ⟨h2, h3⟩, h4, h5⟩
  · rintro ⟨h1, ⟨h2, h3⟩, h4, h5⟩; exact ⟨⟨⟨⟨h1, h2⟩, h3⟩, h4⟩, h5⟩
theorem letters_nat (i o : Int) : ((lettersB i o).toNat : Int) = lettersB i o := by have := lettersB_range i o; omega
theorem monStep_r {k q : Int} {a b : Bool} (hk : 1 ≤ k ∧ k ≤ 7) (hq : 0 ≤ q ∧ q < monMany k) : 0 ≤ monStep k q a b ∧ monStep k q a b < monMany k := by
  have h : k = 1 ∨ k = 2 ∨ k = 3 ∨ k = 4 ∨ k = 5 ∨ k = 6 ∨ k = 7 := by omega
  rcases h with rfl | rfl | rfl | rfl | rfl | rfl | rfl <;> cases a <;> cases b <;> simp [monStep, monMany, bit] at * <;> omega
theorem monP_rises {k : Int} (hk : 1 ≤ k ∧ k ≤ 7) : rises (monP k).1 (monMany k) = true ∧ rises (monP k).2 (monMany k) = true := by
  have h : k = 1 ∨ k = 2 ∨ k = 3 ∨ k = 4 ∨ k = 5 ∨ k = 6 ∨ k = 7 := by omega
  rcases h with rfl | rfl | rfl | rfl | rfl | rfl | rfl <;> decide
theorem mon_ok {i o k : Int} {a b : List Int} (hs : sigB i o = true) (hk : 1 ≤ k ∧ k ≤ 7) : detB i o (monN k a b (lettersB i o).toNat) [monP k] = true := by
  have hm := monMany_r k
  refine detB_iff.2 ⟨hs, ⟨by rw [monN_len]; omega, by rw [monN_len]; omega⟩, pairsB_iff.2 ⟨by simp, fun p hp => ?_⟩, fun q hq => ?_⟩
  · simp only [List.mem_singleton] at hp; subst hp; rw [monN_len]; exact monP_rises hk
  · rw [monN_len] at hq
    have e : nth (monN k a b (lettersB i o).toNat) q = monRow k a b (lettersB i o).toNat q := by rw [nth_eq (by rw [monN_len]; exact hq)]; simp [monN]
    rw [e, monN_len, monRow_len]
    refine ⟨letters_nat i o, below_iff.2 fun j hj => ?_⟩
    rw [monRow_len] at hj
    have e2 : nth (monRow k a b (lettersB i o).toNat q) j = monStep k q (has a j) (has b j) := by rw [nth_eq (by rw [monRow_len]; exact hj)]; simp [monRow]
    rw [e2]; exact monStep_r hk (by omega)
theorem pairs4 {i o : Int} {n : List (List Int)} {ps : List (List Int × List Int)} (h : detB i o n ps = true) : ps.length ≤ 4 := (pairsB_iff.1 (detB_iff.1 h).2.2.1).1
end Go.Proofs.Ytbjonekgeidoiaa

