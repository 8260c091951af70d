/- Clauses as laws of the letters: the same for each way to write a word; on tails. No program in sight; no conditions. -/
import Derived.Test.YtbjonekgeidoiaaHM
import Derived.Test.YtbjonekgeidoiaaTO
set_option linter.unusedSimpArgs false
set_option linter.unusedVariables false
namespace Go.Proofs.Ytbjonekgeidoiaa
open Go.RowKit
open Shp

theorem below_sub {xs ys : List Int} {n m : Int} (h : below ys n = true) (hn : n ≤ m) (hs : ∀ x ∈ xs, x ∈ ys) : below xs m = true := by
  rw [below_iff] at h ⊢
  intro j hj
  obtain ⟨i, hi, e⟩ := mem_nth (hs _ (nth_mem hj))
  have := h i hi
  rw [e] at this; omega
theorem wordB_parts {s l : List Int} {n : Int} : wordB s l n = true ↔ s.length ≤ 600 ∧ l.length ≤ 600 ∧ 1 ≤ l.length ∧ below s n = true ∧ below l n = true := by
  unfold wordB; simp only [Bool.and_eq_true, decide_eq_true_eq]; constructor
  · rintro ⟨⟨⟨⟨a, b⟩, c⟩, d⟩, e⟩; exact ⟨a, b, c, d, e⟩
  · rintro ⟨a, b, c, d, e⟩; exact ⟨⟨⟨⟨a, b⟩, c⟩, d⟩, e⟩
theorem wordB_more {s l : List Int} {n m : Int} (h : wordB s l n = true) (hn : n ≤ m) : wordB s l m = true := by
  obtain ⟨a, b, c, d, e⟩ := wordB_parts.1 h
  exact wordB_parts.2 ⟨a, b, c, below_sub d hn fun _ h => h, below_sub e hn fun _ h => h⟩
theorem tail_word {s l : List Int} {n k : Int} (h : wordB s l n = true) (hn : n ≤ 16) (h0 : 0 ≤ k) (h1 : k ≤ 1200) : wordB (tailO s l k).1 (tailO s l k).2 n = true ∧ ∀ i, letN (tailO s l k).1 (tailO s l k).2 i = letN s l (k.toNat + i) := by
  obtain ⟨a, b, c, d, e⟩ := wordB_parts.1 h
  have hw := wordB_more h hn
  by_cases hk : k ≤ s.length
  · rw [tailO_stem hw h0 h1 hk]
    refine ⟨wordB_parts.2 ⟨by rw [List.length_drop]; omega, b, c, below_sub d (Int.le_refl _) fun x hx => List.mem_of_mem_drop hx, e⟩, fun i => ?_⟩
    show letN (s.drop k.toNat) l i = _
    unfold letN
    rw [List.length_drop]
    by_cases hi : i < s.length - k.toNat
    · rw [if_pos hi, if_pos (by omega), nth_drop]
    · rw [if_neg hi, if_neg (by omega), show i - (s.length - k.toNat) = k.toNat + i - s.length by omega]
  · rw [tailO_loop hw h0 h1 (by omega)]
    have ht := tailI_lt (s := s) (k := k) c
    have hrl := rot_len (l := l) (i := tailI s l k) (by omega)
    refine ⟨wordB_parts.2 ⟨by simp, by show (rot l (tailI s l k)).length ≤ 600; omega, by show 1 ≤ (rot l (tailI s l k)).length; omega, by rw [below_iff]; intro j hj; simp at hj, below_sub e (Int.le_refl _) fun x hx => ?_⟩, fun i => ?_⟩
    · unfold rot at hx
      rcases List.mem_append.1 hx with hx | hx
      · exact List.mem_of_mem_drop hx
      · exact List.mem_of_mem_take hx
    · show letN [] (rot l (tailI s l k)) i = _
      unfold letN
      rw [if_neg (by simp), if_neg (by omega), hrl, rot_nth (by omega) (Nat.mod_lt _ (by omega))]
      congr 1
      unfold tailI
      rw [List.length_nil, Nat.sub_zero, show (k - (s.length : Int)) = ((k.toNat - s.length : Nat) : Int) by omega, ← Int.natCast_emod, Int.toNat_natCast, ← Nat.add_mod, show k.toNat - s.length + i = k.toNat + i - s.length by omega]
end Go.Proofs.Ytbjonekgeidoiaa

