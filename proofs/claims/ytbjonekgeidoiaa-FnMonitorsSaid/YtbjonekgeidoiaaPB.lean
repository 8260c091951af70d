/- Sets that meet, pairs that are broken. No program in sight; no conditions. -/
import Derived.Test.YtbjonekgeidoiaaME
import Derived.Test.YtbjonekgeidoiaaPO
set_option linter.unusedSimpArgs false
set_option linter.unusedVariables false
namespace Go.Proofs.Ytbjonekgeidoiaa
open Go.RowKit
open Shp

/-- those that are not there -/
def lessZ (xs ys : List Int) : List Int := xs.filter fun x => !has ys x
theorem lessZ_len {xs ys : List Int} : (lessZ xs ys).length ≤ xs.length := List.length_filter_le _ _
theorem lessZ_yes {xs ys : List Int} {i : Nat} (h : i < xs.length) (hh : has ys (nth xs i) = false) : lessZ (xs.take (i + 1)) ys = lessZ (xs.take i) ys ++ [nth xs i] := by
  unfold lessZ; rw [take_nth h, List.filter_append]; simp [hh]
theorem lessZ_no {xs ys : List Int} {i : Nat} (h : i < xs.length) (hh : has ys (nth xs i) = true) : lessZ (xs.take (i + 1)) ys = lessZ (xs.take i) ys := by
  unfold lessZ; rw [take_nth h, List.filter_append]; simp [hh]
/-- do they meet? -/
def meetB (xs ys : List Int) : Bool := xs.any fun x => has ys x
theorem meetB_iff {xs ys : List Int} : meetB xs ys = true ↔ ∃ v, v ∈ xs ∧ v ∈ ys := by
  unfold meetB; rw [List.any_eq_true]
  constructor
  · rintro ⟨v, h1, h2⟩; exact ⟨v, h1, has_iff.1 h2⟩
  · rintro ⟨v, h1, h2⟩; exact ⟨v, h1, has_iff.2 h2⟩
theorem meetB_of {xs ys : List Int} : decide (((lessZ xs ys).length : Int) < (xs.length : Nat)) = meetB xs ys := by
  have key : ∀ xs : List Int, ((lessZ xs ys).length < xs.length) ↔ meetB xs ys = true := by
    intro xs
    induction xs with
    | nil => simp [lessZ, meetB]
    | cons x xs ih =>
      have hle := lessZ_len (xs := xs) (ys := ys)
      cases e : has ys x
      · have h1 : lessZ (x :: xs) ys = x :: lessZ xs ys := by simp [lessZ, e]
        have h2 : meetB (x :: xs) ys = meetB xs ys := by simp [meetB, e]
        rw [h1, h2, List.length_cons, List.length_cons, ← ih]; omega
      · have h1 : lessZ (x :: xs) ys = lessZ xs ys := by simp [lessZ, e]
        have h2 : meetB (x :: xs) ys = true := by simp [meetB, e]
        rw [h1, h2, List.length_cons]
        simp; omega
  rw [Bool.eq_iff_iff, decide_eq_true_eq, ← key xs]; omega
theorem meet_yes {xs ys : List Int} {i : Nat} (hi : i < xs.length) (h : has ys (nth xs i) = true) : meetB ys xs = true := meetB_iff.2 ⟨_, has_iff.1 h, nth_mem hi⟩
theorem meet_no {xs ys : List Int} {i : Nat} (hi : xs.length ≤ i) (h : ∀ z, z < i → (!has ys (nth xs z)) = true) : meetB ys xs = false := by
  cases e : meetB ys xs
  · rfl
  · obtain ⟨v, h1, h2⟩ := meetB_iff.1 e
    obtain ⟨z, hz, rfl⟩ := mem_nth h2
    have := h z (by omega)
    rw [has_iff.2 h1] at this; cases this
/-- the broken pairs, of the first k -/
def brkZ (ps : List (List Int × List Int)) (met : List Int) : Nat → List Int
  | 0 => []
  | k + 1 => if meetB met (nth ps k).1 = true ∧ meetB met (nth ps k).2 = false then brkZ ps met k ++ [(k : Int)] else brkZ ps met k
section
variable {ps : List (List Int × List Int)} {met : List Int} {k : Nat}
theorem brkZ_yes (h : meetB met (nth ps k).1 = true) (h2 : meetB met (nth ps k).2 = false) : brkZ ps met (k + 1) = brkZ ps met k ++ [(k : Int)] := by simp only [brkZ]; rw [if_pos ⟨h, h2⟩]
theorem brkZ_no1 (h : meetB met (nth ps k).1 = false) : brkZ ps met (k + 1) = brkZ ps met k := by simp only [brkZ]; rw [if_neg (by rw [h]; simp)]
theorem brkZ_no2 (h : meetB met (nth ps k).2 = true) : brkZ ps met (k + 1) = brkZ ps met k := by simp only [brkZ]; rw [if_neg (by rw [h]; simp)]
end
theorem brkZ_len {ps : List (List Int × List Int)} {met : List Int} : ∀ {k : Nat}, (brkZ ps met k).length ≤ k
  | 0 => Nat.le_refl _
  | k + 1 => by
    have := brkZ_len (ps := ps) (met := met) (k := k)
    simp only [brkZ]; split
    · simp; omega
    · omega
theorem rises_mono {xs : List Int} {n m : Int} (h : rises xs n = true) (hm : n ≤ m) : rises xs m = true := by
  unfold rises at *
  rw [allN_iff] at h ⊢
  intro j hj
  have := h j hj
  simp only [Bool.and_eq_true, Bool.or_eq_true, decide_eq_true_eq] at this ⊢
  exact ⟨⟨this.1.1, by omega⟩, this.2⟩
theorem pairs256 {i o : Int} {n : List (List Int)} {ps : List (List Int × List Int)} (h : detB i o n ps = true) : pairsB ps 256 = true := by
  obtain ⟨_, ⟨_, h1⟩, h2, _⟩ := detB_iff.1 h
  obtain ⟨h3, h4⟩ := pairsB_iff.1 h2
  exact pairsB_iff.2 ⟨h3, fun p hp => ⟨rises_mono (h4 p hp).1 (by omega), rises_mono (h4 p hp).2 (by omega)⟩⟩
theorem rises_len6 {xs : List Int} {n : Int} (h : rises xs n = true) (h0 : n ≤ 600) : xs.length ≤ 600 := by
  have hb := below_iff.1 (rises_below h)
  exact asc_len (N := 600) (rises_asc h) fun v hv => by
    obtain ⟨k, hk, rfl⟩ := mem_nth hv
    have := hb k hk; omega
theorem pairs_asc {i o : Int} {n : List (List Int)} {ps : List (List Int × List Int)} (h : detB i o n ps = true) : ∀ k, k < ps.length → (Asc (nth ps k).1 ∧ (nth ps k).1.length ≤ 600) ∧ Asc (nth ps k).2 ∧ (nth ps k).2.length ≤ 600 := fun k hk => by
  have := (pairsB_iff.1 (pairs256 h)).2 _ (nth_mem hk)
  exact ⟨⟨rises_asc this.1, rises_len6 this.1 (by omega)⟩, rises_asc this.2, rises_len6 this.2 (by omega)⟩
theorem metB_asc {i o : Int} {n : List (List Int)} {ps : List (List Int × List Int)} {s l : List Int} : Asc (metB i o n ps s l) := by
  unfold metB; split
  · exact metN_asc
  · simp [Asc]
theorem metN_in {n : List (List Int)} {s l : List Int} {v : Int} (h : v ∈ metN n s l) : 0 ≤ v ∧ v < (n.length : Int) := by
  unfold metN at h
  obtain ⟨h1, _⟩ := List.mem_filter.1 h
  obtain ⟨k, hk, rfl⟩ := List.mem_map.1 h1
  rw [List.mem_range] at hk; omega
theorem metB_in {i o : Int} {n : List (List Int)} {ps : List (List Int × List Int)} {s l : List Int} : ∀ v ∈ metB i o n ps s l, 0 ≤ v ∧ v < 48 := fun v hv => by
  unfold metB at hv
  split at hv
  · rename_i h
    have := metN_in hv
    have := (detB_r h.1).2.2.1
    omega
  · simp at hv
theorem metN_len48 {i o : Int} {n : List (List Int)} {ps : List (List Int × List Int)} {s l : List Int} (h : detB i o n ps = true) (h2 : wordB s l (lettersB i o) = true) : (metN n s l).length ≤ 600 := by
  have h1 := detB_r h
  have := metN_len (detB_go h) (wordB_b h2).1 (wordB_b h2).2 h1.2.1
  omega
noncomputable def takeB (i o : Int) (n : List (List Int)) (ps : List (List Int × List Int)) (s l : List Int) : Bool := detB i o n ps && wordB s l (lettersB i o) && decide (brkZ ps (metB i o n ps s l) ps.length = [])
section
variable {i o : Int} {n : List (List Int)} {ps : List (List Int × List Int)} {s l : List Int}
theorem take_n1 (h : detB i o n ps = false) : false = takeB i o n ps s l := by unfold takeB; rw [h]; rfl
theorem take_n2 (h : wordB s l (lettersB i o) = false) : false = takeB i o n ps s l := by unfold takeB; rw [h]; simp
theorem take_n3 (h : sigB i o = false) : false = takeB i o n ps s l := take_n1 (by unfold detB; rw [h]; rfl)
theorem brk_dec {xs : List Int} : ((xs.length : Int) == 0) = decide (xs = []) := by
  rw [Bool.eq_iff_iff]; simp [List.length_eq_zero_iff]
theorem take_y (h : detB i o n ps = true) (h2 : wordB s l (lettersB i o) = true) : decide (brkZ ps (metB i o n ps s l) ps.length = []) = takeB i o n ps s l := by unfold takeB; rw [h, h2]; rfl
theorem take_y2 (h : detB i o n ps = true) (h2 : wordB s l (lettersB i o) = true) : (((brkZ ps (metN n s l) ps.length).length : Int) == 0) = takeB i o n ps s l := by rw [← take_y h h2, brk_dec, metB_y h h2]
end
end Go.Proofs.Ytbjonekgeidoiaa

