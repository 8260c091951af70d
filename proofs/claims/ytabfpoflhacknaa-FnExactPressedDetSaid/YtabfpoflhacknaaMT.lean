/- Two machines side by side: the steps of the search. No program in sight; no conditions. -/
import Derived.Test.YtabfpoflhacknaaMS
set_option linter.unusedSimpArgs false
set_option linter.unusedVariables false
namespace Go.Proofs.Ytabfpoflhacknaa
open Go.RowKit
open Shp

def hasP (xs : List (Int × Int)) (x : Int × Int) : Bool := !allN xs.length fun i => !decide (nth xs i = x)
theorem hasP_iff {xs : List (Int × Int)} {v : Int × Int} : hasP xs v = true ↔ v ∈ xs := by
  unfold hasP
  constructor
  · intro h
    apply Classical.byContradiction
    intro hn
    rw [allN_true (fun j hj => by
      have : nth xs j ≠ v := fun e => hn (by rw [← e]; exact nth_mem hj)
      simpa using this)] at h
    cases h
  · intro h
    obtain ⟨i, hi, e⟩ := mem_nth h
    rw [allN_false i hi (by simp [e])]; rfl
/-- pairs found -/
def PsOk (a b : List (List Int)) (os : List (Int × Int)) : Prop := os.Nodup ∧ ∀ x ∈ os, VP a.length b.length x
theorem PsOk.len {a b : List (List Int)} {os : List (Int × Int)} (h : PsOk a b os) (ha : a.length ≤ 48) (hb : b.length ≤ 48) : os.length ≤ 2304 := pairs_len ha hb os h.1 h.2
theorem PsOk.at {a b : List (List Int)} {os : List (Int × Int)} (h : PsOk a b os) {k : Nat} (hk : k < os.length) : (0 ≤ (nth os k).1 ∧ (nth os k).1 < (a.length : Int)) ∧ (0 ≤ (nth os k).2 ∧ (nth os k).2 < (b.length : Int)) := h.2 _ (nth_mem hk)
theorem PsOk.add {a b : List (List Int)} {os : List (Int × Int)} (h : PsOk a b os) {y : Int × Int} (hy : VP a.length b.length y) (hn : hasP os y = false) : PsOk a b (os ++ [y]) := by
  refine ⟨nodup_snoc h.1 (fun hm => by rw [hasP_iff.2 hm] at hn; cases hn), fun z hz => ?_⟩
  rcases List.mem_append.1 hz with h1 | h1
  · exact h.2 z h1
  · simp only [List.mem_singleton] at h1; subst h1; exact hy
def Ext {α : Type} (os ps : List α) : Prop := ∃ t, ps = os ++ t
theorem Ext.refl {α : Type} (os : List α) : Ext os os := ⟨[], by simp⟩
theorem Ext.snoc {α : Type} {os ps : List α} (h : Ext os ps) (y : α) : Ext os (ps ++ [y]) := by
  obtain ⟨t, rfl⟩ := h; exact ⟨t ++ [y], by simp⟩
theorem Ext.nth {α : Type} [Inhabited α] {os ps : List α} (h : Ext os ps) {k : Nat} (hk : k < os.length) : nth ps k = nth os k := by
  obtain ⟨t, rfl⟩ := h; exact nthA1 hk
theorem Ext.len {α : Type} {os ps : List α} (h : Ext os ps) : os.length ≤ ps.length := by
  obtain ⟨t, rfl⟩ := h; simp
section
variable {a oa b ob : List (List Int)} {W : Nat} {os ps : List (Int × Int)} {k x f : Nat}
theorem PsOk.one (ha : MOk a oa W) (hb : MOk b ob W) : PsOk a b [(0, 0)] := ⟨by simp, fun y hy => by simp only [List.mem_singleton] at hy; subst hy; exact vp_zero ha hb⟩
end
/-! the least machine -/
section
variable {n out : List (List Int)} {os ps : List Int} {k x f : Nat}
theorem place_ext {xs t : List Int} {v : Int} (h : v ∈ xs) : place (xs ++ t) v = place xs v := by
  have h1 : ∃ i, i < xs.length ∧ place xs v = (i : Int) ∧ nth xs i = v ∧ ∀ j, j < i → (nth xs j == v) = false := by
    unfold place
    rcases firstN_cases xs.length (fun i => nth xs i == v) with ⟨h1, h2⟩ | ⟨i, h1, h2, h3, h4⟩
    · obtain ⟨i, hi, e⟩ := mem_nth h
      have := h2 i hi
      rw [e] at this; simp at this
    · exact ⟨i, h1, h2, by simpa using h3, h4⟩
  obtain ⟨i, hi, e, h2, h3⟩ := h1
  rw [e]
  unfold place
  refine firstN_at i (by rw [List.length_append]; omega) (by rw [nthA1 hi, h2]; simp) fun j hj => ?_
  rw [nthA1 (by omega)]; exact h3 j hj
theorem map_take_snoc {α β : Type} [Inhabited α] {g : α → β} {xs : List α} {k : Nat} (h : k < xs.length) : (xs.map g).take k ++ [g (nth xs k)] = (xs.map g).take (k + 1) := by
  rw [← List.map_take, ← List.map_take, take_nth h]; simp
end
section
variable {n out : List (List Int)} {os ps : List Int} {k x f : Nat}
end
end Go.Proofs.Ytabfpoflhacknaa

