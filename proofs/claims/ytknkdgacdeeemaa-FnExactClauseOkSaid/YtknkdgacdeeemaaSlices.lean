/- The laws' functions on slices of numbers, over the shape of such a slice. Conditions: the slice lies in memory. -/
import Derived.Test.YtknkdgacdeeemaaMake
namespace Go.Proofs.Ytknkdgacdeeemaa
open Go.RowKit
open Shp

theorem slice_open {α : Type} {s : Shp α} {w : World} {F : List Nat} {cs : List Value} {xs : List α} (h : (slice s).rep w F cs xs) : ∃ a cap, cs = [.slice a xs.length cap] := by
  obtain ⟨a, cap, _, rfl, _⟩ := h
  exact ⟨a, cap, rfl⟩
theorem slice_val {α : Type} {s : Shp α} (u : Value) : (slice s).val [u] = u := rfl
attribute [go_sem] slice_val

theorem sz_cases (n : Nat) (l : Int) : (l - n < 0 ∧ sz n l = -1) ∨ (0 ≤ l - n ∧ sz n l = l - n) := by
  unfold sz
  by_cases h : l - (n : Int) < 0
  · exact .inl ⟨h, if_pos h⟩
  · exact .inr ⟨by omega, if_neg h⟩

def szL (xs : List Int) (l : Int) : Int := sz xs.length l
def smallL (xs : List Int) : Prop := xs.length ≤ 1048576
def cntL (xs : List Int) : Nat := xs.length
def markL (k : Int) (xs : List Int) : List Int := marks k xs.length

theorem szL_neg {xs : List Int} {l : Int} (h : szL xs l < 0) : szL xs l = -1 := by unfold szL at *; rcases sz_cases xs.length l with h' | h' <;> omega
theorem szL_small {xs : List Int} {l : Int} (h : ¬ szL xs l < 0) (hl : l ≤ 1048576) : smallL xs ∧ (0 ≤ szL xs l ∧ szL xs l ≤ 1048576) := by
  unfold szL smallL at *; rcases sz_cases xs.length l with h' | h' <;> omega
theorem ints_eq_refl (xs : List Int) : eqL xs xs = true := eqL_refl xs

section
variable {w : World} {F : List Nat} {cs : List Value} {xs : List Int}

theorem ints_sz (h : (slice int).rep w F cs xs) (l : Int) (l0 : 0 ≤ l) (l1 : l ≤ 1048576) : Calls Try.prog 54 #[(slice int).val cs, .int .i64 l] w (Pure w (.int .i64 (szL xs l))) := by
  obtain ⟨a, cap, rfl, hi⟩ := ints_iff.1 h
  exact (szInt64S_any a xs.length cap l (Nat.le_trans hi.le hi.max) l0 l1 w).mono fun e w' ⟨he, hw⟩ => ⟨he, by rw [hw]; exact Keeps.refl _ _⟩

theorem ints_to (h : (slice int).rep w F cs xs) (hs : smallL xs) : Calls Try.prog 55 #[(slice int).val cs] w ((slice int).Ret w xs) := by
  obtain ⟨a, cap, rfl, hi⟩ := ints_iff.1 h
  exact (toInt64S_any hi (Nat.le_trans hs (by omega))).mono fun e w' ⟨G, b, c, he, hj, hf, hk⟩ => ⟨[.slice b xs.length c], G, he, ints_iff.2 ⟨b, c, rfl, hj⟩, hj.nodup, hf, hk⟩

theorem ints_eq {G : List Nat} {ds : List Value} {ys : List Int} (h : (slice int).rep w F cs xs) (k : (slice int).rep w G ds ys) : Calls Try.prog 56 #[(slice int).val cs, (slice int).val ds] w (Pure w (.bool (eqL xs ys))) := by
  obtain ⟨a, cap, rfl, hi⟩ := ints_iff.1 h
  obtain ⟨b, cap', rfl, hj⟩ := ints_iff.1 k
  exact eqInt64S_any hi hj
end
end Go.Proofs.Ytknkdgacdeeemaa
