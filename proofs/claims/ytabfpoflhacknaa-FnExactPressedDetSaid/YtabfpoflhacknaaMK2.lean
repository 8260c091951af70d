/- How many numbers the data of the laws hold, by their sizes. No program in sight; no conditions. -/
import Derived.Test.YtabfpoflhacknaaTM
import Derived.Test.YtabfpoflhacknaaMK0
set_option linter.unusedSimpArgs false
set_option linter.unusedVariables false
namespace Go.Proofs.Ytabfpoflhacknaa
open Go.RowKit
open Shp

theorem szGo_cn {α : Type} {f : α → Int → Int} {cn : α → Nat} (hf : ∀ x l, 0 ≤ f x l → (cn x : Int) + f x l ≤ l) : ∀ (xs : List α) (l : Int), 0 ≤ szGo f xs l → (cntG cn xs : Int) + szGo f xs l ≤ l
  | [], l, _ => by simp [cntG, szGo]
  | x :: xs, l, h => by
    obtain ⟨h1, h2⟩ := szThen_ge h
    have h5 := szGo_cn hf xs (f x l) (by rw [← h2]; exact h)
    have h6 : szGo f (x :: xs) l = szGo f xs (f x l) := h2
    have h7 := hf x l h1
    simp only [cntG, Int.natCast_add]
    omega
theorem szInt64S_cn (xs : List Int) (l : Int) (h : 0 ≤ szInt64S xs l) : (xs.length : Int) + szInt64S xs l ≤ l := by
  obtain ⟨h1, h2⟩ := szThen_ge h
  rw [show szInt64S xs l = l - xs.length from h2]; omega
theorem szInt64SS_cn (xs : List (List Int)) (l : Int) (h : 0 ≤ szInt64SS xs l) : (cntR xs : Int) + szInt64SS xs l ≤ l := by
  obtain ⟨h1, h2⟩ := szThen_ge h
  have h3 := szGo_cn (cn := List.length) (fun x l h => szInt64S_cn x l h) xs (l - xs.length) (by rw [← h2]; exact h)
  have h4 : szInt64SS xs l = szGo szInt64S xs (l - xs.length) := h2
  have h5 : (cntR xs : Int) = cntG List.length xs := rfl
  omega
theorem szPair_cn (x : List Int × List Int) (l : Int) (h : 0 ≤ szPair x l) : ((x.1.length + x.2.length : Nat) : Int) + szPair x l ≤ l := by
  unfold szPair at *
  obtain ⟨a0, b0⟩ := szThen_ge h
  have c0 := szInt64S_cn x.1 (l) a0
  rw [b0] at h ⊢
  obtain ⟨a1, b1⟩ := szThen_ge h
  have c1 := szInt64S_cn x.2 (szInt64S x.1 (l)) a1
  rw [b1] at h ⊢
  simp only [Int.natCast_add]
  omega
theorem szPairS_cn (xs : List (List Int × List Int)) (l : Int) (h : 0 ≤ szPairS xs l) : (cntPs xs : Int) + szPairS xs l ≤ l := by
  obtain ⟨h1, h2⟩ := szThen_ge h
  have h3 := szGo_cn (cn := cntP) (fun x l h => (by have q := szPair_cn x l h; simp only [cntP, Int.natCast_add] at *; omega)) xs (l - xs.length) (by rw [← h2]; exact h)
  have h4 : szPairS xs l = szGo szPair xs (l - xs.length) := h2
  have h5 : (cntPs xs : Int) = cntG cntP xs := rfl
  omega
theorem szDet_cn (x : List (List Int) × List (List Int × List Int)) (l : Int) (h : 0 ≤ szDet x l) : ((cntR x.1 + cntPs x.2 : Nat) : Int) + szDet x l ≤ l := by
  unfold szDet at *
  obtain ⟨a0, b0⟩ := szThen_ge h
  have c0 := szInt64SS_cn x.1 (l) a0
  rw [b0] at h ⊢
  obtain ⟨a1, b1⟩ := szThen_ge h
  have c1 := szPairS_cn x.2 (szInt64SS x.1 (l)) a1
  rw [b1] at h ⊢
  simp only [Int.natCast_add]
  omega
end Go.Proofs.Ytabfpoflhacknaa

