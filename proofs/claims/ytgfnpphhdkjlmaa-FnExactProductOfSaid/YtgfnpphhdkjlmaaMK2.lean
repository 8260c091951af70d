/- How many numbers the data of the laws hold, by their sizes. No program in sight; no conditions. -/
import Derived.Test.YtgfnpphhdkjlmaaTM
import Derived.Test.YtgfnpphhdkjlmaaMK0
set_option linter.unusedSimpArgs false
set_option linter.unusedVariables false
namespace Go.Proofs.Ytgfnpphhdkjlmaa
open Go.RowKit
open Shp
theorem szGo_cn {α : Type} {f : α → Int → Int} {cn : α → Nat} (hf : ∀ x l, 0 ≤ f x l → (cn x : Int) + f x l ≤ l) : ∀ (xs : List α) (l : Int), 0 ≤ szGo f xs l → (cntG cn xs : Int) + szGo f xs l ≤ l
  | [], l, _ => by simp [cntG, szGo]
  | x :: xs, l, h => by
    obtain ⟨h1, h2⟩ := szThen_ge h
    have h5 := szGo_cn hf xs (f x l) (by rw [← h2]; exact h)
    have h6 : szGo f (x :: xs) l = szGo f xs (f x l) := h2
    have h7 := hf x l h1
    simp only [cntG, Int.natCast_add]
    omega
theorem szInt64S_cn (xs : List Int) (l : Int) (h : 0 ≤ szInt64S xs l) : (xs.length : Int) + szInt64S xs l ≤ l := by
  obtain ⟨h1, h2⟩ := szThen_ge h
  rw [show szInt64S xs l = l - xs.length from h2]; omega
theorem szClause_cn (x : Int × List Int × List Int) (l : Int) (h : 0 ≤ szClause x l) : ((x.2.1.length + x.2.2.length : Nat) : Int) + szClause x l ≤ l := by
  unfold szClause at *
  obtain ⟨a0, b0⟩ := szThen_ge h
  have c0 := szInt64S_cn x.2.1 (l) a0
  rw [b0] at h ⊢
  obtain ⟨a1, b1⟩ := szThen_ge h
  have c1 := szInt64S_cn x.2.2 (szInt64S x.2.1 (l)) a1
  rw [b1] at h ⊢
  simp only [Int.natCast_add]
  omega
theorem cntCl_len : ∀ xs : List (Int × List Int × List Int), cntCls xs = xs.length + cntG (fun p : Int × List Int × List Int => p.2.1.length + p.2.2.length) xs
  | [] => rfl
  | x :: xs => by
    have h := cntCl_len xs
    show cntCl x + cntG cntCl xs = _
    rw [show cntG cntCl xs = cntCls xs from rfl, h]
    simp only [cntCl, cntG, List.length_cons]; omega
theorem szClauseS_cn (xs : List (Int × List Int × List Int)) (l : Int) (h : 0 ≤ szClauseS xs l) : (cntCls xs : Int) + szClauseS xs l ≤ l := by
  obtain ⟨h1, h2⟩ := szThen_ge h
  have h3 := szGo_cn (cn := fun p : Int × List Int × List Int => p.2.1.length + p.2.2.length) (fun x l h => (by have q := szClause_cn x l h; simp only [Int.natCast_add] at *; omega)) xs (l - xs.length) (by rw [← h2]; exact h)
  have h4 : szClauseS xs l = szGo szClause xs (l - xs.length) := h2
  have h5 := cntCl_len xs
  omega
end Go.Proofs.Ytgfnpphhdkjlmaa

