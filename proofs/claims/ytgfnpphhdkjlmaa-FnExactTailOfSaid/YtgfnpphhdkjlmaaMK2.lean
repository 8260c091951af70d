/- How many numbers the data of the laws hold, by their sizes. No program in sight; no conditions. -/
import Derived.Test.YtgfnpphhdkjlmaaTM
import Derived.Test.YtgfnpphhdkjlmaaMK0
set_option linter.unusedSimpArgs false
set_option linter.unusedVariables false
namespace Go.Proofs.Ytgfnpphhdkjlmaa
open Go.RowKit
open Shp
theorem szGo_cn {α : Type} {f : α → Int → Int} {cn : α → Nat} (hf : ∀ x l, 0 ≤ f x l → (cn x : Int) + f x l ≤ l) : ∀ (xs : List α) (l : Int), 0 ≤ szGo f xs l → (cntG cn xs : Int) + szGo f xs l ≤ l
  | [], l, _ => by simp [cntG, szGo]
  | x :: xs, l, h => by
    obtain ⟨h1, h2⟩ := szThen_ge h
    have h5 := szGo_cn hf xs (f x l) (by rw [← h2]; exact h)
    have h6 : szGo f (x :: xs) l = szGo f xs (f x l) := h2
    have h7 := hf x l h1
    simp only [cntG, Int.natCast_add]
    omega
theorem szInt64S_cn (xs : List Int) (l : Int) (h : 0 ≤ szInt64S xs l) : (xs.length : Int) + szInt64S xs l ≤ l := by
  obtain ⟨h1, h2⟩ := szThen_ge h
  rw [show szInt64S xs l = l - xs.length from h2]; omega
theorem szInt64SS_cn (xs : List (List Int)) (l : Int) (h : 0 ≤ szInt64SS xs l) : (cntR xs : Int) + szInt64SS xs l ≤ l := by
  obtain ⟨h1, h2⟩ := szThen_ge h
  have h3 := szGo_cn (cn := List.length) (fun x l h => szInt64S_cn x l h) xs (l - xs.length) (by rw [← h2]; exact h)
  have h4 : szInt64SS xs l = szGo szInt64S xs (l - xs.length) := h2
  have h5 : (cntR xs : Int) = cntG List.length xs := rfl
  omega
theorem szInt64SSS_cn (xs : List (List (List Int))) (l : Int) (h : 0 ≤ szInt64SSS xs l) : (cntR3 xs : Int) + szInt64SSS xs l ≤ l := by
  obtain ⟨h1, h2⟩ := szThen_ge h
  have h3 := szGo_cn (cn := cntR) (fun x l h => szInt64SS_cn x l h) xs (l - xs.length) (by rw [← h2]; exact h)
  have h4 : szInt64SSS xs l = szGo szInt64SS xs (l - xs.length) := h2
  have h5 : (cntR3 xs : Int) = cntG cntR xs := rfl
  omega
theorem szPair_cn (x : List Int × List Int) (l : Int) (h : 0 ≤ szPair x l) : ((x.1.length + x.2.length : Nat) : Int) + szPair x l ≤ l := by
  unfold szPair at *
  obtain ⟨a0, b0⟩ := szThen_ge h
  have c0 := szInt64S_cn x.1 (l) a0
  rw [b0] at h ⊢
  obtain ⟨a1, b1⟩ := szThen_ge h
  have c1 := szInt64S_cn x.2 (szInt64S x.1 (l)) a1
  rw [b1] at h ⊢
  simp only [Int.natCast_add]
  omega
theorem szPairS_cn (xs : List (List Int × List Int)) (l : Int) (h : 0 ≤ szPairS xs l) : (cntPs xs : Int) + szPairS xs l ≤ l := by
  obtain ⟨h1, h2⟩ := szThen_ge h
  have h3 := szGo_cn (cn := cntP) (fun x l h => (by have q := szPair_cn x l h; simp only [cntP, Int.natCast_add] at *; omega)) xs (l - xs.length) (by rw [← h2]; exact h)
  have h4 : szPairS xs l = szGo szPair xs (l - xs.length) := h2
  have h5 : (cntPs xs : Int) = cntG cntP xs := rfl
  omega
theorem szWord_cn (x : List Int × List Int) (l : Int) (h : 0 ≤ szWord x l) : ((x.1.length + x.2.length : Nat) : Int) + szWord x l ≤ l := by
  unfold szWord at *
  obtain ⟨a0, b0⟩ := szThen_ge h
  have c0 := szInt64S_cn x.1 (l) a0
  rw [b0] at h ⊢
  obtain ⟨a1, b1⟩ := szThen_ge h
  have c1 := szInt64S_cn x.2 (szInt64S x.1 (l)) a1
  rw [b1] at h ⊢
  simp only [Int.natCast_add]
  omega
theorem szClause_cn (x : Int × List Int × List Int) (l : Int) (h : 0 ≤ szClause x l) : ((x.2.1.length + x.2.2.length : Nat) : Int) + szClause x l ≤ l := by
  unfold szClause at *
  obtain ⟨a0, b0⟩ := szThen_ge h
  have c0 := szInt64S_cn x.2.1 (l) a0
  rw [b0] at h ⊢
  obtain ⟨a1, b1⟩ := szThen_ge h
  have c1 := szInt64S_cn x.2.2 (szInt64S x.2.1 (l)) a1
  rw [b1] at h ⊢
  simp only [Int.natCast_add]
  omega
theorem szClauseS_cn (xs : List (Int × List Int × List Int)) (l : Int) (h : 0 ≤ szClauseS xs l) : (cntCls xs : Int) + szClauseS xs l ≤ l := by
  obtain ⟨h1, h2⟩ := szThen_ge h
  have h3 := szGo_cn (cn := cntCl) (fun x l h => (by have q := szClause_cn x l h; simp only [cntCl, Int.natCast_add] at *; omega)) xs (l - xs.length) (by rw [← h2]; exact h)
  have h4 : szClauseS xs l = szGo szClause xs (l - xs.length) := h2
  have h5 : (cntCls xs : Int) = cntG cntCl xs := rfl
  omega
theorem szDet_cn (x : List (List Int) × List (List Int × List Int)) (l : Int) (h : 0 ≤ szDet x l) : ((cntR x.1 + cntPs x.2 : Nat) : Int) + szDet x l ≤ l := by
  unfold szDet at *
  obtain ⟨a0, b0⟩ := szThen_ge h
  have c0 := szInt64SS_cn x.1 (l) a0
  rw [b0] at h ⊢
  obtain ⟨a1, b1⟩ := szThen_ge h
  have c1 := szPairS_cn x.2 (szInt64SS x.1 (l)) a1
  rw [b1] at h ⊢
  simp only [Int.natCast_add]
  omega
theorem szMachine_cn (x : List (List Int) × List (List Int)) (l : Int) (h : 0 ≤ szMachine x l) : ((cntR x.1 + cntR x.2 : Nat) : Int) + szMachine x l ≤ l := by
  unfold szMachine at *
  obtain ⟨a0, b0⟩ := szThen_ge h
  have c0 := szInt64SS_cn x.1 (l) a0
  rw [b0] at h ⊢
  obtain ⟨a1, b1⟩ := szThen_ge h
  have c1 := szInt64SS_cn x.2 (szInt64SS x.1 (l)) a1
  rw [b1] at h ⊢
  simp only [Int.natCast_add]
  omega
theorem szGuess_cn (x : List (List (List Int)) × List Int) (l : Int) (h : 0 ≤ szGuess x l) : ((cntR3 x.1 + x.2.length : Nat) : Int) + szGuess x l ≤ l := by
  unfold szGuess at *
  obtain ⟨a0, b0⟩ := szThen_ge h
  have c0 := szInt64SSS_cn x.1 (l) a0
  rw [b0] at h ⊢
  obtain ⟨a1, b1⟩ := szThen_ge h
  have c1 := szInt64S_cn x.2 (szInt64SSS x.1 (l)) a1
  rw [b1] at h ⊢
  simp only [Int.natCast_add]
  omega
theorem szTree_cn (x : List Int × List Int × List (List Int) × List Int) (l : Int) (h : 0 ≤ szTree x l) : ((x.1.length + x.2.1.length + cntR x.2.2.1 + x.2.2.2.length : Nat) : Int) + szTree x l ≤ l := by
  unfold szTree at *
  obtain ⟨a0, b0⟩ := szThen_ge h
  have c0 := szInt64S_cn x.1 (l) a0
  rw [b0] at h ⊢
  obtain ⟨a1, b1⟩ := szThen_ge h
  have c1 := szInt64S_cn x.2.1 (szInt64S x.1 (l)) a1
  rw [b1] at h ⊢
  obtain ⟨a2, b2⟩ := szThen_ge h
  have c2 := szInt64SS_cn x.2.2.1 (szInt64S x.2.1 (szInt64S x.1 (l))) a2
  rw [b2] at h ⊢
  obtain ⟨a3, b3⟩ := szThen_ge h
  have c3 := szInt64S_cn x.2.2.2 (szInt64SS x.2.2.1 (szInt64S x.2.1 (szInt64S x.1 (l)))) a3
  rw [b3] at h ⊢
  simp only [Int.natCast_add]
  omega
theorem szSure_cn (x : List (List Int) × List (List Int) × List (List Int)) (l : Int) (h : 0 ≤ szSure x l) : ((cntR x.1 + cntR x.2.1 + cntR x.2.2 : Nat) : Int) + szSure x l ≤ l := by
  unfold szSure at *
  obtain ⟨a0, b0⟩ := szThen_ge h
  have c0 := szInt64SS_cn x.1 (l) a0
  rw [b0] at h ⊢
  obtain ⟨a1, b1⟩ := szThen_ge h
  have c1 := szInt64SS_cn x.2.1 (szInt64SS x.1 (l)) a1
  rw [b1] at h ⊢
  obtain ⟨a2, b2⟩ := szThen_ge h
  have c2 := szInt64SS_cn x.2.2 (szInt64SS x.2.1 (szInt64SS x.1 (l))) a2
  rw [b2] at h ⊢
  simp only [Int.natCast_add]
  omega
theorem szArena_cn (x : List Int × List (List Int)) (l : Int) (h : 0 ≤ szArena x l) : ((x.1.length + cntR x.2 : Nat) : Int) + szArena x l ≤ l := by
  unfold szArena at *
  obtain ⟨a0, b0⟩ := szThen_ge h
  have c0 := szInt64S_cn x.1 (l) a0
  rw [b0] at h ⊢
  obtain ⟨a1, b1⟩ := szThen_ge h
  have c1 := szInt64SS_cn x.2 (szInt64S x.1 (l)) a1
  rw [b1] at h ⊢
  simp only [Int.natCast_add]
  omega
end Go.Proofs.Ytgfnpphhdkjlmaa
