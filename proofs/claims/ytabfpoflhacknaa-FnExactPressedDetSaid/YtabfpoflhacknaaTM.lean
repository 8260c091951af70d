/- The types of the laws: sizes, equality. No program in sight; no conditions. -/
import Derived.Test.YtabfpoflhacknaaWM
set_option linter.unusedSimpArgs false
set_option linter.unusedVariables false
namespace Go.Proofs.Ytabfpoflhacknaa
open Go.RowKit
open Shp

def szThen (l : Int) (k : Int → Int) : Int := if l < 0 then -1 else k l
theorem szThen_ge {l : Int} {k : Int → Int} (h : 0 ≤ szThen l k) : 0 ≤ l ∧ szThen l k = k l := by
  unfold szThen at *
  split at h
  · omega
  · rename_i h1; exact ⟨by omega, by rw [if_neg h1]⟩
def szGo {α : Type} (f : α → Int → Int) : List α → Int → Int
  | [], l => l
  | x :: xs, l => szThen (f x l) (szGo f xs)
theorem szGo_ok {α : Type} {f : α → Int → Int} {sm : α → Prop} (hf : ∀ x l, 0 ≤ f x l → l ≤ 1048576 → sm x ∧ f x l ≤ l) : ∀ (xs : List α) (l : Int), 0 ≤ l → 0 ≤ szGo f xs l → l ≤ 1048576 → (∀ x ∈ xs, sm x) ∧ szGo f xs l ≤ l
  | [], l, _, _, _ => ⟨by simp, by simp [szGo]⟩
  | x :: xs, l, h0, h, hl => by
    obtain ⟨h1, h2⟩ := szThen_ge h
    obtain ⟨h3, h4⟩ := hf x l h1 hl
    have h5 := szGo_ok hf xs (f x l) h1 (by rw [← h2]; exact h) (by omega)
    have h6 : szGo f (x :: xs) l = szGo f xs (f x l) := h2
    refine ⟨fun y hy => ?_, by omega⟩
    rcases List.mem_cons.1 hy with rfl | hy
    · exact h3
    · exact h5.1 y hy
def szInt64S (xs : List Int) (l : Int) : Int := szThen (l - xs.length) fun l => l
def smInt64S (xs : List Int) : Prop := xs.length ≤ 1048576
theorem szInt64S_ok (xs : List Int) (l : Int) (h : 0 ≤ szInt64S xs l) (hl : l ≤ 1048576) : smInt64S xs ∧ szInt64S xs l ≤ l := by
  obtain ⟨h1, h2⟩ := szThen_ge h
  unfold smInt64S szInt64S
  exact ⟨by omega, by rw [show szThen (l - ↑xs.length) (fun l => l) = l - xs.length from h2]; omega⟩
def szInt64SS (xs : List (List Int)) (l : Int) : Int := szThen (l - xs.length) (szGo szInt64S xs)
def smInt64SS (xs : List (List Int)) : Prop := xs.length ≤ 1048576 ∧ ∀ x ∈ xs, smInt64S x
theorem szInt64SS_ok (xs : List (List Int)) (l : Int) (h : 0 ≤ szInt64SS xs l) (hl : l ≤ 1048576) : smInt64SS xs ∧ szInt64SS xs l ≤ l := by
  obtain ⟨h1, h2⟩ := szThen_ge h
  have h3 := szGo_ok szInt64S_ok xs (l - xs.length) h1 (by rw [← h2]; exact h) (by omega)
  refine ⟨⟨by omega, h3.1⟩, ?_⟩
  have h4 : szInt64SS xs l = szGo szInt64S xs (l - xs.length) := h2
  omega
def szPair (x : List Int × List Int) (l : Int) : Int := szThen (szInt64S x.1 l) fun l => szThen (szInt64S x.2 l) fun l => l
def smPair (x : List Int × List Int) : Prop := smInt64S x.1 ∧ smInt64S x.2
theorem szPair_ok (x : List Int × List Int) (l : Int) (h : 0 ≤ szPair x l) (hl : l ≤ 1048576) : smPair x ∧ szPair x l ≤ l := by
  unfold szPair at *
  obtain ⟨a0, b0⟩ := szThen_ge h
  obtain ⟨c0, d0⟩ := szInt64S_ok x.1 (l) a0 (by omega)
  rw [b0] at h ⊢
  obtain ⟨a1, b1⟩ := szThen_ge h
  obtain ⟨c1, d1⟩ := szInt64S_ok x.2 (szInt64S x.1 (l)) a1 (by omega)
  rw [b1] at h ⊢
  exact ⟨⟨c0, c1⟩, by omega⟩
def szPairS (xs : List (List Int × List Int)) (l : Int) : Int := szThen (l - xs.length) (szGo szPair xs)
def smPairS (xs : List (List Int × List Int)) : Prop := xs.length ≤ 1048576 ∧ ∀ x ∈ xs, smPair x
theorem szPairS_ok (xs : List (List Int × List Int)) (l : Int) (h : 0 ≤ szPairS xs l) (hl : l ≤ 1048576) : smPairS xs ∧ szPairS xs l ≤ l := by
  obtain ⟨h1, h2⟩ := szThen_ge h
  have h3 := szGo_ok szPair_ok xs (l - xs.length) h1 (by rw [← h2]; exact h) (by omega)
  refine ⟨⟨by omega, h3.1⟩, ?_⟩
  have h4 : szPairS xs l = szGo szPair xs (l - xs.length) := h2
  omega
def szDet (x : List (List Int) × List (List Int × List Int)) (l : Int) : Int := szThen (szInt64SS x.1 l) fun l => szThen (szPairS x.2 l) fun l => l
def smDet (x : List (List Int) × List (List Int × List Int)) : Prop := smInt64SS x.1 ∧ smPairS x.2
theorem szDet_ok (x : List (List Int) × List (List Int × List Int)) (l : Int) (h : 0 ≤ szDet x l) (hl : l ≤ 1048576) : smDet x ∧ szDet x l ≤ l := by
  unfold szDet at *
  obtain ⟨a0, b0⟩ := szThen_ge h
  obtain ⟨c0, d0⟩ := szInt64SS_ok x.1 (l) a0 (by omega)
  rw [b0] at h ⊢
  obtain ⟨a1, b1⟩ := szThen_ge h
  obtain ⟨c1, d1⟩ := szPairS_ok x.2 (szInt64SS x.1 (l)) a1 (by omega)
  rw [b1] at h ⊢
  exact ⟨⟨c0, c1⟩, by omega⟩
theorem decide_rows {α : Type} [Inhabited α] [DecidableEq α] {xs ys : List α} (hl : xs.length = ys.length) : (allN xs.length fun i => decide (nth xs i = nth ys i)) = decide (xs = ys) := by
  rw [Bool.eq_iff_iff, allN_iff, decide_eq_true_eq]
  constructor
  · intro h; exact list_ext hl fun i hi => by simpa using h i hi
  · rintro rfl; intro j hj; simp
end Go.Proofs.Ytabfpoflhacknaa

