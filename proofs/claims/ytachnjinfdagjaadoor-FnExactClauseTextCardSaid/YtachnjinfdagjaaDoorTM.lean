/- The types of the laws: sizes, equality. No program in sight; no conditions. -/
import Derived.Test.YtachnjinfdagjaaDoorWM
set_option linter.unusedSimpArgs false
set_option linter.unusedVariables false
namespace Go.Proofs.YtachnjinfdagjaaDoor
open Go.RowKit
open Shp
def szThen (l : Int) (k : Int → Int) : Int := if l < 0 then -1 else k l
theorem szThen_ge {l : Int} {k : Int → Int} (h : 0 ≤ szThen l k) : 0 ≤ l ∧ szThen l k = k l := by
  unfold szThen at *
  split at h
  · omega
  · rename_i h1; exact ⟨by omega, by rw [if_neg h1]⟩
def szInt64S (xs : List Int) (l : Int) : Int := szThen (l - xs.length) fun l => l
def smInt64S (xs : List Int) : Prop := xs.length ≤ 1048576
theorem szInt64S_ok (xs : List Int) (l : Int) (h : 0 ≤ szInt64S xs l) (hl : l ≤ 1048576) : smInt64S xs ∧ szInt64S xs l ≤ l := by
  obtain ⟨h1, h2⟩ := szThen_ge h
  unfold smInt64S szInt64S
  exact ⟨by omega, by rw [show szThen (l - ↑xs.length) (fun l => l) = l - xs.length from h2]; omega⟩
def szClause (x : Int × List Int × List Int) (l : Int) : Int := szThen (szInt64S x.2.1 l) fun l => szThen (szInt64S x.2.2 l) fun l => l
def smClause (x : Int × List Int × List Int) : Prop := smInt64S x.2.1 ∧ smInt64S x.2.2
theorem szClause_ok (x : Int × List Int × List Int) (l : Int) (h : 0 ≤ szClause x l) (hl : l ≤ 1048576) : smClause x ∧ szClause x l ≤ l := by
  unfold szClause at *
  obtain ⟨a0, b0⟩ := szThen_ge h
  obtain ⟨c0, d0⟩ := szInt64S_ok x.2.1 (l) a0 (by omega)
  rw [b0] at h ⊢
  obtain ⟨a1, b1⟩ := szThen_ge h
  obtain ⟨c1, d1⟩ := szInt64S_ok x.2.2 (szInt64S x.2.1 (l)) a1 (by omega)
  rw [b1] at h ⊢
  exact ⟨⟨c0, c1⟩, by omega⟩
theorem decide_rows {α : Type} [Inhabited α] [DecidableEq α] {xs ys : List α} (hl : xs.length = ys.length) : (allN xs.length fun i => decide (nth xs i = nth ys i)) = decide (xs = ys) := by
  rw [Bool.eq_iff_iff, allN_iff, decide_eq_true_eq]
  constructor
  · intro h; exact list_ext hl fun i hi => by simpa using h i hi
  · rintro rfl; intro j hj; simp
end Go.Proofs.YtachnjinfdagjaaDoor

