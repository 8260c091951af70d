/- Automata with names that are good and bad. No program in sight; no conditions. -/
import Derived.Test.YtbjonekgeidoiaaPB
import Derived.Test.YtbjonekgeidoiaaHM
set_option linter.unusedSimpArgs false
set_option linter.unusedVariables false
namespace Go.Proofs.Ytbjonekgeidoiaa
open Go.RowKit
open Shp
theorem someH_meet {xs a : List Int} : someH xs a = meetB xs a := by
  rw [Bool.eq_iff_iff, someH_iff, meetB_iff]
theorem small4 {k : Nat} (h : k ≤ 4) : (-1000000 : Int) ≤ (k : Int) ∧ (k : Int) ≤ 1000000 := by omega
def sureRow (n : List (List Int)) (q : Nat) : Bool := decide ((nth n q).length = (nth n 0).length) && below (nth n q) n.length
def sureSets (n g b : List (List Int)) (k : Nat) : Bool := rises (nth g k) n.length && rises (nth b k) n.length
def sureB (n g b : List (List Int)) : Bool := decide (1 ≤ n.length) && decide (n.length ≤ 48) && decide (1 ≤ (nth n 0).length) && decide ((nth n 0).length ≤ 4) && decide (g.length = 8) && decide (b.length = 8) && (allN n.length (sureRow n) && allN 8 (sureSets n g b))
section
variable {n g b : List (List Int)} {s l : List Int}
theorem sureB_r (h : sureB n g b = true) : (1 ≤ n.length ∧ n.length ≤ 48) ∧ (1 ≤ (nth n 0).length ∧ (nth n 0).length ≤ 4) ∧ g.length = 8 ∧ b.length = 8 ∧ GoOk n (nth n 0).length ∧ ∀ k, k < 8 → (Asc (nth g k) ∧ (nth g k).length ≤ 600) ∧ Asc (nth b k) ∧ (nth b k).length ≤ 600 := by
  unfold sureB at h
  simp only [Bool.and_eq_true, decide_eq_true_eq] at h
  obtain ⟨⟨⟨⟨⟨⟨h1, h2⟩, h3⟩, h4⟩, h5⟩, h6⟩, h7, h8⟩ := h
  rw [allN_iff] at h7 h8
  refine ⟨⟨h1, h2⟩, ⟨h3, h4⟩, h5, h6, fun q hq => ?_, fun k hk => ?_⟩
  · have := h7 q hq
    unfold sureRow at this
    simp only [Bool.and_eq_true, decide_eq_true_eq] at this
    exact ⟨by omega, this.2⟩
  · have := h8 k hk
    unfold sureSets at this
    simp only [Bool.and_eq_true] at this
    exact ⟨⟨rises_asc this.1, rises_len6 this.1 (by omega)⟩, rises_asc this.2, rises_len6 this.2 (by omega)⟩
noncomputable def sureOk (n g b : List (List Int)) (s l : List Int) (k : Nat) : Bool := meetB (metN n s l) (nth g k) && !meetB (metN n s l) (nth b k)
noncomputable def sureT (n g b : List (List Int)) (s l : List Int) : Bool := sureB n g b && wordB s l (nth n 0).length && !allN 8 fun k => !sureOk n g b s l k
theorem sureT_n1 (h : sureB n g b = false) : false = sureT n g b s l := by unfold sureT; rw [h]; simp
theorem sureT_n2 (h : wordB s l (nth n 0).length = false) : false = sureT n g b s l := by unfold sureT; rw [h]; simp
theorem sureT_n3 (h : ∀ k, k < 8 → (!sureOk n g b s l k) = true) : false = sureT n g b s l := by unfold sureT; rw [allN_true h]; simp
theorem sureT_y {k : Nat} (h : sureB n g b = true) (h2 : wordB s l (nth n 0).length = true) (hk : k < 8) (h3 : meetB (metN n s l) (nth g k) = true) (h4 : meetB (metN n s l) (nth b k) = false) : true = sureT n g b s l := by
  unfold sureT; rw [h, h2, allN_false k hk (by unfold sureOk; rw [h3, h4]; rfl)]; rfl
theorem sure_met (h : sureB n g b = true) (h2 : wordB s l (nth n 0).length = true) : (metN n s l).length ≤ 600 := by
  have h1 := sureB_r h
  have := metN_len h1.2.2.2.2.1 (wordB_b h2).1 (wordB_b h2).2 h1.1.1
  omega
end
end Go.Proofs.Ytbjonekgeidoiaa

