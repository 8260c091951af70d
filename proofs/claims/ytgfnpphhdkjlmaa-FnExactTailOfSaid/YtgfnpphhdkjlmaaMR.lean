/- Sizes of results. No program in sight; no conditions. -/
import Derived.Test.YtgfnpphhdkjlmaaMQ
import Derived.Test.YtgfnpphhdkjlmaaMS
import Derived.Test.YtgfnpphhdkjlmaaMK0
set_option linter.unusedSimpArgs false
set_option linter.unusedVariables false
namespace Go.Proofs.Ytgfnpphhdkjlmaa
open Go.RowKit
open Shp
theorem cntG_bound {α : Type} {cn : α → Nat} {m : Nat} : ∀ {xs : List α}, (∀ x ∈ xs, cn x ≤ m) → cntG cn xs ≤ xs.length * m
  | [], _ => by simp [cntG]
  | x :: xs, h => by
    have h1 := h x (.head _)
    have h2 := cntG_bound (xs := xs) fun y hy => h y (.tail _ hy)
    simp only [cntG, List.length_cons, Nat.add_mul, Nat.one_mul]; omega
theorem foundN_in {n : List (List Int)} {W : Int} (hg : GoOk n W) (hn : 1 ≤ n.length) : (foundN n).length ≤ n.length ∧ ∀ x ∈ foundN n, 0 ≤ x ∧ x < (n.length : Int) := by
  have h1 : ∀ x ∈ foundN n, 0 ≤ x ∧ x < (n.length : Int) := bfsG_ind (P := fun x => 0 ≤ x ∧ x < (n.length : Int)) (fun x hx y hy => by
    obtain ⟨j, hj, rfl⟩ := mem_nth hy
    have h2 : ((rowN n x).length : Int) = W := hg.row hx.1 hx.2
    have h3 := hg.step (x := (j : Int)) hx ⟨by omega, by omega⟩
    rwa [Int.toNat_natCast] at h3) _ _ _ (fun x hx => by simp only [List.mem_singleton] at hx; subst hx; omega)
  exact ⟨nodup_len n.length _ (bfsG_nodup _ _ _ (by simp)) h1, h1⟩
theorem foundB_len {i o : Int} {n out : List (List Int)} : (foundB i o n out).length ≤ 48 := by
  unfold foundB
  split
  · rename_i h
    have h1 := machB_r h
    have := (foundN_in (machB_go h) h1.2.1).1
    omega
  · simp
theorem alikeB_len {i o : Int} {n out : List (List Int)} : (alikeB i o n out).length ≤ 48 := by
  unfold alikeB
  split
  · rename_i h
    have h1 := machB_r h
    have := (alike_spec n out).1.1
    omega
  · simp
theorem startB_cnt (b : Bool) : (startB b).1.length ≤ 1 ∧ (startB b).2.1.length ≤ 1 ∧ cntR (startB b).2.2.1 ≤ 1 ∧ (startB b).2.2.2.length ≤ 1 := by
  cases b <;> simp [startB, cntG]
theorem monN_cnt {k : Int} {a b : List Int} {L : Nat} (hL : L ≤ 16) : cntR (monN k a b L) ≤ 64 := by
  have h := cntG_bound (cn := (List.length : List Int → Nat)) (m := L) (xs := monN k a b L) fun x hx => by
    unfold monN at hx
    obtain ⟨q, _, rfl⟩ := List.mem_map.1 hx
    rw [monRow_len]; exact Nat.le_refl _
  rw [monN_len] at h
  have h2 := monMany_r k
  have h3 : monMany k * L ≤ 4 * 16 := Nat.mul_le_mul h2.2 hL
  show cntG List.length (monN k a b L) ≤ 64
  omega
theorem monP_cnt (k : Int) : cntP (monP k) ≤ 4 := by
  unfold monP cntP
  repeat' split
  all_goals simp
theorem monB_cnt {i o k : Int} {a b : List Int} : cntR (monB i o k a b).1 ≤ 64 ∧ cntPs (monB i o k a b).2 ≤ 4 := by
  unfold monB
  split
  · have h := lettersB_range i o
    refine ⟨monN_cnt (by omega), ?_⟩
    have := monP_cnt k
    simp only [cntPs, cntG]; omega
  · simp [cntG]
theorem RF_ok {n : Nat} {sl : List (Nat × PV)} {hl : List (Nat × Block)} (h : (okSL n sl && okBL hl) = true) : RF ((okSL n sl && okBL hl) = true) := RF.mk h
theorem marks_tk (k : Int) (n : Nat) : (marks k n).take n = marks k n := List.take_of_length_le (by rw [marks_len]; exact Nat.le_refl _)
theorem markG_tk {α : Type} {mk : Int → α → α} {cn : α → Nat} (k : Int) (xs : List α) : (markG mk cn k xs).take xs.length = markG mk cn k xs := List.take_of_length_le (by rw [markG_len]; exact Nat.le_refl _)
end Go.Proofs.Ytgfnpphhdkjlmaa
