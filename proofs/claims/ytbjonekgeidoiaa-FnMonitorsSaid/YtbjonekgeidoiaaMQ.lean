/- Monitors, outputs to states, joined automata. No program in sight; no conditions. -/
import Derived.Test.YtbjonekgeidoiaaMF
set_option linter.unusedSimpArgs false
set_option linter.unusedVariables false
namespace Go.Proofs.Ytbjonekgeidoiaa
open Go.RowKit
open Shp

def bit (b : Bool) : Int := if b then 1 else 0
/-- the next state of a monitor -/
def monStep (k q : Int) (a b : Bool) : Int :=
  if k = 1 then max q (1 - bit a) else if k = 2 then (if q = 2 ∨ (q = 1 ∧ b = false) then 2 else bit a) else if k = 3 then (if b = true then 0 else max q (bit a))
  else if k = 4 then bit a else if k = 5 then 1 - bit a else if k = 6 then max q (bit a) else 2 * bit a + bit b
def monMany (k : Int) : Nat := if k = 2 then 3 else if k = 7 then 4 else 2
def monRow (k : Int) (a b : List Int) (L : Nat) (q : Int) : List Int := (List.range L).map fun (x : Nat) => monStep k q (has a x) (has b x)
def monN (k : Int) (a b : List Int) (L : Nat) : List (List Int) := (List.range (monMany k)).map fun (q : Nat) => monRow k a b L q
def monP (k : Int) : List Int × List Int := if k = 1 ∨ k = 5 then ([1], []) else if k = 2 then ([2], []) else if k = 3 then ([1], [0]) else if k = 4 then ([0, 1], [1]) else if k = 6 then ([0], []) else ([2, 3], [1, 3])
def monB (i o k : Int) (a b : List Int) : List (List Int) × List (List Int × List Int) := if (sigB i o && clauseB (lettersB i o) k a b) = true then (monN k a b (lettersB i o).toNat, [monP k]) else ([], [])
theorem monRow_len {k : Int} {a b : List Int} {L : Nat} {q : Int} : (monRow k a b L q).length = L := by simp [monRow]
theorem monRow_take {k : Int} {a b : List Int} {L : Nat} {q : Int} {x : Nat} (h : x < L) : (monRow k a b L q).take x ++ [monStep k q (has a x) (has b x)] = (monRow k a b L q).take (x + 1) := by
  rw [take_nth (by rw [monRow_len]; exact h), nth_eq (by rw [monRow_len]; exact h)]; simp [monRow]
theorem monN_len {k : Int} {a b : List Int} {L : Nat} : (monN k a b L).length = monMany k := by simp [monN]
theorem monN_take {k : Int} {a b : List Int} {L : Nat} {q : Nat} (h : q < monMany k) : (monN k a b L).take q ++ [monRow k a b L q] = (monN k a b L).take (q + 1) := by
  rw [take_nth (by rw [monN_len]; exact h), nth_eq (by rw [monN_len]; exact h)]; simp [monN]
theorem monMany_r (k : Int) : 2 ≤ monMany k ∧ monMany k ≤ 4 := by unfold monMany; split; omega; split <;> omega
theorem clauseB_k {n k : Int} {a b : List Int} (h : clauseB n k a b = true) : 1 ≤ k ∧ k ≤ 7 := by
  unfold clauseB at h; simp only [Bool.and_eq_true, decide_eq_true_eq] at h; omega
theorem bit1 {b : Bool} : bit b = 1 ↔ b = true := by cases b <;> decide
theorem monMany_at {k : Int} (hk : 1 ≤ k ∧ k ≤ 7) : (k = 2 → monMany k = 3) ∧ (k = 7 → monMany k = 4) ∧ (¬ k = 2 → ¬ k = 7 → monMany k = 2) := by
  unfold monMany
  refine ⟨fun h => by rw [if_pos h], fun h => ?_, fun h h2 => by rw [if_neg h, if_neg h2]⟩
  subst h; rfl
theorem take_rows {α : Type} {xs : List α} {q : Nat} (h : xs.length ≤ q) : (xs.take q).take q = xs := by
  rw [List.take_take, Nat.min_self, List.take_of_length_le h]
theorem monP_at {k : Int} (hk : 1 ≤ k ∧ k ≤ 7) : (k = 1 ∨ k = 5 → monP k = ([1], [])) ∧ (k = 2 → monP k = ([2], [])) ∧ (k = 3 → monP k = ([1], [0])) ∧ (k = 4 → monP k = ([0, 1], [1])) ∧ (k = 6 → monP k = ([0], [])) ∧ (k = 7 → monP k = ([2, 3], [1, 3])) := by
  refine ⟨?_, ?_, ?_, ?_, ?_, ?_⟩
  · rintro (rfl | rfl) <;> rfl
  all_goals (rintro rfl; rfl)
end Go.Proofs.Ytbjonekgeidoiaa

