/- Machines, deterministic automata, guesses: tests and runs. No program in sight; no conditions. -/
import Derived.Test.YtbjonekgeidoiaaSWM
set_option linter.unusedSimpArgs false
set_option linter.unusedVariables false
namespace Go.Proofs.Ytbjonekgeidoiaa
open Go.RowKit
open Shp
def setN (s : List Int) (n : Int) : Bool := decide (0 ≤ n) && decide (n ≤ 256) && setB s n
theorem setN_rises {s : List Int} {n : Int} (h0 : 0 ≤ n) (h1 : n ≤ 256) : setN s n = rises s n := by unfold setN; rw [setB_rises h0]; simp [h0, h1]
def goN (n : List (List Int)) : Int → List Int → Int
  | q, [] => q
  | q, x :: xs => goN n (nth (nth n q.toNat) x.toNat) xs
def GoOk (n : List (List Int)) (W : Int) : Prop := ∀ q, q < n.length → ((nth n q).length : Int) = W ∧ below (nth n q) n.length = true
theorem GoOk.row {n : List (List Int)} {W : Int} (h : GoOk n W) {q : Int} (h1 : 0 ≤ q) (h2 : q < n.length) : ((nth n q.toNat).length : Int) = W := (h q.toNat (by omega)).1
theorem GoOk.step {n : List (List Int)} {W : Int} (h : GoOk n W) {q x : Int} (h1 : 0 ≤ q ∧ q < n.length) (h2 : 0 ≤ x ∧ x < W) : 0 ≤ nth (nth n q.toNat) x.toNat ∧ nth (nth n q.toNat) x.toNat < n.length := by
  have a := h q.toNat (by omega)
  exact below_iff.1 a.2 x.toNat (by omega)
theorem goN_step {n : List (List Int)} {p : Int} {xs : List Int} {i : Nat} (h : i < xs.length) : goN n p (xs.drop i) = goN n (nth (nth n p.toNat) (nth xs i).toNat) (xs.drop (i + 1)) := by rw [drop_nth h]; rfl
theorem goN_end {n : List (List Int)} {p : Int} {xs : List Int} {i : Nat} (h : xs.length ≤ i) : goN n p (xs.drop i) = p := by rw [List.drop_eq_nil_of_le h]; rfl
theorem goN_range {n : List (List Int)} {W : Int} (h : GoOk n W) : ∀ {xs : List Int} {q : Int}, below xs W = true → 0 ≤ q ∧ q < n.length → 0 ≤ goN n q xs ∧ goN n q xs < n.length
  | [], q, _, hq => hq
  | x :: xs, q, hb, hq => by
    rw [below_iff] at hb
    refine goN_range h (xs := xs) (below_iff.2 fun j hj => ?_) (h.step hq ?_)
    · have := hb (j + 1) (by simpa using hj); simpa [nth] using this
    · have := hb 0 (by simp); simpa [nth] using this
end Go.Proofs.Ytbjonekgeidoiaa

