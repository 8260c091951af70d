/- Draws of the statements: sets, clauses, automata. No program in sight; no conditions. -/
import Derived.Test.YtachnjinfdagjaaDoorPR
import Derived.Test.YtachnjinfdagjaaDoorDW
set_option linter.unusedSimpArgs false
set_option linter.unusedVariables false
namespace Go.Proofs.YtachnjinfdagjaaDoor
open Go.RowKit
open Shp
def setC (bs : List Int) : Nat → Int → List Int → Nat × Int → List Int × (Nat × Int)
  | 0, _, a, s => (a, s)
  | k + 1, i, a, s => setC bs k (i + 1) (if onceB bs 2 s = true then a ++ [i] else a) (belowS bs 2 s)
theorem setC_len {bs : List Int} : ∀ (k : Nat) (i : Int) (a : List Int) (s : Nat × Int), (setC bs k i a s).1.length ≤ a.length + k
  | 0, _, a, s => by simp [setC]
  | k + 1, i, a, s => by
    simp only [setC]
    have := setC_len (bs := bs) k (i + 1) (if onceB bs 2 s = true then a ++ [i] else a) (belowS bs 2 s)
    split at this <;> split <;> simp_all <;> omega
def setN0 (bs : List Int) (n : Int) (s : Nat × Int) : List Int × (Nat × Int) := setC bs n.toNat 0 [] s
def clC (bs : List Int) (n : Int) (s : Nat × Int) : (Int × List Int × List Int) × (Nat × Int) :=
  if secondB (1 + belowX bs 7 s) = true then ((1 + belowX bs 7 s, (setN0 bs n (belowS bs 7 s)).1, (setN0 bs n (setN0 bs n (belowS bs 7 s)).2).1), (setN0 bs n (setN0 bs n (belowS bs 7 s)).2).2)
  else ((1 + belowX bs 7 s, (setN0 bs n (belowS bs 7 s)).1, []), (setN0 bs n (belowS bs 7 s)).2)
theorem setN0_len {bs : List Int} {n : Int} {s : Nat × Int} : (setN0 bs n s).1.length ≤ n.toNat := by
  have := setC_len (bs := bs) n.toNat 0 [] s
  simpa [setN0] using this
theorem clC_len {bs : List Int} {n : Int} {s : Nat × Int} : (clC bs n s).1.2.1.length ≤ n.toNat ∧ (clC bs n s).1.2.2.length ≤ n.toNat := by
  unfold clC
  split
  · exact ⟨setN0_len, setN0_len⟩
  · exact ⟨setN0_len, by simp⟩
def clB (bs : List Int) (x : Int × List Int × List Int) (s : Nat × Int) : (Int × List Int × List Int) × (Nat × Int) :=
  if belowX bs 3 s = 0 then ((fromX bs 0 8 (belowS bs 3 s), x.2.1, x.2.2), fromS bs 0 8 (belowS bs 3 s))
  else if belowX bs 3 s = 1 then ((x.1, x.2.1 ++ [(numD bs 15 (belowS bs 3 s)).1], x.2.2), (numD bs 15 (belowS bs 3 s)).2)
  else ((x.1, x.2.1, x.2.2 ++ [(numD bs 15 (belowS bs 3 s)).1]), (numD bs 15 (belowS bs 3 s)).2)
def clA (bs : List Int) (n : Int) (s : Nat × Int) : (Int × List Int × List Int) × (Nat × Int) :=
  if onceB bs 10 (clC bs n s).2 = true then clB bs (clC bs n s).1 (belowS bs 10 (clC bs n s).2) else ((clC bs n s).1, belowS bs 10 (clC bs n s).2)
end Go.Proofs.YtachnjinfdagjaaDoor

