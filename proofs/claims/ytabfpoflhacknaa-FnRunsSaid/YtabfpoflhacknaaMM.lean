/- Machines, deterministic automata, guesses: tests and runs. No program in sight; no conditions. -/
import Derived.Test.YtabfpoflhacknaaSWM
set_option linter.unusedSimpArgs false
set_option linter.unusedVariables false
namespace Go.Proofs.Ytabfpoflhacknaa
open Go.RowKit
open Shp
theorem mul_r {p w : Int} (h : 0 ≤ p) (h2 : p ≤ 1000) (h3 : 0 ≤ w) (h4 : w ≤ 1000) : 0 ≤ p * w ∧ p * w ≤ 1000000 := ⟨Int.mul_nonneg h h3, by have := Int.mul_le_mul h2 h4 h3 (by omega); omega⟩
theorem sig_pw {i o : Int} (h : sigB i o = true) : 1 ≤ i ∧ i ≤ 2 ∧ 1 ≤ o ∧ o ≤ 2 ∧ 2 ≤ pw i ∧ pw i ≤ 4 ∧ 2 ≤ pw o ∧ pw o ≤ 4 ∧ 4 ≤ pw (i + o) ∧ pw (i + o) ≤ 16 ∧ lettersB i o = pw (i + o) ∧ pw (i + o) = pw i * pw o ∧ pw i = 2 ^ i.toNat ∧ pw o = 2 ^ o.toNat ∧ pw (i + o) = 2 ^ (i + o).toNat := by
  obtain ⟨h1, h2, h3, h4⟩ := sigB_r h
  have e := lettersB_pos h
  obtain ⟨p1, p2, p3, p4, _⟩ := pw_vals
  have a : i = 1 ∨ i = 2 := by omega
  have b : o = 1 ∨ o = 2 := by omega
  refine ⟨h1, h2, h3, h4, ?_, ?_, ?_, ?_, ?_, ?_, e, ?_, rfl, rfl, rfl⟩ <;> rcases a with rfl | rfl <;> rcases b with rfl | rfl <;> simp_all
def machRow (i o : Int) (n out : List (List Int)) (q : Nat) : Bool := decide (((nth n q).length : Int) = pw i) && decide ((nth out q).length = (nth n q).length) && below (nth n q) n.length && below (nth out q) (pw o)
def machB (i o : Int) (n out : List (List Int)) : Bool := sigB i o && decide (1 ≤ n.length) && decide (n.length ≤ 48) && decide (out.length = n.length) && allN n.length (machRow i o n out)
theorem machB_r {i o : Int} {n out : List (List Int)} (h : machB i o n out = true) : sigB i o = true ∧ 1 ≤ n.length ∧ n.length ≤ 48 ∧ out.length = n.length ∧ ∀ q, q < n.length → ((nth n q).length : Int) = pw i ∧ (nth out q).length = (nth n q).length ∧ below (nth n q) n.length = true ∧ below (nth out q) (pw o) = true := by
  unfold machB at h
  simp only [Bool.and_eq_true, decide_eq_true_eq, allN_iff, machRow] at h
  obtain ⟨⟨⟨⟨h1, h2⟩, h3⟩, h4⟩, h5⟩ := h
  refine ⟨h1, h2, h3, h4, fun q hq => ?_⟩
  have := h5 q hq
  exact ⟨this.1.1.1, this.1.1.2, this.1.2, this.2⟩
def goN (n : List (List Int)) : Int → List Int → Int
  | q, [] => q
  | q, x :: xs => goN n (nth (nth n q.toNat) x.toNat) xs
def GoOk (n : List (List Int)) (W : Int) : Prop := ∀ q, q < n.length → ((nth n q).length : Int) = W ∧ below (nth n q) n.length = true
theorem GoOk.row {n : List (List Int)} {W : Int} (h : GoOk n W) {q : Int} (h1 : 0 ≤ q) (h2 : q < n.length) : ((nth n q.toNat).length : Int) = W := (h q.toNat (by omega)).1
theorem GoOk.step {n : List (List Int)} {W : Int} (h : GoOk n W) {q x : Int} (h1 : 0 ≤ q ∧ q < n.length) (h2 : 0 ≤ x ∧ x < W) : 0 ≤ nth (nth n q.toNat) x.toNat ∧ nth (nth n q.toNat) x.toNat < n.length := by
  have a := h q.toNat (by omega)
  exact below_iff.1 a.2 x.toNat (by omega)
theorem goN_step {n : List (List Int)} {p : Int} {xs : List Int} {i : Nat} (h : i < xs.length) : goN n p (xs.drop i) = goN n (nth (nth n p.toNat) (nth xs i).toNat) (xs.drop (i + 1)) := by rw [drop_nth h]; rfl
theorem goN_end {n : List (List Int)} {p : Int} {xs : List Int} {i : Nat} (h : xs.length ≤ i) : goN n p (xs.drop i) = p := by rw [List.drop_eq_nil_of_le h]; rfl
theorem goN_range {n : List (List Int)} {W : Int} (h : GoOk n W) : ∀ {xs : List Int} {q : Int}, below xs W = true → 0 ≤ q ∧ q < n.length → 0 ≤ goN n q xs ∧ goN n q xs < n.length
  | [], q, _, hq => hq
  | x :: xs, q, hb, hq => by
    rw [below_iff] at hb
    refine goN_range h (xs := xs) (below_iff.2 fun j hj => ?_) (h.step hq ?_)
    · have := hb (j + 1) (by simpa using hj); simpa [nth] using this
    · have := hb 0 (by simp); simpa [nth] using this
theorem machB_go {i o : Int} {n out : List (List Int)} (h : machB i o n out = true) : GoOk n (pw i) := fun q hq => ⟨((machB_r h).2.2.2.2 q hq).1, ((machB_r h).2.2.2.2 q hq).2.2.1⟩
def canB (i o : Int) (n out : List (List Int)) (xs : List Int) : Bool := machB i o n out && decide (xs.length ≤ 600) && below xs (pw i)
def runB (i o : Int) (n out : List (List Int)) (xs : List Int) : Int := if canB i o n out xs = true then goN n 0 xs else -1
theorem canB_r {i o : Int} {n out : List (List Int)} {xs : List Int} (h : canB i o n out xs = true) : machB i o n out = true ∧ xs.length ≤ 600 ∧ below xs (pw i) = true := by
  unfold canB at h; simp only [Bool.and_eq_true, decide_eq_true_eq] at h; exact ⟨h.1.1, h.1.2, h.2⟩
theorem canB_go {i o : Int} {n out : List (List Int)} {xs : List Int} (h : canB i o n out xs = true) : GoOk n (pw i) := machB_go (canB_r h).1
theorem canB_x {i o : Int} {n out : List (List Int)} {xs : List Int} (h : canB i o n out xs = true) : below xs (pw i) = true := (canB_r h).2.2
theorem canB_0 {i o : Int} {n out : List (List Int)} {xs : List Int} (h : canB i o n out xs = true) : (0 : Int) ≤ 0 ∧ (0 : Int) < n.length := by
  have := machB_r (canB_r h).1; omega
end Go.Proofs.Ytabfpoflhacknaa

