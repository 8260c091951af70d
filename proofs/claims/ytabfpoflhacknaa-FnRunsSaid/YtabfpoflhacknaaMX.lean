/- Endless runs of automata; monitors say what their clauses say. No program in sight; no conditions. -/
import Derived.Test.YtabfpoflhacknaaPB
import Derived.Test.YtabfpoflhacknaaCL
set_option linter.unusedSimpArgs false
set_option linter.unusedVariables false
namespace Go.Proofs.Ytabfpoflhacknaa
open Go.RowKit
open Shp
def runQ (n : List (List Int)) (q : Int) (f : Nat → Int) : Nat → Int
  | 0 => q
  | i + 1 => nth (nth n (runQ n q f i).toNat) (f i).toNat
theorem runQ_add {n : List (List Int)} {q : Int} {f : Nat → Int} (i : Nat) : ∀ j, runQ n q f (i + j) = runQ n (runQ n q f i) (fun t => f (i + t)) j
  | 0 => rfl
  | j + 1 => by show nth (nth n (runQ n q f (i + j)).toNat) (f (i + j)).toNat = _; rw [runQ_add i j]; rfl
theorem runQ_congr {n : List (List Int)} {q : Int} {f g : Nat → Int} : ∀ {k : Nat}, (∀ i, i < k → f i = g i) → runQ n q f k = runQ n q g k
  | 0, _ => rfl
  | k + 1, h => by show nth (nth n (runQ n q f k).toNat) (f k).toNat = nth (nth n (runQ n q g k).toNat) (g k).toNat; rw [runQ_congr fun i hi => h i (by omega), h k (by omega)]
theorem goN_run {n : List (List Int)} : ∀ {xs : List Int} {q : Int} {f : Nat → Int}, (∀ i, i < xs.length → f i = nth xs i) → goN n q xs = runQ n q f xs.length
  | [], q, f, _ => rfl
  | x :: xs, q, f, h => by
    have h0 : f 0 = x := h 0 (by simp)
    show goN n (nth (nth n q.toNat) x.toNat) xs = _
    rw [goN_run (f := fun t => f (1 + t)) fun i hi => by have := h (1 + i) (by simp; omega); rw [this, Nat.add_comm]; rfl]
    rw [List.length_cons, Nat.add_comm, runQ_add]
    show _ = runQ n (nth (nth n q.toNat) (f 0).toNat) _ _
    rw [h0]
theorem runQ_range {n : List (List Int)} {W q : Int} {f : Nat → Int} (hg : GoOk n W) (hq : 0 ≤ q ∧ q < n.length) (hf : ∀ i, 0 ≤ f i ∧ f i < W) : ∀ i, 0 ≤ runQ n q f i ∧ runQ n q f i < n.length
  | 0 => hq
  | i + 1 => hg.step (runQ_range hg hq hf i) (hf i)
section
variable {n : List (List Int)} {W : Int} {s l : List Int}
theorem run_start : goN n 0 s = runQ n 0 (letN s l) s.length := goN_run fun i hi => by unfold letN; rw [if_pos hi]
theorem let_lap (hl0 : 1 ≤ l.length) (k : Nat) {t : Nat} (ht : t < l.length) : letN s l (s.length + k * l.length + t) = nth l t := by
  unfold letN
  rw [if_neg (by omega), show s.length + k * l.length + t - s.length = t + l.length * k by rw [Nat.mul_comm]; omega, Nat.add_mul_mod_self_left, Nat.mod_eq_of_lt ht]
theorem run_lap (hl0 : 1 ≤ l.length) : ∀ k, it (lapN n l) k (goN n 0 s) = runQ n 0 (letN s l) (s.length + k * l.length)
  | 0 => by rw [Nat.zero_mul]; exact run_start
  | k + 1 => by
    rw [it_succ, run_lap hl0 k, show s.length + (k + 1) * l.length = s.length + k * l.length + l.length by rw [Nat.succ_mul]; omega, runQ_add (s.length + k * l.length) l.length]
    exact goN_run fun i hi => let_lap hl0 k hi
end
section
variable {Q : Nat → Int} {A B : Nat → Bool}
end
theorem let_below {s l : List Int} {W : Int} (hl : 1 ≤ l.length) (h : below s W = true) (h2 : below l W = true) (i : Nat) : 0 ≤ letN s l i ∧ letN s l i < W := by
  have hm := letN_mem (s := s) hl i
  rcases List.mem_append.1 hm with hm | hm
  · obtain ⟨j, hj, e⟩ := mem_nth hm
    rw [← e]; exact below_iff.1 h j hj
  · obtain ⟨j, hj, e⟩ := mem_nth hm
    rw [← e]; exact below_iff.1 h2 j hj
end Go.Proofs.Ytabfpoflhacknaa

