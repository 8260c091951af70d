/- Machines: outputs, states found, states alike. No program in sight; no conditions. -/
import Derived.Test.YtgfnpphhdkjlmaaMM
set_option linter.unusedSimpArgs false
set_option linter.unusedVariables false
namespace Go.Proofs.Ytgfnpphhdkjlmaa
open Go.RowKit
open Shp
def outsN (n o : List (List Int)) : Int → List Int → List Int
  | _, [] => []
  | q, x :: xs => nth (nth o q.toNat) x.toNat :: outsN n o (nth (nth n q.toNat) x.toNat) xs
def letN2 (n o : List (List Int)) (W : Int) : Int → List Int → List Int
  | _, [] => []
  | q, x :: xs => (nth (nth o q.toNat) x.toNat * W + x) :: letN2 n o W (nth (nth n q.toNat) x.toNat) xs
theorem outsN_len {n o : List (List Int)} : ∀ {xs : List Int} {q : Int}, (outsN n o q xs).length = xs.length
  | [], _ => rfl
  | x :: xs, q => by simp [outsN, outsN_len]
theorem letN2_len {n o : List (List Int)} {W : Int} : ∀ {xs : List Int} {q : Int}, (letN2 n o W q xs).length = xs.length
  | [], _ => rfl
  | x :: xs, q => by simp [letN2, letN2_len]
theorem outsN_drop {n o : List (List Int)} {p : Int} {xs : List Int} {i : Nat} (h : i < xs.length) : outsN n o p (xs.drop i) = nth (nth o p.toNat) (nth xs i).toNat :: outsN n o (nth (nth n p.toNat) (nth xs i).toNat) (xs.drop (i + 1)) := by rw [drop_nth h]; rfl
theorem letN2_drop {n o : List (List Int)} {W p : Int} {xs : List Int} {i : Nat} (h : i < xs.length) : letN2 n o W p (xs.drop i) = (nth (nth o p.toNat) (nth xs i).toNat * W + nth xs i) :: letN2 n o W (nth (nth n p.toNat) (nth xs i).toNat) (xs.drop (i + 1)) := by rw [drop_nth h]; rfl
def OutOk (n o : List (List Int)) (W V : Int) : Prop := GoOk n W ∧ (∀ q, q < n.length → ((nth o q).length : Int) = W ∧ below (nth o q) V = true) ∧ o.length = n.length
theorem machB_out {i o : Int} {n out : List (List Int)} (h : machB i o n out = true) : OutOk n out (pw i) (pw o) := ⟨machB_go h, fun q hq => by
  obtain ⟨a, b, c, d⟩ := (machB_r h).2.2.2.2 q hq; exact ⟨by omega, d⟩, (machB_r h).2.2.2.1⟩
theorem OutOk.at {n o : List (List Int)} {W V : Int} (h : OutOk n o W V) {q x : Int} (h1 : 0 ≤ q ∧ q < n.length) (h2 : 0 ≤ x ∧ x < W) : x < (nth o q.toNat).length ∧ 0 ≤ nth (nth o q.toNat) x.toNat ∧ nth (nth o q.toNat) x.toNat < V := by
  have a := h.2.1 q.toNat (by omega)
  have b := below_iff.1 a.2 x.toNat (by omega)
  exact ⟨by omega, b⟩
theorem div_letter {a W x : Int} (h : 0 ≤ x ∧ x < W) : (a * W + x) / W = a := by
  rw [Int.add_comm, Int.add_mul_ediv_right _ _ (by omega), Int.ediv_eq_zero_of_lt h.1 h.2]; omega
theorem letN2_div {n o : List (List Int)} {W : Int} : ∀ {xs : List Int} {q : Int}, below xs W = true → (letN2 n o W q xs).map (· / W) = outsN n o q xs
  | [], _, _ => rfl
  | x :: xs, q, h => by
    rw [below_iff] at h
    have h0 := h 0 (by simp)
    simp only [nth, List.getD_cons_zero] at h0
    simp only [letN2, outsN, List.map_cons, div_letter h0]
    rw [letN2_div (below_iff.2 fun j hj => by have := h (j + 1) (by simpa using hj); simpa [nth] using this)]
def outB (i o : Int) (n out : List (List Int)) (xs : List Int) : List Int := if canB i o n out xs = true then outsN n out 0 xs else []
theorem outB_len {i o : Int} {n out : List (List Int)} {xs : List Int} : (outB i o n out xs).length ≤ 600 := by
  unfold outB
  split
  · rename_i h; rw [outsN_len]; exact (canB_r h).2.1
  · simp
theorem letN2_at {n o : List (List Int)} {W V : Int} (h : OutOk n o W V) : ∀ {xs : List Int} {q : Int}, 0 ≤ q ∧ q < n.length → below xs W = true → ∀ j, j < xs.length → 0 ≤ nth (letN2 n o W q xs) j ∧ nth (letN2 n o W q xs) j / W = nth (outsN n o q xs) j ∧ nth (letN2 n o W q xs) j < W * V
  | [], _, _, _, j, hj => by simp at hj
  | x :: xs, q, hq, hx, j, hj => by
    have h0 := below_iff.1 hx 0 (by simp)
    have e0 : nth (x :: xs) 0 = x := rfl
    rw [e0] at h0
    have h1 := h.at hq h0
    cases j with
    | zero =>
      show 0 ≤ nth (nth o q.toNat) x.toNat * W + x ∧ (nth (nth o q.toNat) x.toNat * W + x) / W = nth (nth o q.toNat) x.toNat ∧ nth (nth o q.toNat) x.toNat * W + x < W * V
      have h2 : nth (nth o q.toNat) x.toNat * W ≤ (V - 1) * W := Int.mul_le_mul_of_nonneg_right (by omega) (by omega)
      have h3 : (V - 1) * W = W * V - W := by rw [Int.sub_mul, Int.mul_comm]; omega
      exact ⟨Int.add_nonneg (Int.mul_nonneg h1.2.1 (by omega)) h0.1, div_letter h0, by omega⟩
    | succ j =>
      exact letN2_at h (h.1.step hq h0) (below_iff.2 fun i hi => by have := below_iff.1 hx (i + 1) (by simp; omega); exact this) j (by simpa using hj)
end Go.Proofs.Ytgfnpphhdkjlmaa
