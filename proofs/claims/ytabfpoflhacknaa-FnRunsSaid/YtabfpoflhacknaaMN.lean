/- Machines: outputs, states found, states alike. No program in sight; no conditions. -/
import Derived.Test.YtabfpoflhacknaaMM
set_option linter.unusedSimpArgs false
set_option linter.unusedVariables false
namespace Go.Proofs.Ytabfpoflhacknaa
open Go.RowKit
open Shp
def outsN (n o : List (List Int)) : Int → List Int → List Int
  | _, [] => []
  | q, x :: xs => nth (nth o q.toNat) x.toNat :: outsN n o (nth (nth n q.toNat) x.toNat) xs
def letN2 (n o : List (List Int)) (W : Int) : Int → List Int → List Int
  | _, [] => []
  | q, x :: xs => (nth (nth o q.toNat) x.toNat * W + x) :: letN2 n o W (nth (nth n q.toNat) x.toNat) xs
theorem outsN_len {n o : List (List Int)} : ∀ {xs : List Int} {q : Int}, (outsN n o q xs).length = xs.length
  | [], _ => rfl
  | x :: xs, q => by simp [outsN, outsN_len]
theorem letN2_len {n o : List (List Int)} {W : Int} : ∀ {xs : List Int} {q : Int}, (letN2 n o W q xs).length = xs.length
  | [], _ => rfl
  | x :: xs, q => by simp [letN2, letN2_len]
theorem outsN_drop {n o : List (List Int)} {p : Int} {xs : List Int} {i : Nat} (h : i < xs.length) : outsN n o p (xs.drop i) = nth (nth o p.toNat) (nth xs i).toNat :: outsN n o (nth (nth n p.toNat) (nth xs i).toNat) (xs.drop (i + 1)) := by rw [drop_nth h]; rfl
theorem letN2_drop {n o : List (List Int)} {W p : Int} {xs : List Int} {i : Nat} (h : i < xs.length) : letN2 n o W p (xs.drop i) = (nth (nth o p.toNat) (nth xs i).toNat * W + nth xs i) :: letN2 n o W (nth (nth n p.toNat) (nth xs i).toNat) (xs.drop (i + 1)) := by rw [drop_nth h]; rfl
def OutOk (n o : List (List Int)) (W V : Int) : Prop := GoOk n W ∧ (∀ q, q < n.length → ((nth o q).length : Int) = W ∧ below (nth o q) V = true) ∧ o.length = n.length
theorem machB_out {i o : Int} {n out : List (List Int)} (h : machB i o n out = true) : OutOk n out (pw i) (pw o) := ⟨machB_go h, fun q hq => by
  obtain ⟨a, b, c, d⟩ := (machB_r h).2.2.2.2 q hq; exact ⟨by omega, d⟩, (machB_r h).2.2.2.1⟩
theorem OutOk.at {n o : List (List Int)} {W V : Int} (h : OutOk n o W V) {q x : Int} (h1 : 0 ≤ q ∧ q < n.length) (h2 : 0 ≤ x ∧ x < W) : x < (nth o q.toNat).length ∧ 0 ≤ nth (nth o q.toNat) x.toNat ∧ nth (nth o q.toNat) x.toNat < V := by
  have a := h.2.1 q.toNat (by omega)
  have b := below_iff.1 a.2 x.toNat (by omega)
  exact ⟨by omega, b⟩
def outB (i o : Int) (n out : List (List Int)) (xs : List Int) : List Int := if canB i o n out xs = true then outsN n out 0 xs else []
end Go.Proofs.Ytabfpoflhacknaa

