/- Endless runs of automata; monitors say what their clauses say. No program in sight; no conditions. -/
import Derived.Test.YtnieejghoaccmaaME
import Derived.Test.YtnieejghoaccmaaPO
import Derived.Test.YtnieejghoaccmaaDW
namespace Go.Proofs.Ytnieejghoaccmaa
open Go.RowKit
open Shp
variable {xs ys : List Int}
section
variable {ps : List (List Int × List Int)} {met : List Int} {k : Nat}
end
section
variable {i o : Int} {n : List (List Int)} {ps : List (List Int × List Int)} {s l : List Int}
end
end Go.Proofs.Ytnieejghoaccmaa

namespace Go.Proofs.Ytnieejghoaccmaa
open Go.RowKit
open Shp
variable {P : Nat → Prop} {o k : Int} {b a : List Int}
def IOf (P : Nat → Prop) : Prop := ∀ m, ∃ i, m ≤ i ∧ P i
theorem IOf.mono {Q : Nat → Prop} (h : IOf P) (hpq : ∀ i, P i → Q i) : IOf Q := fun m => by obtain ⟨i, h1, h2⟩ := h m; exact ⟨i, h1, hpq i h2⟩
def runQ (n : List (List Int)) (q : Int) (f : Nat → Int) : Nat → Int
 | 0 => q
 | i + 1 => nth (nth n (runQ n q f i).toNat) (f i).toNat
theorem ZgR {n : List (List Int)} {q : Int} {f : Nat → Int} (i : Nat) : ∀ j, runQ n q f (i + j) = runQ n (runQ n q f i) (fun t => f (i + t)) j
 | 0 => rfl
 | j + 1 => by show nth (nth n (runQ n q f (i + j)).toNat) (f (i + j)).toNat = _; rw [ZgR i j]; rfl
theorem Zjt {n : List (List Int)} : ∀ {xs : List Int} {q : Int} {f : Nat → Int}, (∀ i, i < xs.length → f i = nth xs i) → goN n q xs = runQ n q f xs.length
 | [], q, f, _ => rfl
 | x :: xs, q, f, h => by
  have h0 : f 0 = x := h 0 (by simp)
  show goN n (nth (nth n q.toNat) x.toNat) xs = _
  rw [Zjt (f := fun t => f (1 + t)) fun i hi => by have := h (1 + i) (by simp; omega); rw [this, Nat.add_comm]; rfl]
  rw [List.length_cons, Nat.add_comm, ZgR]
  show _ = runQ n (nth (nth n q.toNat) (f 0).toNat) _ _
  rw [h0]
section
variable {n : List (List Int)} {W : Int} {s l : List Int}
theorem Zn1 : goN n 0 s = runQ n 0 (letN s l) s.length := Zjt fun i hi => by unfold letN; rw [if_pos hi]
theorem ZnY (hl0 : 1 ≤ l.length) (k : Nat) {t : Nat} (ht : t < l.length) : letN s l (s.length + k * l.length + t) = nth l t := by
 unfold letN
 rw [if_neg (by omega), show s.length + k * l.length + t - s.length = t + l.length * k by rw [Nat.mul_comm]; omega, Nat.add_mul_mod_self_left, Nat.mod_eq_of_lt ht]
theorem Znw (hl0 : 1 ≤ l.length) : ∀ k, it (lapN n l) k (goN n 0 s) = runQ n 0 (letN s l) (s.length + k * l.length)
 | 0 => by rw [Nat.zero_mul]; exact Zn1
 | k + 1 => by
  rw [ZfZ, Znw hl0 k, show s.length + (k + 1) * l.length = s.length + k * l.length + l.length by rw [Nat.succ_mul]; omega, ZgR (s.length + k * l.length) l.length]
  exact Zjt fun i hi => ZnY hl0 k hi
theorem Zkl (hl0 : 1 ≤ l.length) (k : Nat) {i : Nat} (hi : i < l.length) : nth (trN n (it (lapN n l) k (goN n 0 s)) l) i = runQ n 0 (letN s l) (s.length + k * l.length + (i + 1)) := by
 rw [Zi8 hi, Znw hl0, ZgR (s.length + k * l.length) (i + 1)]
 have e : (l.take (i + 1)).length = i + 1 := by rw [List.length_take]; omega
 rw [Zjt (f := fun t => letN s l (s.length + k * l.length + t)) fun j hj => by rw [e] at hj; rw [ZnY hl0 k (by omega), ZpH _ _ _ hj], e]
theorem ZqD (hg : GoOk n W) (hs : below s W = true) (hl : below l W = true) (hn : 1 ≤ n.length) (hl0 : 1 ≤ l.length) {v : Int} : v ∈ metN n s l ↔ IOf fun i => runQ n 0 (letN s l) i = v := by
 rw [ZgU hg hs hl hn]
 have hq0 := ZbC hg hs (q := 0) ⟨by omega, by omega⟩
 constructor
 ·rintro ⟨k, hk, hv⟩ m
  obtain ⟨i, hi, e⟩ := ZbW hv
  rw [Zch] at hi
  obtain ⟨p, hp1, _, hp⟩ := ZjD hg hl hq0
  have key : ∀ m, it (lapN n l) (k + m * p) (goN n 0 s) = it (lapN n l) k (goN n 0 s) := by
   intro m
   induction m with
   | zero => rw [Nat.zero_mul]; rfl
   | succ m ih => rw [show k + (m + 1) * p = k + m * p + p by rw [Nat.succ_mul]; omega, hp _ (by omega)]; exact ih
  refine ⟨s.length + (k + m * p) * l.length + (i + 1), ?_, ?_⟩
  ·have h1 : m * 1 ≤ m * p := Nat.mul_le_mul_left _ hp1
   have h2 : (k + m * p) * 1 ≤ (k + m * p) * l.length := Nat.mul_le_mul_left _ hl0
   omega
  ·show runQ n 0 (letN s l) (s.length + (k + m * p) * l.length + (i + 1)) = v
   rw [← Zkl hl0 _ hi, key m]; exact e
 ·intro h
  obtain ⟨i, h1, h2⟩ := h (s.length + n.length * l.length + 1)
  have hd := Nat.div_add_mod (i - 1 - s.length) l.length
  have hm := Nat.mod_lt (i - 1 - s.length) (show 0 < l.length by omega)
  have hk : n.length ≤ (i - 1 - s.length) / l.length := (Nat.le_div_iff_mul_le (by omega)).2 (by omega)
  refine ⟨(i - 1 - s.length) / l.length, hk, ?_⟩
  have e := Zkl (n := n) (s := s) hl0 ((i - 1 - s.length) / l.length) hm
  rw [show s.length + (i - 1 - s.length) / l.length * l.length + ((i - 1 - s.length) % l.length + 1) = i by rw [Nat.mul_comm]; omega] at e
  have e2 : runQ n 0 (letN s l) i = v := h2
  rw [← e2, ← e]
  exact Zbk (by rw [Zch]; exact hm)
end
section
variable {Q : Nat → Int} {A B : Nat → Bool}
end
theorem Zm9 {s l : List Int} (hl : 1 ≤ l.length) (i : Nat) : letN (s ++ l) l i = letN s l i := by
 by_cases h : i < s.length + l.length
 ·rw [Zsd h]; unfold letN; rw [if_pos (by simpa using h)]
 ·unfold letN
  rw [if_neg (by simpa using h), if_neg (by omega), List.length_append, show i - s.length = (i - (s.length + l.length)) + l.length by omega, Nat.add_mod_right]
theorem Zqg {n : List (List Int)} {W : Int} {s l : List Int} (hg : GoOk n W) (hs : below s W = true) (hl : below l W = true) (hn : 1 ≤ n.length) (hl0 : 1 ≤ l.length) : metN n (s ++ l) l = metN n s l :=
 Zlx ZgS ZgS fun v => by
  rw [ZqD hg (Zm0 hs hl) hl hn hl0, ZqD hg hs hl hn hl0, show letN (s ++ l) l = letN s l from funext (Zm9 hl0)]
end Go.Proofs.Ytnieejghoaccmaa

