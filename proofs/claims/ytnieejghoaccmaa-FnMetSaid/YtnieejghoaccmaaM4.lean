/- Contracts: monitors, outputs to states, first trees. No conditions but those that each theorem names. -/
import Derived.Test.YtnieejghoaccmaaMG
import Derived.Test.YtnieejghoaccmaaTab
import Derived.Test.YtnieejghoaccmaaKG
import Derived.Test.YtnieejghoaccmaaM2
import Derived.Test.YtnieejghoaccmaaChecked
namespace Go.Proofs.Ytnieejghoaccmaa
open Go.RowKit
open Shp
variable {N k j p q W : Nat} {out n : List (List Int)} {x v : Int} {xs c : List Int} {α : Type} {near : Nat → Nat → Bool}
def rowN (n : List (List Int)) (q : Int) : List Int := nth n q.toNat
def it {α : Type} (f : α → α) : Nat → α → α
 | 0, c => c
 | j + 1, c => it f j (f c)
theorem ZfZ {α : Type} {f : α → α} : ∀ {j : Nat} {c : α}, it f (j + 1) c = f (it f j c)
 | 0, _ => rfl
 | j + 1, c => by show it f (j + 1) (f c) = _; rw [ZfZ]; rfl
theorem ZdH {α : Type} {f : α → α} : ∀ {j k : Nat} {c : α}, it f (j + k) c = it f k (it f j c)
 | 0, k, c => by rw [Nat.zero_add]; rfl
 | j + 1, k, c => by rw [show j + 1 + k = (j + k) + 1 by omega]; show it f (j + k) (f c) = _; rw [ZdH]; rfl
def Zw3 (n out : List (List Int)) (W : Nat) : Prop := ∀ q, q < n.length → (nth n q).length = W ∧ (nth out q).length = W
end Go.Proofs.Ytnieejghoaccmaa

namespace Go.Proofs.Ytnieejghoaccmaa
open Go.RowKit
open Shp
variable {α : Type} {o q k t W : Int} {m L : Nat} {a : List Int} {b : Bool}
def bit (b : Bool) : Int := if b then 1 else 0
def Zb4 (k q : Int) (a b : Bool) : Int :=
 if k = 1 then max q (1 - bit a) else if k = 2 then (if q = 2 ∨ (q = 1 ∧ b = false) then 2 else bit a) else if k = 3 then (if b = true then 0 else max q (bit a))
 else if k = 4 then bit a else if k = 5 then 1 - bit a else if k = 6 then max q (bit a) else 2 * bit a + bit b
def Zbo (k : Int) : Nat := if k = 2 then 3 else if k = 7 then 4 else 2
def Zcj (k : Int) (a b : List Int) (L : Nat) (q : Int) : List Int := (List.range L).map fun (x : Nat) => Zb4 k q (has a x) (has b x)
def monN (k : Int) (a b : List Int) (L : Nat) : List (List Int) := (List.range (Zbo k)).map fun (q : Nat) => Zcj k a b L q
def monP (k : Int) : List Int × List Int := if k = 1 ∨ k = 5 then ([1], []) else if k = 2 then ([2], []) else if k = 3 then ([1], [0]) else if k = 4 then ([0, 1], [1]) else if k = 6 then ([0], []) else ([2, 3], [1, 3])
def monB (i o k : Int) (a b : List Int) : List (List Int) × List (List Int × List Int) := if (sigB i o && Zc5 (Zaa i o) k a b) = true then (monN k a b (Zaa i o).toNat, [monP k]) else ([], [])
theorem Zbi  {b : List Int}   : (Zcj k a b L q).length = L := by simp [Zcj]
theorem Zhj  {b : List Int}   {x : Nat} (h : x < L) : (Zcj k a b L q).take x ++ [Zb4 k q (has a x) (has b x)] = (Zcj k a b L q).take (x + 1) := by
 rw [ZcW (by rw [Zbi]; exact h), Zbx (by rw [Zbi]; exact h)]; simp [Zcj]
theorem ZbD  {b : List Int}  : (monN k a b L).length = Zbo k := by simp [monN]
theorem Zhd  {b : List Int}  {q : Nat} (h : q < Zbo k) : (monN k a b L).take q ++ [Zcj k a b L q] = (monN k a b L).take (q + 1) := by
 rw [ZcW (by rw [ZbD]; exact h), Zbx (by rw [ZbD]; exact h)]; simp [monN]
theorem Zkh (k : Int) : 2 ≤ Zbo k ∧ Zbo k ≤ 4 := by unfold Zbo; split; omega; split <;> omega
theorem ZfG {n : Int} {b : List Int} (h : Zc5 n k a b = true) : 1 ≤ k ∧ k ≤ 7 := by
 unfold Zc5 at h; simp only [Bool.and_eq_true, decide_eq_true_eq] at h; omega
theorem bit0 : bit b = 0 ↔ b = false := by cases b <;> decide
theorem bit1 : bit b = 1 ↔ b = true := by cases b <;> decide
theorem Zxc  {a : Bool} (hk : k = 2) (hq : q = 1) (hb : bit b = 0) : 2 = Zb4 k q a b := by
 subst hk hq; rw [bit0.1 hb]; rfl
theorem Zw6  {a : Bool} (hk : k = 2) (h2 : ¬ q = 2) (hq : q = 1) (hb : ¬ bit b = 0) : bit a = Zb4 k q a b := by
 subst hk hq; cases b
 ·exact absurd rfl hb
 ·rfl
theorem ZwH  {a : Bool} (hk : k = 3) (hb : bit b = 1) : 0 = Zb4 k q a b := by
 subst hk; rw [bit1.1 hb]; rfl
theorem Zwp  {a : Bool} (hk : k = 3) (hb : ¬ bit b = 1) : max q (bit a) = Zb4 k q a b := by
 subst hk; cases b
 ·rfl
 ·exact absurd rfl hb
theorem ZlX  (hk : 1 ≤ k ∧ k ≤ 7) : (k = 2 → Zbo k = 3) ∧ (k = 7 → Zbo k = 4) ∧ (¬ k = 2 → ¬ k = 7 → Zbo k = 2) := by
 unfold Zbo
 refine ⟨fun h => by rw [if_pos h], fun h => ?_, fun h h2 => by rw [if_neg h, if_neg h2]⟩
 subst h; rfl
theorem ZnH  {xs : List α} {q : Nat} (h : xs.length ≤ q) : (xs.take q).take q = xs := by
 rw [List.take_take, Nat.min_self, List.take_of_length_le h]
end Go.Proofs.Ytnieejghoaccmaa

namespace Go.Proofs.Ytnieejghoaccmaa
open Go.RowKit
open Shp
end Go.Proofs.Ytnieejghoaccmaa

