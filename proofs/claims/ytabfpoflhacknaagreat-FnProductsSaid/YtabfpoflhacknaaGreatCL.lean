/- Clauses as laws of the letters: the same for each way to write a word; on tails. No program in sight; no conditions. -/
import Derived.Test.YtabfpoflhacknaaGreatHM
import Derived.Test.YtabfpoflhacknaaGreatOG
namespace Go.Proofs.YtabfpoflhacknaaGreat
open Go.RowKit
open Shp
variable {x k n m : Int} {a b xs ys : List Int}
theorem ZiA {s l : List Int} (hl : 1 ≤ l.length) (i : Nat) : letN s l i ∈ s ++ l := by
 unfold letN; split
 ·rename_i h; exact List.mem_append.2 (.inl (Zal h))
 ·exact List.mem_append.2 (.inr (Zal (Nat.mod_lt _ (by omega))))
theorem Zi1 {s l : List Int} (hl : 1 ≤ l.length) {i : Nat} (h : s.length ≤ i) : letN s l i ∈ l := by
 unfold letN; rw [if_neg (by omega)]; exact Zal (Nat.mod_lt _ (by omega))
theorem Zeo {s l : List Int} {i : Nat} (h : i < s.length + l.length) : letN s l i = nth (s ++ l) i := by
 unfold letN; split
 ·rename_i h2; exact (Zeu h2).symm
 ·rename_i h2; rw [Zep (by omega), Nat.mod_eq_of_lt (by omega)]
theorem Zrl {s l : List Int} (hl : 1 ≤ l.length)  : x ∈ s ++ l ↔ ∃ i, letN s l i = x := by
 constructor
 ·intro h
  obtain ⟨i, hi, rfl⟩ := Za1 h
  exact ⟨i, Zeo (by simpa using hi)⟩
 ·rintro ⟨i, rfl⟩; exact ZiA hl i
theorem ZoO {s l : List Int} (hl : 1 ≤ l.length)  (h : x ∈ l) (n : Nat) : ∃ i, n ≤ i ∧ letN s l i = x := by
 obtain ⟨j, hj, rfl⟩ := Za1 h
 refine ⟨s.length + (j + l.length * n), ?_, ?_⟩
 ·have : 1 * n ≤ l.length * n := Nat.mul_le_mul_right _ hl
  omega
 ·unfold letN; rw [if_neg (by omega), Nat.add_sub_cancel_left, Nat.add_mul_mod_self_left, Nat.mod_eq_of_lt hj]
def cutI (s l : List Int) (i : Nat) : Nat := if i < s.length then i else s.length + (i - s.length) % l.length
theorem Zld {s l : List Int} (hl : 1 ≤ l.length) (i : Nat) : cutI s l i < s.length + l.length := by
 unfold cutI; have := Nat.mod_lt (i - s.length) (show 0 < l.length by omega); split <;> omega
theorem Zn3 {s l : List Int} (i : Nat) : letN s l (cutI s l i) = letN s l i := by
 unfold cutI letN
 by_cases h : i < s.length
 ·simp only [if_pos h]
 ·rw [if_neg h, if_neg (by omega), if_neg h, Nat.add_sub_cancel_left, Nat.mod_mod]
theorem Zri {s l : List Int} (i : Nat) : letN s l (cutI s l i + 1) = letN s l (i + 1) := by
 unfold cutI
 by_cases h : i < s.length
 ·rw [if_pos h]
 ·rw [if_neg h]
  unfold letN
  rw [if_neg (by omega), if_neg (by omega), show s.length + (i - s.length) % l.length + 1 - s.length = (i - s.length) % l.length + 1 by omega, show i + 1 - s.length = (i - s.length) + 1 by omega, Nat.mod_add_mod]
def Zwb (k : Int) (a b : List Int) (f : Nat → Int) : Prop :=
 if k = 1 then ∀ i, f i ∈ a else if k = 2 then ∀ i, f i ∈ a → f (i + 1) ∈ b else if k = 3 then ∀ i, f i ∈ a → ∃ j, i ≤ j ∧ f j ∈ b
 else if k = 4 then ∀ n, ∃ i, n ≤ i ∧ f i ∈ a else if k = 5 then ∃ n, ∀ i, n ≤ i → f i ∈ a else if k = 6 then ∃ i, f i ∈ a
 else (∀ n, ∃ i, n ≤ i ∧ f i ∈ a) → ∀ n, ∃ i, n ≤ i ∧ f i ∈ b
theorem Zfk {s l : List Int} (hl : 1 ≤ l.length) : Zcg l a = true ↔ ∀ n, ∃ i, n ≤ i ∧ letN s l i ∈ a := by
 rw [someH_iff]
 constructor
 ·rintro ⟨x, hx, ha⟩ n
  obtain ⟨i, h1, h2⟩ := ZoO (s := s) hl hx n
  exact ⟨i, h1, h2 ▸ ha⟩
 ·intro h
  obtain ⟨i, h1, h2⟩ := h s.length
  exact ⟨_, Zi1 hl h1, h2⟩
theorem Zpk {s l : List Int} (hl : 1 ≤ l.length) : ZjZ l a = true ↔ ∃ n, ∀ i, n ≤ i → letN s l i ∈ a := by
 rw [Zg3]
 constructor
 ·intro h; exact ⟨s.length, fun i hi => h _ (Zi1 hl hi)⟩
 ·rintro ⟨n, h⟩ x hx
  obtain ⟨i, h1, rfl⟩ := ZoO (s := s) hl hx n
  exact h i h1
theorem Zrb {s l : List Int} (hl : 1 ≤ l.length) : Zk0 (s ++ l) s.length a b = true ↔ ∀ i, letN s l i ∈ a → letN s l (i + 1) ∈ b := by
 have key : ∀ j, j < s.length + l.length → nth (s ++ l) (if j + 1 < (s ++ l).length then j + 1 else s.length) = letN s l (j + 1) := fun j hj => by
  rw [List.length_append]
  split
  ·rename_i h; exact (Zeo h).symm
  ·have : j + 1 = s.length + l.length := by omega
   rw [this, Zep (Nat.le_refl _), Nat.sub_self]
   unfold letN; rw [if_neg (by omega), Nat.add_sub_cancel_left, Nat.mod_self]
 unfold Zk0
 rw [allN_iff]
 simp only [Zhl, Bool.or_eq_true, Bool.not_eq_true', ← Bool.not_eq_true, has_iff]
 constructor
 ·intro h i ha
  have h2 := h (cutI s l i) (by rw [List.length_append]; exact Zld hl i)
  rw [key _ (Zld hl i), ← Zeo (Zld hl i), Zn3, Zri] at h2
  rcases h2 with h2 | h2
  ·exact absurd ha h2
  ·exact h2
 ·intro h j hj
  have hj' : j < s.length + l.length := by simpa using hj
  rw [key j hj', ← Zeo hj']
  by_cases ha : letN s l j ∈ a
  ·exact .inr (h j ha)
  ·exact .inl ha
theorem Zs9 {s l : List Int} (hl : 1 ≤ l.length) : ansH s l a b = true ↔ ∀ i, letN s l i ∈ a → ∃ j, i ≤ j ∧ letN s l j ∈ b := by
 unfold ansH
 rw [Bool.or_eq_true]
 constructor
 ·intro h i ha
  by_cases hb : Zcg l b = true
  ·exact (Zfk hl).1 hb i
  ·rcases h with h | h
   ·exact absurd h hb
   ·rw [allN_iff] at h
    by_cases hi : i < s.length
    ·have h2 := h i (by simp; omega)
     unfold ZgR at h2
     rw [← Zeo (by omega), has_iff.2 ha] at h2
     simp only [Bool.not_true, Bool.false_or] at h2
     obtain ⟨x, hx, hxb⟩ := someH_iff.1 h2
     obtain ⟨t, ht, rfl⟩ := Za1 hx
     rw [List.length_drop, List.length_append] at ht
     rw [Zlr, ← Zeo (by omega)] at hxb
     exact ⟨i + t, by omega, hxb⟩
    ·have hc : s.length ≤ cutI s l i := by unfold cutI; rw [if_neg hi]; omega
     have hlt := Zld hl i (s := s)
     have h2 := h (cutI s l i) (by rw [List.length_append]; exact hlt)
     unfold ZgR at h2
     rw [← Zeo hlt, Zn3, has_iff.2 ha] at h2
     simp only [Bool.not_true, Bool.false_or] at h2
     obtain ⟨x, hx, hxb⟩ := someH_iff.1 h2
     obtain ⟨t, ht, rfl⟩ := Za1 hx
     rw [List.length_drop, List.length_append] at ht
     rw [Zlr, Zep (by omega)] at hxb
     exact absurd (someH_iff.2 ⟨_, Zal (xs := l) (by omega), hxb⟩) hb
 ·intro h
  by_cases hb : Zcg l b = true
  ·exact .inl hb
  ·refine .inr (allN_iff.2 fun i hi => ?_)
   have hi' : i < s.length + l.length := by simpa using hi
   unfold ZgR
   by_cases ha : letN s l i ∈ a
   ·obtain ⟨j, h1, h2⟩ := h i ha
    have hj : j < s.length := by
     apply Classical.byContradiction; intro hn
     exact hb (someH_iff.2 ⟨_, Zi1 hl (by omega), h2⟩)
    rw [Bool.or_eq_true]
    refine .inr (someH_iff.2 ⟨nth (s ++ l) j, ?_, by rwa [← Zeo (by omega)]⟩)
    have : nth ((s ++ l).drop i) (j - i) = nth (s ++ l) j := by rw [Zlr, show i + (j - i) = j by omega]
    rw [← this]
    exact Zal (by rw [List.length_drop, List.length_append]; omega)
   ·rw [← Zeo hi']
    rw [show has a (letN s l i) = false from by rw [← Bool.not_eq_true, has_iff]; exact ha]; rfl
theorem ZnO  {s l : List Int} (hl : 1 ≤ l.length) : Zb7 k a b s l = true ↔ Zwb k a b (letN s l) := by
 unfold Zb7 Zwb
 by_cases h1 : k = 1
 ·simp only [if_pos h1]; rw [Zg3]
  exact ⟨fun h i => h _ (ZiA hl i), fun h x hx => by obtain ⟨i, rfl⟩ := (Zrl hl).1 hx; exact h i⟩
 simp only [if_neg h1]
 by_cases h2 : k = 2
 ·simp only [if_pos h2]; exact Zrb hl
 simp only [if_neg h2]
 by_cases h3 : k = 3
 ·simp only [if_pos h3]; exact Zs9 hl
 simp only [if_neg h3]
 by_cases h4 : k = 4
 ·simp only [if_pos h4]; exact Zfk hl
 simp only [if_neg h4]
 by_cases h5 : k = 5
 ·simp only [if_pos h5]; exact Zpk hl
 simp only [if_neg h5]
 by_cases h6 : k = 6
 ·simp only [if_pos h6]; rw [someH_iff]
  exact ⟨fun ⟨x, hx, ha⟩ => by obtain ⟨i, rfl⟩ := (Zrl hl).1 hx; exact ⟨i, ha⟩, fun ⟨i, h⟩ => ⟨_, ZiA hl i, h⟩⟩
 simp only [if_neg h6]
 rw [Bool.or_eq_true, Bool.not_eq_true', ← Bool.not_eq_true, ← Zfk (s := s) hl, ← Zfk (s := s) hl]
 exact ⟨fun h h2 => h.elim (fun h => absurd h2 h) id, fun h => by by_cases h2 : Zcg l a = true; exact .inr (h h2); exact .inl h2⟩
theorem wordB_parts {s l : List Int}  : ZaI s l n = true ↔ s.length ≤ 600 ∧ l.length ≤ 600 ∧ 1 ≤ l.length ∧ below s n = true ∧ below l n = true := by
 unfold ZaI; simp only [Bool.and_eq_true, decide_eq_true_eq]; constructor
 ·rintro ⟨⟨⟨⟨a, b⟩, c⟩, d⟩, e⟩; exact ⟨a, b, c, d, e⟩
 ·rintro ⟨a, b, c, d, e⟩; exact ⟨⟨⟨⟨a, b⟩, c⟩, d⟩, e⟩
end Go.Proofs.YtabfpoflhacknaaGreat

