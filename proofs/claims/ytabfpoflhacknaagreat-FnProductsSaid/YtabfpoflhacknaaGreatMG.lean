/- Search in breadth, over data of any kind. No program in sight; no conditions. -/
import Derived.Test.YtabfpoflhacknaaGreatD0
namespace Go.Proofs.YtabfpoflhacknaaGreat
open Go.RowKit
open Shp
theorem ZcL : ∀ (N : Nat) (xs : List Int), xs.Nodup → (∀ x ∈ xs, 0 ≤ x ∧ x < (N : Int)) → xs.length ≤ N
 | 0, xs, _, h => by
  cases xs with
  | nil => simp
  | cons x xs => have := h x (.head _); omega
 | N + 1, xs, hn, h => by
  by_cases hm : (N : Int) ∈ xs
  ·have h1 := ZcL N (xs.erase N) (hn.erase _) fun x hx => by
    have a := List.mem_of_mem_erase hx
    have b := (hn.mem_erase_iff.1 hx).1
    have c := h x a
    omega
   rw [List.length_erase_of_mem hm] at h1
   omega
  ·have h1 := ZcL N xs hn fun x hx => by
    have c := h x hx
    have : x ≠ N := fun e => hm (e ▸ hx)
    omega
   omega
theorem Zgx {α β : Type} {f : α → β} : ∀ {xs : List α}, xs.Nodup → (∀ x ∈ xs, ∀ y ∈ xs, f x = f y → x = y) → (xs.map f).Nodup
 | [], _, _ => by simp
 | x :: xs, hn, h => by
  rw [List.map_cons, List.nodup_cons]
  rw [List.nodup_cons] at hn
  refine ⟨fun hm => ?_, Zgx hn.2 fun a ha b hb => h a (.tail _ ha) b (.tail _ hb)⟩
  obtain ⟨y, hy, e⟩ := List.mem_map.1 hm
  have := h y (.tail _ hy) x (.head _) e
  subst this
  exact hn.1 hy
section
variable {α : Type} [DecidableEq α]
def addG (out : List α) : List α → List α
 | [] => out
 | x :: xs => addG (if x ∈ out then out else out ++ [x]) xs
theorem Zfn : ∀ (xs out : List α), ∃ t, addG out xs = out ++ t
 | [], out => ⟨[], by simp [addG]⟩
 | x :: xs, out => by
  simp only [addG]
  obtain ⟨t, ht⟩ := Zfn xs (if x ∈ out then out else out ++ [x])
  rw [ht]
  split
  ·exact ⟨t, rfl⟩
  ·exact ⟨x :: t, by simp⟩
theorem ZdP : ∀ (xs out : List α) (y : α), y ∈ addG out xs ↔ y ∈ out ∨ y ∈ xs
 | [], out, y => by simp [addG]
 | x :: xs, out, y => by
  simp only [addG]
  rw [ZdP xs]
  split
  ·rename_i h
   simp only [List.mem_cons]
   constructor
   ·rintro (a | a)
    ·exact .inl a
    ·exact .inr (.inr a)
   ·rintro (a | rfl | a)
    ·exact .inl a
    ·exact .inl h
    ·exact .inr a
  ·simp only [List.mem_append, List.mem_cons, List.not_mem_nil, or_false]
   constructor
   ·rintro ((a | a) | a)
    ·exact .inl a
    ·exact .inr (.inl a)
    ·exact .inr (.inr a)
   ·rintro (a | a | a)
    ·exact .inl (.inl a)
    ·exact .inl (.inr a)
    ·exact .inr a
theorem ZhE {β : Type} {out : List β} {x : β} (h : out.Nodup) (hx : x ∉ out) : (out ++ [x]).Nodup := by
 rw [List.nodup_append]
 refine ⟨h, by simp, fun a ha b hb e => ?_⟩
 simp only [List.mem_singleton] at hb
 subst hb; subst e; exact hx ha
theorem Zd7 : ∀ (xs out : List α), out.Nodup → (addG out xs).Nodup
 | [], out, h => h
 | x :: xs, out, h => by
  simp only [addG]
  refine Zd7 xs _ ?_
  split
  ·exact h
  ·rename_i h2; exact ZhE h h2
def bfsG (next : α → List α) [Inhabited α] : Nat → Nat → List α → List α
 | 0, _, out => out
 | f + 1, k, out => if k < out.length then bfsG next f (k + 1) (addG out (next (nth out k))) else out
variable [Inhabited α]
theorem Zg4 {out xs : List α} {i : Nat} (h : i < xs.length) : addG out (xs.drop i) = addG (if nth xs i ∈ out then out else out ++ [nth xs i]) (xs.drop (i + 1)) := by rw [ZfB h]; rfl
theorem ZoT {β : Type} [DecidableEq β] {out xs : List β} {i : Nat} (h : xs.length ≤ i) : addG out (xs.drop i) = out := by rw [List.drop_eq_nil_of_le h]; rfl
theorem ZtW {next : α → List α} {f k : Nat} {out : List α} (h : out.length ≤ k) : bfsG next f k out = out := by
 cases f with
 | zero => rfl
 | succ f => simp only [bfsG]; rw [if_neg (by omega)]
theorem Zqq {next : α → List α} {N k : Nat} {out : List α} (h : k < out.length) (h2 : out.length ≤ N) : bfsG next (N - k) k out = bfsG next (N - (k + 1)) (k + 1) (addG out (next (nth out k))) := by
 have : N - k = (N - (k + 1)) + 1 := by omega
 rw [this]; simp only [bfsG]; rw [if_pos h]
theorem ZgA {next : α → List α} : ∀ (f k : Nat) (out : List α), ∃ t, bfsG next f k out = out ++ t
 | 0, _, out => ⟨[], by simp [bfsG]⟩
 | f + 1, k, out => by
  simp only [bfsG]
  split
  ·obtain ⟨t, ht⟩ := ZgA (next := next) f (k + 1) (addG out (next (nth out k)))
   obtain ⟨t2, h2⟩ := Zfn (next (nth out k)) out
   exact ⟨t2 ++ t, by rw [ht, h2, List.append_assoc]⟩
  ·exact ⟨[], by simp⟩
theorem Zls {next : α → List α} {P : α → Prop} (hp : ∀ x, P x → ∀ y ∈ next x, P y) : ∀ (f k : Nat) (out : List α), (∀ x ∈ out, P x) → ∀ x ∈ bfsG next f k out, P x
 | 0, _, out, h => h
 | f + 1, k, out, h => by
  simp only [bfsG]
  split
  ·rename_i hk
   refine Zls hp f (k + 1) _ fun x hx => ?_
   rcases (ZdP _ _ _).1 hx with a | a
   ·exact h x a
   ·exact hp _ (h _ (Zal hk)) x a
  ·exact h
theorem Zkd {next : α → List α} : ∀ (f k : Nat) (out : List α), out.Nodup → (bfsG next f k out).Nodup
 | 0, _, out, h => h
 | f + 1, k, out, h => by
  simp only [bfsG]
  split
  ·exact Zkd f (k + 1) _ (Zd7 _ _ h)
  ·exact h
theorem ZiX {next : α → List α} {P : α → Prop} {N : Nat} (hp : ∀ x, P x → ∀ y ∈ next x, P y) (hN : ∀ out : List α, out.Nodup → (∀ x ∈ out, P x) → out.length ≤ N) : ∀ (f k : Nat) (out : List α), out.Nodup → (∀ x ∈ out, P x) → N ≤ f + k → (∀ j, j < k → ∀ y ∈ next (nth out j), y ∈ out) → k ≤ out.length → ∀ x ∈ bfsG next f k out, ∀ y ∈ next x, y ∈ bfsG next f k out
 | 0, k, out, hn, h, hf, hc, hk => by
  intro x hx y hy
  obtain ⟨j, hj, rfl⟩ := Za1 hx
  have hl := hN out hn h
  simp only [bfsG] at hj hy ⊢
  exact hc j (by omega) y hy
 | f + 1, k, out, hn, h, hf, hc, hk => by
  simp only [bfsG]
  split
  ·rename_i hk2
   obtain ⟨t, ht⟩ := Zfn (next (nth out k)) out
   have hlen : out.length ≤ (addG out (next (nth out k))).length := by rw [ht, List.length_append]; omega
   have hat : ∀ j, j < out.length → nth (addG out (next (nth out k))) j = nth out j := fun j hj => by
    rw [ht]; unfold nth; simp only [List.getD_eq_getElem?_getD]; rw [List.getElem?_append_left hj]
   refine ZiX hp hN f (k + 1) _ (Zd7 _ _ hn) (fun x hx => ?_) (by omega) (fun j hj y hy => ?_) (by omega)
   ·rcases (ZdP _ _ _).1 hx with a | a
    ·exact h x a
    ·exact hp _ (h _ (Zal hk2)) x a
   ·rw [hat j (by omega)] at hy
    rw [ZdP]
    by_cases e : j = k
    ·subst e; exact .inr hy
    ·exact .inl (hc j (by omega) y hy)
  ·intro x hx y hy
   obtain ⟨j, hj, rfl⟩ := Za1 hx
   exact hc j (by omega) y hy
end
section
variable {α β : Type} [DecidableEq α] [DecidableEq β] [Inhabited α] [Inhabited β]
theorem Zh7 {α : Type} [Inhabited α] {xs ys : List α} {i : Nat} (h : i < xs.length) : nth (xs ++ ys) i = nth xs i := by unfold nth; simp only [List.getD_eq_getElem?_getD]; rw [List.getElem?_append_left h]
theorem Zuw {α : Type} [Inhabited α] {xs ys : List α} {i : Nat} (h : xs.length ≤ i) : nth (xs ++ ys) i = nth ys (i - xs.length) := by unfold nth; simp only [List.getD_eq_getElem?_getD]; rw [List.getElem?_append_right h]
end
end Go.Proofs.YtabfpoflhacknaaGreat

