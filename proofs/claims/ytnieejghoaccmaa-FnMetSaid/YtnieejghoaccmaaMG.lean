/- Search in breadth, over data of any kind. No program in sight; no conditions. -/
import Derived.Test.YtnieejghoaccmaaMM
namespace Go.Proofs.Ytnieejghoaccmaa
open Go.RowKit
open Shp
variable {n o out : List (List Int)} {p W x : Int} {xs : List Int}
end Go.Proofs.Ytnieejghoaccmaa

namespace Go.Proofs.Ytnieejghoaccmaa
open Go.RowKit
open Shp
theorem Zd9 : ∀ (N : Nat) (xs : List Int), xs.Nodup → (∀ x ∈ xs, 0 ≤ x ∧ x < (N : Int)) → xs.length ≤ N
 | 0, xs, _, h => by
  cases xs with
  | nil => simp
  | cons x xs => have := h x (.head _); omega
 | N + 1, xs, hn, h => by
  by_cases hm : (N : Int) ∈ xs
  ·have h1 := Zd9 N (xs.erase N) (hn.erase _) fun x hx => by
    have a := List.mem_of_mem_erase hx
    have b := (hn.mem_erase_iff.1 hx).1
    have c := h x a
    omega
   rw [List.length_erase_of_mem hm] at h1
   omega
  ·have h1 := Zd9 N xs hn fun x hx => by
    have c := h x hx
    have : x ≠ N := fun e => hm (e ▸ hx)
    omega
   omega
theorem Zhs {α β : Type} {f : α → β} : ∀ {xs : List α}, xs.Nodup → (∀ x ∈ xs, ∀ y ∈ xs, f x = f y → x = y) → (xs.map f).Nodup
 | [], _, _ => by simp
 | x :: xs, hn, h => by
  rw [List.map_cons, List.nodup_cons]
  rw [List.nodup_cons] at hn
  refine ⟨fun hm => ?_, Zhs hn.2 fun a ha b hb => h a (.tail _ ha) b (.tail _ hb)⟩
  obtain ⟨y, hy, e⟩ := List.mem_map.1 hm
  have := h y (.tail _ hy) x (.head _) e
  subst this
  exact hn.1 hy
section
variable {α : Type} [DecidableEq α]
def addG (out : List α) : List α → List α
 | [] => out
 | x :: xs => addG (if x ∈ out then out else out ++ [x]) xs
theorem ZlF : ∀ (xs out : List α), ∃ t, addG out xs = out ++ t
 | [], out => ⟨[], by simp [addG]⟩
 | x :: xs, out => by
  simp only [addG]
  obtain ⟨t, ht⟩ := ZlF xs (if x ∈ out then out else out ++ [x])
  rw [ht]
  split
  ·exact ⟨t, rfl⟩
  ·exact ⟨x :: t, by simp⟩
theorem Zjh : ∀ (xs out : List α) (y : α), y ∈ addG out xs ↔ y ∈ out ∨ y ∈ xs
 | [], out, y => by simp [addG]
 | x :: xs, out, y => by
  simp only [addG]
  rw [Zjh xs]
  split
  ·rename_i h
   simp only [List.mem_cons]
   constructor
   ·rintro (a | a)
    ·exact .inl a
    ·exact .inr (.inr a)
   ·rintro (a | rfl | a)
    ·exact .inl a
    ·exact .inl h
    ·exact .inr a
  ·simp only [List.mem_append, List.mem_cons, List.not_mem_nil, or_false]
   constructor
   ·rintro ((a | a) | a)
    ·exact .inl a
    ·exact .inr (.inl a)
    ·exact .inr (.inr a)
   ·rintro (a | a | a)
    ·exact .inl (.inl a)
    ·exact .inl (.inr a)
    ·exact .inr a
theorem ZiA {β : Type} {out : List β} {x : β} (h : out.Nodup) (hx : x ∉ out) : (out ++ [x]).Nodup := by
 rw [List.nodup_append]
 refine ⟨h, by simp, fun a ha b hb e => ?_⟩
 simp only [List.mem_singleton] at hb
 subst hb; subst e; exact hx ha
theorem Zio : ∀ (xs out : List α), out.Nodup → (addG out xs).Nodup
 | [], out, h => h
 | x :: xs, out, h => by
  simp only [addG]
  refine Zio xs _ ?_
  split
  ·exact h
  ·rename_i h2; exact ZiA h h2
variable [Inhabited α]
theorem ZjQ {out xs : List α} {i : Nat} (h : i < xs.length) : addG out (xs.drop i) = addG (if nth xs i ∈ out then out else out ++ [nth xs i]) (xs.drop (i + 1)) := by rw [Zfj h]; rfl
theorem ZpR {β : Type} [DecidableEq β] {out xs : List β} {i : Nat} (h : xs.length ≤ i) : addG out (xs.drop i) = out := by rw [List.drop_eq_nil_of_le h]; rfl
end
section
variable {α β : Type} [DecidableEq α] [DecidableEq β] [Inhabited α] [Inhabited β]
theorem Zkw {α : Type} [Inhabited α] {xs ys : List α} {i : Nat} (h : i < xs.length) : nth (xs ++ ys) i = nth xs i := by unfold nth; simp only [List.getD_eq_getElem?_getD]; rw [List.getElem?_append_left h]
theorem Zuy {α : Type} [Inhabited α] {xs ys : List α} {i : Nat} (h : xs.length ≤ i) : nth (xs ++ ys) i = nth ys (i - xs.length) := by unfold nth; simp only [List.getD_eq_getElem?_getD]; rw [List.getElem?_append_right h]
end
end Go.Proofs.Ytnieejghoaccmaa

