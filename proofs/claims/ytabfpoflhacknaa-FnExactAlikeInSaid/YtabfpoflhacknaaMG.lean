/- Search in breadth, over data of any kind. No program in sight; no conditions. -/
import Derived.Test.YtabfpoflhacknaaMN
set_option linter.unusedSimpArgs false
set_option linter.unusedVariables false
namespace Go.Proofs.Ytabfpoflhacknaa
open Go.RowKit
open Shp

theorem nodup_len : ∀ (N : Nat) (xs : List Int), xs.Nodup → (∀ x ∈ xs, 0 ≤ x ∧ x < (N : Int)) → xs.length ≤ N
  | 0, xs, _, h => by
    cases xs with
    | nil => simp
    | cons x xs => have := h x (.head _); omega
  | N + 1, xs, hn, h => by
    by_cases hm : (N : Int) ∈ xs
    · have h1 := nodup_len N (xs.erase N) (hn.erase _) fun x hx => by
        have a := List.mem_of_mem_erase hx
        have b := (hn.mem_erase_iff.1 hx).1
        have c := h x a
        omega
      rw [List.length_erase_of_mem hm] at h1
      omega
    · have h1 := nodup_len N xs hn fun x hx => by
        have c := h x hx
        have : x ≠ N := fun e => hm (e ▸ hx)
        omega
      omega
theorem nodup_map {α β : Type} {f : α → β} : ∀ {xs : List α}, xs.Nodup → (∀ x ∈ xs, ∀ y ∈ xs, f x = f y → x = y) → (xs.map f).Nodup
  | [], _, _ => by simp
  | x :: xs, hn, h => by
    rw [List.map_cons, List.nodup_cons]
    rw [List.nodup_cons] at hn
    refine ⟨fun hm => ?_, nodup_map hn.2 fun a ha b hb => h a (.tail _ ha) b (.tail _ hb)⟩
    obtain ⟨y, hy, e⟩ := List.mem_map.1 hm
    have := h y (.tail _ hy) x (.head _) e
    subst this
    exact hn.1 hy
section
variable {α : Type} [DecidableEq α]
theorem nodup_snoc {β : Type} {out : List β} {x : β} (h : out.Nodup) (hx : x ∉ out) : (out ++ [x]).Nodup := by
  rw [List.nodup_append]
  refine ⟨h, by simp, fun a ha b hb e => ?_⟩
  simp only [List.mem_singleton] at hb
  subst hb; subst e; exact hx ha
variable [Inhabited α]
end
/-! two searches, step by step -/
section
variable {α β : Type} [DecidableEq α] [DecidableEq β] [Inhabited α] [Inhabited β]
/-- place by place -/
def Ev (Z : α → β → Prop) (xs : List α) (ys : List β) : Prop := xs.length = ys.length ∧ ∀ i, i < xs.length → Z (nth xs i) (nth ys i)
def Bi (Z : α → β → Prop) : Prop := ∀ u v u2 v2, Z u v → Z u2 v2 → (u = u2 ↔ v = v2)
theorem nthA1 {α : Type} [Inhabited α] {xs ys : List α} {i : Nat} (h : i < xs.length) : nth (xs ++ ys) i = nth xs i := by unfold nth; simp only [List.getD_eq_getElem?_getD]; rw [List.getElem?_append_left h]
theorem Ev.mem {γ δ : Type} [Inhabited γ] [Inhabited δ] {Z : γ → δ → Prop} (hb : Bi Z) {xs : List γ} {ys : List δ} (h : Ev Z xs ys) {x : γ} {y : δ} (hz : Z x y) : x ∈ xs ↔ y ∈ ys := by
  constructor
  · intro hx
    obtain ⟨i, hi, rfl⟩ := mem_nth hx
    rw [(hb _ _ _ _ hz (h.2 i hi)).1 rfl]
    exact nth_mem (by rw [← h.1]; exact hi)
  · intro hy
    obtain ⟨i, hi, rfl⟩ := mem_nth hy
    rw [← h.1] at hi
    rw [(hb _ _ _ _ hz (h.2 i hi)).2 rfl]
    exact nth_mem hi
end
end Go.Proofs.Ytabfpoflhacknaa

