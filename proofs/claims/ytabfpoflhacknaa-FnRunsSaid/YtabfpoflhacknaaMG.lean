/- Search in breadth, over data of any kind. No program in sight; no conditions. -/
import Derived.Test.YtabfpoflhacknaaMN
set_option linter.unusedSimpArgs false
set_option linter.unusedVariables false
namespace Go.Proofs.Ytabfpoflhacknaa
open Go.RowKit
open Shp
theorem nodup_len : ∀ (N : Nat) (xs : List Int), xs.Nodup → (∀ x ∈ xs, 0 ≤ x ∧ x < (N : Int)) → xs.length ≤ N
  | 0, xs, _, h => by
    cases xs with
    | nil => simp
    | cons x xs => have := h x (.head _); omega
  | N + 1, xs, hn, h => by
    by_cases hm : (N : Int) ∈ xs
    · have h1 := nodup_len N (xs.erase N) (hn.erase _) fun x hx => by
        have a := List.mem_of_mem_erase hx
        have b := (hn.mem_erase_iff.1 hx).1
        have c := h x a
        omega
      rw [List.length_erase_of_mem hm] at h1
      omega
    · have h1 := nodup_len N xs hn fun x hx => by
        have c := h x hx
        have : x ≠ N := fun e => hm (e ▸ hx)
        omega
      omega
section
variable {α : Type} [DecidableEq α]
theorem nodup_snoc {β : Type} {out : List β} {x : β} (h : out.Nodup) (hx : x ∉ out) : (out ++ [x]).Nodup := by
  rw [List.nodup_append]
  refine ⟨h, by simp, fun a ha b hb e => ?_⟩
  simp only [List.mem_singleton] at hb
  subst hb; subst e; exact hx ha
variable [Inhabited α]
end
section
variable {α β : Type} [DecidableEq α] [DecidableEq β] [Inhabited α] [Inhabited β]
end
end Go.Proofs.Ytabfpoflhacknaa

