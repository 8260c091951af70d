/- Machines: states found, states alike. No program in sight; no conditions. -/
import Derived.Test.YtbjonekgeidoiaaMG
set_option linter.unusedSimpArgs false
set_option linter.unusedVariables false
namespace Go.Proofs.Ytbjonekgeidoiaa
open Go.RowKit
open Shp

/-- states once each -/
def FdOk (N : Nat) (out : List Int) : Prop := out.Nodup ∧ ∀ x ∈ out, 0 ≤ x ∧ x < (N : Int)
theorem FdOk.len {N : Nat} {out : List Int} (h : FdOk N out) : out.length ≤ N := nodup_len N out h.1 h.2
theorem FdOk.add {N : Nat} {out : List Int} (h : FdOk N out) {x : Int} (hx : 0 ≤ x ∧ x < (N : Int)) (hn : has out x = false) : FdOk N (out ++ [x]) := by
  refine ⟨nodup_snoc h.1 (fun hm => by rw [has_iff.2 hm] at hn; cases hn), fun y hy => ?_⟩
  rcases List.mem_append.1 hy with h1 | h1
  · exact h.2 y h1
  · simp only [List.mem_singleton] at h1; subst h1; exact hx
theorem FdOk.one {N : Nat} (h : 1 ≤ N) : FdOk N [0] := ⟨by simp, fun x hx => by simp only [List.mem_singleton] at hx; subst hx; omega⟩
theorem FdOk.at {N : Nat} {out : List Int} (h : FdOk N out) {k : Nat} (hk : k < out.length) : 0 ≤ nth out k ∧ nth out k < (N : Int) := h.2 _ (nth_mem hk)
def rowN (n : List (List Int)) (q : Int) : List Int := nth n q.toNat
/-! what goes on till nothing changes -/
def it {α : Type} (f : α → α) : Nat → α → α
  | 0, c => c
  | j + 1, c => it f j (f c)
/-! classes: each state's class is its first fellow -/
/-! states alike in machines -/
/-- all rows have one length -/
def RowsW (n out : List (List Int)) (W : Nat) : Prop := ∀ q, q < n.length → (nth n q).length = W ∧ (nth out q).length = W
end Go.Proofs.Ytbjonekgeidoiaa

