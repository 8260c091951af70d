/- Rows of numbers sorted in place, and without repetitions. No conditions but those that each theorem names. -/
import Derived.Test.YtbjonekgeidoiaaSH
import Derived.Test.YtbjonekgeidoiaaKG
import Derived.Test.YtbjonekgeidoiaaME
set_option linter.unusedSimpArgs false
set_option linter.unusedVariables false
namespace Go.Proofs.Ytbjonekgeidoiaa
open Go.RowKit
open Shp

theorem enter_row_sort (args : Array Value) (w : World) : (callFunc 153 args).run Try.prog w = .ok (.enter 153 args) w := callFunc_enter Try.func153 (by decide) rfl args w
theorem holds_row {w : World} {b o : Nat} {vs : Array Value} {t : TypeId} {xs : List Int} (h : w.heap[b]? = some (.cells vs t (0, 0))) (hc : ∀ k (hk : k < xs.length), vs[o + k]? = some (.int .i64 xs[k])) : Go.Sort.Holds (Value.int .i64) w b o xs.toArray := fun j hj => by
  have hj' : j < xs.length := by simpa using hj
  refine ⟨?_, frozen_of_row w b _ vs t h⟩
  rw [cell_of_row w b _ vs t _ h, hc j hj']
  congr 2
  rw [getElem!_pos xs.toArray j hj]; simp
theorem row_world {w : World} {b o n : Nat} {os : Array Obj} {vs : Array Value} {t : TypeId} {ys : List Int} (h : w.heap[b]? = some (.cells vs t (0, 0))) (hfit : o + ys.length ≤ vs.size) :
    Keeps [b] w (Go.Sort.grow (Go.Sort.putRow (Value.int .i64) (Go.Sort.ahead w n) b o ys.toArray) os) ∧ ∃ vs', (Go.Sort.grow (Go.Sort.putRow (Value.int .i64) (Go.Sort.ahead w n) b o ys.toArray) os).heap[b]? = some (.cells vs' t (0, 0)) ∧ vs'.size = vs.size ∧ ∀ k (hk : k < ys.length), vs'[o + k]? = some (.int .i64 ys[k]) := by
  have hb : b < w.heap.size := by
    rcases Nat.lt_or_ge b w.heap.size with h1 | h1
    · exact h1
    · rw [Array.getElem?_eq_none h1] at h; cases h
  refine ⟨⟨rfl, rfl, rfl, by simp [Go.Sort.grow, Go.Sort.putRow, Go.Sort.mapBlock], fun k hk hn => ?_⟩, Go.Sort.putCells (Value.int .i64) o ys.toArray vs, ?_, by simp [Go.Sort.putCells], fun k hk => ?_⟩
  · simp only [Go.Sort.grow, Go.Sort.putRow, Go.Sort.mapBlock, Go.Sort.heap_ahead]
    rw [Array.getElem?_append_left (by simpa using hk), Array.getElem?_modify, if_neg (by simpa using fun e : b = k => hn (by simp [e]))]
  · simp only [Go.Sort.grow, Go.Sort.putRow, Go.Sort.mapBlock, Go.Sort.heap_ahead]
    rw [Array.getElem?_append_left (by simpa using hb), Array.getElem?_modify, if_pos rfl, h]
    rfl
  · simp only [Go.Sort.putCells, Array.getElem?_mapIdx]
    have h1 : o + k < vs.size := by omega
    rw [Array.getElem?_eq_getElem h1, Option.map_some, if_pos ⟨by omega, by simpa using hk⟩]
    congr 2
    rw [show o + k - o = k by omega, getElem!_pos ys.toArray k (by simpa using hk)]; simp
theorem row_sort (xs : List Int) (h : NU (1 ≤ xs.length ∧ xs.length ≤ 4611686018427387903)) : RowC Try.prog 153 xs (sortZ xs) none :=
  ⟨enter_row_sort, h.e.1, sortZ_len, (by intro n hn; cases hn), fun w b o cap vs t hrow hle hmax hfit hc => by
    have hb : b < w.heap.size := by
      rcases Nat.lt_or_ge b w.heap.size with h1 | h1
      · exact h1
      · rw [Array.getElem?_eq_none h1] at hrow; cases hrow
    have hlt := h.e.2
    refine (AnyM.slices_Sort_int Try.laysSort b o cap xs w (holds_row hrow hc) hb (by omega)).mono fun e w' hq => ?_
    obtain ⟨he, n, os, rfl⟩ := hq
    exact ⟨he, row_world hrow (ys := sortZ xs) (by rw [sortZ_len]; omega)⟩⟩
end Go.Proofs.Ytbjonekgeidoiaa

