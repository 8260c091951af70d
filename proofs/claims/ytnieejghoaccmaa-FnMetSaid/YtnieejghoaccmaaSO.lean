/- Rows of numbers sorted in ZbE, and without repetitions. No conditions but those that each theorem names. -/
import Derived.Test.YtnieejghoaccmaaSH
import Derived.Test.YtnieejghoaccmaaKG
import Derived.Test.YtnieejghoaccmaaME
namespace Go.Proofs.Ytnieejghoaccmaa
open Go.RowKit
open Shp
variable {w : World} {b o : Nat} {vs : Array Value} {t : TypeId} {xs : List Int}
theorem Zh5 (args : Array Value) (w : World) : (callFunc 44 args).run Try.prog w = .ok (.enter 44 args) w := Zab Try.func44 (by decide) rfl args w
theorem ZfY (args : Array Value) (w : World) : (callFunc 45 args).run Try.prog w = .ok (.enter 45 args) w := Zab Try.func45 (by decide) rfl args w
theorem Zku  (h : w.heap[b]? = some (.cells vs t (0, 0))) (hc : ∀ k (hk : k < xs.length), vs[o + k]? = some (.int .i64 xs[k])) : Go.Sort.Holds (Value.int .i64) w b o xs.toArray := fun j hj => by
 have hj' : j < xs.length := by simpa using hj
 refine ⟨?_, frozen_of_row w b _ vs t h⟩
 rw [cell_of_row w b _ vs t _ h, hc j hj']
 congr 2
 rw [getElem!_pos xs.toArray j hj]; simp
theorem ZjT  {n : Nat} {os : Array Obj}   {ys : List Int} (h : w.heap[b]? = some (.cells vs t (0, 0))) (hfit : o + ys.length ≤ vs.size) :
  Keeps [b] w (Go.Sort.grow (Go.Sort.putRow (Value.int .i64) (Go.Sort.ahead w n) b o ys.toArray) os) ∧ ∃ vs', (Go.Sort.grow (Go.Sort.putRow (Value.int .i64) (Go.Sort.ahead w n) b o ys.toArray) os).heap[b]? = some (.cells vs' t (0, 0)) ∧ vs'.size = vs.size ∧ ∀ k (hk : k < ys.length), vs'[o + k]? = some (.int .i64 ys[k]) := by
 have hb : b < w.heap.size := by
  rcases Nat.lt_or_ge b w.heap.size with h1 | h1
  ·exact h1
  ·rw [Array.getElem?_eq_none h1] at h; cases h
 refine ⟨⟨rfl, rfl, rfl, by simp [Go.Sort.grow, Go.Sort.putRow, Go.Sort.mapBlock], fun k hk hn => ?_⟩, Go.Sort.putCells (Value.int .i64) o ys.toArray vs, ?_, by simp [Go.Sort.putCells], fun k hk => ?_⟩
 ·simp only [Go.Sort.grow, Go.Sort.putRow, Go.Sort.mapBlock, Go.Sort.heap_ahead]
  rw [Array.getElem?_append_left (by simpa using hk), Array.getElem?_modify, if_neg (by simpa using fun e : b = k => hn (by simp [e]))]
 ·simp only [Go.Sort.grow, Go.Sort.putRow, Go.Sort.mapBlock, Go.Sort.heap_ahead]
  rw [Array.getElem?_append_left (by simpa using hb), Array.getElem?_modify, if_pos rfl, h]
  rfl
 ·simp only [Go.Sort.putCells, Array.getElem?_mapIdx]
  have h1 : o + k < vs.size := by omega
  rw [Array.getElem?_eq_getElem h1, Option.map_some, if_pos ⟨by omega, by simpa using hk⟩]
  congr 2
  rw [show o + k - o = k by omega, getElem!_pos ys.toArray k (by simpa using hk)]; simp
theorem Zp6 (xs : List Int) (h : NU (1 ≤ xs.length ∧ xs.length ≤ 4611686018427387903)) : RowC Try.prog 44 xs (Zmr xs) none :=
 ⟨Zh5, h.e.1, sortZ_len, (by intro n hn; cases hn), fun w b o cap vs t hrow hle hmax hfit hc => by
  have hb : b < w.heap.size := by
   rcases Nat.lt_or_ge b w.heap.size with h1 | h1
   ·exact h1
   ·rw [Array.getElem?_eq_none h1] at hrow; cases hrow
  have hlt := h.e.2
  refine (AnyM.slices_Sort_int Try.laysSort b o cap xs w (Zku hrow hc) hb (by omega)).mono fun e w' hq => ?_
  obtain ⟨he, n, os, rfl⟩ := hq
  exact ⟨he, ZjT hrow (ys := Zmr xs) (by rw [sortZ_len]; omega)⟩⟩
def rowZ (xs : List Int) : List Int := cmpZ xs ++ List.replicate (xs.length - (cmpZ xs).length) 0
theorem ZgW : (rowZ xs).length = xs.length := by
 have := Zjl (zs := xs)
 unfold rowZ; rw [List.length_append, List.length_replicate]; omega
theorem ZkU (xs : List Int) (h : NU (1 ≤ xs.length ∧ xs.length ≤ 4611686018427387903)) : RowC Try.prog 45 xs (rowZ xs) (some (cmpZ xs).length) :=
 ⟨ZfY, h.e.1, ZgW, (by intro n hn; cases hn; exact Zjl), fun w b o cap vs t hrow hle hmax hfit hc => by
  have hlt := h.e.2
  have e1 : xs.toArray.size = xs.length := by simp
  have := AnyE.slices_Compact Try.laysCompact (Value.int .i64) (fun _ => rfl) (EqlAt.intD _ _ _) (NeqAt.intD _ _ _) (0 : Int) (by exact Try.zeroValue2) b o cap xs.toArray w (Zku hrow hc) (by rw [e1]; omega) (by rw [e1]; exact hle)
  rw [e1] at this
  refine this.mono fun e w' hq => ?_
  obtain ⟨he, q, rfl⟩ := hq
  have := ZjT (o := o) (n := q) (os := #[]) hrow (ys := rowZ xs) (by have e3 := ZgW (xs := xs); omega)
  rw [Go.Sort.grow_empty] at this
  exact ⟨he, this⟩⟩
end Go.Proofs.Ytnieejghoaccmaa

