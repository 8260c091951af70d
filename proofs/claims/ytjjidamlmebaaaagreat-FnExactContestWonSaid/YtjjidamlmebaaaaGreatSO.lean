/- Rows of numbers sorted in ZbG, and without repetitions. No conditions but those that each theorem names. -/
import Derived.Test.YtjjidamlmebaaaaGreatSH
import Derived.Test.YtjjidamlmebaaaaGreatKG
import Derived.Test.YtjjidamlmebaaaaGreatME
namespace Go.Proofs.YtjjidamlmebaaaaGreat
open Go.RowKit
open Shp
variable {w : World} {b o : Nat} {vs : Array Value} {xs : List Int}
theorem Zi6 (args : Array Value) (w : World) : (callFunc 67 args).run Tryz.prog w = .ok (.enter 67 args) w := Zaa Tryz.func67 (by decide) rfl args w
theorem ZgD (args : Array Value) (w : World) : (callFunc 68 args).run Tryz.prog w = .ok (.enter 68 args) w := Zaa Tryz.func68 (by decide) rfl args w
theorem ZkY  {t : FT}  (h : w.heap[b]? = some (cel vs t)) (hc : ∀ k (hk : k < xs.length), vs[o + k]? = some (.int .i64 xs[k])) : Go.Sort.Holds (Value.int .i64) w b o xs.toArray := fun j hj => by
 have hj' : j < xs.length := by simpa using hj
 refine ⟨?_, ZeO h (Zpn (hc j hj'))⟩
 rw [cell_of_row w b _ vs t.t _ h, hc j hj']
 congr 2
 rw [getElem!_pos xs.toArray j hj]; simp
theorem Zlt  {n : Nat} {os : Array Obj}  {t : FT} {ys : List Int} (h : w.heap[b]? = some (cel vs t)) (hfit : o + ys.length ≤ vs.size) :
  Keeps [b] w (Go.Sort.grow (Go.Sort.putRow (Value.int .i64) (Go.Sort.ahead w n) b o ys.toArray) os) ∧ ∃ vs', (Go.Sort.grow (Go.Sort.putRow (Value.int .i64) (Go.Sort.ahead w n) b o ys.toArray) os).heap[b]? = some (cel vs' t) ∧ vs'.size = vs.size ∧ ∀ k (hk : k < ys.length), vs'[o + k]? = some (.int .i64 ys[k]) := by
 have hb : b < w.heap.size := by
  rcases Nat.lt_or_ge b w.heap.size with h1 | h1
  ·exact h1
  ·rw [Array.getElem?_eq_none h1] at h; cases h
 refine ⟨⟨rfl, rfl, rfl, by simp [Go.Sort.grow, Go.Sort.putRow, Go.Sort.mapBlock], fun k hk hn => ?_⟩, Go.Sort.putCells (Value.int .i64) o ys.toArray vs, ?_, by simp [Go.Sort.putCells], fun k hk => ?_⟩
 ·simp only [Go.Sort.grow, Go.Sort.putRow, Go.Sort.mapBlock, Go.Sort.heap_ahead]
  rw [Array.getElem?_append_left (by simpa using hk), Array.getElem?_modify, if_neg (by simpa using fun e : b = k => hn (by simp [e]))]
 ·simp only [Go.Sort.grow, Go.Sort.putRow, Go.Sort.mapBlock, Go.Sort.heap_ahead]
  rw [Array.getElem?_append_left (by simpa using hb), Array.getElem?_modify, if_pos rfl, h]
  have e : t.z (Go.Sort.putCells (Value.int .i64) o ys.toArray vs).size = t.z vs.size := by simp [Go.Sort.putCells]
  show some (Obj.cells _ _ _) = _
  rw [cel, e]
 ·simp only [Go.Sort.putCells, Array.getElem?_mapIdx]
  have h1 : o + k < vs.size := by omega
  rw [Array.getElem?_eq_getElem h1, Option.map_some, if_pos ⟨by omega, by simpa using hk⟩]
  congr 2
  rw [show o + k - o = k by omega, getElem!_pos ys.toArray k (by simpa using hk)]; simp
theorem Zm1 (xs : List Int) (h : NU (1 ≤ xs.length ∧ xs.length ≤ 4611686018427387903)) : RowC Tryz.prog 67 xs (Zev xs) none :=
 ⟨Zi6, h.e.1, sortZ_len, (by intro n hn; cases hn), fun w b o cap vs t hrow hle hmax hfit hc => by
  have hb : b < w.heap.size := by
   rcases Nat.lt_or_ge b w.heap.size with h1 | h1
   ·exact h1
   ·rw [Array.getElem?_eq_none h1] at hrow; cases hrow
  have hlt := h.e.2
  refine (AnyM.slices_Sort_int Tryz.laysSort b o cap xs w (ZkY hrow hc) hb (by omega)).mono fun e w' hq => ?_
  obtain ⟨he, n, os, rfl⟩ := hq
  exact ⟨he, Zlt hrow (ys := Zev xs) (by rw [sortZ_len]; omega)⟩⟩
def rowZ (xs : List Int) : List Int := cmpZ xs ++ List.replicate (xs.length - (cmpZ xs).length) 0
theorem ZhG : (rowZ xs).length = xs.length := by
 have := ZhH (zs := xs)
 unfold rowZ; rw [List.length_append, List.length_replicate]; omega
theorem Zmf (xs : List Int) (h : NU (1 ≤ xs.length ∧ xs.length ≤ 4611686018427387903)) : RowC Tryz.prog 68 xs (rowZ xs) (some (cmpZ xs).length) :=
 ⟨ZgD, h.e.1, ZhG, (by intro n hn; cases hn; exact ZhH), fun w b o cap vs t hrow hle hmax hfit hc => by
  have hlt := h.e.2
  have e1 : xs.toArray.size = xs.length := by simp
  have := AnyE.slices_Compact Tryz.laysCompact (Value.int .i64) (fun _ => rfl) (EqlAt.intD _ _ _) (NeqAt.intD _ _ _) (0 : Int) (by exact Tryz.zeroValue2) b o cap xs.toArray w (ZkY hrow hc) (by rw [e1]; omega) (by rw [e1]; exact hle)
  rw [e1] at this
  refine this.mono fun e w' hq => ?_
  obtain ⟨he, q, rfl⟩ := hq
  have := Zlt (o := o) (n := q) (os := #[]) hrow (ys := rowZ xs) (by have e3 := ZhG (xs := xs); omega)
  rw [Go.Sort.grow_empty] at this
  exact ⟨he, this⟩⟩
end Go.Proofs.YtjjidamlmebaaaaGreat

