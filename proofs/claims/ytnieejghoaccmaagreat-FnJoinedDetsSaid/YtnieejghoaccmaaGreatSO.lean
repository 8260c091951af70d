/- Rows of numbers sorted in ZbK, and without repetitions. No conditions but those that each theorem names. -/
import Derived.Test.YtnieejghoaccmaaGreatChecked
import Derived.Shelf.SlGeneric
import Derived.Shelf.SortM.Plain
import Derived.Shelf.SlicesE.Compact
import Derived.Shelf.SlicesG.SearchI
import Derived.Ground.SlgmProg
import Derived.Ground.SlgnProg
import Derived.Test.YtnieejghoaccmaaGreatKG
import Derived.Test.YtnieejghoaccmaaGreatME
namespace Go.Proofs
open Go.Shelf
def Tryz.laysSort_ren : Go.Shelf.Ren := ⟨fun | 5 => 49 | 8 => 68 | 7 => 67 | 19 => 91 | 20 => 92 | 10 => 82 | 11 => 83 | 12 => 84 | 13 => 85 | 14 => 86 | 15 => 87 | 16 => 88 | 17 => 89 | 18 => 90 | 30 => 103 | 31 => 104 | 32 => 105 | 33 => 106 | 34 => 107 | 35 => 108 | 40 => 112 | n => n, fun | 23 => 37 | 25 => 2 | 3 => 3 | 32 => 78 | 22 => 37 | 0 => 0 | 44 => 119 | 46 => 36 | 4 => 4 | 36 => 112 | 35 => 111 | 41 => 108 | 5 => 5 | 9 => 9 | 53 => 125 | 57 => 129 | 63 => 132 | 64 => 133 | n => n, fun | n => n⟩
theorem Tryz.laysSort : Go.Proofs.SlLaysM.n5 Tryz.prog Tryz.laysSort_ren := {
  mixed := by kernel_rfl
  f5 := ⟨Tryz.f49.name, by decide, Tryz.func49.trans (congrArg some (by kernel_rfl))⟩
  f7 := ⟨Tryz.f67.name, by decide, Tryz.func67.trans (congrArg some (by kernel_rfl))⟩
  f8 := Tryz.func68.trans (congrArg some (by kernel_rfl))
  f10 := ⟨Tryz.f82.name, by decide, Tryz.func82.trans (congrArg some (by kernel_rfl))⟩
  f11 := ⟨Tryz.f83.name, by decide, Tryz.func83.trans (congrArg some (by kernel_rfl))⟩
  f12 := ⟨Tryz.f84.name, by decide, Tryz.func84.trans (congrArg some (by kernel_rfl))⟩
  f13 := ⟨Tryz.f85.name, by decide, Tryz.func85.trans (congrArg some (by kernel_rfl))⟩
  f14 := ⟨Tryz.f86.name, by decide, Tryz.func86.trans (congrArg some (by kernel_rfl))⟩
  f15 := ⟨Tryz.f87.name, by decide, Tryz.func87.trans (congrArg some (by kernel_rfl))⟩
  f16 := ⟨Tryz.f88.name, by decide, Tryz.func88.trans (congrArg some (by kernel_rfl))⟩
  f17 := ⟨Tryz.f89.name, by decide, Tryz.func89.trans (congrArg some (by kernel_rfl))⟩
  f18 := ⟨Tryz.f90.name, by decide, Tryz.func90.trans (congrArg some (by kernel_rfl))⟩
  f19 := Tryz.func91.trans (congrArg some (by kernel_rfl))
  f20 := Tryz.func92.trans (congrArg some (by kernel_rfl))
  f30 := ⟨Tryz.f103.name, by decide, Tryz.func103.trans (congrArg some (by kernel_rfl))⟩
  f31 := Tryz.func104.trans (congrArg some (by kernel_rfl))
  f32 := Tryz.func105.trans (congrArg some (by kernel_rfl))
  f33 := ⟨Tryz.f106.name, by decide, Tryz.func106.trans (congrArg some (by kernel_rfl))⟩
  f34 := ⟨Tryz.f107.name, by decide, Tryz.func107.trans (congrArg some (by kernel_rfl))⟩
  f35 := ⟨Tryz.f108.name, by decide, Tryz.func108.trans (congrArg some (by kernel_rfl))⟩
  f40 := ⟨Tryz.f112.name, by decide, Tryz.func112.trans (congrArg some (by kernel_rfl))⟩
  t0 := Tryz.underlying0
  a0 := Tryz.isAgg0
  z0 := Tryz.sizeOf0
  v0 := Tryz.zeroValue0
  t3 := Tryz.underlying3
  a3 := Tryz.isAgg3
  z3 := Tryz.sizeOf3
  v3 := Tryz.zeroValue3
  t4 := Tryz.underlying4
  a4 := Tryz.isAgg4
  z4 := Tryz.sizeOf4
  v4 := Tryz.zeroValue4
  t5 := Tryz.underlying5
  a5 := Tryz.isAgg5
  z5 := Tryz.sizeOf5
  v5 := Tryz.zeroValue5
  t9 := Tryz.underlying9
  a9 := Tryz.isAgg9
  z9 := Tryz.sizeOf9
  v9 := Tryz.zeroValue9
  t22 := Tryz.underlying37
  a22 := Tryz.isAgg37
  z22 := Tryz.sizeOf37
  v22 := Tryz.zeroValue37
  t23 := Tryz.underlying37
  a23 := Tryz.isAgg37
  z23 := Tryz.sizeOf37
  v23 := Tryz.zeroValue37
  t25 := Tryz.underlying2
  a25 := Tryz.isAgg2
  z25 := Tryz.sizeOf2
  v25 := Tryz.zeroValue2
  t32 := Tryz.underlying78
  a32 := Tryz.isAgg78
  z32 := Tryz.sizeOf78
  v32 := Tryz.zeroValue78
  t35 := Tryz.underlying111
  a35 := Tryz.isAgg111
  z35 := Tryz.sizeOf111
  v35 := Tryz.zeroValue111
  t36 := Tryz.underlying112
  a36 := Tryz.isAgg112
  z36 := Tryz.sizeOf112
  v36 := Tryz.zeroValue112
  t41 := Tryz.underlying108
  a41 := Tryz.isAgg108
  z41 := Tryz.sizeOf108
  v41 := Tryz.zeroValue108
  t44 := Tryz.underlying119
  a44 := Tryz.isAgg119
  z44 := Tryz.sizeOf119
  v44 := Tryz.zeroValue119
  t46 := Tryz.underlying36
  a46 := Tryz.isAgg36
  z46 := Tryz.sizeOf36
  v46 := Tryz.zeroValue36
  t53 := Tryz.underlying125
  a53 := Tryz.isAgg125
  z53 := Tryz.sizeOf125
  v53 := Tryz.zeroValue125
  t57 := Tryz.underlying129
  a57 := Tryz.isAgg129
  z57 := Tryz.sizeOf129
  v57 := Tryz.zeroValue129
  t63 := Tryz.underlying132
  a63 := Tryz.isAgg132
  z63 := Tryz.sizeOf132
  v63 := Tryz.zeroValue132
  t64 := Tryz.underlying133
  a64 := Tryz.isAgg133
  z64 := Tryz.sizeOf133
  v64 := Tryz.zeroValue133 }
def Tryz.laysCompact_ren : Go.Shelf.Ren := ⟨fun | 43 => 50 | n => n, fun | 22 => 37 | 23 => 2 | 3 => 3 | 4 => 4 | 0 => 0 | n => n, fun | n => n⟩
theorem Tryz.laysCompact : Go.Proofs.SlLaysE.n43 Tryz.prog Tryz.laysCompact_ren := {
  mixed := by kernel_rfl
  f43 := ⟨Tryz.f50.name, by decide, Tryz.func50.trans (congrArg some (by kernel_rfl))⟩
  t0 := Tryz.underlying0
  a0 := Tryz.isAgg0
  z0 := Tryz.sizeOf0
  v0 := Tryz.zeroValue0
  t3 := Tryz.underlying3
  a3 := Tryz.isAgg3
  z3 := Tryz.sizeOf3
  v3 := Tryz.zeroValue3
  t4 := Tryz.underlying4
  a4 := Tryz.isAgg4
  z4 := Tryz.sizeOf4
  v4 := Tryz.zeroValue4
  t22 := Tryz.underlying37
  a22 := Tryz.isAgg37
  z22 := Tryz.sizeOf37
  v22 := Tryz.zeroValue37
  a23 := Tryz.isAgg2
  z23 := Tryz.sizeOf2 }
def Tryz.laysSearch_ren : Go.Shelf.Ren := ⟨fun | 49 => 81 | 59 => 88 | 60 => 102 | 68 => 108 | n => n, fun | 22 => 37 | 23 => 2 | 3 => 3 | 4 => 4 | 51 => 78 | 0 => 0 | n => n, fun | n => n⟩
theorem Tryz.laysSearch : Go.Proofs.SlLaysN.n49 Tryz.prog Tryz.laysSearch_ren := {
  mixed := by kernel_rfl
  f49 := ⟨Tryz.f81.name, by decide, Tryz.func81.trans (congrArg some (by kernel_rfl))⟩
  f59 := ⟨Tryz.f88.name, by decide, Tryz.func88.trans (congrArg some (by kernel_rfl))⟩
  f60 := ⟨Tryz.f102.name, by decide, Tryz.func102.trans (congrArg some (by kernel_rfl))⟩
  f68 := ⟨Tryz.f108.name, by decide, Tryz.func108.trans (congrArg some (by kernel_rfl))⟩
  t0 := Tryz.underlying0
  a0 := Tryz.isAgg0
  z0 := Tryz.sizeOf0
  v0 := Tryz.zeroValue0
  t3 := Tryz.underlying3
  a3 := Tryz.isAgg3
  z3 := Tryz.sizeOf3
  v3 := Tryz.zeroValue3
  t4 := Tryz.underlying4
  a4 := Tryz.isAgg4
  z4 := Tryz.sizeOf4
  v4 := Tryz.zeroValue4
  t22 := Tryz.underlying37
  a22 := Tryz.isAgg37
  z22 := Tryz.sizeOf37
  v22 := Tryz.zeroValue37
  t23 := Tryz.underlying2
  a23 := Tryz.isAgg2
  z23 := Tryz.sizeOf2
  v23 := Tryz.zeroValue2
  t51 := Tryz.underlying78
  a51 := Tryz.isAgg78
  z51 := Tryz.sizeOf78
  v51 := Tryz.zeroValue78 }
end Go.Proofs
namespace Go.Proofs.YtnieejghoaccmaaGreat
open Go.RowKit
open Shp
variable {w : World} {b o : Nat} {vs : Array Value} {t : TypeId} {xs : List Int}
theorem Zjl (args : Array Value) (w : World) : (callFunc 49 args).run Tryz.prog w = .ok (.enter 49 args) w := Zab Tryz.func49 (by decide) rfl args w
theorem Zg0 (args : Array Value) (w : World) : (callFunc 50 args).run Tryz.prog w = .ok (.enter 50 args) w := Zab Tryz.func50 (by decide) rfl args w
theorem Zlr  (h : w.heap[b]? = some (.cells vs t (0, 0))) (hc : ∀ k (hk : k < xs.length), vs[o + k]? = some (.int .i64 xs[k])) : Go.Sort.Holds (Value.int .i64) w b o xs.toArray := fun j hj => by
 have hj' : j < xs.length := by simpa using hj
 refine ⟨?_, frozen_of_row w b _ vs t h⟩
 rw [cell_of_row w b _ vs t _ h, hc j hj']
 congr 2
 rw [getElem!_pos xs.toArray j hj]; simp
theorem ZlU  {n : Nat} {os : Array Obj}   {ys : List Int} (h : w.heap[b]? = some (.cells vs t (0, 0))) (hfit : o + ys.length ≤ vs.size) :
  Keeps [b] w (Go.Sort.grow (Go.Sort.putRow (Value.int .i64) (Go.Sort.ahead w n) b o ys.toArray) os) ∧ ∃ vs', (Go.Sort.grow (Go.Sort.putRow (Value.int .i64) (Go.Sort.ahead w n) b o ys.toArray) os).heap[b]? = some (.cells vs' t (0, 0)) ∧ vs'.size = vs.size ∧ ∀ k (hk : k < ys.length), vs'[o + k]? = some (.int .i64 ys[k]) := by
 have hb : b < w.heap.size := by
  rcases Nat.lt_or_ge b w.heap.size with h1 | h1
  ·exact h1
  ·rw [Array.getElem?_eq_none h1] at h; cases h
 refine ⟨⟨rfl, rfl, rfl, by simp [Go.Sort.grow, Go.Sort.putRow, Go.Sort.mapBlock], fun k hk hn => ?_⟩, Go.Sort.putCells (Value.int .i64) o ys.toArray vs, ?_, by simp [Go.Sort.putCells], fun k hk => ?_⟩
 ·simp only [Go.Sort.grow, Go.Sort.putRow, Go.Sort.mapBlock, Go.Sort.heap_ahead]
  rw [Array.getElem?_append_left (by simpa using hk), Array.getElem?_modify, if_neg (by simpa using fun e : b = k => hn (by simp [e]))]
 ·simp only [Go.Sort.grow, Go.Sort.putRow, Go.Sort.mapBlock, Go.Sort.heap_ahead]
  rw [Array.getElem?_append_left (by simpa using hb), Array.getElem?_modify, if_pos rfl, h]
  rfl
 ·simp only [Go.Sort.putCells, Array.getElem?_mapIdx]
  have h1 : o + k < vs.size := by omega
  rw [Array.getElem?_eq_getElem h1, Option.map_some, if_pos ⟨by omega, by simpa using hk⟩]
  congr 2
  rw [show o + k - o = k by omega, getElem!_pos ys.toArray k (by simpa using hk)]; simp
theorem ZsT (xs : List Int) (h : NU (1 ≤ xs.length ∧ xs.length ≤ 4611686018427387903)) : RowC Tryz.prog 49 xs (ZoQ xs) none :=
 ⟨Zjl, h.e.1, sortZ_len, (by intro n hn; cases hn), fun w b o cap vs t hrow hle hmax hfit hc => by
  have hb : b < w.heap.size := by
   rcases Nat.lt_or_ge b w.heap.size with h1 | h1
   ·exact h1
   ·rw [Array.getElem?_eq_none h1] at hrow; cases hrow
  have hlt := h.e.2
  refine (AnyM.slices_Sort_int Tryz.laysSort b o cap xs w (Zlr hrow hc) hb (by omega)).mono fun e w' hq => ?_
  obtain ⟨he, n, os, rfl⟩ := hq
  exact ⟨he, ZlU hrow (ys := ZoQ xs) (by rw [sortZ_len]; omega)⟩⟩
def rowZ (xs : List Int) : List Int := cmpZ xs ++ List.replicate (xs.length - (cmpZ xs).length) 0
theorem ZhV : (rowZ xs).length = xs.length := by
 have := Zlf (zs := xs)
 unfold rowZ; rw [List.length_append, List.length_replicate]; omega
theorem ZmV (xs : List Int) (h : NU (1 ≤ xs.length ∧ xs.length ≤ 4611686018427387903)) : RowC Tryz.prog 50 xs (rowZ xs) (some (cmpZ xs).length) :=
 ⟨Zg0, h.e.1, ZhV, (by intro n hn; cases hn; exact Zlf), fun w b o cap vs t hrow hle hmax hfit hc => by
  have hlt := h.e.2
  have e1 : xs.toArray.size = xs.length := by simp
  have := AnyE.slices_Compact Tryz.laysCompact (Value.int .i64) (fun _ => rfl) (EqlAt.intD _ _ _) (NeqAt.intD _ _ _) (0 : Int) (by exact Tryz.zeroValue2) b o cap xs.toArray w (Zlr hrow hc) (by rw [e1]; omega) (by rw [e1]; exact hle)
  rw [e1] at this
  refine this.mono fun e w' hq => ?_
  obtain ⟨he, q, rfl⟩ := hq
  have := ZlU (o := o) (n := q) (os := #[]) hrow (ys := rowZ xs) (by have e3 := ZhV (xs := xs); omega)
  rw [Go.Sort.grow_empty] at this
  exact ⟨he, this⟩⟩
end Go.Proofs.YtnieejghoaccmaaGreat

