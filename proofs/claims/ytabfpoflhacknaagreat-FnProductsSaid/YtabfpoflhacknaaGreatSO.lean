/- Rows of numbers sorted in Za5, and without repetitions. No conditions but those that each theorem names. -/
import Derived.Test.YtabfpoflhacknaaGreatChecked
import Derived.Shelf.SlGeneric
import Derived.Shelf.SortM.Plain
import Derived.Shelf.SlicesE.Compact
import Derived.Shelf.SlicesG.SearchI
import Derived.Ground.SlgmProg
import Derived.Ground.SlgnProg
import Derived.Test.YtabfpoflhacknaaGreatKG
import Derived.Test.YtabfpoflhacknaaGreatME
namespace Go.Proofs
open Go.Shelf
def Tryz.laysSort_ren : Go.Shelf.Ren := ⟨fun | 5 => 67 | 8 => 95 | 7 => 94 | 19 => 126 | 20 => 127 | 10 => 117 | 11 => 118 | 12 => 119 | 13 => 120 | 14 => 121 | 15 => 122 | 16 => 123 | 17 => 124 | 18 => 125 | 30 => 137 | 31 => 138 | 32 => 139 | 33 => 140 | 34 => 141 | 35 => 142 | 40 => 146 | n => n, fun | 23 => 37 | 25 => 2 | 3 => 3 | 32 => 96 | 22 => 37 | 0 => 0 | 44 => 138 | 46 => 36 | 4 => 4 | 36 => 131 | 35 => 130 | 41 => 127 | 5 => 5 | 9 => 9 | 53 => 143 | 57 => 147 | 63 => 150 | 64 => 151 | n => n, fun | n => n⟩
theorem Tryz.laysSort : Go.Proofs.SlLaysM.n5 Tryz.prog Tryz.laysSort_ren := {
  mixed := by kernel_rfl
  f5 := ⟨Tryz.f67.name, by decide, Tryz.func67.trans (congrArg some (by kernel_rfl))⟩
  f7 := ⟨Tryz.f94.name, by decide, Tryz.func94.trans (congrArg some (by kernel_rfl))⟩
  f8 := Tryz.func95.trans (congrArg some (by kernel_rfl))
  f10 := ⟨Tryz.f117.name, by decide, Tryz.func117.trans (congrArg some (by kernel_rfl))⟩
  f11 := ⟨Tryz.f118.name, by decide, Tryz.func118.trans (congrArg some (by kernel_rfl))⟩
  f12 := ⟨Tryz.f119.name, by decide, Tryz.func119.trans (congrArg some (by kernel_rfl))⟩
  f13 := ⟨Tryz.f120.name, by decide, Tryz.func120.trans (congrArg some (by kernel_rfl))⟩
  f14 := ⟨Tryz.f121.name, by decide, Tryz.func121.trans (congrArg some (by kernel_rfl))⟩
  f15 := ⟨Tryz.f122.name, by decide, Tryz.func122.trans (congrArg some (by kernel_rfl))⟩
  f16 := ⟨Tryz.f123.name, by decide, Tryz.func123.trans (congrArg some (by kernel_rfl))⟩
  f17 := ⟨Tryz.f124.name, by decide, Tryz.func124.trans (congrArg some (by kernel_rfl))⟩
  f18 := ⟨Tryz.f125.name, by decide, Tryz.func125.trans (congrArg some (by kernel_rfl))⟩
  f19 := Tryz.func126.trans (congrArg some (by kernel_rfl))
  f20 := Tryz.func127.trans (congrArg some (by kernel_rfl))
  f30 := ⟨Tryz.f137.name, by decide, Tryz.func137.trans (congrArg some (by kernel_rfl))⟩
  f31 := Tryz.func138.trans (congrArg some (by kernel_rfl))
  f32 := Tryz.func139.trans (congrArg some (by kernel_rfl))
  f33 := ⟨Tryz.f140.name, by decide, Tryz.func140.trans (congrArg some (by kernel_rfl))⟩
  f34 := ⟨Tryz.f141.name, by decide, Tryz.func141.trans (congrArg some (by kernel_rfl))⟩
  f35 := ⟨Tryz.f142.name, by decide, Tryz.func142.trans (congrArg some (by kernel_rfl))⟩
  f40 := ⟨Tryz.f146.name, by decide, Tryz.func146.trans (congrArg some (by kernel_rfl))⟩
  t0 := Tryz.underlying0
  a0 := Tryz.isAgg0
  z0 := Tryz.sizeOf0
  v0 := Tryz.zeroValue0
  t3 := Tryz.underlying3
  a3 := Tryz.isAgg3
  z3 := Tryz.sizeOf3
  v3 := Tryz.zeroValue3
  t4 := Tryz.underlying4
  a4 := Tryz.isAgg4
  z4 := Tryz.sizeOf4
  v4 := Tryz.zeroValue4
  t5 := Tryz.underlying5
  a5 := Tryz.isAgg5
  z5 := Tryz.sizeOf5
  v5 := Tryz.zeroValue5
  t9 := Tryz.underlying9
  a9 := Tryz.isAgg9
  z9 := Tryz.sizeOf9
  v9 := Tryz.zeroValue9
  t22 := Tryz.underlying37
  a22 := Tryz.isAgg37
  z22 := Tryz.sizeOf37
  v22 := Tryz.zeroValue37
  t23 := Tryz.underlying37
  a23 := Tryz.isAgg37
  z23 := Tryz.sizeOf37
  v23 := Tryz.zeroValue37
  t25 := Tryz.underlying2
  a25 := Tryz.isAgg2
  z25 := Tryz.sizeOf2
  v25 := Tryz.zeroValue2
  t32 := Tryz.underlying96
  a32 := Tryz.isAgg96
  z32 := Tryz.sizeOf96
  v32 := Tryz.zeroValue96
  t35 := Tryz.underlying130
  a35 := Tryz.isAgg130
  z35 := Tryz.sizeOf130
  v35 := Tryz.zeroValue130
  t36 := Tryz.underlying131
  a36 := Tryz.isAgg131
  z36 := Tryz.sizeOf131
  v36 := Tryz.zeroValue131
  t41 := Tryz.underlying127
  a41 := Tryz.isAgg127
  z41 := Tryz.sizeOf127
  v41 := Tryz.zeroValue127
  t44 := Tryz.underlying138
  a44 := Tryz.isAgg138
  z44 := Tryz.sizeOf138
  v44 := Tryz.zeroValue138
  t46 := Tryz.underlying36
  a46 := Tryz.isAgg36
  z46 := Tryz.sizeOf36
  v46 := Tryz.zeroValue36
  t53 := Tryz.underlying143
  a53 := Tryz.isAgg143
  z53 := Tryz.sizeOf143
  v53 := Tryz.zeroValue143
  t57 := Tryz.underlying147
  a57 := Tryz.isAgg147
  z57 := Tryz.sizeOf147
  v57 := Tryz.zeroValue147
  t63 := Tryz.underlying150
  a63 := Tryz.isAgg150
  z63 := Tryz.sizeOf150
  v63 := Tryz.zeroValue150
  t64 := Tryz.underlying151
  a64 := Tryz.isAgg151
  z64 := Tryz.sizeOf151
  v64 := Tryz.zeroValue151 }
def Tryz.laysCompact_ren : Go.Shelf.Ren := ⟨fun | 43 => 68 | n => n, fun | 22 => 37 | 23 => 2 | 3 => 3 | 4 => 4 | 0 => 0 | n => n, fun | n => n⟩
theorem Tryz.laysCompact : Go.Proofs.SlLaysE.n43 Tryz.prog Tryz.laysCompact_ren := {
  mixed := by kernel_rfl
  f43 := ⟨Tryz.f68.name, by decide, Tryz.func68.trans (congrArg some (by kernel_rfl))⟩
  t0 := Tryz.underlying0
  a0 := Tryz.isAgg0
  z0 := Tryz.sizeOf0
  v0 := Tryz.zeroValue0
  t3 := Tryz.underlying3
  a3 := Tryz.isAgg3
  z3 := Tryz.sizeOf3
  v3 := Tryz.zeroValue3
  t4 := Tryz.underlying4
  a4 := Tryz.isAgg4
  z4 := Tryz.sizeOf4
  v4 := Tryz.zeroValue4
  t22 := Tryz.underlying37
  a22 := Tryz.isAgg37
  z22 := Tryz.sizeOf37
  v22 := Tryz.zeroValue37
  a23 := Tryz.isAgg2
  z23 := Tryz.sizeOf2 }
def Tryz.laysSearch_ren : Go.Shelf.Ren := ⟨fun | 49 => 116 | 59 => 123 | 60 => 136 | 68 => 142 | n => n, fun | 22 => 37 | 23 => 2 | 3 => 3 | 4 => 4 | 51 => 96 | 0 => 0 | n => n, fun | n => n⟩
theorem Tryz.laysSearch : Go.Proofs.SlLaysN.n49 Tryz.prog Tryz.laysSearch_ren := {
  mixed := by kernel_rfl
  f49 := ⟨Tryz.f116.name, by decide, Tryz.func116.trans (congrArg some (by kernel_rfl))⟩
  f59 := ⟨Tryz.f123.name, by decide, Tryz.func123.trans (congrArg some (by kernel_rfl))⟩
  f60 := ⟨Tryz.f136.name, by decide, Tryz.func136.trans (congrArg some (by kernel_rfl))⟩
  f68 := ⟨Tryz.f142.name, by decide, Tryz.func142.trans (congrArg some (by kernel_rfl))⟩
  t0 := Tryz.underlying0
  a0 := Tryz.isAgg0
  z0 := Tryz.sizeOf0
  v0 := Tryz.zeroValue0
  t3 := Tryz.underlying3
  a3 := Tryz.isAgg3
  z3 := Tryz.sizeOf3
  v3 := Tryz.zeroValue3
  t4 := Tryz.underlying4
  a4 := Tryz.isAgg4
  z4 := Tryz.sizeOf4
  v4 := Tryz.zeroValue4
  t22 := Tryz.underlying37
  a22 := Tryz.isAgg37
  z22 := Tryz.sizeOf37
  v22 := Tryz.zeroValue37
  t23 := Tryz.underlying2
  a23 := Tryz.isAgg2
  z23 := Tryz.sizeOf2
  v23 := Tryz.zeroValue2
  t51 := Tryz.underlying96
  a51 := Tryz.isAgg96
  z51 := Tryz.sizeOf96
  v51 := Tryz.zeroValue96 }
end Go.Proofs
namespace Go.Proofs.YtabfpoflhacknaaGreat
open Go.RowKit
open Shp
variable {w : World} {b o : Nat} {vs : Array Value} {t : TypeId} {xs : List Int}
theorem ZjY (args : Array Value) (w : World) : (callFunc 67 args).run Tryz.prog w = .ok (.enter 67 args) w := Zab Tryz.func67 (by decide) rfl args w
theorem ZhA (args : Array Value) (w : World) : (callFunc 68 args).run Tryz.prog w = .ok (.enter 68 args) w := Zab Tryz.func68 (by decide) rfl args w
theorem ZmA  (h : w.heap[b]? = some (.cells vs t (0, 0))) (hc : ∀ k (hk : k < xs.length), vs[o + k]? = some (.int .i64 xs[k])) : Go.Sort.Holds (Value.int .i64) w b o xs.toArray := fun j hj => by
 have hj' : j < xs.length := by simpa using hj
 refine ⟨?_, frozen_of_row w b _ vs t h⟩
 rw [cell_of_row w b _ vs t _ h, hc j hj']
 congr 2
 rw [getElem!_pos xs.toArray j hj]; simp
theorem Zne  {n : Nat} {os : Array Obj}   {ys : List Int} (h : w.heap[b]? = some (.cells vs t (0, 0))) (hfit : o + ys.length ≤ vs.size) :
  Keeps [b] w (Go.Sort.grow (Go.Sort.putRow (Value.int .i64) (Go.Sort.ahead w n) b o ys.toArray) os) ∧ ∃ vs', (Go.Sort.grow (Go.Sort.putRow (Value.int .i64) (Go.Sort.ahead w n) b o ys.toArray) os).heap[b]? = some (.cells vs' t (0, 0)) ∧ vs'.size = vs.size ∧ ∀ k (hk : k < ys.length), vs'[o + k]? = some (.int .i64 ys[k]) := by
 have hb : b < w.heap.size := by
  rcases Nat.lt_or_ge b w.heap.size with h1 | h1
  ·exact h1
  ·rw [Array.getElem?_eq_none h1] at h; cases h
 refine ⟨⟨rfl, rfl, rfl, by simp [Go.Sort.grow, Go.Sort.putRow, Go.Sort.mapBlock], fun k hk hn => ?_⟩, Go.Sort.putCells (Value.int .i64) o ys.toArray vs, ?_, by simp [Go.Sort.putCells], fun k hk => ?_⟩
 ·simp only [Go.Sort.grow, Go.Sort.putRow, Go.Sort.mapBlock, Go.Sort.heap_ahead]
  rw [Array.getElem?_append_left (by simpa using hk), Array.getElem?_modify, if_neg (by simpa using fun e : b = k => hn (by simp [e]))]
 ·simp only [Go.Sort.grow, Go.Sort.putRow, Go.Sort.mapBlock, Go.Sort.heap_ahead]
  rw [Array.getElem?_append_left (by simpa using hb), Array.getElem?_modify, if_pos rfl, h]
  rfl
 ·simp only [Go.Sort.putCells, Array.getElem?_mapIdx]
  have h1 : o + k < vs.size := by omega
  rw [Array.getElem?_eq_getElem h1, Option.map_some, if_pos ⟨by omega, by simpa using hk⟩]
  congr 2
  rw [show o + k - o = k by omega, getElem!_pos ys.toArray k (by simpa using hk)]; simp
theorem Zty (xs : List Int) (h : NU (1 ≤ xs.length ∧ xs.length ≤ 4611686018427387903)) : RowC Tryz.prog 67 xs (Zpv xs) none :=
 ⟨ZjY, h.e.1, sortZ_len, (by intro n hn; cases hn), fun w b o cap vs t hrow hle hmax hfit hc => by
  have hb : b < w.heap.size := by
   rcases Nat.lt_or_ge b w.heap.size with h1 | h1
   ·exact h1
   ·rw [Array.getElem?_eq_none h1] at hrow; cases hrow
  have hlt := h.e.2
  refine (AnyM.slices_Sort_int Tryz.laysSort b o cap xs w (ZmA hrow hc) hb (by omega)).mono fun e w' hq => ?_
  obtain ⟨he, n, os, rfl⟩ := hq
  exact ⟨he, Zne hrow (ys := Zpv xs) (by rw [sortZ_len]; omega)⟩⟩
def rowZ (xs : List Int) : List Int := cmpZ xs ++ List.replicate (xs.length - (cmpZ xs).length) 0
theorem Zio : (rowZ xs).length = xs.length := by
 have := Zk5 (zs := xs)
 unfold rowZ; rw [List.length_append, List.length_replicate]; omega
theorem ZnU (xs : List Int) (h : NU (1 ≤ xs.length ∧ xs.length ≤ 4611686018427387903)) : RowC Tryz.prog 68 xs (rowZ xs) (some (cmpZ xs).length) :=
 ⟨ZhA, h.e.1, Zio, (by intro n hn; cases hn; exact Zk5), fun w b o cap vs t hrow hle hmax hfit hc => by
  have hlt := h.e.2
  have e1 : xs.toArray.size = xs.length := by simp
  have := AnyE.slices_Compact Tryz.laysCompact (Value.int .i64) (fun _ => rfl) (EqlAt.intD _ _ _) (NeqAt.intD _ _ _) (0 : Int) (by exact Tryz.zeroValue2) b o cap xs.toArray w (ZmA hrow hc) (by rw [e1]; omega) (by rw [e1]; exact hle)
  rw [e1] at this
  refine this.mono fun e w' hq => ?_
  obtain ⟨he, q, rfl⟩ := hq
  have := Zne (o := o) (n := q) (os := #[]) hrow (ys := rowZ xs) (by have e3 := Zio (xs := xs); omega)
  rw [Go.Sort.grow_empty] at this
  exact ⟨he, this⟩⟩
end Go.Proofs.YtabfpoflhacknaaGreat

