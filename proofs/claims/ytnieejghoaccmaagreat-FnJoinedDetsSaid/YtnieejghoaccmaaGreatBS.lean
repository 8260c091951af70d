/- The library's search in an ascending slice of numbers. No conditions but those that each theorem names. -/
import Derived.Test.YtnieejghoaccmaaGreatBase
import Derived.Test.YtnieejghoaccmaaGreatKG
import Derived.Deep.QuietTactic
import Derived.BigQuiet
import Derived.Lib.Hide
import Derived.Test.YtnieejghoaccmaaGreatSO
import Derived.Deep.LoopGhost
namespace Go.Proofs.YtnieejghoaccmaaGreat
open Go.RowKit
open Shp
variable {w : World} {a : Option Addr} {cap : Nat} {xs : List Int}
structure IntsV (w : World) (a : Option Addr) (cap : Nat) (xs : List Int) : Prop where
 le : xs.length ≤ cap
 max : cap ≤ 9223372036854775807
 isSome : 0 < xs.length → ∃ b o, a = some ⟨b, o, none⟩
 cell : ∀ k, k < xs.length → w.cell? (sAt a k) = some (.int .i64 (nth xs k))
 lt : ∀ p, a = some p → 0 < xs.length → p.block < w.heap.size
theorem IntsV.keeps0 {w' : World}    (h : IntsV w a cap xs) (hk : Keeps [] w w') : IntsV w' a cap xs :=
 ⟨h.le, h.max, h.isSome, fun k hlt => by
  obtain ⟨b, o, rfl⟩ := h.isSome (by omega)
  have h1 := h.cell k hlt
  rw [Zd7] at h1 ⊢
  exact hk.cellSome h1 (by simp), fun p hp h0 => Nat.lt_of_lt_of_le (h.lt p hp h0) hk.size⟩
theorem IntsV.of  {F : List Nat} {v : Value}  (h : GRep w F v (.ints xs)) : ∃ a cap, v = .slice a xs.length cap ∧ IntsV w a cap xs := by
 obtain ⟨a, cap, els, Fs, e1, _, hs⟩ := h.slice
 have hl : (xs.map GV.i).length = xs.length := by simp
 refine ⟨a, cap, by rw [e1, hl], ?_, hs.max, fun h0 => ?_, fun k hk => ?_, fun p hp h0 => (hs.ad p hp (by have := hs.le; omega)).2⟩
 ·have := hs.le; omega
 ·cases a with
  | none => have := hs.nil rfl; have := hs.le; omega
  | some p =>
   have := hs.ad p rfl (by have := hs.le; omega)
   obtain ⟨b, o, s⟩ := p
   simp only at this
   obtain ⟨rfl, _⟩ := this
   exact ⟨b, o, rfl⟩
 ·have hk2 : k < (xs.map GV.i).length := by omega
  have h1 := hs.h k hk2
  rw [show ((xs.map GV.i)[k]'hk2) = GV.i (nth xs k) by rw [List.getElem_map, Zbu hk]] at h1
  have h2 := (hs.hc k (by rw [hs.hv]; exact hk2)).2.2 0 (by rw [h1.int_inv]; simp [Value.cells])
  have h3 := h2.1
  rw [show k * 1 + 0 = k by omega] at h3
  rw [h3]
  have h4 := Zgv h1
  rw [Array.getElem?_eq_some_iff] at h4
  obtain ⟨_, h5⟩ := h4
  rw [h5]
theorem Zq3  (h : IntsV w a cap xs) {k : Nat} (hk : k < xs.length) :
  (∀ w0, Sem.run Tryz.prog (Instr.indexAt 37 (.slice a xs.length cap) (.int .i64 (k : Int))) w0 = .ok (.pointer (some (sAt a k))) w0) ∧ w.cell? (sAt a k) = some (.int .i64 (nth xs k)) :=
 ⟨fun w0 => Zyh Tryz.underlying37 (by kernel_rfl) rfl hk (h.isSome (by omega)) _ w0, h.cell k hk⟩
set_option maxHeartbeats 1000000 in
theorem ZoO  (hx : IntsV w a cap xs) (n : Int) (k : Nat) (hk : k < xs.length) (hb : Hid (∀ z, z < k → nth xs z < n)) (hn : Hid (nth xs k = n)) :
  Calls Tryz.prog 75 #[.slice a xs.length cap, .int .i64 n] w fun e w' => e = .returned (.slice a xs.length cap) ∧ Keeps [] w w' := by
 have m1 := hx.le
 have m2 := hx.max
 go_enter Tryz.func75, Tryz.ntmps75
 go_wp2
 go_loopw [5] (fun i wr => ∃ j : Nat, j ≤ k ∧ i = .int .i64 j ∧ Keeps [] w wr) (fun i _ => k + 1 - (intOf i).toNat)
 case atStart => exact ⟨0, Nat.zero_le _, rfl, Keeps.refl _ _⟩
 case round =>
  obtain ⟨j, hj, rfl, hkp⟩ := hrel
  obtain ⟨i1, c1⟩ := Zq3 (hx.keeps0 hkp) (show j < xs.length by omega)
  have hlt : j < xs.length := by omega
  by_cases h : j < k
  ·have h1 : nth xs j < n := hb.out j h
   go_wp2
   go_roundw
   case rel => exact ⟨j + 1, by omega, by go_num, hkp⟩
   case measure => simp [intOf]; omega
  ·have e : nth xs j = n := by rw [show j = k by omega]; exact hn.out
   go_wp2
   go_ret
   exact ⟨rfl, hkp⟩
end Go.Proofs.YtnieejghoaccmaaGreat

namespace Go.Proofs.YtnieejghoaccmaaGreat
open Go.RowKit
open Shp
theorem Zln (args : Array Value) (w : World) : (callFunc 81 args).run Tryz.prog w = .ok (.enter 81 args) w := Zab Tryz.func81 (by decide) rfl args w
set_option maxHeartbeats 2000000 in
set_option maxRecDepth 1000000 in
theorem Zm1 (a : Option Addr) (c : Nat) (x : Int) (w : World) :
  Calls Tryz.prog 81 #[.slice a 0 c, .int .i64 x] w fun e w' => e = .returned (.tuple #[.int .i64 0, .bool false]) ∧ w' = w := by
 go_enter Tryz.func81, Tryz.ntmps81
 go_wp2
 go_loopg [7, 8] 0 (fun _ s7 s8 wr => s7 = .int .i64 0 ∧ s8 = .int .i64 0 ∧ wr = w)
 case atStart => exact ⟨rfl, rfl, rfl⟩
 case round =>
  obtain ⟨rfl, rfl, rfl⟩ := hrel
  go_wp2
  go_ret2
  exact ⟨rfl, rfl⟩
def posZ (xs : List Int) (x : Int) : Int := (xs.countP (· < x) : Nat)
theorem Keeps.ofDrewN (w : World) (q : Nat) : Keeps [] w (w.drewN q) := Keeps.drewN [] w q
theorem Zok (xs : List Int) (x : Int) (h : HY (Asc xs)) (hl : NU (xs.length ≤ 4611686018427387903)) : Con Tryz.prog 81 [.ints xs, .i x] (.tup [.i (posZ xs x), .bool (has xs x)]) := by
 have hl := hl.e
 have h := h.e
 refine ⟨Zln, fun w args hlen hg => ?_⟩
 match args, hlen with
 | [v, u], _ =>
  obtain ⟨F, g0⟩ := hg 0 (by simp)
  obtain ⟨G, g1⟩ := hg 1 (by simp)
  simp only [List.getElem_cons_zero] at g0
  simp only [List.getElem_cons_succ, List.getElem_cons_zero] at g1
  obtain rfl := g1.int_inv
  obtain ⟨a, cap, rfl, hi⟩ := IntsV.of g0
  have fin : ∀ w', Keeps [] w w' → Gives w (.tup [.i (posZ xs x), .bool (has xs x)]) (.returned (.tuple #[.int .i64 (posZ xs x), .bool (has xs x)])) w' := fun w' hk =>
   ⟨_, [], rfl, .tup [.int .i64 (posZ xs x), .bool (has xs x)] [.i (posZ xs x), .bool (has xs x)] [[], []] rfl rfl (fun i hi => by
    match i, hi with
    | 0, _ => exact .atom (GV.i _) rfl
    | 1, _ => exact .atom (GV.bool _) rfl), .tup [.int .i64 (posZ xs x), .bool (has xs x)] [.i (posZ xs x), .bool (has xs x)] rfl (fun i hi => by
    match i, hi with
    | 0, _ => exact .atom (GV.i _) rfl
    | 1, _ => exact .atom (GV.bool _) rfl), List.nodup_nil, by simp, hk⟩
  by_cases h0 : xs.length = 0
  ·have e0 : xs = [] := List.eq_nil_of_length_eq_zero h0
   subst e0
   exact (Zm1 a cap x w).mono fun e w' ⟨he, hw⟩ => by subst he; subst hw; exact fin _ (Keeps.refl _ _)
  ·obtain ⟨b, o, rfl⟩ := hi.isSome (by omega)
   have hc : ∀ j, j < xs.length → w.cell? ⟨b, o + j, none⟩ = some (.int .i64 (xs.getD j 0)) := fun j hj => by
    have := hi.cell j hj
    rw [Zd7] at this
    rw [this]; rfl
   have e1 : xs.take xs.length = xs := List.take_length
   have := AnyG.slices_BinarySearch_int Tryz.laysSearch b o xs.length cap xs x w (Nat.le_refl _) (by omega) hc (by rw [e1]; exact List.Pairwise.imp (fun h => by omega) h)
   rw [e1] at this
   refine this.mono fun e w' hq => ?_
   obtain ⟨rfl, q, rfl⟩ := hq
   have e2 : xs.contains x = has xs x := by
    rw [Bool.eq_iff_iff, has_iff]; simp
   rw [e2]
   exact fin _ (Keeps.ofDrewN w q)
end Go.Proofs.YtnieejghoaccmaaGreat

