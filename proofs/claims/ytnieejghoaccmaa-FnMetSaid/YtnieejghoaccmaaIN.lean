/- A number into an ascending slice, where it is there already: the slice itself comes back. Conditions: as the theorem names them. -/
import Derived.Test.YtnieejghoaccmaaBase
import Derived.Test.YtnieejghoaccmaaKG
import Derived.Deep.QuietTactic
import Derived.BigQuiet
import Derived.Lib.Hide
namespace Go.Proofs.Ytnieejghoaccmaa
open Go.RowKit
open Shp
variable {w : World} {a : Option Addr} {cap : Nat} {xs : List Int}
structure IntsV (w : World) (a : Option Addr) (cap : Nat) (xs : List Int) : Prop where
 le : xs.length ≤ cap
 max : cap ≤ 9223372036854775807
 isSome : 0 < xs.length → ∃ b o, a = some ⟨b, o, none⟩
 cell : ∀ k, k < xs.length → w.cell? (sAt a k) = some (.int .i64 (nth xs k))
 lt : ∀ p, a = some p → 0 < xs.length → p.block < w.heap.size
theorem IntsV.keeps0 {w' : World}    (h : IntsV w a cap xs) (hk : Keeps [] w w') : IntsV w' a cap xs :=
 ⟨h.le, h.max, h.isSome, fun k hlt => by
  obtain ⟨b, o, rfl⟩ := h.isSome (by omega)
  have h1 := h.cell k hlt
  rw [Zep] at h1 ⊢
  exact hk.cellSome h1 (by simp), fun p hp h0 => Nat.lt_of_lt_of_le (h.lt p hp h0) hk.size⟩
theorem IntsV.of  {F : List Nat} {v : Value}  (h : GRep w F v (.ints xs)) : ∃ a cap, v = .slice a xs.length cap ∧ IntsV w a cap xs := by
 obtain ⟨a, cap, els, Fs, e1, _, hs⟩ := h.slice
 have hl : (xs.map GV.i).length = xs.length := by simp
 refine ⟨a, cap, by rw [e1, hl], ?_, hs.max, fun h0 => ?_, fun k hk => ?_, fun p hp h0 => (hs.ad p hp (by have := hs.le; omega)).2⟩
 ·have := hs.le; omega
 ·cases a with
  | none => have := hs.nil rfl; have := hs.le; omega
  | some p =>
   have := hs.ad p rfl (by have := hs.le; omega)
   obtain ⟨b, o, s⟩ := p
   simp only at this
   obtain ⟨rfl, _⟩ := this
   exact ⟨b, o, rfl⟩
 ·have hk2 : k < (xs.map GV.i).length := by omega
  have h1 := hs.h k hk2
  rw [show ((xs.map GV.i)[k]'hk2) = GV.i (nth xs k) by rw [List.getElem_map, Zbx hk]] at h1
  have h2 := (hs.hc k (by rw [hs.hv]; exact hk2)).2.2 0 (by rw [h1.int_inv]; simp [Value.cells])
  have h3 := h2.1
  rw [show k * 1 + 0 = k by omega] at h3
  rw [h3]
  have h4 := ZfH h1
  rw [Array.getElem?_eq_some_iff] at h4
  obtain ⟨_, h5⟩ := h4
  rw [h5]
theorem Zo1  (h : IntsV w a cap xs) {k : Nat} (hk : k < xs.length) :
  (∀ w0, Sem.run Try.prog (Instr.indexAt 30 (.slice a xs.length cap) (.int .i64 (k : Int))) w0 = .ok (.pointer (some (sAt a k))) w0) ∧ w.cell? (sAt a k) = some (.int .i64 (nth xs k)) :=
 ⟨fun w0 => ZuX Try.underlying30 (by kernel_rfl) rfl hk (h.isSome (by omega)) _ w0, h.cell k hk⟩
set_option maxHeartbeats 1000000 in
theorem Zms  (hx : IntsV w a cap xs) (n : Int) (k : Nat) (hk : k < xs.length) (hb : Hid (∀ z, z < k → nth xs z < n)) (hn : Hid (nth xs k = n)) :
  Calls Try.prog 50 #[.slice a xs.length cap, .int .i64 n] w fun e w' => e = .returned (.slice a xs.length cap) ∧ Keeps [] w w' := by
 have m1 := hx.le
 have m2 := hx.max
 go_enter Try.func50, Try.ntmps50
 go_wp2
 go_loopw [5] (fun i wr => ∃ j : Nat, j ≤ k ∧ i = .int .i64 j ∧ Keeps [] w wr) (fun i _ => k + 1 - (intOf i).toNat)
 case atStart => exact ⟨0, Nat.zero_le _, rfl, Keeps.refl _ _⟩
 case round =>
  obtain ⟨j, hj, rfl, hkp⟩ := hrel
  obtain ⟨i1, c1⟩ := Zo1 (hx.keeps0 hkp) (show j < xs.length by omega)
  have hlt : j < xs.length := by omega
  by_cases h : j < k
  ·have h1 : nth xs j < n := hb.out j h
   go_wp2
   go_roundw
   case rel => exact ⟨j + 1, by omega, by go_num, hkp⟩
   case measure => simp [intOf]; omega
  ·have e : nth xs j = n := by rw [show j = k by omega]; exact hn.out
   go_wp2
   go_ret
   exact ⟨rfl, hkp⟩
end Go.Proofs.Ytnieejghoaccmaa

