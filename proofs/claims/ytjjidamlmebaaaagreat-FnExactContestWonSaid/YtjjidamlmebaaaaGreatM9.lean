/- Contracts: sets, states that are met again and again. No conditions but those that each theorem names. -/
import Derived.Test.YtjjidamlmebaaaaGreatBase
import Derived.Test.YtjjidamlmebaaaaGreatKG
import Derived.Deep.QuietTactic
import Derived.BigQuiet
import Derived.Lib.Hide
import Derived.Test.YtjjidamlmebaaaaGreatTab
import Derived.Test.YtjjidamlmebaaaaGreatM6
import Derived.Test.YtjjidamlmebaaaaGreatME
import Derived.Test.YtjjidamlmebaaaaGreatSO
import Derived.Test.YtjjidamlmebaaaaGreatChecked
namespace Go.Proofs.YtjjidamlmebaaaaGreat
open Go.RowKit
open Shp
variable {w : World} {a : Option Addr} {cap : Nat} {xs : List Int}
structure IntsV (w : World) (a : Option Addr) (cap : Nat) (xs : List Int) : Prop where
 le : xs.length ≤ cap
 max : cap ≤ 9223372036854775807
 isSome : 0 < xs.length → ∃ b o, a = some ⟨b, o, none⟩
 cell : ∀ k, k < xs.length → w.cell? (sAt a k) = some (.int .i64 (nth xs k))
 lt : ∀ p, a = some p → 0 < xs.length → p.block < w.heap.size
theorem IntsV.keeps0 {w' : World}    (h : IntsV w a cap xs) (hk : Keeps [] w w') : IntsV w' a cap xs :=
 ⟨h.le, h.max, h.isSome, fun k hlt => by
  obtain ⟨b, o, rfl⟩ := h.isSome (by omega)
  have h1 := h.cell k hlt
  rw [ZfS] at h1 ⊢
  exact hk.cellSome h1 (by simp), fun p hp h0 => Nat.lt_of_lt_of_le (h.lt p hp h0) hk.size⟩
theorem IntsV.of  {F : List Nat} {v : Value}  (h : GRep w F v (.ints xs)) : ∃ a cap, v = .slice a xs.length cap ∧ IntsV w a cap xs := by
 obtain ⟨a, cap, els, Fs, e1, _, hs⟩ := h.slice
 have hl : (xs.map GV.i).length = xs.length := by simp
 refine ⟨a, cap, by rw [e1, hl], ?_, hs.max, fun h0 => ?_, fun k hk => ?_, fun p hp h0 => (hs.ad p hp (by have := hs.le; omega)).2⟩
 ·have := hs.le; omega
 ·cases a with
  | none => have := hs.nil rfl; have := hs.le; omega
  | some p =>
   have := hs.ad p rfl (by have := hs.le; omega)
   obtain ⟨b, o, s⟩ := p
   simp only at this
   obtain ⟨rfl, _⟩ := this
   exact ⟨b, o, rfl⟩
 ·have hk2 : k < (xs.map GV.i).length := by omega
  have h1 := hs.h k hk2
  rw [show ((xs.map GV.i)[k]'hk2) = GV.i (nth xs k) by rw [List.getElem_map, Zaz hk]] at h1
  have h2 := (hs.hc k (by rw [hs.hv]; exact hk2)).2.2 0 (by rw [h1.int_inv]; simp [Value.cells])
  have h3 := h2.1
  rw [show k * 1 + 0 = k by omega] at h3
  rw [h3]
  have h4 := ZfU h1
  rw [Array.getElem?_eq_some_iff] at h4
  obtain ⟨_, h5⟩ := h4
  rw [h5]
theorem Zqn  (h : IntsV w a cap xs) {k : Nat} (hk : k < xs.length) :
  (∀ w0, Sem.run Tryz.prog (Instr.indexAt 45 (.slice a xs.length cap) (.int .i64 (k : Int))) w0 = .ok (.pointer (some (sAt a k))) w0) ∧ w.cell? (sAt a k) = some (.int .i64 (nth xs k)) :=
 ⟨fun w0 => ZxB Tryz.underlying45 (by kernel_rfl) rfl hk (h.isSome (by omega)) _ w0, h.cell k hk⟩
set_option maxHeartbeats 1000000 in
theorem ZnS  (hx : IntsV w a cap xs) (n : Int) (k : Nat) (hk : k < xs.length) (hb : Hid (∀ z, z < k → nth xs z < n)) (hn : Hid (nth xs k = n)) :
  Calls Tryz.prog 123 #[.slice a xs.length cap, .int .i64 n] w fun e w' => e = .returned (.slice a xs.length cap) ∧ Keeps [] w w' := by
 have m1 := hx.le
 have m2 := hx.max
 go_enter Tryz.func123, Tryz.ntmps123
 go_wp2
 go_loopw [5] (fun i wr => ∃ j : Nat, j ≤ k ∧ i = .int .i64 j ∧ Keeps [] w wr) (fun i _ => k + 1 - (intOf i).toNat)
 case atStart => exact ⟨0, Nat.zero_le _, rfl, Keeps.refl _ _⟩
 case round =>
  obtain ⟨j, hj, rfl, hkp⟩ := hrel
  obtain ⟨i1, c1⟩ := Zqn (hx.keeps0 hkp) (show j < xs.length by omega)
  have hlt : j < xs.length := by omega
  by_cases h : j < k
  ·have h1 : nth xs j < n := hb.out j h
   go_wp2
   go_roundw
   case rel => exact ⟨j + 1, by omega, by go_num, hkp⟩
   case measure => simp [intOf]; omega
  ·have e : nth xs j = n := by rw [show j = k by omega]; exact hn.out
   go_wp2
   go_ret
   exact ⟨rfl, hkp⟩
end Go.Proofs.YtjjidamlmebaaaaGreat

namespace Go.Proofs.YtjjidamlmebaaaaGreat
open Go.RowKit
open Shp
theorem QM90 {p : Prop} (h : p := by first | exact ZO | (first | omega | (simp only [List.length_take, List.length_drop]; omega))) : p := h
def ZfG : Nat → List Nat
 | 0 => [0, 1]
 | 1 => [0, 1, 5]
 | 2 => [0, 1, 5, 18]
 | 3 => [0, 1, 5]
 | 4 => [0, 1, 5, 32]
 | 5 => [4]
 | 6 => [0, 5, 6]
 | 7 => [4]
 | _ => []
theorem Zb3 (args : Array Value) (w : World) : (callFunc 123 args).run Tryz.prog w = .ok (.enter 123 args) w := Zaa Tryz.func123 (by decide) rfl args w
set_option maxHeartbeats 1000000 in
theorem ZeA (xs : List Int) (n : Int) (hx : NU (xs.length ≤ 1000000)) (hn : HY (∀ k, k < xs.length → (∀ z, z < k → nth xs z < n) → ¬ nth xs k = n)) : Con Tryz.prog 123 [.ints xs, .i n] (.ints (insZ n xs)) := by
 have hx := hx.e
 have hn := hn.e
 refine Con.fit Zb3 fun hfit => ?_
 have hb_xs : xs.length ≤ 9223372036854775807 := GFits.ints (show GFits (.ints xs) from hfit 0 (ZL rfl))
 clear hfit
 refine gCon ZfG Zab (rs := [.tmp 4]) (sl := [(0, .g (.ints xs)), (1, .g (.i n))]) Tryz.func123 rfl Tryz.ntmps123 rfl Zb3 rfl (by repeat constructor) ?_
 (repeat' (first | ((with_reducible apply gLI.cone); (. exact RF.mk ⟨rfl, rfl⟩)) | (with_reducible constructor) | exact Z2 | exact NU.mk QM90 | exact ZS | exact ZC | ((with_reducible apply ZmE); (. exact NU.mk QM90); (. rfl)) | (with_reducible apply Zus) | ((with_reducible apply Zaw); first | apply Zid) | (with_reducible intro hc; (try simp only [HCs] at hc)) | exact OB_f | (with_reducible first | apply gNK | apply Zaj | apply Zae | apply Zam | apply Zar | apply Zag | apply CK_f | apply ZaG | apply Zak | apply Zai | apply Zas | apply Zal | apply Zau | apply Zat | apply Zao) | apply Zaf Zab | (apply ZaB; exact RF.mk rfl) | (refine Zah (id := 0) (ι := Nat) (fun k => ⟨[(0, .g (.ints xs)), (1, .g (.i n)), (5, .g (.i k))], []⟩) (fun k => (k ≤ xs.length) ∧ (∀ z, z < k → nth xs z < n)) (fun k => xs.length - k) (0) ?_ ?_ ?_; (. (apply gLX0 <;> (repeat' (first | (with_reducible constructor) | exact Z5 | exact RF.mk (by decide) | (with_reducible apply Zad) | exact EQ.mk QM90)))); (. (exact ⟨by omega, fun z hz => by omega⟩)); (rintro k ⟨h1, h2⟩; (show TX _ _ _ _ _ [(0, .g (.ints xs)), (1, .g (.i n)), (5, .g (.i k))] [] _))) | apply gSel.ccons))
 (all_goals (first | (exfalso; exact hn k (by omega) h2 (by assumption)) | (refine ZaA (k + 1) ?_ ?_ ?_; (· (apply gLX0 <;> (repeat' (first | (with_reducible constructor) | exact Z5 | exact RF.mk (by decide) | (with_reducible apply Zad) | exact EQ.mk QM90)))); (· ((refine ⟨by omega, fun z hz => ?_⟩; rcases Nat.lt_or_ge z k with h5 | h5; exact h2 z h5; rw [show z = k by omega]; assumption))); (· exact ZW)) | (((refine Za1 (Zap (EQ.mk ?_)); rw [ZoI k (by omega) h2 (fun hlt => by first | omega | (have q := hn k hlt h2; omega))]; first | rfl | (simp; done))); done)))
theorem ZgO (args : Array Value) (w : World) : (callFunc 123 args).run Tryz.prog w = .ok (.enter 123 args) w := Zaa Tryz.func123 (by decide) rfl args w
theorem Zmu (xs : List Int) (n : Int) (hx : NU (xs.length ≤ 1000000)) : Zq3 Tryz.prog 123 xs n (insZ n xs) := by
 by_cases hc : ∃ k, k < xs.length ∧ (∀ z, z < k → nth xs z < n) ∧ nth xs k = n
 ·obtain ⟨k, h1, h2, h3⟩ := hc
  refine ⟨ZgO, fun w F v hg => ?_⟩
  obtain ⟨a, cap, rfl, hi⟩ := IntsV.of hg
  exact (ZnS hi n k h1 (Lib.hid h2) (Lib.hid h3)).mono fun e w' hq => .inl ⟨(ZlP k h1 h2 h3).symm, hq.1, hq.2⟩
 ·have hcn := ZeA xs n hx (HY.mk fun k h1 h2 h3 => hc ⟨k, h1, h2, h3⟩)
  exact ⟨ZgO, fun w F v hg => (hcn.calls w [v, .int .i64 n] rfl (fun i hi => by
   match i, hi with
   | 0, _ => exact ⟨F, hg⟩
   | 1, _ => exact ⟨[], .atom (GV.i n) rfl⟩)).mono fun e w' hq => .inr hq⟩
end Go.Proofs.YtjjidamlmebaaaaGreat

