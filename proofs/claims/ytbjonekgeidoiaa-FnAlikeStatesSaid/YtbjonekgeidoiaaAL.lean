/- Equivalent states, as the statement reads them. No program in sight; no conditions. -/
import Derived.Test.YtbjonekgeidoiaaMS
import Derived.Test.YtbjonekgeidoiaaMQ
import Derived.Test.YtbjonekgeidoiaaDD
set_option linter.unusedSimpArgs false
set_option linter.unusedVariables false
namespace Go.Proofs.Ytbjonekgeidoiaa
open Go.RowKit
open Shp

theorem alike_law {n out : List (List Int)} (hm : machB 1 1 n out = true) :
    (alikeB 1 1 n out).length = n.length ∧ n.length ≤ 48 ∧ out.length = n.length ∧ (∀ q : Nat, q < n.length → 0 ≤ nth (alikeB 1 1 n out) q ∧ nth (alikeB 1 1 n out) q ≤ (q : Int) ∧ nth (alikeB 1 1 n out) (nth (alikeB 1 1 n out) q).toNat = nth (alikeB 1 1 n out) q) ∧
    (∀ q : Nat, q < n.length → (nth n q).length = 2 ∧ (nth out q).length = 2) ∧ (∀ q i : Nat, q < n.length → i < 2 → 0 ≤ nth (nth n q) i ∧ nth (nth n q) i < (n.length : Int)) ∧
    ∀ q i : Nat, q < n.length → i < 2 → nth (nth out (nth (alikeB 1 1 n out) q).toNat) i = nth (nth out q) i ∧ nth (alikeB 1 1 n out) (nth (nth n (nth (alikeB 1 1 n out) q).toNat) i).toNat = nth (alikeB 1 1 n out) (nth (nth n q) i).toNat := by
  have e : alikeB 1 1 n out = alikeN n out := by unfold alikeB; rw [if_pos hm]
  have ho := machB_r hm
  have hk : MOk n out 2 := machB_ok hm
  rw [e]
  obtain ⟨hc, hs, _⟩ := alike_spec n out
  have idem : ∀ q : Nat, q < n.length → nth (alikeN n out) (nth (alikeN n out) q).toNat = nth (alikeN n out) q := fun q hq => alike_idem hk (q := (q : Int)) ⟨by omega, by omega⟩
  refine ⟨hc.1, ho.2.2.1, ho.2.2.2.1, fun q hq => ⟨(hc.2 q hq).1, (hc.2 q hq).2, idem q hq⟩, fun q hq => hk.row (q := (q : Int)) ⟨by omega, by omega⟩, fun q i hq hi => hk.step (q := (q : Int)) ⟨by omega, by omega⟩ hi, fun q i hq hi => ?_⟩
  have r := hc.2 q hq
  have hp : inN n.length (nth (alikeN n out) q) := ⟨by omega, by omega⟩
  have hq' : inN n.length (q : Int) := ⟨by omega, by omega⟩
  have e2 : clsAt (alikeN n out) (nth (alikeN n out) q) = clsAt (alikeN n out) (q : Int) := idem q hq
  have e3 := alike_out hk hp hq' e2
  unfold rowN at e3
  rw [Int.toNat_natCast] at e3
  exact ⟨by rw [e3], alike_step hk hp hq' e2 hi⟩
theorem ins_law (bs : List Int) (s : Nat × Int) : (lstD bs 2 (Int.toNat 10) [] s).1.length = 10 ∧ ∀ i : Nat, i < 10 → 0 ≤ nth (lstD bs 2 (Int.toNat 10) [] s).1 i ∧ nth (lstD bs 2 (Int.toNat 10) [] s).1 i < 2 := by
  have h := lstD_len (bs := bs) (n := 2) (Int.toNat 10) [] s
  have b := lstD_below (bs := bs) (n := 2) (by omega) (Int.toNat 10) [] s (below_nil 2)
  rw [below_iff] at b
  have e : (lstD bs 2 (Int.toNat 10) [] s).1.length = 10 := h
  exact ⟨e, fun i hi => b i (by rw [e]; exact hi)⟩
end Go.Proofs.Ytbjonekgeidoiaa

