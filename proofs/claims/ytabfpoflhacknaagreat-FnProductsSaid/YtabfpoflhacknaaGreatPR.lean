/- Products of clauses, step by step. No program in sight; no conditions. -/
import Derived.Test.YtabfpoflhacknaaGreatPO
namespace Go.Proofs.YtabfpoflhacknaaGreat
open Go.RowKit
open Shp
section
variable {i o : Int} {cs : List (Int × List Int × List Int)} {j : Nat} {x : List (List Int) × List (List Int × List Int)}
def Zie (i o : Int) (cs : List (Int × List Int × List Int)) (j : Nat) (x : List (List Int) × List (List Int × List Int)) : (List (List Int) × List (List Int × List Int)) × Bool :=
 Zpq i o x.1 x.2 (monN (nth cs j).1 (nth cs j).2.1 (nth cs j).2.2 (Zaa i o).toNat) [monP (nth cs j).1]
theorem ZlL (hc : ZaB i o cs = true) (hj : j < cs.length) : detB i o (monN (nth cs j).1 (nth cs j).2.1 (nth cs j).2.2 (Zaa i o).toNat) [monP (nth cs j).1] = true := by
 obtain ⟨h1, _, h3⟩ := Zei hc
 exact ZoD h1 (Ze1 (h3 j hj))
theorem Zlz (hc : ZaB i o cs = true) (hj : j < cs.length) (hx : detB i o x.1 x.2 = true) : Zie i o cs j x = ZbI x.1 x.2 (monN (nth cs j).1 (nth cs j).2.1 (nth cs j).2.2 (Zaa i o).toNat) [monP (nth cs j).1] := ZmC hx (ZlL hc hj)
theorem Zse (hc : ZaB i o cs = true) (hj : j < cs.length) (hx : detB i o x.1 x.2 = true) (h : (Zie i o cs j x).2 = true) : detB i o (Zie i o cs j x).1.1 (Zie i o cs j x).1.2 = true := by
 rw [Zlz hc hj hx] at h ⊢
 exact ZfE hx (ZlL hc hj) h
theorem Zte (hc : ZaB i o cs = true) (hj : j < cs.length) (hx : detB i o x.1 x.2 = true) (h : (Zie i o cs j x).2 = true) {r : (List (List Int) × List (List Int × List Int)) × Bool} (hr : Zdq (Zaa i o).toNat (cs.drop j) x.1 x.2 = r) : Zdq (Zaa i o).toNat (cs.drop (j + 1)) (Zie i o cs j x).1.1 (Zie i o cs j x).1.2 = r := by
 rw [← hr, ZmS hj, ← Zlz hc hj hx, if_pos h]
theorem ZvM (hc : ZaB i o cs = true) (hj : j < cs.length) (hx : detB i o x.1 x.2 = true) (h : (Zie i o cs j x).2 = false) (hr : Zdq (Zaa i o).toNat (cs.drop j) x.1 x.2 = Zdq (Zaa i o).toNat cs [List.replicate (Zaa i o).toNat 0] []) : ZaX i o cs = (([], []), false) := by
 unfold ZaX
 rw [if_pos hc, ← hr, ZmS hj, ← Zlz hc hj hx, if_neg (by rw [h]; simp)]
theorem ZtR (hc : ZaB i o cs = true) (hj : cs.length ≤ j) (hr : Zdq (Zaa i o).toNat (cs.drop j) x.1 x.2 = Zdq (Zaa i o).toNat cs [List.replicate (Zaa i o).toNat 0] []) : ZaX i o cs = ((x.1, x.2), true) := by
 unfold ZaX
 rw [if_pos hc, ← hr, List.drop_eq_nil_of_le hj]; rfl
theorem Zk3 (h : ZaB i o cs = false) : ZaX i o cs = (([], []), false) := by unfold ZaX; rw [if_neg (by rw [h]; simp)]
theorem Zn0 (h : sigB i o = false) : ZaX i o cs = (([], []), false) := Zk3 (by unfold ZaB; rw [h]; rfl)
theorem Zli (h : (decide (cs.length ≤ 3) && allN cs.length (ZcV (Zaa i o) cs)) = false) : ZaX i o cs = (([], []), false) := Zk3 (by unfold ZaB; rw [Bool.and_assoc, h]; simp)
theorem Zo1 (h : sigB i o = true) (h2 : (decide (cs.length ≤ 3) && allN cs.length (ZcV (Zaa i o) cs)) = true) : ZaB i o cs = true := by unfold ZaB; rw [Bool.and_assoc, h, h2]; rfl
theorem Zca (h : sigB i o = true) (h2 : cs.length ≤ 3 ∧ allN cs.length (ZcV (Zaa i o) cs) = true) : ZaB i o cs = true := Zo1 h (by rw [h2.2]; simpa using h2.1)
theorem ZoJ (h2 : ¬ cs.length ≤ 3 ∨ allN cs.length (ZcV (Zaa i o) cs) = false) : ZaX i o cs = (([], []), false) := Zli (by rcases h2 with h | h <;> simp [h])
end
end Go.Proofs.YtabfpoflhacknaaGreat

