/- Contracts: states of automata that are alike. No conditions but those that each theorem names. -/
import Derived.Test.YtabfpoflhacknaaGreatAI
import Derived.Test.YtabfpoflhacknaaGreatPO
import Derived.Test.YtabfpoflhacknaaGreatTab
import Derived.Test.YtabfpoflhacknaaGreatKG
import Derived.Test.YtabfpoflhacknaaGreatAA
import Derived.Test.YtabfpoflhacknaaGreatAC
import Derived.Test.YtabfpoflhacknaaGreatChecked
namespace Go.Proofs.YtabfpoflhacknaaGreat
open Go.RowKit
open Shp
variable {q v o : Int} {W : Nat}
def pdN (n : List (List Int)) (cl : List Int) : List Int := bfsG (cT n cl) 48 0 [nth cl 0]
def pdR (n : List (List Int)) (cl : List Int) (q : Int) : List Int := (cT n cl q).map (Za5 (pdN n cl))
def ZaT (n : List (List Int)) (cl : List Int) : List (List Int) := (pdN n cl).map (pdR n cl)
def Zb1 (n : List (List Int)) (ps : List (List Int × List Int)) (cl : List Int) : List (List Int × List Int) := Zbu ps (pdN n cl)
section
variable {n : List (List Int)} {cl : List Int} {os ps : List Int} {k x f : Nat}
theorem Zqt  (hx : x < (nth n q.toNat).length) : nth (cT n cl q) x = nth cl (nth (nth n q.toNat) x).toNat := ZbE hx
theorem ZAK (h : pdN n cl = bfsG (cT n cl) (48 - k) k os) (hk : k < os.length) (hl : os.length ≤ 48) : pdN n cl = bfsG (cT n cl) (48 - (k + 1)) (k + 1) (addG os ((cT n cl (nth os k)).drop 0)) := by
 rw [h, List.drop_zero]; exact Zqq hk hl
theorem Zuk  (hx : x < (nth n q.toNat).length) (h : pdN n cl = bfsG (cT n cl) f k (addG ps ((cT n cl q).drop x))) (hh : ¬ Za5 ps (nth cl (nth (nth n q.toNat) x).toNat) < 0) : pdN n cl = bfsG (cT n cl) f k (addG ps ((cT n cl q).drop (x + 1))) := by
 have hx' : x < (cT n cl q).length := by rw [ZkB]; exact hx
 rw [h, Zg4 hx', if_pos (by rw [Zqt hx]; exact has_iff.1 (ZoE hh))]
theorem ZuD  (hx : x < (nth n q.toNat).length) (h : pdN n cl = bfsG (cT n cl) f k (addG ps ((cT n cl q).drop x))) (hh : Za5 ps (nth cl (nth (nth n q.toNat) x).toNat) < 0) : pdN n cl = bfsG (cT n cl) f k (addG (ps ++ [nth cl (nth (nth n q.toNat) x).toNat]) ((cT n cl q).drop (x + 1))) := by
 have hx' : x < (cT n cl q).length := by rw [ZkB]; exact hx
 rw [h, Zg4 hx', if_neg (by rw [Zqt hx]; exact fun m => by have := Ziq hh; rw [has_iff.2 m] at this; cases this), Zqt hx]
theorem Zui  (h : pdN n cl = bfsG (cT n cl) f k (addG ps ((cT n cl q).drop x))) (hx : (nth n q.toNat).length ≤ x) : pdN n cl = bfsG (cT n cl) f k ps := by
 rw [h, ZoT (by rw [ZkB]; exact hx)]
theorem Zok {ys : List Int} (h : pdN n cl = bfsG (cT n cl) f k (addG ps ys))  (hv : v ∈ ps) : Za5 (pdN n cl) v = Za5 ps v := by
 obtain ⟨t, ht⟩ := ZgA (next := cT n cl) f k (addG ps ys)
 obtain ⟨t2, ht2⟩ := Zfn ys ps
 rw [h, ht, ht2, List.append_assoc]; exact ZrV hv
theorem ZlK  (hx : x < (nth n q.toNat).length) : nth (pdR n cl q) x = Za5 (pdN n cl) (nth cl (nth (nth n q.toNat) x).toNat) := by
 unfold pdR; rw [ZbE (by rw [ZkB]; exact hx), Zqt hx]
theorem Zes : (pdR n cl q).length = (nth n q.toNat).length := by unfold pdR; rw [List.length_map, ZkB]; rfl
theorem ZwU  (hx : x < (nth n q.toNat).length) (h : pdN n cl = bfsG (cT n cl) f k (addG ps ((cT n cl q).drop x))) (hh : ¬ Za5 ps (nth cl (nth (nth n q.toNat) x).toNat) < 0) : (pdR n cl q).take x ++ [Za5 ps (nth cl (nth (nth n q.toNat) x).toNat)] = (pdR n cl q).take (x + 1) := by
 rw [ZbX (by rw [Zes]; exact hx), ZlK hx, Zok h (has_iff.1 (ZoE hh))]
theorem Zrz  (h : Za5 ps v < 0) : Za5 (ps ++ [v]) v = (ps.length : Int) := by
 unfold Za5
 refine Zbn ps.length (by simp) (by rw [Zuw (by omega)]; simp [nth]) fun j hj => ?_
 rw [Zh7 hj, beq_eq_false_iff_ne]
 intro e
 have := Ziq h
 rw [has_iff.2 (by rw [← e]; exact Zal hj)] at this; cases this
theorem Zzx  (hx : x < (nth n q.toNat).length) (h : pdN n cl = bfsG (cT n cl) f k (addG ps ((cT n cl q).drop x))) (hh : Za5 ps (nth cl (nth (nth n q.toNat) x).toNat) < 0) : (pdR n cl q).take x ++ [(ps.length : Int)] = (pdR n cl q).take (x + 1) := by
 rw [ZbX (by rw [Zes]; exact hx), ZlK hx, Zok (ZuD hx h hh) (by simp), Zrz hh]
theorem ZvD (h : pdN n cl = bfsG (cT n cl) f k os) (hk : k < os.length) : k < (pdN n cl).length ∧ nth (pdN n cl) k = nth os k := by
 obtain ⟨t, ht⟩ := ZgA (next := cT n cl) f k os
 rw [h, ht]; exact ⟨by rw [List.length_append]; omega, Zh7 hk⟩
theorem ZpF (h : pdN n cl = bfsG (cT n cl) f k os) (hk : k < os.length) : (ZaT n cl).take k ++ [pdR n cl (nth os k)] = (ZaT n cl).take (k + 1) := by
 obtain ⟨h1, h2⟩ := ZvD h hk
 rw [← h2]; exact ZgM (g := pdR n cl) h1
theorem ZzM (h : pdN n cl = bfsG (cT n cl) f k os) (hk : os.length ≤ k) : pdN n cl = os := by rw [h, ZtW hk]
theorem Zbr : (ZaT n cl).length = (pdN n cl).length := by unfold ZaT; rw [List.length_map]
theorem ZmU (h : pdN n cl = bfsG (cT n cl) f k os) (hk : k ≤ os.length) : k ≤ (ZaT n cl).length := by
 obtain ⟨t, ht⟩ := ZgA (next := cT n cl) f k os
 rw [Zbr, h, ht, List.length_append]; omega
def oneR (os : List Int) : List (List Int) := os.map fun x => [x]
theorem Zta : (oneR os).length = os.length := by simp [oneR]
theorem Zm6 {x : Int} : oneR os ++ [[x]] = oneR (os ++ [x]) := by simp [oneR]
theorem Zzk {k : Nat} (h : k < os.length) : (nth (oneR os) k).length = 1 := by unfold oneR; rw [ZbE h]; rfl
end
theorem Zue {n : List (List Int)} {ps : List (List Int × List Int)}  (h : 0 ≤ q ∧ q < (n.length : Int)) : 0 ≤ nth (Zac n ps) q.toNat ∧ nth (Zac n ps) q.toNat < (n.length : Int) := by
 have := (ZbZ n ps).1.2 q.toNat (by omega); omega
theorem Zgz {n : List (List Int)} {ps : List (List Int × List Int)} (h : 1 ≤ n.length) : nth (Zac n ps) 0 = 0 := by
 have := (ZbZ n ps).1.2 0 (by omega); omega
noncomputable def ZbB (i o : Int) (n : List (List Int)) (ps : List (List Int × List Int)) : List (List Int) × List (List Int × List Int) := if detB i o n ps = true then (ZaT n (Zac n ps), Zb1 n ps (Zac n ps)) else ([], [])
theorem ZlP {i : Int} {n : List (List Int)} {ps : List (List Int × List Int)} (h : detB i o n ps = true) : ZbB i o n ps = (ZaT n (Zac n ps), Zb1 n ps (Zac n ps)) := by unfold ZbB; rw [if_pos h]
theorem Ziv {i : Int} {n : List (List Int)} {ps : List (List Int × List Int)} (h : detB i o n ps = false) : ZbB i o n ps = ([], []) := by unfold ZbB; rw [if_neg (by rw [h]; simp)]
theorem ZfV {i : Int} {n : List (List Int)} {ps : List (List Int × List Int)} (h : detB i o n ps = true) : GoOk n ((Zaa i o).toNat : Int) ∧ 1 ≤ n.length ∧ n.length ≤ 48 ∧ ps.length ≤ 4 ∧ (Zaa i o).toNat ≤ 16 := by
 obtain ⟨a1, ⟨a2, a3⟩, a4, a5⟩ := detB_iff.1 h
 have hL := ZaE i o
 exact ⟨by rw [Zbh]; exact a5, a2, a3, Zkj h, by omega⟩
theorem ZwT {n : List (List Int)} {ps : List (List Int × List Int)}  (hg : GoOk n (W : Int)) (q : Int) (hq : 0 ≤ q ∧ q < (n.length : Int)) (y : Int) (hy : y ∈ cT n (Zac n ps) q) : 0 ≤ y ∧ y < (n.length : Int) := by
 unfold cT at hy
 obtain ⟨z, hz, rfl⟩ := List.mem_map.1 hy
 obtain ⟨j, hj, rfl⟩ := Za1 hz
 have h1 := hg.row hq.1 hq.2
 have h2 := hg.step (x := (j : Int)) hq (by unfold rowN at hj; omega)
 rw [Int.toNat_natCast] at h2
 exact Zue h2
theorem Zum {n : List (List Int)} {ps : List (List Int × List Int)}  (hg : GoOk n (W : Int)) (h1 : 1 ≤ n.length) : (pdN n (Zac n ps)).Nodup ∧ (∀ q ∈ pdN n (Zac n ps), 0 ≤ q ∧ q < (n.length : Int)) := by
 have h0 : ∀ x ∈ [nth (Zac n ps) 0], 0 ≤ x ∧ x < (n.length : Int) := fun x hx => by
  simp only [List.mem_singleton] at hx; subst hx; rw [Zgz h1]; omega
 exact ⟨Zkd _ _ _ (by simp), Zls (P := fun q => 0 ≤ q ∧ q < (n.length : Int)) (fun q hq y hy => ZwT hg q hq y hy) _ _ _ h0⟩
theorem Zq9 {n : List (List Int)} {ps : List (List Int × List Int)}  (hg : GoOk n (W : Int)) (h1 : 1 ≤ n.length) : (pdN n (Zac n ps)).length ≤ n.length := by
 have h := Zum (ps := ps) hg h1
 exact FdOk.len (N := n.length) ⟨h.1, h.2⟩
theorem FdOk.one26 {n : List (List Int)} {ps : List (List Int × List Int)} (h : 1 ≤ n.length) : FdOk n.length [nth (Zac n ps) 0] := by rw [Zgz h]; exact FdOk.one h
end Go.Proofs.YtabfpoflhacknaaGreat

namespace Go.Proofs.YtabfpoflhacknaaGreat
open Go.RowKit
open Shp
end Go.Proofs.YtabfpoflhacknaaGreat

