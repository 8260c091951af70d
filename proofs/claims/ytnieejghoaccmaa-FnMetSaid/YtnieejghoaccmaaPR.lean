/- Products of clauses, step by step. No program in sight; no conditions. -/
import Derived.Test.YtnieejghoaccmaaPO
namespace Go.Proofs.Ytnieejghoaccmaa
open Go.RowKit
open Shp
section
variable {i o : Int} {cs : List (Int × List Int × List Int)} {j : Nat} {x : List (List Int) × List (List Int × List Int)}
def Zgz (i o : Int) (cs : List (Int × List Int × List Int)) (j : Nat) (x : List (List Int) × List (List Int × List Int)) : (List (List Int) × List (List Int × List Int)) × Bool :=
 ZeQ i o x.1 x.2 (monN (nth cs j).1 (nth cs j).2.1 (nth cs j).2.2 (Zaa i o).toNat) [monP (nth cs j).1]
theorem ZuM {k : Int} {a b : List Int} (hs : sigB i o = true) (h : Zc5 (Zaa i o) k a b = true) : monB i o k a b = (monN k a b (Zaa i o).toNat, [monP k]) := by
 unfold monB; rw [if_pos (by rw [hs, h]; rfl)]
theorem ZlD (hc : ZaZ i o cs = true) (hj : j < cs.length) : detB i o (monN (nth cs j).1 (nth cs j).2.1 (nth cs j).2.2 (Zaa i o).toNat) [monP (nth cs j).1] = true := by
 obtain ⟨h1, _, h3⟩ := Zd7 hc
 exact ZnZ h1 (ZfG (h3 j hj))
theorem ZiG (hc : ZaZ i o cs = true) (hj : j < cs.length) (hx : detB i o x.1 x.2 = true) : Zgz i o cs j x = ZbR x.1 x.2 (monN (nth cs j).1 (nth cs j).2.1 (nth cs j).2.2 (Zaa i o).toNat) [monP (nth cs j).1] := Zkn hx (ZlD hc hj)
theorem Zpi (hc : ZaZ i o cs = true) (hj : j < cs.length) (hx : detB i o x.1 x.2 = true) (h : (Zgz i o cs j x).2 = true) : detB i o (Zgz i o cs j x).1.1 (Zgz i o cs j x).1.2 = true := by
 rw [ZiG hc hj hx] at h ⊢
 exact ZgT hx (ZlD hc hj) h
theorem Zpq (hc : ZaZ i o cs = true) (hj : j < cs.length) (hx : detB i o x.1 x.2 = true) (h : (Zgz i o cs j x).2 = true) {r : (List (List Int) × List (List Int × List Int)) × Bool} (hr : Zeg (Zaa i o).toNat (cs.drop j) x.1 x.2 = r) : Zeg (Zaa i o).toNat (cs.drop (j + 1)) (Zgz i o cs j x).1.1 (Zgz i o cs j x).1.2 = r := by
 rw [← hr, Zj7 hj, ← ZiG hc hj hx, if_pos h]
theorem Zq1 (hc : ZaZ i o cs = true) (hj : j < cs.length) (hx : detB i o x.1 x.2 = true) (h : (Zgz i o cs j x).2 = false) (hr : Zeg (Zaa i o).toNat (cs.drop j) x.1 x.2 = Zeg (Zaa i o).toNat cs [List.replicate (Zaa i o).toNat 0] []) : Zdx i o cs = (([], []), false) := by
 unfold Zdx
 rw [if_pos hc, ← hr, Zj7 hj, ← ZiG hc hj hx, if_neg (by rw [h]; simp)]
theorem Zp3 (hc : ZaZ i o cs = true) (hj : cs.length ≤ j) (hr : Zeg (Zaa i o).toNat (cs.drop j) x.1 x.2 = Zeg (Zaa i o).toNat cs [List.replicate (Zaa i o).toNat 0] []) : Zdx i o cs = ((x.1, x.2), true) := by
 unfold Zdx
 rw [if_pos hc, ← hr, List.drop_eq_nil_of_le hj]; rfl
theorem Zf9 (h : ZaZ i o cs = false) : Zdx i o cs = (([], []), false) := by unfold Zdx; rw [if_neg (by rw [h]; simp)]
theorem Zlg (h : sigB i o = false) : Zdx i o cs = (([], []), false) := Zf9 (by unfold ZaZ; rw [h]; rfl)
theorem Zjg (h : (decide (cs.length ≤ 3) && allN cs.length (Zdt (Zaa i o) cs)) = false) : Zdx i o cs = (([], []), false) := Zf9 (by unfold ZaZ; rw [Bool.and_assoc, h]; simp)
theorem ZmF (h : sigB i o = true) (h2 : (decide (cs.length ≤ 3) && allN cs.length (Zdt (Zaa i o) cs)) = true) : ZaZ i o cs = true := by unfold ZaZ; rw [Bool.and_assoc, h, h2]; rfl
theorem Zb2 (h : sigB i o = true) (h2 : cs.length ≤ 3 ∧ allN cs.length (Zdt (Zaa i o) cs) = true) : ZaZ i o cs = true := ZmF h (by rw [h2.2]; simpa using h2.1)
theorem Zlw (h2 : ¬ cs.length ≤ 3 ∨ allN cs.length (Zdt (Zaa i o) cs) = false) : Zdx i o cs = (([], []), false) := Zjg (by rcases h2 with h | h <;> simp [h])
theorem ZjW {L : Nat} : ∀ {cs : List (Int × List Int × List Int)} {n : List (List Int)} {ps : List (List Int × List Int)}, L = (Zaa i o).toNat → detB i o n ps = true → cntR n ≤ 1000 → Zho ps ≤ 1000 → (∀ c ∈ cs, 1 ≤ c.1 ∧ c.1 ≤ 7) → cntR (Zeg L cs n ps).1.1 ≤ 1000 ∧ Zho (Zeg L cs n ps).1.2 ≤ 1000
 | [], n, ps, _, _, h1, h2, _ => ⟨h1, h2⟩
 | c :: cs, n, ps, hL, hd, h1, h2, hk => by
  simp only [Zeg]
  subst hL
  have hs := (detB_iff.1 hd).1
  have hm := ZnZ (a := c.2.1) (b := c.2.2) hs (hk c (.head _))
  split
  ·rename_i h
   have h3 := Znh hd hm
   exact ZjW rfl (ZgT hd hm h) h3.1 h3.2 fun d hd => hk d (.tail _ hd)
  ·simp [cntR, Zho, cntG]
theorem Zn9 : cntR (Zdx i o cs).1.1 ≤ 1000 ∧ Zho (Zdx i o cs).1.2 ≤ 1000 := by
 cases h : ZaZ i o cs
 ·rw [Zf9 h]; simp [cntR, Zho, cntG]
 ·obtain ⟨h1, h2, h3⟩ := Zd7 h
  have hL := ZaJ i o
  unfold Zdx; rw [if_pos h]
  refine ZjW (i := i) (o := o) rfl (Zk6 h1) ?_ (by simp [Zho, cntG]) fun c hc => ?_
  ·simp only [cntR, cntG, List.length_replicate]; omega
  ·obtain ⟨k, hk, rfl⟩ := ZbW hc
   exact ZfG (h3 k hk)
end
end Go.Proofs.Ytnieejghoaccmaa

