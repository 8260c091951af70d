/- Sets that meet, pairs that are broken. No program in sight; no conditions. -/
import Derived.Test.YtabfpoflhacknaaGreatME
import Derived.Test.YtabfpoflhacknaaGreatPO
namespace Go.Proofs.YtabfpoflhacknaaGreat
open Go.RowKit
open Shp
variable {xs ys : List Int}
def Zds (xs ys : List Int) : List Int := xs.filter fun x => !has ys x
theorem ZiM : (Zds xs ys).length ≤ xs.length := List.length_filter_le _ _
theorem ZiD  {i : Nat} (h : i < xs.length) (hh : has ys (nth xs i) = false) : Zds (xs.take (i + 1)) ys = Zds (xs.take i) ys ++ [nth xs i] := by
 unfold Zds; rw [ZbX h, List.filter_append]; simp [hh]
theorem ZoR  {i : Nat} (h : i < xs.length) (hh : has ys (nth xs i) = true) : Zds (xs.take (i + 1)) ys = Zds (xs.take i) ys := by
 unfold Zds; rw [ZbX h, List.filter_append]; simp [hh]
def ZcG (xs ys : List Int) : Bool := xs.any fun x => has ys x
theorem meetB_iff : ZcG xs ys = true ↔ ∃ v, v ∈ xs ∧ v ∈ ys := by
 unfold ZcG; rw [List.any_eq_true]
 constructor
 ·rintro ⟨v, h1, h2⟩; exact ⟨v, h1, has_iff.1 h2⟩
 ·rintro ⟨v, h1, h2⟩; exact ⟨v, h1, has_iff.2 h2⟩
theorem Ztx : decide (((Zds xs ys).length : Int) < (xs.length : Nat)) = ZcG xs ys := by
 have key : ∀ xs : List Int, ((Zds xs ys).length < xs.length) ↔ ZcG xs ys = true := by
  intro xs
  induction xs with
  | nil => simp [Zds, ZcG]
  | cons x xs ih =>
   have hle := ZiM (xs := xs) (ys := ys)
   cases e : has ys x
   ·have h1 : Zds (x :: xs) ys = x :: Zds xs ys := by simp [Zds, e]
    have h2 : ZcG (x :: xs) ys = ZcG xs ys := by simp [ZcG, e]
    rw [h1, h2, List.length_cons, List.length_cons, ← ih]; omega
   ·have h1 : Zds (x :: xs) ys = Zds xs ys := by simp [Zds, e]
    have h2 : ZcG (x :: xs) ys = true := by simp [ZcG, e]
    rw [h1, h2, List.length_cons]
    simp; omega
 rw [Bool.eq_iff_iff, decide_eq_true_eq, ← key xs]; omega
theorem Zts  {i : Nat} (hi : i < xs.length) (h : has ys (nth xs i) = true) : ZcG ys xs = true := meetB_iff.2 ⟨_, has_iff.1 h, Zal hi⟩
theorem Zve  {i : Nat} (hi : xs.length ≤ i) (h : ∀ z, z < i → (!has ys (nth xs z)) = true) : ZcG ys xs = false := by
 cases e : ZcG ys xs
 ·rfl
 ·obtain ⟨v, h1, h2⟩ := meetB_iff.1 e
  obtain ⟨z, hz, rfl⟩ := Za1 h2
  have := h z (by omega)
  rw [has_iff.2 h1] at this; cases this
def brkZ (ps : List (List Int × List Int)) (met : List Int) : Nat → List Int
 | 0 => []
 | k + 1 => if ZcG met (nth ps k).1 = true ∧ ZcG met (nth ps k).2 = false then brkZ ps met k ++ [(k : Int)] else brkZ ps met k
section
variable {ps : List (List Int × List Int)} {met : List Int} {k : Nat}
theorem ZkX (h : ZcG met (nth ps k).1 = true) (h2 : ZcG met (nth ps k).2 = false) : brkZ ps met (k + 1) = brkZ ps met k ++ [(k : Int)] := by simp only [brkZ]; rw [if_pos ⟨h, h2⟩]
theorem Zoa (h : ZcG met (nth ps k).1 = false) : brkZ ps met (k + 1) = brkZ ps met k := by simp only [brkZ]; rw [if_neg (by rw [h]; simp)]
theorem Zog (h : ZcG met (nth ps k).2 = true) : brkZ ps met (k + 1) = brkZ ps met k := by simp only [brkZ]; rw [if_neg (by rw [h]; simp)]
end
theorem ZkU {ps : List (List Int × List Int)} {met : List Int} : ∀ {k : Nat}, (brkZ ps met k).length ≤ k
 | 0 => Nat.le_refl _
 | k + 1 => by
  have := ZkU (ps := ps) (met := met) (k := k)
  simp only [brkZ]; split
  ·simp; omega
  ·omega
theorem Zko  {n m : Int} (h : Zbx xs n = true) (hm : n ≤ m) : Zbx xs m = true := by
 unfold Zbx at *
 rw [allN_iff] at h ⊢
 intro j hj
 have := h j hj
 simp only [Bool.and_eq_true, Bool.or_eq_true, decide_eq_true_eq] at this ⊢
 exact ⟨⟨this.1.1, by omega⟩, this.2⟩
theorem Zon {i o : Int} {n : List (List Int)} {ps : List (List Int × List Int)} (h : detB i o n ps = true) : ZeG ps 256 = true := by
 obtain ⟨_, ⟨_, h1⟩, h2, _⟩ := detB_iff.1 h
 obtain ⟨h3, h4⟩ := pairsB_iff.1 h2
 exact pairsB_iff.2 ⟨h3, fun p hp => ⟨Zko (h4 p hp).1 (by omega), Zko (h4 p hp).2 (by omega)⟩⟩
theorem Zkg  {n : Int} (h : Zbx xs n = true) (h0 : n ≤ 600) : xs.length ≤ 600 := by
 have hb := below_iff.1 (ZnM h)
 exact ZrT (N := 600) (ZiT h) fun v hv => by
  obtain ⟨k, hk, rfl⟩ := Za1 hv
  have := hb k hk; omega
theorem ZrG {i o : Int} {n : List (List Int)} {ps : List (List Int × List Int)} (h : detB i o n ps = true) : ∀ k, k < ps.length → (Asc (nth ps k).1 ∧ (nth ps k).1.length ≤ 600) ∧ Asc (nth ps k).2 ∧ (nth ps k).2.length ≤ 600 := fun k hk => by
 have := (pairsB_iff.1 (Zon h)).2 _ (Zal hk)
 exact ⟨⟨ZiT this.1, Zkg this.1 (by omega)⟩, ZiT this.2, Zkg this.2 (by omega)⟩
theorem Zt1 {i o : Int} {n : List (List Int)} {ps : List (List Int × List Int)} {s l : List Int} : Asc (metB i o n ps s l) := by
 unfold metB; split
 ·exact Zlf
 ·simp [Asc]
theorem ZvA {n : List (List Int)} {s l : List Int} {v : Int} (h : v ∈ metN n s l) : 0 ≤ v ∧ v < (n.length : Int) := by
 unfold metN at h
 obtain ⟨h1, _⟩ := List.mem_filter.1 h
 obtain ⟨k, hk, rfl⟩ := List.mem_map.1 h1
 rw [List.mem_range] at hk; omega
theorem Zxi {i o : Int} {n : List (List Int)} {ps : List (List Int × List Int)} {s l : List Int} : ∀ v ∈ metB i o n ps s l, 0 ≤ v ∧ v < 48 := fun v hv => by
 unfold metB at hv
 split at hv
 ·rename_i h
  have := ZvA hv
  have := (ZeI h.1).2.2.1
  omega
 ·simp at hv
theorem Zo7 {i o : Int} {n : List (List Int)} {ps : List (List Int × List Int)} {s l : List Int} (h : detB i o n ps = true) (h2 : ZaI s l (Zaa i o) = true) : (metN n s l).length ≤ 600 := by
 have h1 := ZeI h
 have := Zsa (Zcr h) (ZbA h2).1 (ZbA h2).2 h1.2.1
 omega
noncomputable def Zc4 (i o : Int) (n : List (List Int)) (ps : List (List Int × List Int)) (s l : List Int) : Bool := detB i o n ps && ZaI s l (Zaa i o) && decide (brkZ ps (metB i o n ps s l) ps.length = [])
section
variable {i o : Int} {n : List (List Int)} {ps : List (List Int × List Int)} {s l : List Int}
theorem Zf8 (h : detB i o n ps = false) : false = Zc4 i o n ps s l := by unfold Zc4; rw [h]; rfl
theorem ZcW (h : ZaI s l (Zaa i o) = false) : false = Zc4 i o n ps s l := by unfold Zc4; rw [h]; simp
theorem Zhp (h : sigB i o = false) : false = Zc4 i o n ps s l := Zf8 (by unfold detB; rw [h]; rfl)
theorem ZpW : ((xs.length : Int) == 0) = decide (xs = []) := by
 rw [Bool.eq_iff_iff]; simp [List.length_eq_zero_iff]
theorem Zop (h : detB i o n ps = true) (h2 : ZaI s l (Zaa i o) = true) : decide (brkZ ps (metB i o n ps s l) ps.length = []) = Zc4 i o n ps s l := by unfold Zc4; rw [h, h2]; rfl
theorem ZuI (h : detB i o n ps = true) (h2 : ZaI s l (Zaa i o) = true) : (((brkZ ps (metN n s l) ps.length).length : Int) == 0) = Zc4 i o n ps s l := by rw [← Zop h h2, ZpW, ZoL h h2]
end
end Go.Proofs.YtabfpoflhacknaaGreat

