/- The contest of a right automaton is a right arena. No program in sight; no conditions. -/
import Derived.Test.YtjjidamlmebaaaaGreatZU
import Derived.Test.YtjjidamlmebaaaaGreatCO
namespace Go.Proofs.YtjjidamlmebaaaaGreat
open Go.RowKit
open Shp
variable {q m : Nat} {st : Int}
section
variable {i o : Int} {n : List (List Int)} {ps : List (List Int × List Int)}
def Zek (i : Int) (n : List (List Int)) : Nat := n.length + n.length * (pw i).toNat
def Ze0 (i : Int) (n : List (List Int)) : List Int := ones n.length (n.length * (pw i).toNat)
def Zdw (i o : Int) (n : List (List Int)) : List (List Int) := ZaL n.length (pw i).toNat n.length ++ ZaY n (pw i).toNat (pw o).toNat (n.length * (pw i).toNat)
theorem ZqP {a b v : Nat} (h : v < a + b) : nth (ones a b) v = 0 ∨ nth (ones a b) v = 1 := by
 rw [Zaz (by rw [Zbj]; exact h)]
 unfold ones
 by_cases e : v < a
 ·rw [List.getElem_append_left (by simpa using e)]; right; simp
 ·rw [List.getElem_append_right (by simpa using e)]; left; simp
theorem ZnP {N I : Nat} (h : N + q * I + I ≤ m) : Zbc (rowA N I q) m = true := by
 unfold Zbc
 rw [allN_iff, Zbu]
 intro j hj
 have e : ∀ k, k < I → nth (rowA N I q) k = (N : Int) + (q : Int) * (I : Int) + (k : Int) := fun k hk => by
  rw [Zaz (by rw [Zbu]; exact hk)]; simp [rowA]
 have h1 : ((N + q * I + I : Nat) : Int) ≤ m := by exact_mod_cast h
 push_cast at h1
 have h0 : (0 : Int) ≤ (q : Int) * (I : Int) := Int.mul_nonneg (by omega) (by omega)
 simp only [Bool.and_eq_true, decide_eq_true_eq, Bool.or_eq_true]
 rw [e j hj]
 refine ⟨⟨by omega, by omega⟩, ?_⟩
 by_cases ej : j = 0
 ·exact .inl ej
 ·right
  rw [e (j - 1) (by omega)]; omega
theorem Zrt {xs : List Int} (h : 0 < xs.length) : 0 < (setZ xs).length := by
 have h1 := setZ_mem.2 (ZaE (xs := xs) (k := 0) h)
 exact List.length_pos_of_mem h1
theorem Zj4 {α : Type} [Inhabited α] {f : Nat → α} {j : Nat} (h : j < m) : nth ((List.range m).map f) j = f j := by rw [Zaz (by simpa using h)]; simp
theorem Znd (h : detB i o n ps = true) : AOK (Zek i n) (Ze0 i n) (Zdw i o n) := by
 have hD := Zdg h
 have hp := Zdx hD.1
 have hI : ((pw i).toNat : Int) = pw i := by omega
 have hO : ((pw o).toNat : Int) = pw o := by omega
 have hI4 : 2 ≤ (pw i).toNat ∧ (pw i).toNat ≤ 4 := by omega
 have hO4 : 2 ≤ (pw o).toNat ∧ (pw o).toNat ≤ 4 := by omega
 have hlen : n.length * (pw i).toNat ≤ 48 * 4 := Nat.mul_le_mul hD.2.2.1 hI4.2
 have hll := hD.2.1
 have hl2 := hD.2.2.1
 have hA : ∀ v, v < n.length → nth (Zdw i o n) v = rowA n.length (pw i).toNat v := fun v hv => by
  unfold Zdw
  rw [Zc9 (by rw [ZaW]; exact hv)]
  exact Zj4 hv
 have hB : ∀ t, t < n.length * (pw i).toNat → nth (Zdw i o n) (n.length + t) = rowB n (pw i).toNat (pw o).toNat t := fun t ht => by
  unfold Zdw
  rw [Zaz (by rw [List.length_append, ZaW, Zbf]; omega), List.getElem_append_right (by rw [ZaW]; omega)]
  simp [ZaW, ZaY]
 have hBr : ∀ t, t < n.length * (pw i).toNat → (1 ≤ (rowB n (pw i).toNat (pw o).toNat t).length ∧ (rowB n (pw i).toNat (pw o).toNat t).length ≤ 16) ∧ Zbc (rowB n (pw i).toNat (pw o).toNat t) (Zek i n) = true := fun t ht => by
  have hq : t / (pw i).toNat < n.length := Nat.div_lt_of_lt_mul (by rw [Nat.mul_comm]; exact ht)
  have hr := hD.2.2.2.2 _ hq
  have hol : (outL (nth n (t / (pw i).toNat)) (pw i).toNat (pw o).toNat (t % (pw i).toNat)).length = (pw o).toNat := ZcZ
  unfold rowB
  refine ⟨⟨Zrt (by rw [hol]; omega), by have := Zqa (xs := outL (nth n (t / (pw i).toNat)) (pw i).toNat (pw o).toNat (t % (pw i).toNat)); rw [hol] at this; omega⟩, ZpC ZqF fun v hv => ?_⟩
  have hv' := setZ_mem.1 hv
  unfold outL at hv'
  obtain ⟨m, hm, rfl⟩ := List.mem_map.1 hv'
  rw [List.mem_range] at hm
  have hmod : t % (pw i).toNat < (pw i).toNat := Nat.mod_lt _ (by omega)
  have hidx : m * (pw i).toNat + t % (pw i).toNat < (nth n (t / (pw i).toNat)).length := by
   have e1 : ((nth n (t / (pw i).toNat)).length : Int) = ((pw i).toNat * (pw o).toNat : Nat) := by
    rw [hr.1]; push_cast; rw [hI, hO]; have := hp.2.2.2.2.2.2.2.2.2.2.1; have := hp.2.2.2.2.2.2.2.2.2.2.2.1; omega
   have e2 : (nth n (t / (pw i).toNat)).length = (pw i).toNat * (pw o).toNat := by exact_mod_cast e1
   rw [e2]
   have : m * (pw i).toNat + (pw i).toNat ≤ (pw o).toNat * (pw i).toNat := by
    rw [← Nat.succ_mul]; exact Nat.mul_le_mul_right _ hm
   rw [Nat.mul_comm (pw i).toNat]; omega
  have hb := hr.2
  unfold below at hb
  have hx := allN_iff.1 hb _ hidx
  simp only [Bool.and_eq_true, decide_eq_true_eq] at hx
  refine ⟨hx.1, ?_⟩
  unfold Zek; push_cast; omega
 refine ⟨by unfold Zek; omega, by unfold Ze0 Zek; exact Zbj, by unfold Zdw Zek; rw [List.length_append, ZaW, Zbf], fun v hv => ZqP hv, fun v hv => ?_, fun v hv => ?_⟩
 ·by_cases e : v < n.length
  ·rw [hA v e, Zbu]; omega
  ·have := (hBr (v - n.length) (by unfold Zek at hv; omega)).1
   rw [show v = n.length + (v - n.length) by omega, hB _ (by unfold Zek at hv; omega)]; exact this
 ·by_cases e : v < n.length
  ·rw [hA v e]
   refine ZnP ?_
   unfold Zek
   have : v * (pw i).toNat + (pw i).toNat ≤ n.length * (pw i).toNat := by rw [← Nat.succ_mul]; exact Nat.mul_le_mul_right _ e
   omega
  ·have := (hBr (v - n.length) (by unfold Zek at hv; omega)).2
   rw [show v = n.length + (v - n.length) by omega, hB _ (by unfold Zek at hv; omega)]; exact this
theorem ZnN {a b : Int} (h : ZbR ps a = true) (hab : a ≤ b) : ZbR ps b = true := by
 unfold ZbR ZdQ at h ⊢
 simp only [Bool.and_eq_true, allN_iff, decide_eq_true_eq] at h ⊢
 exact ⟨h.1, fun k hk => ⟨Zgr (h.2 k hk).1 hab, Zgr (h.2 k hk).2 hab⟩⟩
theorem Zgu (h : detB i o n ps = true) : ZbR ps (Zek i n) = true ∧ ps.length ≤ 4 := by
 have hD := Zdg h
 refine ⟨ZnN hD.2.2.2.1 (by unfold Zek; omega), ?_⟩
 have := hD.2.2.2.1
 unfold ZbR at this
 simp only [Bool.and_eq_true, decide_eq_true_eq] at this
 exact this.1
end
noncomputable def wonP (o : List Int) (nx : List (List Int)) (ps : List (List Int × List Int)) (st : Int) : Int := if recO o nx ps st = true then -1 else wonG (recF o nx ps st).pl.length (recF o nx ps st).ow (recF o nx ps st).pr (recF o nx ps st).nx
theorem Zl4 {o : List Int} {nx : List (List Int)} {ps : List (List Int × List Int)}  (h : recO o nx ps st = false) : recR o nx ps st = recF o nx ps st := by unfold recR; rw [h, if_neg Bool.false_ne_true]
theorem ZrO {n : Nat} {o p : List Int} {nx : List (List Int)} (h : POK n o nx p) : nth (oneK n (lstL (winL n o p nx 1 (List.replicate n true)) n)) 0 = wonG n o p nx := by
 have hn := h.a.n1
 rw [ZqB (by omega) _ fun v hv => ((ZbZ _).1 hv).1]
 have h0 : inS n (List.replicate n true) 0 := ⟨by omega, Zkg (by omega)⟩
 have hw := ZlO h.g h.tot (.inl rfl) h0
 have e1 : nth (winL n o p nx 1 (List.replicate n true)) 0 = true ↔ winP n o p nx 1 (List.replicate n true) 0 := ZaN (by omega)
 have e0 : nth (winL n o p nx 0 (List.replicate n true)) 0 = true ↔ winP n o p nx 0 (List.replicate n true) 0 := ZaN (by omega)
 unfold wonG
 by_cases hc : nth (winL n o p nx 0 (List.replicate n true)) 0 = true
 ·rw [if_pos hc, if_neg ?_]
  intro hm
  have := ((ZbZ _).1 hm).2.2
  exact hw.1 (e0.1 hc) (e1.1 this)
 ·rw [if_neg hc, if_pos ?_]
  refine (ZbZ _).2 ⟨by omega, by omega, ?_⟩
  refine e1.2 ?_
  apply Classical.byContradiction
  intro hn1
  exact hc (e0.2 (hw.2 hn1))
theorem Zry (b : Bool) : 0 ≤ bit b ∧ bit b ≤ 1 := by cases b <;> simp [bit]
theorem ZmQ {W : List Bool} {n : Nat} (hn : 0 < n) : has (lstL W n) 0 = nth W 0 := by
 rw [Bool.eq_iff_iff, Zsz, ZbZ]
 exact ⟨fun h => h.2.2, fun h => ⟨by omega, by omega, h⟩⟩
section
variable {i o : Int} {n : List (List Int)} {ps : List (List Int × List Int)}
theorem ZmR {o : List Int} {nx : List (List Int)}  (h : recO o nx ps st = true) : wonP o nx ps st = -1 := by unfold wonP; rw [if_pos h]
theorem Zmn {o : List Int} {nx : List (List Int)}  (h : recO o nx ps st = false) : wonP o nx ps st = wonG (recF o nx ps st).pl.length (recF o nx ps st).ow (recF o nx ps st).pr (recF o nx ps st).nx := by unfold wonP; rw [if_neg (by rw [h]; exact Bool.false_ne_true)]
noncomputable def wonQ (i o : Int) (n : List (List Int)) (ps : List (List Int × List Int)) (q : Int) : Int := wonP (Ze0 i n) (Zdw i o n) ps q
noncomputable def cwB (i o : Int) (n : List (List Int)) (ps : List (List Int × List Int)) : Int := if detB i o n ps = true then wonQ i o n ps 0 else -1
theorem Zqu (h : detB i o n ps = true) : cwB i o n ps = wonQ i o n ps 0 := if_pos h
theorem ZoJ (h : detB i o n ps = false) : cwB i o n ps = -1 := if_neg (by rw [h]; exact Bool.false_ne_true)
theorem Zrf (h : sigB i o = false) : cwB i o n ps = -1 := ZoJ (by unfold detB; rw [h]; rfl)
end
end Go.Proofs.YtjjidamlmebaaaaGreat

