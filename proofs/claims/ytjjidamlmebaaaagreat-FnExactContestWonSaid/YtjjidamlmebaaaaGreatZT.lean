/- Arenas and games that are right. No program in sight; no conditions. -/
import Derived.Test.YtjjidamlmebaaaaGreatZS
namespace Go.Proofs.YtjjidamlmebaaaaGreat
open Go.RowKit
open Shp
variable {v : Nat} {ins W : List Bool}
theorem ZgC {l : List Int} (h : Asc l) : l.Nodup := by
 rw [List.nodup_iff_pairwise_ne]
 exact List.Pairwise.imp (fun h e => by omega) h
structure AOK (n : Nat) (o : List Int) (nx : List (List Int)) : Prop where
 n1 : 1 ≤ n ∧ n ≤ 256
 lo : o.length = n
 ln : nx.length = n
 ow : ∀ v, v < n → nth o v = 0 ∨ nth o v = 1
 out : ∀ v, v < n → 1 ≤ (nth nx v).length ∧ (nth nx v).length ≤ 16
 up : ∀ v, v < n → Zbc (nth nx v) n = true
theorem ZfH {xs : List Int} {n : Int} (h : Zbc xs n = true) : ∀ x ∈ xs, 0 ≤ x ∧ x < n := fun x hx => by
 obtain ⟨i, hi, rfl⟩ := List.getElem_of_mem hx
 unfold Zbc at h
 have := allN_iff.1 h i hi
 simp only [Bool.and_eq_true, decide_eq_true_eq] at this
 rw [Zaz hi] at this
 exact this.1
theorem AOK.set {n : Nat} {o : List Int} {nx : List (List Int)} (h : AOK n o nx)  (hv : v < n) : setB (nth nx v) n = true := by
 unfold setB
 rw [h.up v hv, Bool.and_true, decide_eq_true_eq]
 have := Zbh (n := n) (ZgC (Zdt (h.up v hv))) (ZfH (h.up v hv))
 omega
structure POK (n : Nat) (o : List Int) (nx : List (List Int)) (p : List Int) : Prop where
 a : AOK n o nx
 lp : p.length = n
 pr : ∀ v, v < n → 0 ≤ nth p v ∧ nth p v ≤ 40
section
variable {n : Nat} {o p : List Int} {nx : List (List Int)}
theorem POK.g (h : POK n o nx p) : GDt n o p nx := ⟨h.a.lo, h.lp, h.a.ln, h.a.ow, fun v hv => ZfH (h.a.up v hv), fun v hv => ZgC (Zdt (h.a.up v hv))⟩
theorem POK.hpr (h : POK n o nx p) : ∀ v, v < n → 0 ≤ nth p v ∧ nth p v ≤ 1000000 := fun v hv => by have := h.pr v hv; omega
theorem Zkg {n : Nat} (hv : v < n) : nth (List.replicate n true) v = true := Zdc hv
theorem POK.tot (h : POK n o nx p) : TotL n nx (List.replicate n true) := fun v hv _ => by
 have h1 := h.a.out v hv
 refine ⟨nth (nth nx v) 0, ZaE (by omega), ?_⟩
 have := ZfH (h.a.up v hv) _ (ZaE (xs := nth nx v) (k := 0) (by omega))
 exact Zkg (by omega)
theorem Zwe (h : 1 ≤ n) : lstL (List.replicate n true) n ≠ [] := fun e => by
 have := lst_no.1 e 0 (by omega)
 rw [Zkg (by omega)] at this; cases this
theorem Zpw (n : Nat) (S : Nat → Prop) : cnt n S < n + 1 := by
 classical
 unfold cnt
 have := List.countP_le_length (p := fun v => decide (S v)) (l := List.range n)
 rw [List.length_range] at this
 omega
theorem Zua  (ht : TotL n nx ins)  (hv : v < n) (hi : nth ins v = true) : 0 < degN nx ins v := by
 obtain ⟨u, hu, hui⟩ := ht v hv hi
 unfold degN
 exact List.countP_pos_iff.2 ⟨u, hu, hui⟩
theorem ZtA (h : POK n o nx p) : ZcN n (List.replicate n true) (winL n o p nx 0 (List.replicate n true)) = winL n o p nx 1 (List.replicate n true) := Zix h.g h.tot (.inl rfl)
theorem Zqo  (h : whoL p ins n = 0) : winL n o p nx (whoL p ins n) ins = winL n o p nx 0 ins := by rw [h]
theorem ZuA  (h : ¬ whoL p ins n = 0) : winL n o p nx (whoL p ins n) ins = winL n o p nx 1 ins := by
 rw [show whoL p ins n = 1 by have := who2 p ins n; omega]
theorem ZoK (h : POK n o nx p) (hw : whoL p (List.replicate n true) n = 0) : ZcN n (List.replicate n true) (winL n o p nx (whoL p (List.replicate n true) n) (List.replicate n true)) = winL n o p nx 1 (List.replicate n true) := by
 rw [hw]; exact ZtA h
theorem Zpc (h : POK n o nx p) (hw : ¬ whoL p (List.replicate n true) n = 0) : ZcN n (List.replicate n true) (winL n o p nx (whoL p (List.replicate n true) n) (List.replicate n true)) = winL n o p nx 0 (List.replicate n true) := by
 rw [show whoL p (List.replicate n true) n = 1 by have := who2 p (List.replicate n true) n; omega]
 exact Zix h.g h.tot (.inr rfl)
noncomputable def wonG (n : Nat) (o p : List Int) (nx : List (List Int)) : Int := if nth (winL n o p nx 0 (List.replicate n true)) 0 = true then 0 else 1
end
theorem ZqV (n : Nat) : Zbc (upI n) n = true := by
 unfold Zbc
 rw [allN_iff]
 intro j hj
 rw [ZaQ] at hj
 rw [ZiI hj]
 by_cases e : j = 0
 ·subst e; simp; omega
 ·rw [ZiI (show j - 1 < n by omega)]
  simp [e]; omega
theorem Zuf {n : Nat} (hn : n ≤ 256) : setN (upI n) n = true := by
 unfold setN setB
 rw [ZqV, ZaQ]; simp; omega
def ZeU (n v : Nat) : List Int := (List.range n).map fun x => if x < v then -1 else 0
theorem Zdv (n v : Nat) : (ZeU n v).length = n := by simp [ZeU]
theorem Zoa (n : Nat) : ZeU n 0 = List.replicate n 0 := by
 apply List.ext_getElem
 ·simp [ZeU]
 ·intro k h1 h2; simp [ZeU]
theorem Zld (n : Nat) : ZeU n n = List.replicate n (-1) := by
 apply List.ext_getElem
 ·simp [ZeU]
 ·intro k h1 h2
  have : k < n := by simpa using h2
  simp [ZeU, this]
theorem ZpA {n : Nat} : (ZeU n v).set v (-1) = ZeU n (v + 1) := by
 apply List.ext_getElem
 ·simp [ZeU]
 ·intro k h1 h2
  rw [List.getElem_set]
  simp only [ZeU, List.getElem_map, List.getElem_range]
  by_cases e : v = k
  ·rw [if_pos e, if_pos (by omega)]
  ·rw [if_neg e]
   by_cases e2 : k < v
   ·rw [if_pos e2, if_pos (by omega)]
   ·rw [if_neg e2, if_neg (by omega)]
theorem Zf1  {n : Nat} (hv : v < n) : lstL W (v + 1) = if nth W (nth (upI n) v).toNat = true then lstL W v ++ [nth (upI n) v] else lstL W v := by
 rw [ZiI hv]; simp only [lstL, Int.toNat_natCast]
def notL (W : List Bool) : List Bool := W.map fun b => !b
theorem ZqN  (hv : v < W.length) : nth (notL W) v = !nth W v := by
 unfold notL; rw [Zaz (by simpa using hv), Zaz hv]; simp
theorem Zh7  {n : Nat} (hv : v < n) (hl : W.length = n) : lstL (notL W) (v + 1) = if nth W (nth (upI n) v).toNat = true then lstL (notL W) v else lstL (notL W) v ++ [nth (upI n) v] := by
 rw [ZiI hv]; simp only [lstL, Int.toNat_natCast, ZqN (show v < W.length by omega)]
 by_cases e : nth W v = true
 ·rw [if_pos e, if_neg (by rw [e]; simp)]
 ·rw [if_neg e, if_pos (by simpa using e)]
end Go.Proofs.YtjjidamlmebaaaaGreat

