/- Two automata joined: the search of pairs of states, at most so many. No program in sight; no conditions. -/
import Derived.Test.YtnieejghoaccmaaMT
import Derived.Test.YtnieejghoaccmaaM4
namespace Go.Proofs.Ytnieejghoaccmaa
open Go.RowKit
open Shp
variable {xs t os : List (Int × Int)} {v : Int × Int} {a b n n2 : List (List Int)} {k : Nat} {ps ps2 : List (List Int × List Int)}
def jnG (a b : List (List Int)) : Nat → Nat → List (Int × Int) → Option (List (Int × Int))
 | 0, _, os => some os
 | f + 1, k, os => if k < os.length then (if 48 < (addG os (Zbu a b (nth os k))).length then none else jnG a b f (k + 1) (addG os (Zbu a b (nth os k)))) else some os
def jnF (a b : List (List Int)) : Option (List (Int × Int)) := jnG a b 48 0 [(0, 0)]
def ZbM (a b : List (List Int)) (os : List (Int × Int)) (k : Nat) : List (List Int) := (os.take k).map fun x => (Zbu a b x).map (ZbH os)
def Za7 (s : List Int) (xs : List Int) : Nat → List Int
 | 0 => []
 | i + 1 => if has s (nth xs i) = true then Za7 s xs i ++ [(i : Int)] else Za7 s xs i
def pairP (xs : List Int) (p : List Int × List Int) : List Int × List Int := (Za7 p.1 xs xs.length, Za7 p.2 xs xs.length)
def Zco (ps : List (List Int × List Int)) (xs : List Int) : List (List Int × List Int) := ps.map (pairP xs)
theorem ZeW  {x : Int × Int} (h : x ∈ xs) : ∃ j : Nat, j < xs.length ∧ ZbH xs x = (j : Int) ∧ nth xs j = x ∧ ∀ z, z < j → decide (nth xs z = x) = false := by
 unfold ZbH
 rcases Zc0 xs.length (fun i => decide (nth xs i = x)) with ⟨h1, h2⟩ | ⟨i, h1, h2, h3, h4⟩
 ·obtain ⟨i, hi, e⟩ := ZbW h
  have := h2 i hi
  rw [e] at this; simp at this
 ·exact ⟨i, h1, h2, by simpa using h3, h4⟩
theorem Zig  (h : v ∈ xs) : ZbH (xs ++ t) v = ZbH xs v := by
 obtain ⟨i, hi, e, h2, h3⟩ := ZeW h
 rw [e]; unfold ZbH
 refine ZcH i (by rw [List.length_append]; omega) (by rw [Zkw hi, h2]; simp) fun j hj => ?_
 rw [Zkw (by omega)]; exact h3 j hj
theorem ZmI  (h : hasP xs v = false) : ZbH (xs ++ [v]) v = (xs.length : Int) := by
 unfold ZbH
 refine ZcH xs.length (by simp) (by rw [Zuy (by omega)]; simp [nth]) fun j hj => ?_
 rw [Zkw hj]
 rw [decide_eq_false_iff_not]
 intro e
 rw [hasP_iff.2 (by rw [← e]; exact Zbk hj)] at h; cases h
theorem ZbI  (h : ZbH xs v < 0) : hasP xs v = false := by
 cases e : hasP xs v
 ·rfl
 ·obtain ⟨j, _, e2, _⟩ := ZeW (hasP_iff.1 e); omega
theorem Zcd  (h : ¬ ZbH xs v < 0) : hasP xs v = true := by
 have e : decide (ZbH xs v ≥ 0) = hasP xs v := ZjL
 rw [← e]; simpa using h
def Clo (a b : List (List Int)) (os : List (Int × Int)) (k : Nat) : Prop := ∀ j, j < k → ∀ y ∈ Zbu a b (nth os j), y ∈ os
theorem Znb  (hc : Clo a b os k) (hk : k ≤ os.length) : ZbM a b (os ++ t) k = ZbM a b os k := by
 unfold ZbM
 rw [List.take_append_of_le_length hk]
 refine List.map_congr_left fun x hx => List.map_congr_left fun y hy => Zig ?_
 obtain ⟨j, hj, rfl⟩ := ZbW hx
 rw [List.length_take] at hj
 have e : nth (os.take k) j = nth os j := by
  unfold nth; simp only [List.getD_eq_getElem?_getD]; rw [List.getElem?_take_of_lt (by omega)]
 rw [e] at hy
 exact hc j (by omega) y hy
theorem Zl0  (hk : k < os.length) : ZbM a b os (k + 1) = ZbM a b os k ++ [(Zbu a b (nth os k)).map (ZbH os)] := by
 unfold ZbM; rw [ZcW hk, List.map_append]; rfl
theorem Zbw  (hk : k ≤ os.length) : (ZbM a b os k).length = k := by
 unfold ZbM; rw [List.length_map, List.length_take]; omega
theorem Clo.ext  {ps : List (Int × Int)}  (hc : Clo a b os k) (h : Ext os ps) (hk : k ≤ os.length) : Clo a b ps k := fun j hj y hy => by
 obtain ⟨t, rfl⟩ := h
 rw [Zkw (by omega)] at hy
 exact List.mem_append.2 (.inl (hc j hj y hy))
theorem Clo.next  {ps : List (Int × Int)}  (hc : Clo a b ps k) (h : ∀ y ∈ Zbu a b (nth ps k), y ∈ ps) : Clo a b ps (k + 1) := fun j hj y hy => by
 by_cases e : j = k
 ·subst e; exact h y hy
 ·exact hc j (by omega) y hy
theorem Zv2  (h : jnF a b = jnG a b (48 - k) k os) (hk : k < os.length) (hl : os.length ≤ 48) : jnF a b = if 48 < (addG os ((Zbu a b (nth os k)).drop 0)).length then none else jnG a b (48 - (k + 1)) (k + 1) (addG os ((Zbu a b (nth os k)).drop 0)) := by
 rw [h, List.drop_zero, show 48 - k = (48 - (k + 1)) + 1 by omega]
 simp only [jnG]; rw [if_pos hk]
theorem ZqF  {f : Nat} (h : jnF a b = jnG a b f k os) (hk : os.length ≤ k) : jnF a b = some os := by
 rw [h]; cases f with
 | zero => rfl
 | succ f => simp only [jnG]; rw [if_neg (by omega)]
def ZbR (n : List (List Int)) (ps : List (List Int × List Int)) (n2 : List (List Int)) (ps2 : List (List Int × List Int)) : (List (List Int) × List (List Int × List Int)) × Bool :=
 if ps.length + ps2.length ≤ 4 then (match jnF n n2 with
  | some os => ((ZbM n n2 os os.length, Zco ps (os.map Prod.fst) ++ Zco ps2 (os.map Prod.snd)), true)
  | none => (([], []), false)) else (([], []), false)
theorem Zct  (h : ¬ ps.length + ps2.length ≤ 4) : ZbR n ps n2 ps2 = (([], []), false) := by
 unfold ZbR; rw [if_neg h]
theorem Zc6  (h : jnF n n2 = none) : ZbR n ps n2 ps2 = (([], []), false) := by
 unfold ZbR; rw [h]; split <;> rfl
theorem Zdn  (hl : ps.length + ps2.length ≤ 4) (h : jnF n n2 = some os) : ZbR n ps n2 ps2 = ((ZbM n n2 os os.length, Zco ps (os.map Prod.fst) ++ Zco ps2 (os.map Prod.snd)), true) := by
 unfold ZbR; rw [if_pos hl, h]
theorem Zl4 {s xs : List Int} {i : Nat} (h : has s (nth xs i) = true) : Za7 s xs i ++ [(i : Int)] = Za7 s xs (i + 1) := by simp only [Za7]; rw [if_pos h]
theorem Zm4 {s xs : List Int} {i : Nat} (h : has s (nth xs i) = false) : Za7 s xs i = Za7 s xs (i + 1) := by simp only [Za7]; rw [if_neg (by rw [h]; simp)]
theorem Zem {s xs : List Int} : ∀ {i : Nat}, (Za7 s xs i).length ≤ i
 | 0 => Nat.le_refl _
 | i + 1 => by
  have := Zem (s := s) (xs := xs) (i := i)
  simp only [Za7]; split
  ·simp; omega
  ·omega
def ZeQ (i o : Int) (n : List (List Int)) (ps : List (List Int × List Int)) (n2 : List (List Int)) (ps2 : List (List Int × List Int)) : (List (List Int) × List (List Int × List Int)) × Bool :=
 if detB i o n ps = true ∧ detB i o n2 ps2 = true then ZbR n ps n2 ps2 else (([], []), false)
end Go.Proofs.Ytnieejghoaccmaa

