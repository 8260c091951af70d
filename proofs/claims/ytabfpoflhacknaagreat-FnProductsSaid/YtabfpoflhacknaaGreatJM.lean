/- Two automata joined: the search of pairs of states, at most so many. No program in sight; no conditions. -/
import Derived.Test.YtabfpoflhacknaaGreatMT
import Derived.Test.YtabfpoflhacknaaGreatM5
namespace Go.Proofs.YtabfpoflhacknaaGreat
open Go.RowKit
open Shp
variable {xs t os : List (Int × Int)} {v : Int × Int} {a b n n2 : List (List Int)} {k : Nat} {ps ps2 : List (List Int × List Int)}
def jnG (a b : List (List Int)) : Nat → Nat → List (Int × Int) → Option (List (Int × Int))
 | 0, _, os => some os
 | f + 1, k, os => if k < os.length then (if 48 < (addG os (Zbj a b (nth os k))).length then none else jnG a b f (k + 1) (addG os (Zbj a b (nth os k)))) else some os
def jnF (a b : List (List Int)) : Option (List (Int × Int)) := jnG a b 48 0 [(0, 0)]
def Zbt (a b : List (List Int)) (os : List (Int × Int)) (k : Nat) : List (List Int) := (os.take k).map fun x => (Zbj a b x).map (ZbS os)
def ZaN (s : List Int) (xs : List Int) : Nat → List Int
 | 0 => []
 | i + 1 => if has s (nth xs i) = true then ZaN s xs i ++ [(i : Int)] else ZaN s xs i
def pairP (xs : List Int) (p : List Int × List Int) : List Int × List Int := (ZaN p.1 xs xs.length, ZaN p.2 xs xs.length)
def Zbu (ps : List (List Int × List Int)) (xs : List Int) : List (List Int × List Int) := ps.map (pairP xs)
theorem Zeq  {x : Int × Int} (h : x ∈ xs) : ∃ j : Nat, j < xs.length ∧ ZbS xs x = (j : Int) ∧ nth xs j = x ∧ ∀ z, z < j → decide (nth xs z = x) = false := by
 unfold ZbS
 rcases ZbP xs.length (fun i => decide (nth xs i = x)) with ⟨h1, h2⟩ | ⟨i, h1, h2, h3, h4⟩
 ·obtain ⟨i, hi, e⟩ := Za1 h
  have := h2 i hi
  rw [e] at this; simp at this
 ·exact ⟨i, h1, h2, by simpa using h3, h4⟩
theorem ZkC  (h : v ∈ xs) : ZbS (xs ++ t) v = ZbS xs v := by
 obtain ⟨i, hi, e, h2, h3⟩ := Zeq h
 rw [e]; unfold ZbS
 refine Zbn i (by rw [List.length_append]; omega) (by rw [Zh7 hi, h2]; simp) fun j hj => ?_
 rw [Zh7 (by omega)]; exact h3 j hj
theorem Zpw  (h : hasP xs v = false) : ZbS (xs ++ [v]) v = (xs.length : Int) := by
 unfold ZbS
 refine Zbn xs.length (by simp) (by rw [Zuw (by omega)]; simp [nth]) fun j hj => ?_
 rw [Zh7 hj]
 rw [decide_eq_false_iff_not]
 intro e
 rw [hasP_iff.2 (by rw [← e]; exact Zal hj)] at h; cases h
theorem Ze5  (h : ZbS xs v < 0) : hasP xs v = false := by
 cases e : hasP xs v
 ·rfl
 ·obtain ⟨j, _, e2, _⟩ := Zeq (hasP_iff.1 e); omega
theorem ZgL  (h : ¬ ZbS xs v < 0) : hasP xs v = true := by
 have e : decide (ZbS xs v ≥ 0) = hasP xs v := firstN_ge
 rw [← e]; simpa using h
def Clo (a b : List (List Int)) (os : List (Int × Int)) (k : Nat) : Prop := ∀ j, j < k → ∀ y ∈ Zbj a b (nth os j), y ∈ os
theorem ZqD  (hc : Clo a b os k) (hk : k ≤ os.length) : Zbt a b (os ++ t) k = Zbt a b os k := by
 unfold Zbt
 rw [List.take_append_of_le_length hk]
 refine List.map_congr_left fun x hx => List.map_congr_left fun y hy => ZkC ?_
 obtain ⟨j, hj, rfl⟩ := Za1 hx
 rw [List.length_take] at hj
 have e : nth (os.take k) j = nth os j := by
  unfold nth; simp only [List.getD_eq_getElem?_getD]; rw [List.getElem?_take_of_lt (by omega)]
 rw [e] at hy
 exact hc j (by omega) y hy
theorem Zpj  (hk : k < os.length) : Zbt a b os (k + 1) = Zbt a b os k ++ [(Zbj a b (nth os k)).map (ZbS os)] := by
 unfold Zbt; rw [ZbX hk, List.map_append]; rfl
theorem Zb9  (hk : k ≤ os.length) : (Zbt a b os k).length = k := by
 unfold Zbt; rw [List.length_map, List.length_take]; omega
theorem Clo.ext  {ps : List (Int × Int)}  (hc : Clo a b os k) (h : Ext os ps) (hk : k ≤ os.length) : Clo a b ps k := fun j hj y hy => by
 obtain ⟨t, rfl⟩ := h
 rw [Zh7 (by omega)] at hy
 exact List.mem_append.2 (.inl (hc j hj y hy))
theorem Clo.next  {ps : List (Int × Int)}  (hc : Clo a b ps k) (h : ∀ y ∈ Zbj a b (nth ps k), y ∈ ps) : Clo a b ps (k + 1) := fun j hj y hy => by
 by_cases e : j = k
 ·subst e; exact h y hy
 ·exact hc j (by omega) y hy
theorem Zxw  (h : jnF a b = jnG a b (48 - k) k os) (hk : k < os.length) (hl : os.length ≤ 48) : jnF a b = if 48 < (addG os ((Zbj a b (nth os k)).drop 0)).length then none else jnG a b (48 - (k + 1)) (k + 1) (addG os ((Zbj a b (nth os k)).drop 0)) := by
 rw [h, List.drop_zero, show 48 - k = (48 - (k + 1)) + 1 by omega]
 simp only [jnG]; rw [if_pos hk]
theorem Zx8  {f : Nat} (h : jnF a b = jnG a b f k os) (hk : os.length ≤ k) : jnF a b = some os := by
 rw [h]; cases f with
 | zero => rfl
 | succ f => simp only [jnG]; rw [if_neg (by omega)]
def ZbI (n : List (List Int)) (ps : List (List Int × List Int)) (n2 : List (List Int)) (ps2 : List (List Int × List Int)) : (List (List Int) × List (List Int × List Int)) × Bool :=
 if ps.length + ps2.length ≤ 4 then (match jnF n n2 with
  | some os => ((Zbt n n2 os os.length, Zbu ps (os.map Prod.fst) ++ Zbu ps2 (os.map Prod.snd)), true)
  | none => (([], []), false)) else (([], []), false)
theorem ZhK  (h : ¬ ps.length + ps2.length ≤ 4) : ZbI n ps n2 ps2 = (([], []), false) := by
 unfold ZbI; rw [if_neg h]
theorem ZhC  (h : jnF n n2 = none) : ZbI n ps n2 ps2 = (([], []), false) := by
 unfold ZbI; rw [h]; split <;> rfl
theorem Zel  (hl : ps.length + ps2.length ≤ 4) (h : jnF n n2 = some os) : ZbI n ps n2 ps2 = ((Zbt n n2 os os.length, Zbu ps (os.map Prod.fst) ++ Zbu ps2 (os.map Prod.snd)), true) := by
 unfold ZbI; rw [if_pos hl, h]
theorem Zfi {s xs : List Int} {i : Nat} (h : has s (nth xs i) = true) : ZaN s xs i ++ [(i : Int)] = ZaN s xs (i + 1) := by simp only [ZaN]; rw [if_pos h]
theorem Zjd {s xs : List Int} {i : Nat} (h : has s (nth xs i) = false) : ZaN s xs i = ZaN s xs (i + 1) := by simp only [ZaN]; rw [if_neg (by rw [h]; simp)]
theorem Zd9 {s xs : List Int} : ∀ {i : Nat}, (ZaN s xs i).length ≤ i
 | 0 => Nat.le_refl _
 | i + 1 => by
  have := Zd9 (s := s) (xs := xs) (i := i)
  simp only [ZaN]; split
  ·simp; omega
  ·omega
def Zpq (i o : Int) (n : List (List Int)) (ps : List (List Int × List Int)) (n2 : List (List Int)) (ps2 : List (List Int × List Int)) : (List (List Int) × List (List Int × List Int)) × Bool :=
 if detB i o n ps = true ∧ detB i o n2 ps2 = true then ZbI n ps n2 ps2 else (([], []), false)
end Go.Proofs.YtabfpoflhacknaaGreat

