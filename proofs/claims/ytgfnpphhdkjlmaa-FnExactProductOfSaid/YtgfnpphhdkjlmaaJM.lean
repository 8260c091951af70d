/- Two automata joined: the search of pairs of states, at most so many. No program in sight; no conditions. -/
import Derived.Test.YtgfnpphhdkjlmaaMT
import Derived.Test.YtgfnpphhdkjlmaaMQ
set_option linter.unusedSimpArgs false
set_option linter.unusedVariables false
namespace Go.Proofs.Ytgfnpphhdkjlmaa
open Go.RowKit
open Shp
def jnG (a b : List (List Int)) : Nat → Nat → List (Int × Int) → Option (List (Int × Int))
  | 0, _, os => some os
  | f + 1, k, os => if k < os.length then (if 48 < (addG os (succP a b (nth os k))).length then none else jnG a b f (k + 1) (addG os (succP a b (nth os k)))) else some os
def jnF (a b : List (List Int)) : Option (List (Int × Int)) := jnG a b 48 0 [(0, 0)]
def rowsP (a b : List (List Int)) (os : List (Int × Int)) (k : Nat) : List (List Int) := (os.take k).map fun x => (succP a b x).map (placeP os)
def inPart (s : List Int) (xs : List Int) : Nat → List Int
  | 0 => []
  | i + 1 => if has s (nth xs i) = true then inPart s xs i ++ [(i : Int)] else inPart s xs i
def pairP (xs : List Int) (p : List Int × List Int) : List Int × List Int := (inPart p.1 xs xs.length, inPart p.2 xs xs.length)
def pairsP (ps : List (List Int × List Int)) (xs : List Int) : List (List Int × List Int) := ps.map (pairP xs)
theorem placeP_spec {xs : List (Int × Int)} {x : Int × Int} (h : x ∈ xs) : ∃ j : Nat, j < xs.length ∧ placeP xs x = (j : Int) ∧ nth xs j = x ∧ ∀ z, z < j → decide (nth xs z = x) = false := by
  unfold placeP
  rcases firstN_cases xs.length (fun i => decide (nth xs i = x)) with ⟨h1, h2⟩ | ⟨i, h1, h2, h3, h4⟩
  · obtain ⟨i, hi, e⟩ := mem_nth h
    have := h2 i hi
    rw [e] at this; simp at this
  · exact ⟨i, h1, h2, by simpa using h3, h4⟩
theorem placeP_app {xs t : List (Int × Int)} {v : Int × Int} (h : v ∈ xs) : placeP (xs ++ t) v = placeP xs v := by
  obtain ⟨i, hi, e, h2, h3⟩ := placeP_spec h
  rw [e]; unfold placeP
  refine firstN_at i (by rw [List.length_append]; omega) (by rw [nthA1 hi, h2]; simp) fun j hj => ?_
  rw [nthA1 (by omega)]; exact h3 j hj
theorem placeP_new {xs : List (Int × Int)} {v : Int × Int} (h : hasP xs v = false) : placeP (xs ++ [v]) v = (xs.length : Int) := by
  unfold placeP
  refine firstN_at xs.length (by simp) (by rw [nthA2 (by omega)]; simp [nth]) fun j hj => ?_
  rw [nthA1 hj]
  rw [decide_eq_false_iff_not]
  intro e
  rw [hasP_iff.2 (by rw [← e]; exact nth_mem hj)] at h; cases h
theorem placeP_lt {xs : List (Int × Int)} {v : Int × Int} (h : placeP xs v < 0) : hasP xs v = false := by
  cases e : hasP xs v
  · rfl
  · obtain ⟨j, _, e2, _⟩ := placeP_spec (hasP_iff.1 e); omega
theorem placeP_ge {xs : List (Int × Int)} {v : Int × Int} (h : ¬ placeP xs v < 0) : hasP xs v = true := by
  have e : decide (placeP xs v ≥ 0) = hasP xs v := firstN_ge
  rw [← e]; simpa using h
def Clo (a b : List (List Int)) (os : List (Int × Int)) (k : Nat) : Prop := ∀ j, j < k → ∀ y ∈ succP a b (nth os j), y ∈ os
theorem rowsP_ext {a b : List (List Int)} {os t : List (Int × Int)} {k : Nat} (hc : Clo a b os k) (hk : k ≤ os.length) : rowsP a b (os ++ t) k = rowsP a b os k := by
  unfold rowsP
  rw [List.take_append_of_le_length hk]
  refine List.map_congr_left fun x hx => List.map_congr_left fun y hy => placeP_app ?_
  obtain ⟨j, hj, rfl⟩ := mem_nth hx
  rw [List.length_take] at hj
  have e : nth (os.take k) j = nth os j := by
    unfold nth; simp only [List.getD_eq_getElem?_getD]; rw [List.getElem?_take_of_lt (by omega)]
  rw [e] at hy
  exact hc j (by omega) y hy
theorem rowsP_next {a b : List (List Int)} {os : List (Int × Int)} {k : Nat} (hk : k < os.length) : rowsP a b os (k + 1) = rowsP a b os k ++ [(succP a b (nth os k)).map (placeP os)] := by
  unfold rowsP; rw [take_nth hk, List.map_append]; rfl
theorem rowsP_len {a b : List (List Int)} {os : List (Int × Int)} {k : Nat} (hk : k ≤ os.length) : (rowsP a b os k).length = k := by
  unfold rowsP; rw [List.length_map, List.length_take]; omega
theorem Clo.ext {a b : List (List Int)} {os ps : List (Int × Int)} {k : Nat} (hc : Clo a b os k) (h : Ext os ps) (hk : k ≤ os.length) : Clo a b ps k := fun j hj y hy => by
  obtain ⟨t, rfl⟩ := h
  rw [nthA1 (by omega)] at hy
  exact List.mem_append.2 (.inl (hc j hj y hy))
theorem Clo.next {a b : List (List Int)} {ps : List (Int × Int)} {k : Nat} (hc : Clo a b ps k) (h : ∀ y ∈ succP a b (nth ps k), y ∈ ps) : Clo a b ps (k + 1) := fun j hj y hy => by
  by_cases e : j = k
  · subst e; exact h y hy
  · exact hc j (by omega) y hy
theorem jn_in {a b : List (List Int)} {os : List (Int × Int)} {k : Nat} (h : jnF a b = jnG a b (48 - k) k os) (hk : k < os.length) (hl : os.length ≤ 48) : jnF a b = if 48 < (addG os ((succP a b (nth os k)).drop 0)).length then none else jnG a b (48 - (k + 1)) (k + 1) (addG os ((succP a b (nth os k)).drop 0)) := by
  rw [h, List.drop_zero, show 48 - k = (48 - (k + 1)) + 1 by omega]
  simp only [jnG]; rw [if_pos hk]
theorem jn_end {a b : List (List Int)} {os : List (Int × Int)} {f k : Nat} (h : jnF a b = jnG a b f k os) (hk : os.length ≤ k) : jnF a b = some os := by
  rw [h]; cases f with
  | zero => rfl
  | succ f => simp only [jnG]; rw [if_neg (by omega)]
def joinO (n : List (List Int)) (ps : List (List Int × List Int)) (n2 : List (List Int)) (ps2 : List (List Int × List Int)) : (List (List Int) × List (List Int × List Int)) × Bool :=
  if ps.length + ps2.length ≤ 4 then (match jnF n n2 with
    | some os => ((rowsP n n2 os os.length, pairsP ps (os.map Prod.fst) ++ pairsP ps2 (os.map Prod.snd)), true)
    | none => (([], []), false)) else (([], []), false)
theorem joinO_many {n : List (List Int)} {ps : List (List Int × List Int)} {n2 : List (List Int)} {ps2 : List (List Int × List Int)} (h : ¬ ps.length + ps2.length ≤ 4) : joinO n ps n2 ps2 = (([], []), false) := by
  unfold joinO; rw [if_neg h]
theorem joinO_none {n : List (List Int)} {ps : List (List Int × List Int)} {n2 : List (List Int)} {ps2 : List (List Int × List Int)} (h : jnF n n2 = none) : joinO n ps n2 ps2 = (([], []), false) := by
  unfold joinO; rw [h]; split <;> rfl
theorem joinO_some {n : List (List Int)} {ps : List (List Int × List Int)} {n2 : List (List Int)} {ps2 : List (List Int × List Int)} {os : List (Int × Int)} (hl : ps.length + ps2.length ≤ 4) (h : jnF n n2 = some os) : joinO n ps n2 ps2 = ((rowsP n n2 os os.length, pairsP ps (os.map Prod.fst) ++ pairsP ps2 (os.map Prod.snd)), true) := by
  unfold joinO; rw [if_pos hl, h]
theorem inPart_yes {s xs : List Int} {i : Nat} (h : has s (nth xs i) = true) : inPart s xs i ++ [(i : Int)] = inPart s xs (i + 1) := by simp only [inPart]; rw [if_pos h]
theorem inPart_no {s xs : List Int} {i : Nat} (h : has s (nth xs i) = false) : inPart s xs i = inPart s xs (i + 1) := by simp only [inPart]; rw [if_neg (by rw [h]; simp)]
theorem inPart_len {s xs : List Int} : ∀ {i : Nat}, (inPart s xs i).length ≤ i
  | 0 => Nat.le_refl _
  | i + 1 => by
    have := inPart_len (s := s) (xs := xs) (i := i)
    simp only [inPart]; split
    · simp; omega
    · omega
def joinD (i o : Int) (n : List (List Int)) (ps : List (List Int × List Int)) (n2 : List (List Int)) (ps2 : List (List Int × List Int)) : (List (List Int) × List (List Int × List Int)) × Bool :=
  if detB i o n ps = true ∧ detB i o n2 ps2 = true then joinO n ps n2 ps2 else (([], []), false)
end Go.Proofs.Ytgfnpphhdkjlmaa

