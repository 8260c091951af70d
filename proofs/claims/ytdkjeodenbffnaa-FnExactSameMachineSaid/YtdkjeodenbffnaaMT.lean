/- Two machines side by side: the steps of the search. No program in sight; no conditions. -/
import Derived.Test.YtdkjeodenbffnaaMS
set_option linter.unusedSimpArgs false
set_option linter.unusedVariables false
namespace Go.Proofs.Ytdkjeodenbffnaa
open Go.RowKit
open Shp

def placeP (xs : List (Int × Int)) (x : Int × Int) : Int := firstN xs.length fun i => decide (nth xs i = x)
def hasP (xs : List (Int × Int)) (x : Int × Int) : Bool := !allN xs.length fun i => !decide (nth xs i = x)
theorem hasP_iff {xs : List (Int × Int)} {v : Int × Int} : hasP xs v = true ↔ v ∈ xs := by
  unfold hasP
  constructor
  · intro h
    apply Classical.byContradiction
    intro hn
    rw [allN_true (fun j hj => by
      have : nth xs j ≠ v := fun e => hn (by rw [← e]; exact nth_mem hj)
      simpa using this)] at h
    cases h
  · intro h
    obtain ⟨i, hi, e⟩ := mem_nth h
    rw [allN_false i hi (by simp [e])]; rfl
/-- pairs found -/
def PsOk (a b : List (List Int)) (os : List (Int × Int)) : Prop := os.Nodup ∧ ∀ x ∈ os, VP a.length b.length x
theorem PsOk.len {a b : List (List Int)} {os : List (Int × Int)} (h : PsOk a b os) (ha : a.length ≤ 48) (hb : b.length ≤ 48) : os.length ≤ 2304 := pairs_len ha hb os h.1 h.2
theorem PsOk.at {a b : List (List Int)} {os : List (Int × Int)} (h : PsOk a b os) {k : Nat} (hk : k < os.length) : (0 ≤ (nth os k).1 ∧ (nth os k).1 < (a.length : Int)) ∧ (0 ≤ (nth os k).2 ∧ (nth os k).2 < (b.length : Int)) := h.2 _ (nth_mem hk)
theorem PsOk.add {a b : List (List Int)} {os : List (Int × Int)} (h : PsOk a b os) {y : Int × Int} (hy : VP a.length b.length y) (hn : hasP os y = false) : PsOk a b (os ++ [y]) := by
  refine ⟨nodup_snoc h.1 (fun hm => by rw [hasP_iff.2 hm] at hn; cases hn), fun z hz => ?_⟩
  rcases List.mem_append.1 hz with h1 | h1
  · exact h.2 z h1
  · simp only [List.mem_singleton] at h1; subst h1; exact hy
def Ext {α : Type} (os ps : List α) : Prop := ∃ t, ps = os ++ t
theorem Ext.refl {α : Type} (os : List α) : Ext os os := ⟨[], by simp⟩
theorem Ext.snoc {α : Type} {os ps : List α} (h : Ext os ps) (y : α) : Ext os (ps ++ [y]) := by
  obtain ⟨t, rfl⟩ := h; exact ⟨t ++ [y], by simp⟩
theorem Ext.nth {α : Type} [Inhabited α] {os ps : List α} (h : Ext os ps) {k : Nat} (hk : k < os.length) : nth ps k = nth os k := by
  obtain ⟨t, rfl⟩ := h; exact nthA1 hk
theorem Ext.len {α : Type} {os ps : List α} (h : Ext os ps) : os.length ≤ ps.length := by
  obtain ⟨t, rfl⟩ := h; simp
section
variable {a oa b ob : List (List Int)} {W : Nat} {os ps : List (Int × Int)} {k x f : Nat}
theorem PsOk.one (ha : MOk a oa W) (hb : MOk b ob W) : PsOk a b [(0, 0)] := ⟨by simp, fun y hy => by simp only [List.mem_singleton] at hy; subst hy; exact vp_zero ha hb⟩
theorem pairs_in (h : pairsF a b = bfsG (succP a b) (2304 - k) k os) (hk : k < os.length) (hl : os.length ≤ 2304) : pairsF a b = bfsG (succP a b) (2304 - (k + 1)) (k + 1) (addG os ((succP a b (nth os k)).drop 0)) := by
  rw [h, List.drop_zero]; exact bfsG_step hk hl
theorem pairs_yes {q : Int × Int} (hx : x < (nth a q.1.toNat).length) (h : pairsF a b = bfsG (succP a b) f k (addG ps ((succP a b q).drop x))) (hh : hasP ps (nth (nth a q.1.toNat) x, nth (nth b q.2.toNat) x) = true) : pairsF a b = bfsG (succP a b) f k (addG ps ((succP a b q).drop (x + 1))) := by
  have hx' : x < (rowN a q.1).length := hx
  rw [h, addG_drop (by rw [succP_len]; exact hx'), if_pos (by rw [succP_nth hx']; exact hasP_iff.1 hh)]
theorem pairs_no {q : Int × Int} (hx : x < (nth a q.1.toNat).length) (h : pairsF a b = bfsG (succP a b) f k (addG ps ((succP a b q).drop x))) (hh : hasP ps (nth (nth a q.1.toNat) x, nth (nth b q.2.toNat) x) = false) : pairsF a b = bfsG (succP a b) f k (addG (ps ++ [(nth (nth a q.1.toNat) x, nth (nth b q.2.toNat) x)]) ((succP a b q).drop (x + 1))) := by
  have hx' : x < (rowN a q.1).length := hx
  rw [h, addG_drop (by rw [succP_len]; exact hx'), if_neg (by rw [succP_nth hx']; exact fun m => by have e : hasP ps (nth (nth a q.1.toNat) x, nth (nth b q.2.toNat) x) = true := hasP_iff.2 m; rw [e] at hh; cases hh), succP_nth hx']; rfl
theorem pairs_out {q : Int × Int} (h : pairsF a b = bfsG (succP a b) f k (addG ps ((succP a b q).drop x))) (hx : (nth a q.1.toNat).length ≤ x) : pairsF a b = bfsG (succP a b) f k ps := by
  rw [h, addG_end (by rw [succP_len]; exact hx)]
theorem rows_next (h4 : ∀ j, j < k → rowN oa (nth os j).1 = rowN ob (nth os j).2) (g4 : Ext os ps) (hk : k < os.length) (e : nth oa (nth os k).1.toNat = nth ob (nth os k).2.toNat) : ∀ j, j < k + 1 → rowN oa (nth ps j).1 = rowN ob (nth ps j).2 := fun j hj => by
  rw [g4.nth (by omega)]
  by_cases e2 : j = k
  · subst e2; exact e
  · exact h4 j (by omega)
theorem sameB_no (h : pairsF a b = bfsG (succP a b) f k os) (hk : k < os.length) (e : ¬ nth oa (nth os k).1.toNat = nth ob (nth os k).2.toNat) : false = sameB a oa b ob := by
  symm; unfold sameB
  rw [List.all_eq_false]
  obtain ⟨t, ht⟩ := bfsG_ext (next := succP a b) f k os
  exact ⟨nth os k, by rw [h, ht]; exact List.mem_append.2 (.inl (nth_mem hk)), by rw [decide_eq_false (show ¬ rowN oa (nth os k).1 = rowN ob (nth os k).2 from e)]; simp⟩
theorem sameB_yes (h : pairsF a b = bfsG (succP a b) f k os) (hk : os.length ≤ k) (h4 : ∀ j, j < k → rowN oa (nth os j).1 = rowN ob (nth os j).2) : true = sameB a oa b ob := by
  symm; unfold sameB
  rw [List.all_eq_true, h, bfsG_end hk]
  intro y hy
  obtain ⟨j, hj, rfl⟩ := mem_nth hy
  simpa using h4 j (by omega)
end
def sameM (i o : Int) (n out n2 out2 : List (List Int)) : Bool := machB i o n out && machB i o n2 out2 && sameB n out n2 out2
theorem sameM_no {i o : Int} {n out n2 out2 : List (List Int)} (h : sigB i o = false ∨ machB i o n out = false ∨ machB i o n2 out2 = false) : false = sameM i o n out n2 out2 := by
  symm; unfold sameM
  rcases h with h | h | h
  · have : machB i o n out = false := by
      cases e : machB i o n out
      · rfl
      · rw [(machB_r e).1] at h; cases h
    rw [this]; rfl
  · rw [h]; rfl
  · rw [h]; simp
theorem sameM_of {i o : Int} {n out n2 out2 : List (List Int)} {r : Bool} (h : machB i o n out = true) (h2 : machB i o n2 out2 = true) (e : r = sameB n out n2 out2) : r = sameM i o n out n2 out2 := by
  unfold sameM; rw [h, h2, e]; rfl
/-! the least machine -/
section
variable {n out : List (List Int)} {os ps : List Int} {k x f : Nat}
noncomputable abbrev lmN (n out : List (List Int)) : List Int := namesN n (alikeN n out)
noncomputable abbrev lmC (n out : List (List Int)) (q : Int) : List Int := cT n (alikeN n out) q
noncomputable abbrev lmR (n out : List (List Int)) (q : Int) : List Int := (lmC n out q).map (place (lmN n out))
theorem lmC_at {q : Int} (hx : x < (nth n q.toNat).length) : nth (lmC n out q) x = nth (alikeN n out) (nth (nth n q.toNat) x).toNat := nth_map hx
theorem least_in (h : lmN n out = bfsG (lmC n out) (48 - k) k os) (hk : k < os.length) (hl : os.length ≤ 48) : lmN n out = bfsG (lmC n out) (48 - (k + 1)) (k + 1) (addG os ((lmC n out (nth os k)).drop 0)) := by
  rw [h, List.drop_zero]; exact bfsG_step hk hl
theorem least_yes {q : Int} (hx : x < (nth n q.toNat).length) (h : lmN n out = bfsG (lmC n out) f k (addG ps ((lmC n out q).drop x))) (hh : ¬ place ps (nth (alikeN n out) (nth (nth n q.toNat) x).toNat) < 0) : lmN n out = bfsG (lmC n out) f k (addG ps ((lmC n out q).drop (x + 1))) := by
  have hx' : x < (lmC n out q).length := by rw [cT_len]; exact hx
  rw [h, addG_drop hx', if_pos (by rw [lmC_at hx]; exact has_iff.1 (place_ge hh))]
theorem least_no {q : Int} (hx : x < (nth n q.toNat).length) (h : lmN n out = bfsG (lmC n out) f k (addG ps ((lmC n out q).drop x))) (hh : place ps (nth (alikeN n out) (nth (nth n q.toNat) x).toNat) < 0) : lmN n out = bfsG (lmC n out) f k (addG (ps ++ [nth (alikeN n out) (nth (nth n q.toNat) x).toNat]) ((lmC n out q).drop (x + 1))) := by
  have hx' : x < (lmC n out q).length := by rw [cT_len]; exact hx
  rw [h, addG_drop hx', if_neg (by rw [lmC_at hx]; exact fun m => by have := place_lt hh; rw [has_iff.2 m] at this; cases this), lmC_at hx]
theorem least_out {q : Int} (h : lmN n out = bfsG (lmC n out) f k (addG ps ((lmC n out q).drop x))) (hx : (nth n q.toNat).length ≤ x) : lmN n out = bfsG (lmC n out) f k ps := by
  rw [h, addG_end (by rw [cT_len]; exact hx)]
theorem place_ext {xs t : List Int} {v : Int} (h : v ∈ xs) : place (xs ++ t) v = place xs v := by
  have h1 : ∃ i, i < xs.length ∧ place xs v = (i : Int) ∧ nth xs i = v ∧ ∀ j, j < i → (nth xs j == v) = false := by
    unfold place
    rcases firstN_cases xs.length (fun i => nth xs i == v) with ⟨h1, h2⟩ | ⟨i, h1, h2, h3, h4⟩
    · obtain ⟨i, hi, e⟩ := mem_nth h
      have := h2 i hi
      rw [e] at this; simp at this
    · exact ⟨i, h1, h2, by simpa using h3, h4⟩
  obtain ⟨i, hi, e, h2, h3⟩ := h1
  rw [e]
  unfold place
  refine firstN_at i (by rw [List.length_append]; omega) (by rw [nthA1 hi, h2]; simp) fun j hj => ?_
  rw [nthA1 (by omega)]; exact h3 j hj
theorem least_place {ys : List Int} (h : lmN n out = bfsG (lmC n out) f k (addG ps ys)) {v : Int} (hv : v ∈ ps) : place (lmN n out) v = place ps v := by
  obtain ⟨t, ht⟩ := bfsG_ext (next := lmC n out) f k (addG ps ys)
  obtain ⟨t2, ht2⟩ := addG_ext ys ps
  rw [h, ht, ht2, List.append_assoc]; exact place_ext hv
theorem leastM_1 : (leastM n out).1 = (lmN n out).map (lmR n out) := rfl
theorem leastM_2 : (leastM n out).2 = (lmN n out).map (rowN out) := rfl
theorem map_take_snoc {α β : Type} [Inhabited α] {g : α → β} {xs : List α} {k : Nat} (h : k < xs.length) : (xs.map g).take k ++ [g (nth xs k)] = (xs.map g).take (k + 1) := by
  rw [← List.map_take, ← List.map_take, take_nth h]; simp
end
section
variable {n out : List (List Int)} {os ps : List Int} {k x f : Nat}
theorem lmC_mem {q : Int} (hx : x < (nth n q.toNat).length) : nth (lmR n out q) x = place (lmN n out) (nth (alikeN n out) (nth (nth n q.toNat) x).toNat) := by
  rw [nth_map (by rw [cT_len]; exact hx), lmC_at hx]
theorem lmR_len {q : Int} : (lmR n out q).length = (nth n q.toNat).length := by rw [List.length_map, cT_len]; rfl
theorem next_yes {q : Int} (hx : x < (nth n q.toNat).length) (h : lmN n out = bfsG (lmC n out) f k (addG ps ((lmC n out q).drop x))) (hh : ¬ place ps (nth (alikeN n out) (nth (nth n q.toNat) x).toNat) < 0) : (lmR n out q).take x ++ [place ps (nth (alikeN n out) (nth (nth n q.toNat) x).toNat)] = (lmR n out q).take (x + 1) := by
  rw [take_nth (by rw [lmR_len]; exact hx), lmC_mem hx, least_place h (has_iff.1 (place_ge hh))]
theorem next_no {q : Int} (hx : x < (nth n q.toNat).length) (h : lmN n out = bfsG (lmC n out) f k (addG ps ((lmC n out q).drop x))) (hh : place ps (nth (alikeN n out) (nth (nth n q.toNat) x).toNat) < 0) : (lmR n out q).take x ++ [place (ps ++ [nth (alikeN n out) (nth (nth n q.toNat) x).toNat]) (nth (alikeN n out) (nth (nth n q.toNat) x).toNat)] = (lmR n out q).take (x + 1) := by
  rw [take_nth (by rw [lmR_len]; exact hx), lmC_mem hx, least_place (least_no hx h hh) (by simp)]
theorem lmN_nth (h : lmN n out = bfsG (lmC n out) f k os) (hk : k < os.length) : k < (lmN n out).length ∧ nth (lmN n out) k = nth os k := by
  obtain ⟨t, ht⟩ := bfsG_ext (next := lmC n out) f k os
  rw [h, ht]; exact ⟨by rw [List.length_append]; omega, nthA1 hk⟩
theorem least1_take (h : lmN n out = bfsG (lmC n out) f k os) (hk : k < os.length) : (leastM n out).1.take k ++ [lmR n out (nth os k)] = (leastM n out).1.take (k + 1) := by
  obtain ⟨h1, h2⟩ := lmN_nth h hk
  rw [← h2]; exact map_take_snoc (g := lmR n out) h1
theorem least2_take (h : lmN n out = bfsG (lmC n out) f k os) (hk : k < os.length) : (leastM n out).2.take k ++ [nth out (nth os k).toNat] = (leastM n out).2.take (k + 1) := by
  obtain ⟨h1, h2⟩ := lmN_nth h hk
  rw [← h2]; exact map_take_snoc (g := rowN out) h1
theorem least_end (h : lmN n out = bfsG (lmC n out) f k os) (hk : os.length ≤ k) : (leastM n out).1.length ≤ k ∧ (leastM n out).2.length ≤ k := by
  rw [leastM_1, leastM_2, List.length_map, List.length_map, h, bfsG_end hk]; omega
theorem least1_len (h : lmN n out = bfsG (lmC n out) f k os) (hk : k ≤ os.length) : k ≤ (leastM n out).1.length ∧ k ≤ (leastM n out).2.length := by
  obtain ⟨t, ht⟩ := bfsG_ext (next := lmC n out) f k os
  rw [leastM_1, leastM_2, List.length_map, List.length_map, h, ht, List.length_append]; omega
end
theorem machB_W {i o : Int} {n out : List (List Int)} (h : machB i o n out = true) : (pw i).toNat ≤ 4 := by
  have := sig_pw (machB_r h).1; omega
theorem leastM_lens {n out : List (List Int)} : (leastM n out).2.length = (leastM n out).1.length := by rw [leastM_1, leastM_2, List.length_map, List.length_map]
/-- two machines, row by row -/
def eqM (n out n2 out2 : List (List Int)) : Bool := decide ((n, out) = (n2, out2))
theorem eqM_no {n out n2 out2 : List (List Int)} (h : ¬ n = n2 ∨ ¬ out = out2) : false = eqM n out n2 out2 := by
  symm; unfold eqM; rw [decide_eq_false_iff_not, Prod.mk.injEq]; rintro ⟨a, b⟩; rcases h with h | h <;> contradiction
theorem eqM_yes {n out n2 out2 : List (List Int)} {j : Nat} (hl : n.length = n2.length) (h1 : out.length = n.length) (h2 : out2.length = n2.length) (hj : n.length ≤ j) (h : ∀ z, z < j → (decide (nth n z = nth n2 z) && decide (nth out z = nth out2 z)) = true) : true = eqM n out n2 out2 := by
  symm; unfold eqM; rw [decide_eq_true_eq, Prod.mk.injEq]
  have h' : ∀ z, z < n.length → nth n z = nth n2 z ∧ nth out z = nth out2 z := fun z hz => by have := h z (by omega); simpa using this
  exact ⟨list_ext hl fun z hz => (h' z hz).1, list_ext (by omega) fun z hz => (h' z (by omega)).2⟩
theorem sameM_spec {i o : Int} {n out n2 out2 : List (List Int)} (h : machB i o n out = true) (h2 : machB i o n2 out2 = true) : eqM (leastM n out).1 (leastM n out).2 (leastM n2 out2).1 (leastM n2 out2).2 = sameM i o n out n2 out2 := by
  rw [← sameM_of h h2 (same_iff (machB_ok h) (machB_ok h2))]; rfl
end Go.Proofs.Ytdkjeodenbffnaa
