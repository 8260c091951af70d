/- Two automata joined: pairs as rows, parts of pairs, what the product is. No program in sight; no conditions. -/
import Derived.Test.YtgfnpphhdkjlmaaJM
set_option linter.unusedSimpArgs false
set_option linter.unusedVariables false
namespace Go.Proofs.Ytgfnpphhdkjlmaa
open Go.RowKit
open Shp
def prR (os : List (Int × Int)) : List (List Int) := os.map fun x => [x.1, x.2]
theorem prR_len {os : List (Int × Int)} : (prR os).length = os.length := by simp [prR]
theorem prR_nth {os : List (Int × Int)} {k : Nat} (h : k < os.length) : nth (prR os) k = [(nth os k).1, (nth os k).2] := nth_map h
theorem prR_0 {os : List (Int × Int)} {k : Nat} (h : k < os.length) : nth (nth (prR os) k) 0 = (nth os k).1 := by rw [prR_nth h]; rfl
theorem prR_1 {os : List (Int × Int)} {k : Nat} (h : k < os.length) : nth (nth (prR os) k) 1 = (nth os k).2 := by rw [prR_nth h]; rfl
theorem prR_snoc {os : List (Int × Int)} {x : Int × Int} : prR os ++ [[x.1, x.2]] = prR (os ++ [x]) := by simp [prR]
theorem prR_w {os : List (Int × Int)} {k : Nat} (h : k < os.length) : (nth (prR os) k).length = 2 := by rw [prR_nth h]; rfl
def colR (ms : List (List Int)) (t : Nat) : List Int := ms.map fun r => nth r t
theorem colR_len {ms : List (List Int)} {t : Nat} : (colR ms t).length = ms.length := by simp [colR]
theorem colR_nth {ms : List (List Int)} {t k : Nat} (h : k < ms.length) : nth (colR ms t) k = nth (nth ms k) t := nth_map h
theorem colR_0 {os : List (Int × Int)} : colR (prR os) 0 = os.map Prod.fst := by
  unfold colR prR; rw [List.map_map]; rfl
theorem colR_1 {os : List (Int × Int)} : colR (prR os) 1 = os.map Prod.snd := by
  unfold colR prR; rw [List.map_map]; rfl
def pairsM (ps : List (List Int × List Int)) (ms : List (List Int)) (t : Nat) : List (List Int × List Int) := pairsP ps (colR ms t)
theorem pairsP_len {ps : List (List Int × List Int)} {xs : List Int} : (pairsP ps xs).length = ps.length := by simp [pairsP]
theorem pairsP_take {ps : List (List Int × List Int)} {xs : List Int} {q : Nat} (h : q < ps.length) : (pairsP ps xs).take q ++ [(inPart (nth ps q).1 xs xs.length, inPart (nth ps q).2 xs xs.length)] = (pairsP ps xs).take (q + 1) := map_take_snoc (g := pairP xs) h
theorem pairsM_len {ps : List (List Int × List Int)} {ms : List (List Int)} {t : Nat} : (pairsM ps ms t).length = ps.length := pairsP_len
theorem pairsM_take {ps : List (List Int × List Int)} {ms : List (List Int)} {t q : Nat} (h : q < ps.length) : (pairsM ps ms t).take q ++ [(inPart (nth ps q).1 (colR ms t) (colR ms t).length, inPart (nth ps q).2 (colR ms t) (colR ms t).length)] = (pairsM ps ms t).take (q + 1) := pairsP_take h
theorem inPart_yesM {s : List Int} {ms : List (List Int)} {t x : Nat} (hx : x < ms.length) (h : has s (nth (nth ms x) t) = true) : inPart s (colR ms t) x ++ [(x : Int)] = inPart s (colR ms t) (x + 1) := inPart_yes (by rw [colR_nth hx]; exact h)
theorem inPart_noM {s : List Int} {ms : List (List Int)} {t x : Nat} (hx : x < ms.length) (h : has s (nth (nth ms x) t) = false) : inPart s (colR ms t) x = inPart s (colR ms t) (x + 1) := inPart_no (by rw [colR_nth hx]; exact h)
theorem placeR_no1 {os : List (Int × Int)} {p q : Int} {k : Nat} (hk : k < os.length) (h : ¬ nth (nth (prR os) k) 0 = p) : decide (nth os k = (p, q)) = false := by
  rw [prR_0 hk] at h
  exact decide_eq_false fun e => h (by rw [e])
theorem placeR_no2 {os : List (Int × Int)} {p q : Int} {k : Nat} (hk : k < os.length) (h : ¬ nth (nth (prR os) k) 1 = q) : decide (nth os k = (p, q)) = false := by
  rw [prR_1 hk] at h
  exact decide_eq_false fun e => h (by rw [e])
theorem placeR_yes {os : List (Int × Int)} {p q : Int} {k : Nat} (hk : k < os.length) (h : nth (nth (prR os) k) 0 = p) (h2 : nth (nth (prR os) k) 1 = q) (hb : ∀ z, z < k → decide (nth os z = (p, q)) = false) : (k : Int) = placeP os (p, q) := by
  rw [prR_0 hk] at h; rw [prR_1 hk] at h2
  unfold placeP
  exact (firstN_at k hk (decide_eq_true (by rw [← h, ← h2])) hb).symm
theorem placeR_none {os : List (Int × Int)} {p q : Int} {k : Nat} (hk : os.length ≤ k) (hb : ∀ z, z < k → decide (nth os z = (p, q)) = false) : -1 = placeP os (p, q) := by
  unfold placeP
  exact (firstN_none fun j hj => hb j (by omega)).symm
def dets2 (n : List (List Int)) (ps : List (List Int × List Int)) (n2 : List (List Int)) (ps2 : List (List Int × List Int)) : List (List (List Int) × List (List Int × List Int)) := [(n, ps), (n2, ps2)]
def colP (os : List (Int × Int)) (w : Nat) : List Int := if w = 0 then os.map Prod.fst else os.map Prod.snd
theorem colP_len {os : List (Int × Int)} {w : Nat} : (colP os w).length = os.length := by unfold colP; split <;> simp
theorem colP_nth {os : List (Int × Int)} {w x : Nat} (hx : x < os.length) : nth (colP os w) x = if (w : Int) = 0 then (nth os x).1 else (nth os x).2 := by
  unfold colP
  by_cases h : w = 0
  · rw [if_pos h, if_pos (by omega)]; exact nth_map hx
  · rw [if_neg h, if_neg (by omega)]; exact nth_map hx
def joinPs (n : List (List Int)) (ps : List (List Int × List Int)) (n2 : List (List Int)) (ps2 : List (List Int × List Int)) (os : List (Int × Int)) : Nat → List (List Int × List Int)
  | 0 => []
  | w + 1 => joinPs n ps n2 ps2 os w ++ pairsP (nth (dets2 n ps n2 ps2) w).2 (colP os w)
theorem joinPs_2 {n : List (List Int)} {ps : List (List Int × List Int)} {n2 : List (List Int)} {ps2 : List (List Int × List Int)} {os : List (Int × Int)} : joinPs n ps n2 ps2 os 2 = pairsP ps (os.map Prod.fst) ++ pairsP ps2 (os.map Prod.snd) := rfl
theorem joinPs_len {n : List (List Int)} {ps : List (List Int × List Int)} {n2 : List (List Int)} {ps2 : List (List Int × List Int)} {os : List (Int × Int)} {w : Nat} (hl : ps.length + ps2.length ≤ 4) (hw : w ≤ 2) : (joinPs n ps n2 ps2 os w).length ≤ 4 := by
  have h : w = 0 ∨ w = 1 ∨ w = 2 := by omega
  rcases h with rfl | rfl | rfl
  · simp [joinPs]
  · simp [joinPs, pairsP_len, dets2, nth]; omega
  · rw [joinPs_2, List.length_append, pairsP_len, pairsP_len]; omega
theorem dets2_len {n : List (List Int)} {ps : List (List Int × List Int)} {n2 : List (List Int)} {ps2 : List (List Int × List Int)} (hl : ps.length + ps2.length ≤ 4) {w : Nat} (hw : w < 2) : (nth (dets2 n ps n2 ps2) w).2.length ≤ 4 := by
  have h : w = 0 ∨ w = 1 := by omega
  rcases h with rfl | rfl
  · simp [dets2, nth]; omega
  · simp [dets2, nth]; omega
theorem inPart_yesP {s : List Int} {os : List (Int × Int)} {w x : Nat} (hx : x < os.length) (h : has s (if (w : Int) = 0 then (nth os x).1 else (nth os x).2) = true) : inPart s (colP os w) x ++ [(x : Int)] = inPart s (colP os w) (x + 1) := inPart_yes (by rw [colP_nth hx]; exact h)
theorem inPart_noP {s : List Int} {os : List (Int × Int)} {w x : Nat} (hx : x < os.length) (h : has s (if (w : Int) = 0 then (nth os x).1 else (nth os x).2) = false) : inPart s (colP os w) x = inPart s (colP os w) (x + 1) := inPart_no (by rw [colP_nth hx]; exact h)
section
variable {a b : List (List Int)} {os ps : List (Int × Int)} {k x : Nat}
def rowX (a b : List (List Int)) (ps : List (Int × Int)) (q : Int × Int) (x : Nat) : List Int := ((succP a b q).take x).map (placeP ps)
theorem rowX_len {q : Int × Int} (h : x ≤ (nth a q.1.toNat).length) : (rowX a b ps q x).length = x := by
  have : x ≤ (rowN a q.1).length := h
  unfold rowX; rw [List.length_map, List.length_take, succP_len]; omega
theorem rowX_yes {q : Int × Int} (hx : x < (nth a q.1.toNat).length) : rowX a b ps q x ++ [placeP ps (nth (nth a q.1.toNat) x, nth (nth b q.2.toNat) x)] = rowX a b ps q (x + 1) := by
  have hx' : x < (rowN a q.1).length := hx
  unfold rowX; rw [take_nth (by rw [succP_len]; exact hx'), List.map_append, succP_nth hx']; rfl
def Seen (a b : List (List Int)) (ps : List (Int × Int)) (q : Int × Int) (x : Nat) : Prop := ∀ y ∈ (succP a b q).take x, y ∈ ps
theorem Seen.zero {q : Int × Int} : Seen a b ps q 0 := fun y hy => by simp at hy
theorem Seen.yes {q : Int × Int} (h : Seen a b ps q x) (hx : x < (nth a q.1.toNat).length) (hh : hasP ps (nth (nth a q.1.toNat) x, nth (nth b q.2.toNat) x) = true) : Seen a b ps q (x + 1) := fun y hy => by
  have hx' : x < (rowN a q.1).length := hx
  rw [take_nth (by rw [succP_len]; exact hx'), succP_nth hx'] at hy
  rcases List.mem_append.1 hy with h1 | h1
  · exact h y h1
  · simp only [List.mem_singleton] at h1; subst h1; exact hasP_iff.1 hh
theorem Seen.no {q : Int × Int} (h : Seen a b ps q x) (hx : x < (nth a q.1.toNat).length) : Seen a b (ps ++ [(nth (nth a q.1.toNat) x, nth (nth b q.2.toNat) x)]) q (x + 1) := fun y hy => by
  have hx' : x < (rowN a q.1).length := hx
  rw [take_nth (by rw [succP_len]; exact hx'), succP_nth hx'] at hy
  rcases List.mem_append.1 hy with h1 | h1
  · exact List.mem_append.2 (.inl (h y h1))
  · simp only [List.mem_singleton] at h1; subst h1; exact List.mem_append.2 (.inr (by simp [rowN]))
theorem rowX_ext {q : Int × Int} {y : Int × Int} (h : Seen a b ps q x) : rowX a b (ps ++ [y]) q x = rowX a b ps q x := by
  unfold rowX; exact List.map_congr_left fun z hz => placeP_app (h z hz)
theorem rowX_no {q : Int × Int} (h : Seen a b ps q x) (hx : x < (nth a q.1.toNat).length) (hh : hasP ps (nth (nth a q.1.toNat) x, nth (nth b q.2.toNat) x) = false) : rowX a b ps q x ++ [(ps.length : Int)] = rowX a b (ps ++ [(nth (nth a q.1.toNat) x, nth (nth b q.2.toNat) x)]) q (x + 1) := by
  rw [← rowX_yes hx, rowX_ext h, placeP_new hh]
theorem rowX_end {q : Int × Int} (hx : (nth a q.1.toNat).length ≤ x) : rowX a b ps q x = (succP a b q).map (placeP ps) := by
  have hx' : (rowN a q.1).length ≤ x := hx
  unfold rowX; rw [List.take_of_length_le (by rw [succP_len]; exact hx')]
theorem Seen.all {q : Int × Int} (h : Seen a b ps q x) (hx : (nth a q.1.toNat).length ≤ x) : ∀ y ∈ succP a b q, y ∈ ps := fun y hy => by
  have hx' : (rowN a q.1).length ≤ x := hx
  exact h y (by rw [List.take_of_length_le (by rw [succP_len]; exact hx')]; exact hy)
theorem add_yes {q : Int × Int} {L : List (Int × Int)} (hx : x < (nth a q.1.toNat).length) (h : addG ps ((succP a b q).drop x) = L) (hh : hasP ps (nth (nth a q.1.toNat) x, nth (nth b q.2.toNat) x) = true) : addG ps ((succP a b q).drop (x + 1)) = L := by
  have hx' : x < (rowN a q.1).length := hx
  rw [addG_drop (by rw [succP_len]; exact hx'), if_pos (by rw [succP_nth hx']; exact hasP_iff.1 hh)] at h; exact h
theorem add_no {q : Int × Int} {L : List (Int × Int)} (hx : x < (nth a q.1.toNat).length) (h : addG ps ((succP a b q).drop x) = L) (hh : hasP ps (nth (nth a q.1.toNat) x, nth (nth b q.2.toNat) x) = false) : addG (ps ++ [(nth (nth a q.1.toNat) x, nth (nth b q.2.toNat) x)]) ((succP a b q).drop (x + 1)) = L := by
  have hx' : x < (rowN a q.1).length := hx
  rw [addG_drop (by rw [succP_len]; exact hx'), if_neg (by rw [succP_nth hx']; exact fun m => by have e : hasP ps (nth (nth a q.1.toNat) x, nth (nth b q.2.toNat) x) = true := hasP_iff.2 m; rw [e] at hh; cases hh), succP_nth hx'] at h; exact h
theorem add_end {q : Int × Int} {L : List (Int × Int)} (hx : (nth a q.1.toNat).length ≤ x) (h : addG ps ((succP a b q).drop x) = L) : ps = L := by
  rw [addG_end (by rw [succP_len]; exact hx)] at h; exact h
theorem jn_many (h : jnF a b = jnG a b (48 - k) k os) (hk : k < os.length) (hl : os.length ≤ 48) (e : ps = addG os (succP a b (nth os k))) (hp : 48 < ps.length) : jnF a b = none := by
  rw [jn_in h hk hl, List.drop_zero, ← e, if_pos hp]
theorem jn_next (h : jnF a b = jnG a b (48 - k) k os) (hk : k < os.length) (hl : os.length ≤ 48) (e : ps = addG os (succP a b (nth os k))) (hp : ps.length ≤ 48) : jnF a b = jnG a b (48 - (k + 1)) (k + 1) ps := by
  rw [jn_in h hk hl, List.drop_zero, ← e, if_neg (by omega)]
theorem rows_step (hc : Clo a b os k) (g4 : Ext os ps) (hk : k < os.length) : rowsP a b os k ++ [(succP a b (nth os k)).map (placeP ps)] = rowsP a b ps (k + 1) := by
  have e := g4.nth hk
  have hl := g4.len
  rw [rowsP_next (by omega), e]
  obtain ⟨t, rfl⟩ := g4
  rw [rowsP_ext hc (by omega)]
theorem Clo.step (hc : Clo a b os k) (g4 : Ext os ps) (hk : k < os.length) (h : ∀ y ∈ succP a b (nth os k), y ∈ ps) : Clo a b ps (k + 1) := (hc.ext g4 (by omega)).next (by rw [g4.nth hk]; exact h)
theorem rowsP_all (h : os.length ≤ k) : rowsP a b os k = rowsP a b os os.length := by
  unfold rowsP; rw [List.take_of_length_le h, List.take_of_length_le (Nat.le_refl _)]
end
end Go.Proofs.Ytgfnpphhdkjlmaa

