/- Draws by the cursor: words. No program in sight; no conditions. -/
import Derived.Test.YtbjonekgeidoiaaCL
import Derived.Test.YtbjonekgeidoiaaDD
set_option linter.unusedSimpArgs false
set_option linter.unusedVariables false
namespace Go.Proofs.Ytbjonekgeidoiaa
open Go.RowKit
open Shp

def lstC (bs : List Int) (n : Int) : Nat → List Int → Nat × Int → List Int × (Nat × Int)
  | 0, a, s => (a, s)
  | k + 1, a, s => lstC bs n k (a ++ [belowX bs n s]) (belowS bs n s)
theorem lstC_len {bs : List Int} {n : Int} : ∀ (k : Nat) (a : List Int) (s : Nat × Int), (lstC bs n k a s).1.length = a.length + k
  | 0, a, s => rfl
  | k + 1, a, s => by simp only [lstC]; rw [lstC_len]; simp; omega
def drawL (bs : List Int) (n least : Int) (s : Nat × Int) : List Int × (Nat × Int) := lstC bs n (least + belowX bs 5 s).toNat [] (belowS bs 5 s)
theorem drawL_len {bs : List Int} {n least : Int} (s : Nat × Int) (h : 0 ≤ least) : ((drawL bs n least s).1.length : Int) ≤ least + 4 ∧ least ≤ (drawL bs n least s).1.length := by
  have h1 := belowX_rng bs 5 s
  have h2 := h1.2 (by omega)
  unfold drawL; rw [lstC_len]; simp; omega
def oddT : List Int := [-1, 0, 1, 2147483648, -2147483648, 1099511627776, 4611686018427387904, -4611686018427387904, 9223372036854775807, -9223372036854775808]
def oddX (bs : List Int) (s : Nat × Int) : Int := nth oddT (belowX bs 10 s).toNat
def numT (bs : List Int) (m : Int) (s : Nat × Int) : List Int := [-1, m, m + 1, oddX bs s]
def numA (bs : List Int) (m : Int) (s : Nat × Int) : Int × (Nat × Int) := (nth (numT bs m s) (belowX bs 4 (belowS bs 10 s)).toNat, belowS bs 4 (belowS bs 10 s))
def numB (bs : List Int) (m : Int) (s : Nat × Int) : Int × (Nat × Int) := if onceB bs 2 s = true then (belowX bs (min m 4 + 1) (belowS bs 2 s), belowS bs (min m 4 + 1) (belowS bs 2 s)) else (belowX bs (m + 1) (belowS bs 2 s), belowS bs (m + 1) (belowS bs 2 s))
def numD (bs : List Int) (m : Int) (s : Nat × Int) : Int × (Nat × Int) := if onceB bs 10 s = true then numA bs m (belowS bs 10 s) else numB bs m (belowS bs 10 s)
theorem oddT_r : ∀ k : Nat, -9223372036854775808 ≤ nth oddT k ∧ nth oddT k ≤ 9223372036854775807 := by
  intro k
  match k with
  | 0 | 1 | 2 | 3 | 4 | 5 | 6 | 7 | 8 | 9 => decide
  | k + 10 => exact (show (-9223372036854775808 ≤ (0 : Int) ∧ (0 : Int) ≤ 9223372036854775807) by decide)
theorem oddX_r (bs : List Int) (s : Nat × Int) : -9223372036854775808 ≤ oddX bs s ∧ oddX bs s ≤ 9223372036854775807 := oddT_r _
theorem numD_r (bs : List Int) {m : Int} (hm : 0 ≤ m ∧ m ≤ 2000) (s : Nat × Int) : -9223372036854775808 ≤ (numD bs m s).1 ∧ (numD bs m s).1 ≤ 9223372036854775807 := by
  unfold numD
  split
  · unfold numA
    have h := oddX_r bs (belowS bs 10 s)
    show -9223372036854775808 ≤ nth (numT bs m (belowS bs 10 s)) _ ∧ nth (numT bs m (belowS bs 10 s)) _ ≤ _
    generalize (belowX bs 4 (belowS bs 10 (belowS bs 10 s))).toNat = k
    unfold numT
    match k with
    | 0 => exact (show -9223372036854775808 ≤ (-1 : Int) ∧ (-1 : Int) ≤ 9223372036854775807 by decide)
    | 1 => exact (show -9223372036854775808 ≤ m ∧ m ≤ 9223372036854775807 by omega)
    | 2 => exact (show -9223372036854775808 ≤ m + 1 ∧ m + 1 ≤ 9223372036854775807 by omega)
    | 3 => exact h
    | k + 4 => exact (show -9223372036854775808 ≤ (0 : Int) ∧ (0 : Int) ≤ 9223372036854775807 by decide)
  · unfold numB
    split
    · have h := belowX_rng bs (min m 4 + 1) (belowS bs 2 (belowS bs 10 s))
      have h2 := h.2 (by omega)
      exact ⟨by show _ ≤ belowX _ _ _; omega, by show belowX _ _ _ ≤ _; omega⟩
    · have h := belowX_rng bs (m + 1) (belowS bs 2 (belowS bs 10 s))
      have h2 := h.2 (by omega)
      exact ⟨by show _ ≤ belowX _ _ _; omega, by show belowX _ _ _ ≤ _; omega⟩
def zerosL (n : Nat) : List Int := List.replicate n 0
/-- the word, bent sometimes -/
def bentD (bs : List Int) (n : Int) (S L : List Int) (s : Nat × Int) : (List Int × List Int) × (Nat × Int) :=
  if belowX bs 4 s = 0 then ((S, []), belowS bs 4 s) else if belowX bs 4 s = 1 then ((S ++ [(numD bs n (belowS bs 4 s)).1], L), (numD bs n (belowS bs 4 s)).2)
  else if belowX bs 4 s = 2 then ((S, L ++ [oddX bs (belowS bs 4 s)]), belowS bs 10 (belowS bs 4 s)) else ((zerosL (600 + belowX bs 2 (belowS bs 4 s)).toNat, L), belowS bs 2 (belowS bs 4 s))
def plainS (bs : List Int) (n : Int) (s : Nat × Int) : List Int × (Nat × Int) := drawL bs (max n 1) 0 s
def plainL (bs : List Int) (n : Int) (s : Nat × Int) : List Int × (Nat × Int) := drawL bs (max n 1) 1 (plainS bs n s).2
def wrdD (bs : List Int) (n : Int) (s : Nat × Int) : (List Int × List Int) × (Nat × Int) :=
  if onceB bs 15 (plainL bs n s).2 = true then bentD bs (max n 1) (plainS bs n s).1 (plainL bs n s).1 (belowS bs 15 (plainL bs n s).2) else (((plainS bs n s).1, (plainL bs n s).1), belowS bs 15 (plainL bs n s).2)
theorem wrdD_len (bs : List Int) (n : Int) (s : Nat × Int) : (wrdD bs n s).1.1.length ≤ 601 ∧ (wrdD bs n s).1.2.length ≤ 6 := by
  have h1 := drawL_len (bs := bs) (n := max n 1) s (Int.le_refl 0)
  have h2 := drawL_len (bs := bs) (n := max n 1) (least := 1) (plainS bs n s).2 (by omega)
  have h3 : (plainS bs n s).1.length ≤ 4 := by show (drawL bs (max n 1) 0 s).1.length ≤ 4; omega
  have h4 : (plainL bs n s).1.length ≤ 5 := by show (drawL bs (max n 1) 1 (plainS bs n s).2).1.length ≤ 5; omega
  unfold wrdD
  split
  · generalize belowS bs 15 (plainL bs n s).2 = t
    have h5 := belowX_rng bs 2 (belowS bs 4 t)
    have h6 := h5.2 (by omega)
    unfold bentD
    split
    · exact ⟨by show (plainS bs n s).1.length ≤ 601; omega, by simp⟩
    · split
      · exact ⟨by show ((plainS bs n s).1 ++ [_]).length ≤ 601; simp; omega, by show (plainL bs n s).1.length ≤ 6; omega⟩
      · split
        · exact ⟨by show (plainS bs n s).1.length ≤ 601; omega, by show ((plainL bs n s).1 ++ [_]).length ≤ 6; simp; omega⟩
        · exact ⟨by show (zerosL _).length ≤ 601; unfold zerosL; rw [List.length_replicate]; omega, by show (plainL bs n s).1.length ≤ 6; omega⟩
  · exact ⟨by show (plainS bs n s).1.length ≤ 601; omega, by show (plainL bs n s).1.length ≤ 6; omega⟩
/-! the same word in another form -/
def appN (l : List Int) : Nat → List Int → List Int
  | 0, x => x
  | k + 1, x => appN l k (x ++ l)
theorem appN_len {l : List Int} : ∀ (k : Nat) (x : List Int), (appN l k x).length = x.length + k * l.length
  | 0, x => by simp [appN]
  | k + 1, x => by simp only [appN]; rw [appN_len, List.length_append, Nat.succ_mul]; omega
def rotN : Nat → List Int → List Int → List Int × List Int
  | 0, s, l => (s, l)
  | k + 1, s, l => rotN k (s ++ [nth l 0]) (l.drop 1 ++ [nth l 0])
theorem rotN_len : ∀ (k : Nat) (s l : List Int), 1 ≤ l.length → (rotN k s l).1.length = s.length + k ∧ (rotN k s l).2.length = l.length
  | 0, s, l, _ => ⟨rfl, rfl⟩
  | k + 1, s, l, h => by
    simp only [rotN]
    have := rotN_len k (s ++ [nth l 0]) (l.drop 1 ++ [nth l 0]) (by simp)
    simp only [List.length_append, List.length_drop, List.length_singleton] at this; omega
def otherS (bs : List Int) (t : Nat × Int) : Nat × Int := belowS bs 3 (belowS bs 3 (belowS bs 3 t))
def otherD (bs : List Int) (s l : List Int) (t : Nat × Int) : List Int × List Int := rotN (belowX bs 3 (belowS bs 3 (belowS bs 3 t))).toNat (appN l (belowX bs 3 t).toNat s) (appN l (belowX bs 3 (belowS bs 3 t)).toNat l)
def sameD2 (bs : List Int) : (List Int × List Int) × (List Int × List Int) :=
  if onceB bs 2 (wrdD bs 3 (newS bs)).2 = true ∨ wordB (wrdD bs 3 (newS bs)).1.1 (wrdD bs 3 (newS bs)).1.2 16 = false then ((wrdD bs 3 (newS bs)).1, (wrdD bs 3 (belowS bs 2 (wrdD bs 3 (newS bs)).2)).1)
  else ((wrdD bs 3 (newS bs)).1, otherD bs (wrdD bs 3 (newS bs)).1.1 (wrdD bs 3 (newS bs)).1.2 (belowS bs 2 (wrdD bs 3 (newS bs)).2))
def tailD (bs : List Int) : (List Int × List Int) × Int :=
  if onceB bs 6 (wrdD bs 4 (newS bs)).2 = true then ((wrdD bs 4 (newS bs)).1, (numD bs 1200 (belowS bs 6 (wrdD bs 4 (newS bs)).2)).1) else ((wrdD bs 4 (newS bs)).1, fromX bs (-1) 14 (belowS bs 6 (wrdD bs 4 (newS bs)).2))
theorem tailD_r (bs : List Int) : (-9223372036854775808 ≤ (tailD bs).2 ∧ (tailD bs).2 ≤ 9223372036854775807) ∧ (tailD bs).1.1.length ≤ 601 ∧ (tailD bs).1.2.length ≤ 6 := by
  have h := wrdD_len bs 4 (newS bs)
  unfold tailD
  split
  · exact ⟨numD_r bs ⟨by omega, by omega⟩ _, h⟩
  · have := fromX_rng bs (-1) 14 (belowS bs 6 (wrdD bs 4 (newS bs)).2) (by omega)
    exact ⟨⟨by show _ ≤ fromX _ _ _ _; omega, by show fromX _ _ _ _ ≤ _; omega⟩, h⟩
theorem otherD_len {bs s l : List Int} {t : Nat × Int} (hs : s.length ≤ 601) (hl : 1 ≤ l.length) (hl2 : l.length ≤ 601) : (otherD bs s l t).1.length ≤ 2000 ∧ (otherD bs s l t).2.length ≤ 2000 := by
  unfold otherD
  have h1 := belowX_rng bs 3 t
  have h2 := belowX_rng bs 3 (belowS bs 3 t)
  have h3 := belowX_rng bs 3 (belowS bs 3 (belowS bs 3 t))
  have k1 := h1.2 (by omega)
  have k2 := h2.2 (by omega)
  have k3 := h3.2 (by omega)
  have a1 := appN_len (l := l) (belowX bs 3 t).toNat s
  have a2 := appN_len (l := l) (belowX bs 3 (belowS bs 3 t)).toNat l
  have m1 : (belowX bs 3 t).toNat * l.length ≤ 2 * 601 := Nat.mul_le_mul (by omega) hl2
  have m2 : (belowX bs 3 (belowS bs 3 t)).toNat * l.length ≤ 2 * 601 := Nat.mul_le_mul (by omega) hl2
  have r := rotN_len (belowX bs 3 (belowS bs 3 (belowS bs 3 t))).toNat (appN l (belowX bs 3 t).toNat s) (appN l (belowX bs 3 (belowS bs 3 t)).toNat l) (by omega)
  omega
theorem sameD2_len (bs : List Int) : (sameD2 bs).1.1.length ≤ 2000 ∧ (sameD2 bs).1.2.length ≤ 2000 ∧ (sameD2 bs).2.1.length ≤ 2000 ∧ (sameD2 bs).2.2.length ≤ 2000 := by
  have h := wrdD_len bs 3 (newS bs)
  have h2 := wrdD_len bs 3 (belowS bs 2 (wrdD bs 3 (newS bs)).2)
  unfold sameD2
  split
  · exact ⟨by show (wrdD bs 3 (newS bs)).1.1.length ≤ 2000; omega, by show (wrdD bs 3 (newS bs)).1.2.length ≤ 2000; omega, by show (wrdD bs 3 (belowS bs 2 (wrdD bs 3 (newS bs)).2)).1.1.length ≤ 2000; omega, by show (wrdD bs 3 (belowS bs 2 (wrdD bs 3 (newS bs)).2)).1.2.length ≤ 2000; omega⟩
  · rename_i hn
    have hw : wordB (wrdD bs 3 (newS bs)).1.1 (wrdD bs 3 (newS bs)).1.2 16 = true := by
      cases e : wordB (wrdD bs 3 (newS bs)).1.1 (wrdD bs 3 (newS bs)).1.2 16
      · exact absurd (.inr e) hn
      · rfl
    have hl := wordB_r hw
    have h3 := otherD_len (bs := bs) (t := belowS bs 2 (wrdD bs 3 (newS bs)).2) (s := (wrdD bs 3 (newS bs)).1.1) (l := (wrdD bs 3 (newS bs)).1.2) (by omega) (by omega) (by omega)
    exact ⟨by show (wrdD bs 3 (newS bs)).1.1.length ≤ 2000; omega, by show (wrdD bs 3 (newS bs)).1.2.length ≤ 2000; omega, h3.1, h3.2⟩
/-! the law of words -/
theorem words_same {s l s2 l2 : List Int} (h : sameW s l s2 l2 = true) : leastO s l = leastO s2 l2 := by
  unfold sameW at h
  simp only [Bool.and_eq_true, decide_eq_true_eq] at h
  rw [leastO_t h.1.1, leastO_t h.1.2, h.2]
theorem words_not {s l s2 l2 : List Int} (h : sameW s l s2 l2 = false) (hl : 0 < (leastO s l).2.length) : leastO s l ≠ leastO s2 l2 := by
  intro e
  have h1 : wordB s l 16 = true := by
    cases h1 : wordB s l 16
    · rw [leastO_f h1] at hl; simp at hl
    · rfl
  have h2 : wordB s2 l2 16 = true := by
    cases h2 : wordB s2 l2 16
    · rw [e, leastO_f h2] at hl; simp at hl
    · rfl
  unfold sameW at h
  rw [h1, h2, ← leastO_t h1, ← leastO_t h2, e] at h
  simp at h
theorem words_eq {s l s2 l2 : List Int} (h : sameW s l s2 l2 = true) : eqInts (leastO s l).1 (leastO s2 l2).1 = true ∧ eqInts (leastO s l).2 (leastO s2 l2).2 = true := by
  rw [words_same h]; exact ⟨eqInts_refl _, eqInts_refl _⟩
theorem words_ne {s l s2 l2 : List Int} (h : sameW s l s2 l2 = false) (hl : 0 < (leastO s l).2.length) (h1 : eqInts (leastO s l).1 (leastO s2 l2).1 = true) (h2 : eqInts (leastO s l).2 (leastO s2 l2).2 = true) : False :=
  words_not h hl (Prod.ext (eqInts_iff.1 h1) (eqInts_iff.1 h2))
theorem words_tail {s l : List Int} {k i : Int} (h : 0 < (tailO s l k).2.length) (hi : 0 ≤ i) : (if wordB (tailO s l k).1 (tailO s l k).2 16 = true ∧ 0 ≤ i then atW (tailO s l k).1 (tailO s l k).2 i else -1) = (if wordB s l 16 = true ∧ 0 ≤ k + i then atW s l (k + i) else -1) ∧ 0 ≤ k ∧ k ≤ 1200 := by
  have hw : wordB s l 16 = true ∧ 0 ≤ k ∧ k ≤ 1200 := by
    apply Classical.byContradiction; intro hn
    rw [tailO_no hn] at h; simp at h
  obtain ⟨h1, h2⟩ := tail_word hw.1 (Int.le_refl _) hw.2.1 hw.2.2
  refine ⟨?_, hw.2⟩
  rw [if_pos ⟨h1, hi⟩, if_pos ⟨hw.1, by omega⟩]
  obtain ⟨a, rfl⟩ : ∃ a : Nat, i = (a : Int) := ⟨i.toNat, by omega⟩
  rw [atW_nat, h2, show k + (a : Int) = ((k.toNat + a : Nat) : Int) by omega, atW_nat]
end Go.Proofs.Ytbjonekgeidoiaa

