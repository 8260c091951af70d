/- Clauses on words. No program in sight; no conditions. -/
import Derived.Test.YtbjonekgeidoiaaMM
set_option linter.unusedSimpArgs false
set_option linter.unusedVariables false
namespace Go.Proofs.Ytbjonekgeidoiaa
open Go.RowKit
open Shp

/-- some letter of the list is in the set -/
def someH (xs a : List Int) : Bool := !allN xs.length fun i => !has a (nth xs i)
def eachH (xs a : List Int) : Bool := allN xs.length fun i => has a (nth xs i)
theorem eachH_iff {xs a : List Int} : eachH xs a = true ↔ ∀ x ∈ xs, x ∈ a := by
  unfold eachH; rw [allN_iff]
  constructor
  · intro h x hx
    obtain ⟨i, hi, rfl⟩ := mem_nth hx
    exact has_iff.1 (h i hi)
  · intro h j hj; exact has_iff.2 (h _ (nth_mem hj))
theorem someH_iff {xs a : List Int} : someH xs a = true ↔ ∃ x ∈ xs, x ∈ a := by
  unfold someH
  constructor
  · intro h
    apply Classical.byContradiction
    intro hn
    rw [allN_true (fun j hj => ?_)] at h
    · cases h
    · cases e : has a (nth xs j)
      · rfl
      · exact absurd ⟨_, nth_mem hj, has_iff.1 e⟩ hn
  · rintro ⟨x, hx, ha⟩
    obtain ⟨i, hi, rfl⟩ := mem_nth hx
    rw [allN_false i hi (by rw [has_iff.2 ha]; rfl)]; rfl
theorem someH_false {xs a : List Int} : someH xs a = false ↔ ∀ x ∈ xs, x ∉ a := by
  rw [← Bool.not_eq_true, someH_iff]; simp
/-- the way of a word, and one letter more -/
def wayH (s l : List Int) : List Int := s ++ l ++ [nth l 0]
theorem mem_way {s l : List Int} (hl : 1 ≤ l.length) (x : Int) : x ∈ wayH s l ↔ x ∈ s ++ l := by
  unfold wayH
  have := nth_mem (xs := l) (k := 0) (by omega)
  simp only [List.mem_append, List.mem_singleton]
  constructor
  · rintro (h | rfl)
    · exact h
    · exact .inr this
  · exact .inl
theorem someH_way {s l a : List Int} (hl : 1 ≤ l.length) : someH (wayH s l) a = someH (s ++ l) a := by
  rw [Bool.eq_iff_iff, someH_iff, someH_iff]; simp only [mem_way hl]
theorem eachH_way {s l a : List Int} (hl : 1 ≤ l.length) : eachH (wayH s l) a = eachH (s ++ l) a := by
  rw [Bool.eq_iff_iff, eachH_iff, eachH_iff]; simp only [mem_way hl]
/-- each letter of a is followed by one of b -/
def nextRow (all : List Int) (back : Nat) (a b : List Int) (i : Nat) : Bool := !(has a (nth all i)) || has b (nth all (if i + 1 < all.length then i + 1 else back))
def nextH (all : List Int) (back : Nat) (a b : List Int) : Bool := allN all.length (nextRow all back a b)
/-- the same along the way -/
def wayRow (way a b : List Int) (i : Nat) : Bool := !(has a (nth way i)) || has b (nth way (i + 1))
theorem nth_app1 {xs ys : List Int} {i : Nat} (h : i < xs.length) : nth (xs ++ ys) i = nth xs i := by unfold nth; simp only [List.getD_eq_getElem?_getD]; rw [List.getElem?_append_left h]
theorem nth_app2 {xs ys : List Int} {i : Nat} (h : xs.length ≤ i) : nth (xs ++ ys) i = nth ys (i - xs.length) := by unfold nth; simp only [List.getD_eq_getElem?_getD]; rw [List.getElem?_append_right h]
theorem way_len {s l : List Int} : (wayH s l).length = s.length + l.length + 1 := by simp [wayH]; omega
theorem nextH_way {s l a b : List Int} (hl : 1 ≤ l.length) : (allN (s.length + l.length) (wayRow (wayH s l) a b)) = nextH (s ++ l) s.length a b := by
  unfold nextH
  rw [List.length_append]
  refine allN_congr fun j hj => ?_
  unfold wayRow nextRow
  rw [List.length_append]
  have e1 : nth (wayH s l) j = nth (s ++ l) j := nth_app1 (by simpa using hj)
  rw [e1]
  congr 2
  split
  · rename_i h; exact nth_app1 (by simpa using h)
  · rename_i h
    have h2 : j + 1 = (s ++ l).length := by simp; omega
    rw [show nth (wayH s l) (j + 1) = nth [nth l 0] (j + 1 - (s ++ l).length) from nth_app2 (by omega), h2, Nat.sub_self, nth_app2 (by omega), Nat.sub_self]; rfl
/-- an answer is pending -/
def pendL (a b : List Int) : Bool → List Int → Bool
  | p, [] => p
  | p, x :: xs => pendL a b ((p || has a x) && !has b x) xs
theorem pendL_iff {a b : List Int} : ∀ (xs : List Int) (p : Bool), pendL a b p xs = true ↔ ((p = true ∧ someH xs b = false) ∨ ∃ i, i < xs.length ∧ has a (nth xs i) = true ∧ someH (xs.drop i) b = false)
  | [], p => by
    simp only [pendL, someH_false]
    constructor
    · intro h; exact .inl ⟨h, by simp⟩
    · rintro (h | ⟨i, hi, _⟩)
      · exact h.1
      · simp at hi
  | x :: xs, p => by
    simp only [pendL]
    rw [pendL_iff xs]
    have key : someH (x :: xs) b = false ↔ has b x = false ∧ someH xs b = false := by
      rw [someH_false, someH_false, ← Bool.not_eq_true, has_iff]
      simp
    constructor
    · rintro (⟨h1, h2⟩ | ⟨i, hi, h1, h2⟩)
      · simp only [Bool.and_eq_true, Bool.or_eq_true, Bool.not_eq_true'] at h1
        rcases h1.1 with h3 | h3
        · exact .inl ⟨h3, key.2 ⟨h1.2, h2⟩⟩
        · exact .inr ⟨0, by simp, by simpa [nth] using h3, by rw [List.drop_zero]; exact key.2 ⟨h1.2, h2⟩⟩
      · exact .inr ⟨i + 1, by simp; omega, by simpa [nth] using h1, by simpa using h2⟩
    · rintro (⟨h1, h2⟩ | ⟨i, hi, h1, h2⟩)
      · have := key.1 h2
        exact .inl ⟨by simp [h1, this.1], this.2⟩
      · rcases i with _ | i
        · rw [List.drop_zero] at h2
          have := key.1 h2
          exact .inl ⟨by simp [this.1, show has a x = true by simpa [nth] using h1], this.2⟩
        · exact .inr ⟨i, by simpa using hi, by simpa [nth] using h1, by simpa using h2⟩
def ansRow (all a b : List Int) (i : Nat) : Bool := !(has a (nth all i)) || someH (all.drop i) b
def ansH (s l a b : List Int) : Bool := someH l b || allN (s ++ l).length (ansRow (s ++ l) a b)
theorem ansH_pend {s l a b : List Int} : (!(pendL a b false (s ++ l)) || someH l b) = ansH s l a b := by
  unfold ansH
  cases e : someH l b
  · rw [Bool.or_false, Bool.false_or, Bool.eq_iff_iff, Bool.not_eq_true', ← Bool.not_eq_true, pendL_iff, allN_iff]
    constructor
    · intro h j hj
      unfold ansRow
      cases e1 : has a (nth (s ++ l) j)
      · rfl
      · cases e2 : someH ((s ++ l).drop j) b
        · exact absurd (.inr ⟨j, hj, e1, e2⟩) h
        · rfl
    · rintro h (⟨h1, _⟩ | ⟨i, hi, h1, h2⟩)
      · cases h1
      · have := h i hi
        unfold ansRow at this
        rw [h1, h2] at this; cases this
  · simp
theorem pendL_step {a b : List Int} {p : Bool} {xs : List Int} {i : Nat} (h : i < xs.length) : pendL a b p (xs.drop i) = pendL a b ((p || has a (nth xs i)) && !has b (nth xs i)) (xs.drop (i + 1)) := by rw [drop_nth h]; rfl
/-- does the clause hold on the word? -/
def holdsB (k : Int) (a b s l : List Int) : Bool :=
  if k = 1 then eachH (s ++ l) a else if k = 2 then nextH (s ++ l) s.length a b else if k = 3 then ansH s l a b else if k = 4 then someH l a else if k = 5 then eachH l a else if k = 6 then someH (s ++ l) a else !someH l a || someH l b
def holdsO (i o k : Int) (a b s l : List Int) : Bool := sigB i o && clauseB (lettersB i o) k a b && wordB s l (lettersB i o) && holdsB k a b s l
/-! what the program's ways come to -/
theorem each_nn {xs a : List Int} : (!(!allN xs.length fun i => !(!has a (nth xs i)))) = eachH xs a := by simp only [Bool.not_not]; rfl
theorem holds1 {a b s l : List Int} (hl : 1 ≤ l.length) : (!(!allN (wayH s l).length fun i => !(!has a (nth (wayH s l) i)))) = holdsB 1 a b s l := by rw [each_nn, eachH_way hl]; rfl
theorem holds2t {a b s l : List Int} {j : Nat} (hl : 1 ≤ l.length) (h : ∀ q, q < j → wayRow (wayH s l) a b q = true) (hj : s.length + l.length ≤ j) : true = holdsB 2 a b s l := by
  show true = nextH (s ++ l) s.length a b
  rw [← nextH_way hl, allN_true fun q hq => h q (by omega)]
theorem holds2f {a b s l : List Int} {j : Nat} (hl : 1 ≤ l.length) (h : wayRow (wayH s l) a b j = false) (hj : j < s.length + l.length) : false = holdsB 2 a b s l := by
  show false = nextH (s ++ l) s.length a b
  rw [← nextH_way hl, allN_false j hj h]
theorem holds3 {a b s l : List Int} {j : Nat} {p : Bool} (h : pendL a b p ((s ++ l).drop j) = pendL a b false (s ++ l)) (hj : s.length + l.length ≤ j) : (!p || someH l b) = holdsB 3 a b s l := by
  show _ = ansH s l a b
  rw [← ansH_pend, ← h, List.drop_eq_nil_of_le (by rw [List.length_append]; omega)]; rfl
theorem holds4 {a b s l : List Int} : someH l a = holdsB 4 a b s l := rfl
theorem holds5 {a b s l : List Int} : (!(!allN l.length fun i => !(!has a (nth l i)))) = holdsB 5 a b s l := by rw [each_nn]; rfl
theorem holds6 {a b s l : List Int} (hl : 1 ≤ l.length) : someH (wayH s l) a = holdsB 6 a b s l := by rw [someH_way hl]; rfl
theorem holds7 {k : Int} {a b s l : List Int} (h1 : ¬ k = 1) (h2 : ¬ k = 2) (h3 : ¬ k = 3) (h4 : ¬ k = 4) (h5 : ¬ k = 5) (h6 : ¬ k = 6) : (!someH l a || someH l b) = holdsB k a b s l := by
  unfold holdsB; rw [if_neg h1, if_neg h2, if_neg h3, if_neg h4, if_neg h5, if_neg h6]
end Go.Proofs.Ytbjonekgeidoiaa

