/- Infinite words: their letters, least representations. No program in sight; no conditions. -/
import Derived.Test.YtbjonekgeidoiaaWM
set_option linter.unusedSimpArgs false
set_option linter.unusedVariables false
namespace Go.Proofs.Ytbjonekgeidoiaa
open Go.RowKit
open Shp

/-- the letter at an index -/
def atW (s l : List Int) (i : Int) : Int := if i < s.length then nth s i.toNat else nth l ((i - s.length) % l.length).toNat

theorem nth_take {α : Type} [Inhabited α] (xs : List α) (n i : Nat) (h : i < n) : nth (xs.take n) i = nth xs i := by
  unfold nth; simp [List.getElem?_take, h]
theorem nth_drop {α : Type} [Inhabited α] (xs : List α) (n i : Nat) : nth (xs.drop n) i = nth xs (n + i) := by
  unfold nth; simp [List.getElem?_drop]

/-- is k a period that divides the length? -/
def isPer (l : List Int) (k : Nat) : Bool := decide (l.length % k = 0) && allN l.length fun i => decide (i < k) || decide (nth l i = nth l (i - k))
theorem isPer_iff {l : List Int} {k : Nat} : isPer l k = true ↔ l.length % k = 0 ∧ ∀ i, k ≤ i → i < l.length → nth l i = nth l (i - k) := by
  unfold isPer
  rw [Bool.and_eq_true, decide_eq_true_eq, allN_iff]
  refine and_congr_right fun _ => ⟨fun h i h1 h2 => ?_, fun h i h1 => ?_⟩
  · have := h i h2
    simp only [Bool.or_eq_true, decide_eq_true_eq] at this
    rcases this with h3 | h3
    · omega
    · exact h3
  · simp only [Bool.or_eq_true, decide_eq_true_eq]
    rcases Nat.lt_or_ge i k with h3 | h3
    · exact .inl h3
    · exact .inr (h i h3 h1)
theorem isPer_len (l : List Int) : isPer l l.length = true := isPer_iff.2 ⟨Nat.mod_self _, fun i h1 h2 => by omega⟩
theorem per_list {l : List Int} {k : Nat} (hk : k ≤ l.length) : (l.drop k = l.take (l.length - k)) ↔ ∀ i, k ≤ i → i < l.length → nth l i = nth l (i - k) := by
  constructor
  · intro h i h1 h2
    have h3 := congrArg (fun x => nth x (i - k)) h
    simp only [nth_drop] at h3
    rw [nth_take _ _ _ (by omega), show k + (i - k) = i by omega] at h3
    exact h3
  · intro h
    refine list_ext (by simp) fun i hi => ?_
    simp only [List.length_drop] at hi
    rw [nth_drop, nth_take _ _ _ (by omega), h (k + i) (by omega) (by omega)]
    congr 1; omega
theorem isPer_list {l : List Int} {k : Nat} (hk : k ≤ l.length) : isPer l k = (decide (l.length % k = 0) && decide (l.drop k = l.take (l.length - k))) := by
  rw [Bool.eq_iff_iff, isPer_iff, Bool.and_eq_true, decide_eq_true_eq, decide_eq_true_eq, per_list hk]

/-- the least such period -/
def rootN (l : List Int) : Nat := (firstN l.length fun j => isPer l (j + 1)).toNat + 1
theorem rootN_at {l : List Int} {n : Nat} (h1 : 1 ≤ n) (h2 : n ≤ l.length) (h3 : isPer l n = true) (h4 : ∀ j, 1 ≤ j → j < n → isPer l j = false) : rootN l = n := by
  unfold rootN
  rw [firstN_at (n - 1) (by omega) (by rw [show n - 1 + 1 = n by omega]; exact h3) fun j hj => h4 (j + 1) (by omega) (by omega)]
  simp; omega
theorem rootN_spec {l : List Int} (h : 1 ≤ l.length) : 1 ≤ rootN l ∧ rootN l ≤ l.length ∧ isPer l (rootN l) = true ∧ ∀ j, 1 ≤ j → j < rootN l → isPer l j = false := by
  rcases firstN_cases l.length (fun j => isPer l (j + 1)) with ⟨_, h2⟩ | ⟨i, h1, h2, h3, h4⟩
  · have := h2 (l.length - 1) (by omega)
    rw [show l.length - 1 + 1 = l.length by omega, isPer_len] at this
    cases this
  · have e : rootN l = i + 1 := by unfold rootN; rw [h2]; simp
    rw [e]
    refine ⟨by omega, by omega, h3, fun j hj hj2 => ?_⟩
    have := h4 (j - 1) (by omega)
    rwa [show j - 1 + 1 = j by omega] at this
def rootL (l : List Int) : List Int := l.take (rootN l)

/-- the last letter ahead of the others -/
def rotL (l : List Int) : List Int := nth l (l.length - 1) :: l.take (l.length - 1)
theorem rotL_len {l : List Int} (h : 1 ≤ l.length) : (rotL l).length = l.length := by simp [rotL]; omega
theorem rotL_take {l : List Int} {n : Nat} (h1 : 1 ≤ n) (h2 : n ≤ l.length) : rotL (l.take n) = nth l (n - 1) :: l.take (n - 1) := by
  unfold rotL
  rw [List.length_take, Nat.min_eq_left h2, nth_take _ _ _ (by omega), List.take_take, Nat.min_eq_left (by omega)]
/-- the stem, shortened as far as it goes, and the loop, turned -/
def trimN : Nat → List Int → List Int → List Int × List Int
  | 0, s, l => (s, l)
  | k + 1, s, l => if nth s k = nth l (l.length - 1) then trimN k (s.take k) (rotL l) else (s, l)
def trimW (s l : List Int) : List Int × List Int := trimN s.length s l
theorem trimW_go {s l : List Int} {n : Nat} (h1 : 1 ≤ n) (hn : n = s.length) (h2 : nth s (n - 1) = nth l (l.length - 1)) : trimW s l = trimW (s.take (n - 1)) (rotL l) := by
  subst hn
  unfold trimW
  obtain ⟨k, hk⟩ : ∃ k, s.length = k + 1 := ⟨s.length - 1, by omega⟩
  rw [hk] at h2 ⊢
  have e : (s.take (k + 1 - 1)).length = k := by simp; omega
  rw [e]
  simp only [trimN, Nat.add_sub_cancel] at h2 ⊢
  rw [if_pos h2]
theorem trimW_stop {s l : List Int} (h2 : s.length = 0 ∨ nth s (s.length - 1) ≠ nth l (l.length - 1)) : trimW s l = (s, l) := by
  unfold trimW
  rcases h : s.length with _ | k
  · rfl
  · rw [h] at h2
    rcases h2 with h2 | h2
    · omega
    · simp only [trimN, Nat.add_sub_cancel] at h2 ⊢; rw [if_neg h2]
theorem trimW_cut {s l : List Int} {n m : Nat} {r : List Int × List Int} (hn : n ≤ s.length) (h1 : 1 ≤ m) (hm : m ≤ l.length) (h0 : 0 < n) (h : nth s (n - 1) = nth l (m - 1)) (hr : trimW (s.take n) (l.take m) = r) :
    trimW (s.take (n - 1)) ((rotL (l.take m)).take m) = r := by
  have e0 : (l.take m).length = m := by simp only [List.length_take]; omega
  have e : (rotL (l.take m)).length = m := by rw [rotL_len (by omega), e0]
  rw [List.take_of_length_le (l := rotL (l.take m)) (by omega), ← hr]
  have q := trimW_go (s := s.take n) (l := l.take m) (n := n) (by omega) (by simp only [List.length_take]; omega) (by rw [nth_take _ _ _ (by omega), e0, nth_take _ _ _ (by omega)]; exact h)
  rw [q, List.take_take, Nat.min_eq_left (by omega)]
theorem trimW_end {s l : List Int} {n m : Nat} {r : List Int × List Int} (hn : n ≤ s.length) (h1 : 1 ≤ m) (hm : m ≤ l.length) (h : n = 0 ∨ ¬ nth s (n - 1) = nth l (m - 1)) (hr : trimW (s.take n) (l.take m) = r) : (s.take n, l.take m) = r := by
  rw [← hr]
  refine (trimW_stop ?_).symm
  rw [List.length_take, List.length_take, Nat.min_eq_left hn, Nat.min_eq_left hm]
  rcases h with h | h
  · exact .inl h
  · by_cases h0 : n = 0
    · exact .inl h0
    · rw [nth_take _ _ _ (by omega), nth_take _ _ _ (by omega)]; exact .inr h
def leastW (s l : List Int) : List Int × List Int := trimW s (rootL l)
def leastO (s l : List Int) : List Int × List Int := if wordB s l 16 = true then leastW s l else ([], [])
theorem leastO_t {s l : List Int} (h : wordB s l 16 = true) : leastO s l = leastW s l := if_pos h
theorem leastO_f {s l : List Int} (h : wordB s l 16 = false) : leastO s l = ([], []) := if_neg (by rw [h]; simp)

def sameW (s l s2 l2 : List Int) : Bool := wordB s l 16 && wordB s2 l2 16 && decide (leastW s l = leastW s2 l2)
theorem sameW_bad1 {s l s2 l2 : List Int} (h : wordB s l 16 = false) : sameW s l s2 l2 = false := by unfold sameW; simp [h]
theorem sameW_bad2 {s l s2 l2 : List Int} (h : wordB s2 l2 16 = false) : sameW s l s2 l2 = false := by unfold sameW; simp [h]
theorem allNext {p : Nat → Prop} {i : Nat} (h : ∀ j : Nat, j < i → p j) (hi : p i) : ∀ j : Nat, j < i + 1 → p j := fun j hj => by
  rcases Nat.lt_or_ge j i with h1 | h1
  · exact h j h1
  · obtain rfl : j = i := by omega
    exact hi
/-! two representations of one word -/
/-- the letter at a natural index -/
def letN (s l : List Int) (i : Nat) : Int := if i < s.length then nth s i else nth l ((i - s.length) % l.length)
theorem atW_nat (s l : List Int) (i : Nat) : atW s l i = letN s l i := by
  unfold atW letN
  by_cases h : i < s.length
  · rw [if_pos (by omega), if_pos h]; rfl
  · rw [if_neg (by omega), if_neg h, show ((i : Int) - s.length) = ((i - s.length : Nat) : Int) by omega, ← Int.natCast_emod]; rfl

end Go.Proofs.Ytbjonekgeidoiaa

