/- Plain laws of lists: tests over all places, first places. No program in sight; no conditions. -/
import Derived.Test.YtdkjeodenbffnaaG2
namespace Go.Proofs.Ytdkjeodenbffnaa
open Go.RowKit
open Shp

/-- which loop -/
inductive Tg (n : Nat) : Type where
  | t
/-- at all places below n -/
def allN (n : Nat) (p : Nat → Bool) : Bool := (List.range n).all p
theorem allN_iff {n : Nat} {p : Nat → Bool} : allN n p = true ↔ ∀ j, j < n → p j = true := by simp [allN]
theorem allN_true {n : Nat} {p : Nat → Bool} (h : ∀ j, j < n → p j = true) : allN n p = true := allN_iff.2 h
theorem allN_false {n : Nat} {p : Nat → Bool} (i : Nat) (hi : i < n) (h : p i = false) : allN n p = false := by
  cases e : allN n p
  · rfl
  · rw [allN_iff.1 e i hi] at h; cases h
theorem allN_congr {n : Nat} {p q : Nat → Bool} (h : ∀ j, j < n → p j = q j) : allN n p = allN n q := by
  rw [Bool.eq_iff_iff, allN_iff, allN_iff]
  exact ⟨fun a j hj => by rw [← h j hj]; exact a j hj, fun a j hj => by rw [h j hj]; exact a j hj⟩
theorem allN_step {i : Nat} {p : Nat → Bool} (h : ∀ j, j < i → p j = true) (hi : p i = true) : ∀ j, j < i + 1 → p j = true := fun j hj => by
  rcases Nat.lt_or_ge j i with h1 | h1
  · exact h j h1
  · have : j = i := by omega
    subst this; exact hi
theorem allN_succ {n : Nat} {p : Nat → Bool} : allN (n + 1) p = (allN n p && p n) := by simp [allN, List.range_succ]
theorem allN_zero {p : Nat → Bool} : ∀ j, j < 0 → p j = true := fun j hj => by omega

/-- the first place below n, or -1 -/
def firstN (n : Nat) (p : Nat → Bool) : Int := match (List.range n).find? p with | some i => (i : Int) | none => -1
theorem firstN_at {n : Nat} {p : Nat → Bool} (i : Nat) (hi : i < n) (h : p i = true) (hb : ∀ j, j < i → p j = false) : firstN n p = (i : Int) := by
  unfold firstN
  have : (List.range n).find? p = some i := by
    rw [List.find?_eq_some_iff_getElem]
    refine ⟨h, i, by simpa using hi, by simp, fun j hj => ?_⟩
    simpa using hb j hj
  rw [this]
theorem firstN_none {n : Nat} {p : Nat → Bool} (hb : ∀ j, j < n → p j = false) : firstN n p = -1 := by
  unfold firstN
  have : (List.range n).find? p = none := by
    rw [List.find?_eq_none]
    intro j hj
    simpa using hb j (by simpa using hj)
  rw [this]
theorem firstN_cases (n : Nat) (p : Nat → Bool) : (firstN n p = -1 ∧ ∀ j, j < n → p j = false) ∨ ∃ i : Nat, i < n ∧ firstN n p = (i : Int) ∧ p i = true ∧ ∀ j, j < i → p j = false := by
  rcases Classical.em (∃ i, i < n ∧ p i = true) with h | h
  · right
    have hex : ∃ i, (i < n ∧ p i = true) ∧ ∀ j, j < i → ¬ (j < n ∧ p j = true) := by
      obtain ⟨i, hi⟩ := h
      induction i using Nat.strongRecOn with
      | _ i ih =>
        rcases Classical.em (∃ j, j < i ∧ (j < n ∧ p j = true)) with h2 | h2
        · obtain ⟨j, hj, hp⟩ := h2; exact ih j hj hp
        · exact ⟨i, hi, fun j hj hp => h2 ⟨j, hj, hp⟩⟩
    obtain ⟨i, ⟨h1, h2⟩, h3⟩ := hex
    have h4 : ∀ j, j < i → p j = false := fun j hj => by
      cases e : p j
      · rfl
      · exact absurd ⟨by omega, e⟩ (h3 j hj)
    exact ⟨i, h1, firstN_at i h1 h2 h4, h2, h4⟩
  · left
    have h4 : ∀ j, j < n → p j = false := fun j hj => by
      cases e : p j
      · rfl
      · exact absurd ⟨j, hj, e⟩ h
    exact ⟨firstN_none h4, h4⟩
theorem firstN_ge {n : Nat} {p : Nat → Bool} : decide (firstN n p ≥ 0) = !allN n (fun j => !p j) := by
  rcases firstN_cases n p with ⟨h1, h2⟩ | ⟨i, h1, h2, h3, h4⟩
  · rw [h1, allN_true (fun j hj => by rw [h2 j hj]; rfl)]; rfl
  · rw [h2, allN_false i h1 (by rw [h3]; rfl)]; simp
theorem firstN_lt (n : Nat) (p : Nat → Bool) : -1 ≤ firstN n p ∧ firstN n p < (n : Int) ∨ firstN n p = -1 := by
  rcases firstN_cases n p with ⟨h1, _⟩ | ⟨i, h1, h2, _⟩ <;> omega
theorem noneN_step {i : Nat} {p : Nat → Bool} (h : ∀ j, j < i → p j = false) (hi : p i = false) : ∀ j, j < i + 1 → p j = false := fun j hj => by
  rcases Nat.lt_or_ge j i with h1 | h1
  · exact h j h1
  · have : j = i := by omega
    subst this; exact hi
theorem noneN_zero {p : Nat → Bool} : ∀ j, j < 0 → p j = false := fun j hj => by omega

/-! lists -/
theorem drop_nth {α : Type} [Inhabited α] {xs : List α} {i : Nat} (h : i < xs.length) : xs.drop i = nth xs i :: xs.drop (i + 1) := by
  rw [nth_eq h]; exact List.drop_eq_getElem_cons h
theorem take_nth {α : Type} [Inhabited α] {xs : List α} {i : Nat} (h : i < xs.length) : xs.take (i + 1) = xs.take i ++ [nth xs i] := by
  rw [nth_eq h, List.take_append_getElem]
theorem list_ext {α : Type} [Inhabited α] {xs ys : List α} (hl : xs.length = ys.length) (h : ∀ i, i < xs.length → nth xs i = nth ys i) : xs = ys := by
  refine List.ext_getElem hl fun i h1 h2 => ?_
  have := h i h1
  rwa [nth_eq h1, nth_eq h2] at this
theorem nth_set {α : Type} [Inhabited α] (xs : List α) (i j : Nat) (x : α) (hi : i < xs.length) : nth (xs.set i x) j = if j = i then x else nth xs j := by
  unfold nth
  simp only [List.getD_eq_getElem?_getD, List.getElem?_set]
  by_cases e : i = j
  · subst e; simp [hi]
  · have : ¬ j = i := fun h => e h.symm
    simp [e, this]
theorem mem_nth {α : Type} [Inhabited α] {xs : List α} {x : α} (h : x ∈ xs) : ∃ i, i < xs.length ∧ nth xs i = x := by
  obtain ⟨i, hi, rfl⟩ := List.getElem_of_mem h
  exact ⟨i, hi, nth_eq hi⟩
theorem take_set {α : Type} {xs : List α} {i : Nat} {x : α} (h : i < xs.length) : (xs.set i x).take (i + 1) = xs.take i ++ [x] := by
  have h1 : i < (xs.set i x).length := by simpa using h
  rw [← List.take_append_getElem h1]
  simp [List.take_set_of_le]

/-- equal lists -/
def eqInts (xs ys : List Int) : Bool := decide (xs.length = ys.length) && allN xs.length fun i => nth xs i == nth ys i
theorem eqInts_iff {xs ys : List Int} : eqInts xs ys = true ↔ xs = ys := by
  unfold eqInts
  rw [Bool.and_eq_true, decide_eq_true_eq, allN_iff]
  constructor
  · rintro ⟨h1, h2⟩
    exact list_ext h1 fun i hi => by simpa using h2 i hi
  · rintro rfl
    exact ⟨rfl, fun j hj => by simp⟩
theorem eqInts_refl (xs : List Int) : eqInts xs xs = true := eqInts_iff.2 rfl
theorem eqInts_dec (xs ys : List Int) : eqInts xs ys = decide (xs = ys) := by
  rw [Bool.eq_iff_iff, eqInts_iff, decide_eq_true_eq]

/-- letters below n -/
def below (xs : List Int) (n : Int) : Bool := allN xs.length fun i => decide (0 ≤ nth xs i) && decide (nth xs i < n)
theorem below_iff {xs : List Int} {n : Int} : below xs n = true ↔ ∀ j, j < xs.length → 0 ≤ nth xs j ∧ nth xs j < n := by
  unfold below; rw [allN_iff]; simp
/-- rising, below n -/
def rises (xs : List Int) (n : Int) : Bool := allN xs.length fun i => decide (0 ≤ nth xs i) && decide (nth xs i < n) && (decide (i = 0) || decide (nth xs (i - 1) < nth xs i))
theorem rises_below {xs : List Int} {n : Int} (h : rises xs n = true) : below xs n = true := by
  unfold rises at h; unfold below
  rw [allN_iff] at *
  intro j hj
  have := h j hj
  simp only [Bool.and_eq_true] at this ⊢
  exact this.1

def has (xs : List Int) (v : Int) : Bool := !allN xs.length fun i => !(nth xs i == v)
theorem has_iff {xs : List Int} {v : Int} : has xs v = true ↔ v ∈ xs := by
  unfold has
  constructor
  · intro h
    apply Classical.byContradiction
    intro hn
    rw [allN_true (fun j hj => by
      have : nth xs j ≠ v := fun e => hn (by rw [← e]; exact nth_mem hj)
      simpa using this)] at h
    cases h
  · intro h
    obtain ⟨i, hi, e⟩ := mem_nth h
    rw [allN_false i hi (by simp [e])]; rfl
/-- the place of a value -/
def place (xs : List Int) (v : Int) : Int := firstN xs.length fun i => nth xs i == v

end Go.Proofs.Ytdkjeodenbffnaa
