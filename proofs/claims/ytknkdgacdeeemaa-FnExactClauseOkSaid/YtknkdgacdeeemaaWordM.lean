/- Plain words: a stem and a loop of letters; the letter at an index; validity. No program in sight; no conditions. -/
import Derived.Test.YtknkdgacdeeemaaSigM
import Derived.Test.YtknkdgacdeeemaaIntsM
namespace Go.Proofs.Ytknkdgacdeeemaa

structure WordT where
  stem : List Int
  loop : List Int

/-- All from 0 to n - 1. -/
def below (n : Int) (xs : List Int) : Bool := decide (∀ x ∈ xs, 0 ≤ x ∧ x < n)

theorem below_iff {n : Int} {xs : List Int} : below n xs = true ↔ ∀ x ∈ xs, 0 ≤ x ∧ x < n := by unfold below; simp

theorem below_no {n : Int} {xs : List Int} {k : Nat} (hk : k < xs.length) (h : ¬ (0 ≤ nth xs k ∧ nth xs k < n)) : below n xs = false := by
  cases hb : below n xs
  · rfl
  · exact absurd (below_iff.1 hb _ (nth_mem hk)) h

theorem below_yes {n : Int} {xs : List Int} (h : ∀ k, k < xs.length → 0 ≤ nth xs k ∧ nth xs k < n) : below n xs = true := by
  rw [below_iff]
  intro x hx
  obtain ⟨k, hk, rfl⟩ := List.getElem_of_mem hx
  rw [← nth_eq hk]; exact h k hk

def wordOk (n : Int) (x : WordT) : Bool := decide (x.stem.length ≤ 600 ∧ 1 ≤ x.loop.length ∧ x.loop.length ≤ 600 ∧ below n x.stem = true ∧ below n x.loop = true)

theorem wordOk_iff {n : Int} {x : WordT} : wordOk n x = true ↔ x.stem.length ≤ 600 ∧ 1 ≤ x.loop.length ∧ x.loop.length ≤ 600 ∧ below n x.stem = true ∧ below n x.loop = true := by unfold wordOk; simp

theorem wordOk_no {n : Int} {x : WordT} (h : ¬ (x.stem.length ≤ 600 ∧ 1 ≤ x.loop.length ∧ x.loop.length ≤ 600 ∧ below n x.stem = true ∧ below n x.loop = true)) : wordOk n x = false := by
  unfold wordOk; simpa using h

/-- The first index at which p holds, or -1. -/
def idx {α : Type} (p : α → Bool) (xs : List α) : Int := match xs.findIdx? p with | some k => k | none => -1

theorem idx_no {α : Type} [Inhabited α] {p : α → Bool} {xs : List α} (h : ∀ k, k < xs.length → p (nth xs k) = false) : idx p xs = -1 := by
  unfold idx
  rw [List.findIdx?_eq_none_iff.2]
  intro x hx
  obtain ⟨k, hk, rfl⟩ := List.getElem_of_mem hx
  rw [← nth_eq hk]; exact h k hk

theorem idx_at {α : Type} [Inhabited α] {p : α → Bool} {xs : List α} {k : Nat} (hk : k < xs.length) (h : p (nth xs k) = true) (hb : ∀ j, j < k → p (nth xs j) = false) : idx p xs = k := by
  unfold idx
  rw [List.findIdx?_eq_some_iff_getElem.2 ⟨hk, by rw [← nth_eq hk]; exact h, fun j hj => by rw [← nth_eq (by omega), hb j hj]; simp⟩]

theorem idx_bd {α : Type} (p : α → Bool) (xs : List α) : -1 ≤ idx p xs ∧ idx p xs < xs.length := by
  unfold idx
  split
  · rename_i k h
    obtain ⟨h1, _⟩ := List.findIdx?_eq_some_iff_getElem.1 h
    omega
  · omega

theorem idx_ge {α : Type} (p : α → Bool) (xs : List α) : decide (0 ≤ idx p xs) = xs.any p := by
  unfold idx
  split
  · rename_i k h
    obtain ⟨h1, h2, _⟩ := List.findIdx?_eq_some_iff_getElem.1 h
    simp only [Int.natCast_nonneg, decide_true]
    symm
    rw [List.any_eq_true]
    exact ⟨_, List.getElem_mem h1, h2⟩
  · rename_i h
    rw [List.findIdx?_eq_none_iff] at h
    symm
    simp only [Int.reduceNeg, show ¬ (0 : Int) ≤ -1 by omega, decide_false]
    rw [List.any_eq_false]
    intro x hx; rw [h x hx]; simp

/-- Is there one? (behind a name) -/
def some_ {α : Type} (p : α → Bool) (xs : List α) : Bool := xs.any p

def outOf_ (n : Int) (x : Int) : Bool := decide (x < 0 ∨ n ≤ x)

theorem some_out (n : Int) (xs : List Int) : (!some_ (outOf_ n) xs) = below n xs := by
  unfold some_ below outOf_
  rw [Bool.eq_iff_iff]
  simp

/-- The letter at an index of the infinite word. -/
def at_ (x : WordT) (i : Int) : Int := if i < x.stem.length then nth x.stem i.toNat else nth x.loop ((i - x.stem.length) % x.loop.length).toNat

def letterAt (x : WordT) (i : Int) : Int := if wordOk 16 x = true ∧ 0 ≤ i then at_ x i else -1

end Go.Proofs.Ytknkdgacdeeemaa
