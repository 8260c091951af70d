/- Draws by dice: sets, clauses, words, machines. No program in sight; no conditions. -/
import Derived.Test.YtbjonekgeidoiaaHM
import Derived.Test.YtbjonekgeidoiaaDR
set_option linter.unusedSimpArgs false
set_option linter.unusedVariables false
namespace Go.Proofs.Ytbjonekgeidoiaa
open Go.RowKit
open Shp

def setD (bs : List Int) : Nat → Int → List Int → Nat × Int → List Int × (Nat × Int)
  | 0, _, a, s => (a, s)
  | k + 1, i, a, s => setD bs k (i + 1) (if rollX bs 2 s = 0 then a ++ [i] else a) (dieS bs s)
theorem rises_put {a : List Int} {n i : Int} (h : rises a n = true) (h1 : ∀ x ∈ a, x < i) (h2 : 0 ≤ i) (h3 : i < n) : rises (a ++ [i]) n = true := by
  unfold rises at h ⊢
  rw [allN_iff] at h ⊢
  intro j hj
  rw [List.length_append, List.length_singleton] at hj
  by_cases e : j < a.length
  · have := h j e
    rw [nth_app1 e, nth_app1 (by omega)]; exact this
  · have e2 : j = a.length := by omega
    subst e2
    rw [nth_app2 (Nat.le_refl _), Nat.sub_self]
    have e3 : nth [i] 0 = i := rfl
    rw [e3]
    simp only [Bool.and_eq_true, Bool.or_eq_true, decide_eq_true_eq]
    refine ⟨⟨h2, h3⟩, ?_⟩
    by_cases e4 : a.length = 0
    · exact .inl e4
    · right
      rw [nth_app1 (by omega)]
      exact h1 _ (nth_mem (by omega))
theorem setD_ok {bs : List Int} {n : Int} : ∀ (k : Nat) (i : Int) (a : List Int) (s : Nat × Int), rises a n = true → (∀ x ∈ a, x < i) → 0 ≤ i → i + k ≤ n → rises (setD bs k i a s).1 n = true
  | 0, _, a, s, h, _, _, _ => h
  | k + 1, i, a, s, h, h1, h2, h3 => by
    simp only [setD]
    split
    · exact setD_ok k (i + 1) _ _ (rises_put h h1 h2 (by omega)) (fun x hx => by
        rcases List.mem_append.1 hx with hx | hx
        · have := h1 x hx; omega
        · have : x = i := by simpa using hx
          omega) (by omega) (by omega)
    · exact setD_ok k (i + 1) _ _ h (fun x hx => by have := h1 x hx; omega) (by omega) (by omega)
theorem setD_len {bs : List Int} : ∀ (k : Nat) (i : Int) (a : List Int) (s : Nat × Int), (setD bs k i a s).1.length ≤ a.length + k
  | 0, _, a, s => by simp [setD]
  | k + 1, i, a, s => by
    simp only [setD]
    have := setD_len (bs := bs) k (i + 1) (if rollX bs 2 s = 0 then a ++ [i] else a) (dieS bs s)
    split at this <;> split <;> simp_all <;> omega
def lstD (bs : List Int) (n : Int) : Nat → List Int → Nat × Int → List Int × (Nat × Int)
  | 0, a, s => (a, s)
  | k + 1, a, s => lstD bs n k (a ++ [rollX bs n s]) (dieS bs s)
theorem lstD_len {bs : List Int} {n : Int} : ∀ (k : Nat) (a : List Int) (s : Nat × Int), (lstD bs n k a s).1.length = a.length + k
  | 0, a, s => rfl
  | k + 1, a, s => by simp only [lstD]; rw [lstD_len]; simp; omega
theorem below_one {x n : Int} (h : 0 ≤ x ∧ x < n) : below [x] n = true := by
  rw [below_iff]; intro j hj
  have : j = 0 := by simpa using hj
  subst this; exact h
theorem below_apps {xs ys : List Int} {n : Int} (h1 : below xs n = true) (h2 : below ys n = true) : below (xs ++ ys) n = true := by
  rw [below_iff] at h1 h2 ⊢
  intro j hj
  rw [List.length_append] at hj
  by_cases h : j < xs.length
  · rw [nth_app1 h]; exact h1 j h
  · rw [nth_app2 (by omega)]; exact h2 _ (by omega)
theorem below_nil (n : Int) : below [] n = true := by rw [below_iff]; intro j hj; simp at hj
theorem lstD_below {bs : List Int} {n : Int} (hn : 0 < n) : ∀ (k : Nat) (a : List Int) (s : Nat × Int), below a n = true → below (lstD bs n k a s).1 n = true
  | 0, a, s, h => h
  | k + 1, a, s, h => lstD_below hn k _ _ (below_apps h (below_one (rollX_rng hn s)))
/-- a clause -/
def clD (bs : List Int) (s : Nat × Int) : (Int × List Int × List Int) × (Nat × Int) :=
  if secondB (1 + rollX bs 7 s) = true then ((1 + rollX bs 7 s, (setD bs 4 0 [] (dieS bs s)).1, (setD bs 4 0 [] (setD bs 4 0 [] (dieS bs s)).2).1), (setD bs 4 0 [] (setD bs 4 0 [] (dieS bs s)).2).2)
  else ((1 + rollX bs 7 s, (setD bs 4 0 [] (dieS bs s)).1, []), (setD bs 4 0 [] (dieS bs s)).2)
theorem rises_nil (n : Int) : rises [] n = true := by unfold rises; rw [allN_iff]; intro j hj; simp at hj
theorem clD_ok (bs : List Int) (s : Nat × Int) : clauseB 4 (clD bs s).1.1 (clD bs s).1.2.1 (clD bs s).1.2.2 = true := by
  have h := rollX_rng (bs := bs) (show (0 : Int) < 7 by omega) s
  have h1 : ∀ s, rises (setD bs 4 0 [] s).1 4 = true := fun s => setD_ok 4 0 [] s (rises_nil 4) (by simp) (by omega) (by omega)
  unfold clD clauseB
  split
  · rename_i hs
    simp only [h1, hs, Bool.and_eq_true, decide_eq_true_eq, Bool.true_or, and_true]; omega
  · simp only [h1, rises_nil, Bool.and_eq_true, decide_eq_true_eq, Bool.or_true, decide_true, and_true]; omega
theorem clD_len (bs : List Int) (s : Nat × Int) : (clD bs s).1.2.1.length ≤ 4 ∧ (clD bs s).1.2.2.length ≤ 4 := by
  have h1 : ∀ s, (setD bs 4 0 [] s).1.length ≤ 4 := fun s => by have := setD_len (bs := bs) 4 0 [] s; simpa using this
  unfold clD
  split
  · exact ⟨h1 _, h1 _⟩
  · exact ⟨h1 _, by simp⟩
/-- a word -/
def wrdS (bs : List Int) (n : Int) (s : Nat × Int) : List Int × (Nat × Int) := lstD bs n (rollX bs 4 s).toNat [] (dieS bs s)
def wrdL (bs : List Int) (n : Int) (s : Nat × Int) : List Int × (Nat × Int) := lstD bs n (1 + rollX bs 4 s).toNat [] (dieS bs s)
def wordD (bs : List Int) (n : Int) (s : Nat × Int) : (List Int × List Int) × (Nat × Int) := (((wrdS bs n s).1, (wrdL bs n (wrdS bs n s).2).1), (wrdL bs n (wrdS bs n s).2).2)
theorem wordD_len (bs : List Int) (n : Int) (s : Nat × Int) : (wordD bs n s).1.1.length ≤ 3 ∧ 1 ≤ (wordD bs n s).1.2.length ∧ (wordD bs n s).1.2.length ≤ 4 := by
  have h := fun s => rollX_rng (bs := bs) (show (0 : Int) < 4 by omega) s
  show (wrdS bs n s).1.length ≤ 3 ∧ 1 ≤ (wrdL bs n (wrdS bs n s).2).1.length ∧ (wrdL bs n (wrdS bs n s).2).1.length ≤ 4
  have h1 := h s
  have h2 := h (wrdS bs n s).2
  have e1 : (wrdS bs n s).1.length = (rollX bs 4 s).toNat := by unfold wrdS; rw [lstD_len]; simp
  have e2 : (wrdL bs n (wrdS bs n s).2).1.length = (1 + rollX bs 4 (wrdS bs n s).2).toNat := by
    generalize (wrdS bs n s).2 = t
    unfold wrdL; rw [lstD_len]; simp
  omega
theorem wordD_ok {bs : List Int} {n : Int} (hn : 0 < n) (s : Nat × Int) : wordB (wordD bs n s).1.1 (wordD bs n s).1.2 n = true := by
  have h := wordD_len bs n s
  unfold wordB
  simp only [Bool.and_eq_true, decide_eq_true_eq]
  exact ⟨⟨⟨⟨by omega, by omega⟩, by omega⟩, lstD_below hn _ _ _ (below_nil n)⟩, lstD_below hn _ _ _ (below_nil n)⟩
end Go.Proofs.Ytbjonekgeidoiaa

