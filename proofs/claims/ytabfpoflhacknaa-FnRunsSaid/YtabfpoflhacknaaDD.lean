/- Draws by dice: sets, clauses, words, machines. No program in sight; no conditions. -/
import Derived.Test.YtabfpoflhacknaaHM
import Derived.Test.YtabfpoflhacknaaDR
set_option linter.unusedSimpArgs false
set_option linter.unusedVariables false
namespace Go.Proofs.Ytabfpoflhacknaa
open Go.RowKit
open Shp
def lstD (bs : List Int) (n : Int) : Nat → List Int → Nat × Int → List Int × (Nat × Int)
  | 0, a, s => (a, s)
  | k + 1, a, s => lstD bs n k (a ++ [rollX bs n s]) (dieS bs s)
theorem lstD_len {bs : List Int} {n : Int} : ∀ (k : Nat) (a : List Int) (s : Nat × Int), (lstD bs n k a s).1.length = a.length + k
  | 0, a, s => rfl
  | k + 1, a, s => by simp only [lstD]; rw [lstD_len]; simp; omega
theorem below_one {x n : Int} (h : 0 ≤ x ∧ x < n) : below [x] n = true := by
  rw [below_iff]; intro j hj
  have : j = 0 := by simpa using hj
  subst this; exact h
theorem below_apps {xs ys : List Int} {n : Int} (h1 : below xs n = true) (h2 : below ys n = true) : below (xs ++ ys) n = true := by
  rw [below_iff] at h1 h2 ⊢
  intro j hj
  rw [List.length_append] at hj
  by_cases h : j < xs.length
  · rw [nth_app1 h]; exact h1 j h
  · rw [nth_app2 (by omega)]; exact h2 _ (by omega)
theorem below_nil (n : Int) : below [] n = true := by rw [below_iff]; intro j hj; simp at hj
theorem lstD_below {bs : List Int} {n : Int} (hn : 0 < n) : ∀ (k : Nat) (a : List Int) (s : Nat × Int), below a n = true → below (lstD bs n k a s).1 n = true
  | 0, a, s, h => h
  | k + 1, a, s, h => lstD_below hn k _ _ (below_apps h (below_one (rollX_rng hn s)))
def mrow (bs : List Int) (n o : Int) : Nat → List Int → List Int → Nat × Int → (List Int × List Int) × (Nat × Int)
  | 0, a, b, s => ((a, b), s)
  | k + 1, a, b, s => mrow bs n o k (a ++ [rollX bs n s]) (b ++ [rollX bs o (dieS bs s)]) (dieS bs (dieS bs s))
theorem mrow_len {bs : List Int} {n o : Int} : ∀ (k : Nat) (a b : List Int) (s : Nat × Int), (mrow bs n o k a b s).1.1.length = a.length + k ∧ (mrow bs n o k a b s).1.2.length = b.length + k
  | 0, a, b, s => ⟨rfl, rfl⟩
  | k + 1, a, b, s => by
    simp only [mrow]
    have := mrow_len (bs := bs) (n := n) (o := o) k (a ++ [rollX bs n s]) (b ++ [rollX bs o (dieS bs s)]) (dieS bs (dieS bs s))
    simp at this; omega
theorem mrow_below {bs : List Int} {n o : Int} (hn : 0 < n) (ho : 0 < o) : ∀ (k : Nat) (a b : List Int) (s : Nat × Int), below a n = true → below b o = true → below (mrow bs n o k a b s).1.1 n = true ∧ below (mrow bs n o k a b s).1.2 o = true
  | 0, a, b, s, h, h2 => ⟨h, h2⟩
  | k + 1, a, b, s, h, h2 => mrow_below hn ho k _ _ _ (below_apps h (below_one (rollX_rng hn s))) (below_apps h2 (below_one (rollX_rng ho _)))
def mmach (bs : List Int) (n o : Int) : Nat → List (List Int) → List (List Int) → Nat × Int → (List (List Int) × List (List Int)) × (Nat × Int)
  | 0, N, O, s => ((N, O), s)
  | k + 1, N, O, s => mmach bs n o k (N ++ [(mrow bs n o 2 [] [] s).1.1]) (O ++ [(mrow bs n o 2 [] [] s).1.2]) (mrow bs n o 2 [] [] s).2
theorem mmach_ok {bs : List Int} {n o : Int} (hn : 0 < n) (ho : 0 < o) : ∀ (k : Nat) (N O : List (List Int)) (s : Nat × Int), (∀ r ∈ N, r.length = 2 ∧ below r n = true) → (∀ r ∈ O, r.length = 2 ∧ below r o = true) → N.length = O.length →
    ((mmach bs n o k N O s).1.1.length = N.length + k ∧ (mmach bs n o k N O s).1.2.length = N.length + k) ∧ (∀ r ∈ (mmach bs n o k N O s).1.1, r.length = 2 ∧ below r n = true) ∧ ∀ r ∈ (mmach bs n o k N O s).1.2, r.length = 2 ∧ below r o = true
  | 0, N, O, s, h1, h2, h3 => ⟨⟨rfl, h3.symm⟩, h1, h2⟩
  | k + 1, N, O, s, h1, h2, h3 => by
    have l := mrow_len (bs := bs) (n := n) (o := o) 2 [] [] s
    have b := mrow_below (bs := bs) hn ho 2 [] [] s (below_nil n) (below_nil o)
    have := mmach_ok (bs := bs) hn ho k (N ++ [(mrow bs n o 2 [] [] s).1.1]) (O ++ [(mrow bs n o 2 [] [] s).1.2]) (mrow bs n o 2 [] [] s).2 (fun r hr => by
      rcases List.mem_append.1 hr with hr | hr
      · exact h1 r hr
      · have e : r = (mrow bs n o 2 [] [] s).1.1 := by simpa using hr
        rw [e]; exact ⟨l.1, b.1⟩) (fun r hr => by
      rcases List.mem_append.1 hr with hr | hr
      · exact h2 r hr
      · have e : r = (mrow bs n o 2 [] [] s).1.2 := by simpa using hr
        rw [e]; exact ⟨l.2, b.2⟩) (by simp [h3])
    simp only [mmach]
    refine ⟨?_, this.2⟩
    have e := this.1
    simp only [List.length_append, List.length_singleton] at e
    omega
def outsD (o : Int) : Int := if o = 2 then 4 else 2
def machD (bs : List Int) (o m : Int) (s : Nat × Int) : (List (List Int) × List (List Int)) × (Nat × Int) := mmach bs (1 + rollX bs m s) (outsD o) (1 + rollX bs m s).toNat [] [] (dieS bs s)
theorem machD_ok {bs : List Int} {o m : Int} (h : 1 ≤ o ∧ o ≤ 2) (hm : 1 ≤ m ∧ m ≤ 48) (s : Nat × Int) : machB 1 o (machD bs o m s).1.1 (machD bs o m s).1.2 = true ∧ (machD bs o m s).1.1.length ≤ 48 ∧ (machD bs o m s).1.1.length = (machD bs o m s).1.2.length := by
  have r := rollX_rng (bs := bs) (show 0 < m by omega) s
  have ho : outsD o = pw o ∧ 0 < outsD o := by
    have : o = 1 ∨ o = 2 := by omega
    rcases this with rfl | rfl <;> decide
  obtain ⟨h1, h2, h3⟩ := mmach_ok (bs := bs) (n := 1 + rollX bs m s) (o := outsD o) (by omega) ho.2 (1 + rollX bs m s).toNat [] [] (dieS bs s) (by simp) (by simp) rfl
  change ((machD bs o m s).1.1.length = _ ∧ (machD bs o m s).1.2.length = _) at h1
  change ∀ r ∈ (machD bs o m s).1.1, _ at h2
  change ∀ r ∈ (machD bs o m s).1.2, _ at h3
  simp only [List.length_nil, Nat.zero_add] at h1
  refine ⟨?_, by omega, by omega⟩
  unfold machB sigB
  simp only [Bool.and_eq_true, decide_eq_true_eq, allN_iff]
  refine ⟨⟨⟨⟨by omega, by omega⟩, by omega⟩, by omega⟩, fun q hq => ?_⟩
  have a := h2 _ (nth_mem hq)
  have b := h3 _ (nth_mem (show q < (machD bs o m s).1.2.length by omega))
  unfold machRow
  simp only [Bool.and_eq_true, decide_eq_true_eq]
  refine ⟨⟨⟨?_, by omega⟩, ?_⟩, by rw [← ho.1]; exact b.2⟩
  · rw [a.1]; rfl
  · rw [h1.1, Int.toNat_of_nonneg (by omega)]; exact a.2
end Go.Proofs.Ytabfpoflhacknaa

