/- Draws by dice: sets, clauses, words, machines. No program in sight; no conditions. -/
import Derived.Test.YtabfpoflhacknaaGreatHM
import Derived.Test.YtabfpoflhacknaaGreatD0
namespace Go.Proofs.YtabfpoflhacknaaGreat
open Go.RowKit
open Shp
variable {n : Int} {bs : List Int}
def setD (bs : List Int) : Nat → Int → List Int → Nat × Int → List Int × (Nat × Int)
 | 0, _, a, s => (a, s)
 | k + 1, i, a, s => setD bs k (i + 1) (if ZdY bs 2 s = 0 then a ++ [i] else a) (dieS bs s)
theorem ZqW {a : List Int} {i : Int} (h : Zbx a n = true) (h1 : ∀ x ∈ a, x < i) (h2 : 0 ≤ i) (h3 : i < n) : Zbx (a ++ [i]) n = true := by
 unfold Zbx at h ⊢
 rw [allN_iff] at h ⊢
 intro j hj
 rw [List.length_append, List.length_singleton] at hj
 by_cases e : j < a.length
 ·have := h j e
  rw [Zeu e, Zeu (by omega)]; exact this
 ·have e2 : j = a.length := by omega
  subst e2
  rw [Zep (Nat.le_refl _), Nat.sub_self]
  have e3 : nth [i] 0 = i := rfl
  rw [e3]
  simp only [Bool.and_eq_true, Bool.or_eq_true, decide_eq_true_eq]
  refine ⟨⟨h2, h3⟩, ?_⟩
  by_cases e4 : a.length = 0
  ·exact .inl e4
  ·right
   rw [Zeu (by omega)]
   exact h1 _ (Zal (by omega))
theorem Znz {bs : List Int} {n : Int} : ∀ (k : Nat) (i : Int) (a : List Int) (s : Nat × Int), Zbx a n = true → (∀ x ∈ a, x < i) → 0 ≤ i → i + k ≤ n → Zbx (setD bs k i a s).1 n = true
 | 0, _, a, s, h, _, _, _ => h
 | k + 1, i, a, s, h, h1, h2, h3 => by
  simp only [setD]
  split
  ·exact Znz k (i + 1) _ _ (ZqW h h1 h2 (by omega)) (fun x hx => by
    rcases List.mem_append.1 hx with hx | hx
    ·have := h1 x hx; omega
    ·have : x = i := by simpa using hx
     omega) (by omega) (by omega)
  ·exact Znz k (i + 1) _ _ h (fun x hx => by have := h1 x hx; omega) (by omega) (by omega)
def lstD (bs : List Int) (n : Int) : Nat → List Int → Nat × Int → List Int × (Nat × Int)
 | 0, a, s => (a, s)
 | k + 1, a, s => lstD bs n k (a ++ [ZdY bs n s]) (dieS bs s)
theorem Zla {bs : List Int} {n : Int} : ∀ (k : Nat) (a : List Int) (s : Nat × Int), (lstD bs n k a s).1.length = a.length + k
 | 0, a, s => rfl
 | k + 1, a, s => by simp only [lstD]; rw [Zla]; simp; omega
theorem Zr1 {x : Int} (h : 0 ≤ x ∧ x < n) : below [x] n = true := by
 rw [below_iff]; intro j hj
 have : j = 0 := by simpa using hj
 subst this; exact h
theorem ZpC {xs ys : List Int}  (h1 : below xs n = true) (h2 : below ys n = true) : below (xs ++ ys) n = true := by
 rw [below_iff] at h1 h2 ⊢
 intro j hj
 rw [List.length_append] at hj
 by_cases h : j < xs.length
 ·rw [Zeu h]; exact h1 j h
 ·rw [Zep (by omega)]; exact h2 _ (by omega)
theorem Zmx (n : Int) : below [] n = true := by rw [below_iff]; intro j hj; simp at hj
theorem Zhr {bs : List Int} {n : Int} (hn : 0 < n) : ∀ (k : Nat) (a : List Int) (s : Nat × Int), below a n = true → below (lstD bs n k a s).1 n = true
 | 0, a, s, h => h
 | k + 1, a, s, h => Zhr hn k _ _ (ZpC h (Zr1 (Zct hn s)))
def clD (bs : List Int) (s : Nat × Int) : (Int × List Int × List Int) × (Nat × Int) :=
 if ZdU (1 + ZdY bs 7 s) = true then ((1 + ZdY bs 7 s, (setD bs 4 0 [] (dieS bs s)).1, (setD bs 4 0 [] (setD bs 4 0 [] (dieS bs s)).2).1), (setD bs 4 0 [] (setD bs 4 0 [] (dieS bs s)).2).2)
 else ((1 + ZdY bs 7 s, (setD bs 4 0 [] (dieS bs s)).1, []), (setD bs 4 0 [] (dieS bs s)).2)
theorem Zm1 (n : Int) : Zbx [] n = true := by unfold Zbx; rw [allN_iff]; intro j hj; simp at hj
theorem ZzF (bs : List Int) (s : Nat × Int) : ZbR 4 (clD bs s).1.1 (clD bs s).1.2.1 (clD bs s).1.2.2 = true := by
 have h := Zct (bs := bs) (show (0 : Int) < 7 by omega) s
 have h1 : ∀ s, Zbx (setD bs 4 0 [] s).1 4 = true := fun s => Znz 4 0 [] s (Zm1 4) (by simp) (by omega) (by omega)
 unfold clD ZbR
 split
 ·rename_i hs
  simp only [h1, hs, Bool.and_eq_true, decide_eq_true_eq, Bool.true_or, and_true]; omega
 ·simp only [h1, Zm1, Bool.and_eq_true, decide_eq_true_eq, Bool.or_true, decide_true, and_true]; omega
def wrdS (bs : List Int) (n : Int) (s : Nat × Int) : List Int × (Nat × Int) := lstD bs n (ZdY bs 4 s).toNat [] (dieS bs s)
def wrdL (bs : List Int) (n : Int) (s : Nat × Int) : List Int × (Nat × Int) := lstD bs n (1 + ZdY bs 4 s).toNat [] (dieS bs s)
def Zjt (bs : List Int) (n : Int) (s : Nat × Int) : (List Int × List Int) × (Nat × Int) := (((wrdS bs n s).1, (wrdL bs n (wrdS bs n s).2).1), (wrdL bs n (wrdS bs n s).2).2)
theorem Zmk (bs : List Int) (n : Int) (s : Nat × Int) : (Zjt bs n s).1.1.length ≤ 3 ∧ 1 ≤ (Zjt bs n s).1.2.length ∧ (Zjt bs n s).1.2.length ≤ 4 := by
 have h := fun s => Zct (bs := bs) (show (0 : Int) < 4 by omega) s
 show (wrdS bs n s).1.length ≤ 3 ∧ 1 ≤ (wrdL bs n (wrdS bs n s).2).1.length ∧ (wrdL bs n (wrdS bs n s).2).1.length ≤ 4
 have h1 := h s
 have h2 := h (wrdS bs n s).2
 have e1 : (wrdS bs n s).1.length = (ZdY bs 4 s).toNat := by unfold wrdS; rw [Zla]; simp
 have e2 : (wrdL bs n (wrdS bs n s).2).1.length = (1 + ZdY bs 4 (wrdS bs n s).2).toNat := by
  generalize (wrdS bs n s).2 = t
  unfold wrdL; rw [Zla]; simp
 omega
theorem Ztm  (hn : 0 < n) (s : Nat × Int) : ZaI (Zjt bs n s).1.1 (Zjt bs n s).1.2 n = true := by
 have h := Zmk bs n s
 unfold ZaI
 simp only [Bool.and_eq_true, decide_eq_true_eq]
 exact ⟨⟨⟨⟨by omega, by omega⟩, by omega⟩, Zhr hn _ _ _ (Zmx n)⟩, Zhr hn _ _ _ (Zmx n)⟩
end Go.Proofs.YtabfpoflhacknaaGreat

