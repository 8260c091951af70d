/- Draws by the cursor: words. No program in sight; no conditions. -/
import Derived.Test.YtnieejghoaccmaaMM
import Derived.Test.YtnieejghoaccmaaDR
namespace Go.Proofs.Ytnieejghoaccmaa
open Go.RowKit
open Shp
variable {xs a ys b : List Int} {p : Bool} {o : Int} {cs : List (Int × List Int × List Int)} {j : Nat} {n n2 : List (List Int)} {ps ps2 : List (List Int × List Int)}
theorem ZlE  {i : Nat} (h : i < xs.length) : nth (xs ++ ys) i = nth xs i := by unfold nth; simp only [List.getD_eq_getElem?_getD]; rw [List.getElem?_append_left h]
theorem Zlk  {i : Nat} (h : xs.length ≤ i) : nth (xs ++ ys) i = nth ys (i - xs.length) := by unfold nth; simp only [List.getD_eq_getElem?_getD]; rw [List.getElem?_append_right h]
end Go.Proofs.Ytnieejghoaccmaa

namespace Go.Proofs.Ytnieejghoaccmaa
open Go.RowKit
open Shp
variable {n : Int} {bs : List Int}
end Go.Proofs.Ytnieejghoaccmaa

namespace Go.Proofs.Ytnieejghoaccmaa
open Go.RowKit
open Shp
variable {x k n m : Int} {a b xs ys : List Int}
theorem Zsd {s l : List Int} {i : Nat} (h : i < s.length + l.length) : letN s l i = nth (s ++ l) i := by
 unfold letN; split
 ·rename_i h2; exact (ZlE h2).symm
 ·rename_i h2; rw [Zlk (by omega), Nat.mod_eq_of_lt (by omega)]
theorem Zm0  (h1 : below xs n = true) (h2 : below ys n = true) : below (xs ++ ys) n = true := by
 rw [below_iff] at h1 h2 ⊢
 intro j hj
 rw [List.length_append] at hj
 by_cases h : j < xs.length
 ·rw [ZlE h]; exact h1 j h
 ·rw [Zlk (by omega)]; exact h2 _ (by omega)
end Go.Proofs.Ytnieejghoaccmaa

namespace Go.Proofs.Ytnieejghoaccmaa
open Go.RowKit
open Shp
variable {bs s2 l2 : List Int}
def lstC (bs : List Int) (n : Int) : Nat → List Int → Nat × Int → List Int × (Nat × Int)
 | 0, a, s => (a, s)
 | k + 1, a, s => lstC bs n k (a ++ [ZaL bs n s]) (Zae bs n s)
theorem ZiO {bs : List Int} {n : Int} : ∀ (k : Nat) (a : List Int) (s : Nat × Int), (lstC bs n k a s).1.length = a.length + k
 | 0, a, s => rfl
 | k + 1, a, s => by simp only [lstC]; rw [ZiO]; simp; omega
def ZeC (bs : List Int) (n least : Int) (s : Nat × Int) : List Int × (Nat × Int) := lstC bs n (least + ZaL bs 5 s).toNat [] (Zae bs 5 s)
theorem Zff  {n least : Int} (s : Nat × Int) (h : 0 ≤ least) : ((ZeC bs n least s).1.length : Int) ≤ least + 4 ∧ least ≤ (ZeC bs n least s).1.length := by
 have h1 := ZaW bs 5 s
 have h2 := h1.2 (by omega)
 unfold ZeC; rw [ZiO]; simp; omega
def oddT : List Int := [-1, 0, 1, 2147483648, -2147483648, 1099511627776, 4611686018427387904, -4611686018427387904, 9223372036854775807, -9223372036854775808]
def oddX (bs : List Int) (s : Nat × Int) : Int := nth oddT (ZaL bs 10 s).toNat
def numT (bs : List Int) (m : Int) (s : Nat × Int) : List Int := [-1, m, m + 1, oddX bs s]
def numA (bs : List Int) (m : Int) (s : Nat × Int) : Int × (Nat × Int) := (nth (numT bs m s) (ZaL bs 4 (Zae bs 10 s)).toNat, Zae bs 4 (Zae bs 10 s))
def numB (bs : List Int) (m : Int) (s : Nat × Int) : Int × (Nat × Int) := if ZgH bs 2 s = true then (ZaL bs (min m 4 + 1) (Zae bs 2 s), Zae bs (min m 4 + 1) (Zae bs 2 s)) else (ZaL bs (m + 1) (Zae bs 2 s), Zae bs (m + 1) (Zae bs 2 s))
def numD (bs : List Int) (m : Int) (s : Nat × Int) : Int × (Nat × Int) := if ZgH bs 10 s = true then numA bs m (Zae bs 10 s) else numB bs m (Zae bs 10 s)
def Zly (n : Nat) : List Int := List.replicate n 0
def ZsX (bs : List Int) (n : Int) (S L : List Int) (s : Nat × Int) : (List Int × List Int) × (Nat × Int) :=
 if ZaL bs 4 s = 0 then ((S, []), Zae bs 4 s) else if ZaL bs 4 s = 1 then ((S ++ [(numD bs n (Zae bs 4 s)).1], L), (numD bs n (Zae bs 4 s)).2)
 else if ZaL bs 4 s = 2 then ((S, L ++ [oddX bs (Zae bs 4 s)]), Zae bs 10 (Zae bs 4 s)) else ((Zly (600 + ZaL bs 2 (Zae bs 4 s)).toNat, L), Zae bs 2 (Zae bs 4 s))
def Zd4 (bs : List Int) (n : Int) (s : Nat × Int) : List Int × (Nat × Int) := ZeC bs (max n 1) 0 s
def ZdF (bs : List Int) (n : Int) (s : Nat × Int) : List Int × (Nat × Int) := ZeC bs (max n 1) 1 (Zd4 bs n s).2
def wrdD (bs : List Int) (n : Int) (s : Nat × Int) : (List Int × List Int) × (Nat × Int) :=
 if ZgH bs 15 (ZdF bs n s).2 = true then ZsX bs (max n 1) (Zd4 bs n s).1 (ZdF bs n s).1 (Zae bs 15 (ZdF bs n s).2) else (((Zd4 bs n s).1, (ZdF bs n s).1), Zae bs 15 (ZdF bs n s).2)
theorem ZoQ (bs : List Int) (n : Int) (s : Nat × Int) : (wrdD bs n s).1.1.length ≤ 601 ∧ (wrdD bs n s).1.2.length ≤ 6 := by
 have h1 := Zff (bs := bs) (n := max n 1) s (Int.le_refl 0)
 have h2 := Zff (bs := bs) (n := max n 1) (least := 1) (Zd4 bs n s).2 (by omega)
 have h3 : (Zd4 bs n s).1.length ≤ 4 := by show (ZeC bs (max n 1) 0 s).1.length ≤ 4; omega
 have h4 : (ZdF bs n s).1.length ≤ 5 := by show (ZeC bs (max n 1) 1 (Zd4 bs n s).2).1.length ≤ 5; omega
 unfold wrdD
 split
 ·generalize Zae bs 15 (ZdF bs n s).2 = t
  have h5 := ZaW bs 2 (Zae bs 4 t)
  have h6 := h5.2 (by omega)
  unfold ZsX
  split
  ·exact ⟨by show (Zd4 bs n s).1.length ≤ 601; omega, by simp⟩
  ·split
   ·exact ⟨by show ((Zd4 bs n s).1 ++ [_]).length ≤ 601; simp; omega, by show (ZdF bs n s).1.length ≤ 6; omega⟩
   ·split
    ·exact ⟨by show (Zd4 bs n s).1.length ≤ 601; omega, by show ((ZdF bs n s).1 ++ [_]).length ≤ 6; simp; omega⟩
    ·exact ⟨by show (Zly _).length ≤ 601; unfold Zly; rw [List.length_replicate]; omega, by show (ZdF bs n s).1.length ≤ 6; omega⟩
 ·exact ⟨by show (Zd4 bs n s).1.length ≤ 601; omega, by show (ZdF bs n s).1.length ≤ 6; omega⟩
end Go.Proofs.Ytnieejghoaccmaa

