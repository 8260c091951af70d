/- Draws of the statements: sets, clauses, automata. No program in sight; no conditions. -/
import Derived.Test.YtnieejghoaccmaaGreatMP
import Derived.Test.YtnieejghoaccmaaGreatM2
namespace Go.Proofs.YtnieejghoaccmaaGreat
open Go.RowKit
open Shp
variable {bs : List Int} {n o : Int}
def setC (bs : List Int) : Nat → Int → List Int → Nat × Int → List Int × (Nat × Int)
 | 0, _, a, s => (a, s)
 | k + 1, i, a, s => setC bs k (i + 1) (if ZiQ bs 2 s = true then a ++ [i] else a) (Zag bs 2 s)
theorem ZnT {bs : List Int} : ∀ (k : Nat) (i : Int) (a : List Int) (s : Nat × Int), (setC bs k i a s).1.length ≤ a.length + k
 | 0, _, a, s => by simp [setC]
 | k + 1, i, a, s => by
  simp only [setC]
  have := ZnT (bs := bs) k (i + 1) (if ZiQ bs 2 s = true then a ++ [i] else a) (Zag bs 2 s)
  split at this <;> split <;> simp_all <;> omega
def Zc7 (bs : List Int) (n : Int) (s : Nat × Int) : List Int × (Nat × Int) := setC bs n.toNat 0 [] s
def clC (bs : List Int) (n : Int) (s : Nat × Int) : (Int × List Int × List Int) × (Nat × Int) :=
 if Zia (1 + ZaH bs 7 s) = true then ((1 + ZaH bs 7 s, (Zc7 bs n (Zag bs 7 s)).1, (Zc7 bs n (Zc7 bs n (Zag bs 7 s)).2).1), (Zc7 bs n (Zc7 bs n (Zag bs 7 s)).2).2)
 else ((1 + ZaH bs 7 s, (Zc7 bs n (Zag bs 7 s)).1, []), (Zc7 bs n (Zag bs 7 s)).2)
theorem ZiR  {s : Nat × Int} : (Zc7 bs n s).1.length ≤ n.toNat := by
 have := ZnT (bs := bs) n.toNat 0 [] s
 simpa [Zc7] using this
theorem Ztr  {s : Nat × Int} : (clC bs n s).1.2.1.length ≤ n.toNat ∧ (clC bs n s).1.2.2.length ≤ n.toNat := by
 unfold clC
 split
 ·exact ⟨ZiR, ZiR⟩
 ·exact ⟨ZiR, by simp⟩
def clB (bs : List Int) (x : Int × List Int × List Int) (s : Nat × Int) : (Int × List Int × List Int) × (Nat × Int) :=
 if ZaH bs 3 s = 0 then ((Zqi bs 0 8 (Zag bs 3 s), x.2.1, x.2.2), Zol bs 0 8 (Zag bs 3 s))
 else if ZaH bs 3 s = 1 then ((x.1, x.2.1 ++ [(numD bs 15 (Zag bs 3 s)).1], x.2.2), (numD bs 15 (Zag bs 3 s)).2)
 else ((x.1, x.2.1, x.2.2 ++ [(numD bs 15 (Zag bs 3 s)).1]), (numD bs 15 (Zag bs 3 s)).2)
def clA (bs : List Int) (n : Int) (s : Nat × Int) : (Int × List Int × List Int) × (Nat × Int) :=
 if ZiQ bs 10 (clC bs n s).2 = true then clB bs (clC bs n s).1 (Zag bs 10 (clC bs n s).2) else ((clC bs n s).1, Zag bs 10 (clC bs n s).2)
def clsC (bs : List Int) (n : Int) : Nat → List (Int × List Int × List Int) → Nat × Int → List (Int × List Int × List Int) × (Nat × Int)
 | 0, a, s => (a, s)
 | k + 1, a, s => clsC bs n k (a ++ [(clC bs n s).1]) (clC bs n s).2
def fewC (bs : List Int) (n m : Int) (s : Nat × Int) : List (Int × List Int × List Int) × (Nat × Int) := clsC bs n (ZaH bs (m + 1) s).toNat [] (Zag bs (m + 1) s)
def allC (bs : List Int) (n m : Int) (s : Nat × Int) : List (Int × List Int × List Int) × (Nat × Int) :=
 if ZiQ bs 20 (fewC bs n m s).2 = true then ((fewC bs n m s).1 ++ [(clA bs n (Zag bs 20 (fewC bs n m s).2)).1], (clA bs n (Zag bs 20 (fewC bs n m s).2)).2) else ((fewC bs n m s).1, Zag bs 20 (fewC bs n m s).2)
def Zlq (bs : List Int) (n : Int) (L : Nat) : Nat → List (List Int) → Nat × Int → List (List Int) × (Nat × Int)
 | 0, a, s => (a, s)
 | k + 1, a, s => Zlq bs n L k (a ++ [(lstC bs n L [] s).1]) (lstC bs n L [] s).2
def prsC (bs : List Int) (n : Int) : Nat → List (List Int × List Int) → Nat × Int → List (List Int × List Int) × (Nat × Int)
 | 0, a, s => (a, s)
 | k + 1, a, s => prsC bs n k (a ++ [((Zc7 bs n s).1, (Zc7 bs n (Zc7 bs n s).2).1)]) (Zc7 bs n (Zc7 bs n s).2).2
theorem ZlL {bs : List Int} {n : Int} {L : Nat} : ∀ (k : Nat) (a : List (List Int)) (s : Nat × Int), (∀ r ∈ a, r.length ≤ L) → (Zlq bs n L k a s).1.length = a.length + k ∧ ∀ r ∈ (Zlq bs n L k a s).1, r.length ≤ L
 | 0, a, s, h => ⟨rfl, h⟩
 | k + 1, a, s, h => by
  simp only [Zlq]
  have h2 := ZlL (bs := bs) (n := n) (L := L) k (a ++ [(lstC bs n L [] s).1]) (lstC bs n L [] s).2 (fun r hr => by
   rcases List.mem_append.1 hr with hr | hr
   ·exact h r hr
   ·have e : r = (lstC bs n L [] s).1 := by simpa using hr
    rw [e, Znw]; simp)
  refine ⟨?_, h2.2⟩
  have := h2.1
  rw [List.length_append, List.length_singleton] at this
  omega
theorem ZnB {bs : List Int} {n : Int} : ∀ (k : Nat) (a : List (List Int × List Int)) (s : Nat × Int), (prsC bs n k a s).1.length = a.length + k
 | 0, _, _ => rfl
 | k + 1, a, s => by simp only [prsC]; rw [ZnB]; simp; omega
abbrev DetT := List (List Int) × List (List Int × List Int)
def ZhE (bs : List Int) (L : Int) (s : Nat × Int) : List (List Int) × (Nat × Int) := Zlq bs (1 + ZaH bs 4 s) L.toNat (1 + ZaH bs 4 s).toNat [] (Zag bs 4 s)
def Zo8 (bs : List Int) (L : Int) (s : Nat × Int) : List (List Int × List Int) × (Nat × Int) := prsC bs (1 + ZaH bs 4 s) (ZaH bs 3 (ZhE bs L s).2).toNat [] (Zag bs 3 (ZhE bs L s).2)
def detC (bs : List Int) (i o : Int) (s : Nat × Int) : DetT × (Nat × Int) :=
 if ZiQ bs 2 s = true then ((Zea i o (allC bs (max (Zaa i o) 2) 2 (Zag bs 2 s)).1).1, (allC bs (max (Zaa i o) 2) 2 (Zag bs 2 s)).2)
 else (((ZhE bs (Zaa i o) (Zag bs 2 s)).1, (Zo8 bs (Zaa i o) (Zag bs 2 s)).1), (Zo8 bs (Zaa i o) (Zag bs 2 s)).2)
theorem ZnZ {α : Type} {g : α → Nat} : ∀ {xs : List α} {x : α}, x ∈ xs → g x ≤ cntG g xs
 | [], x, h => by simp at h
 | y :: xs, x, h => by
  simp only [cntG]
  rcases List.mem_cons.1 h with rfl | h
  ·omega
  ·have := ZnZ (g := g) h; omega
theorem ZnL {i o : Int} {L : Nat} : ∀ {cs : List (Int × List Int × List Int)} {n : List (List Int)} {ps : List (List Int × List Int)}, L = (Zaa i o).toNat → detB i o n ps = true → (∀ c ∈ cs, 1 ≤ c.1 ∧ c.1 ≤ 7) → (Zex L cs n ps).1.2.length ≤ 4
 | [], n, ps, _, hd, _ => ZeB hd
 | c :: cs, n, ps, hL, hd, hk => by
  simp only [Zex]
  subst hL
  have hs := (detB_iff.1 hd).1
  have hm := ZpC (a := c.2.1) (b := c.2.2) hs (hk c (.head _))
  split
  ·rename_i h
   exact ZnL rfl (Zfe hd hm h) fun d hd => hk d (.tail _ hd)
  ·simp
theorem Zr9 {i : Int} {cs : List (Int × List Int × List Int)} : (Zea i o cs).1.2.length ≤ 4 := by
 cases h : ZaV i o cs
 ·rw [ZgP h]; simp
 ·obtain ⟨h1, h2, h3⟩ := ZeK h
  unfold Zea; rw [if_pos h]
  refine ZnL (i := i) (o := o) rfl (ZmM h1) fun c hc => ?_
  obtain ⟨k, hk, rfl⟩ := Zbx hc
  exact ZfQ (h3 k hk)
theorem Zsl  {i : Int} {s : Nat × Int} : (∀ r ∈ (detC bs i o s).1.1, r.length ≤ 1000) ∧ (detC bs i o s).1.2.length ≤ 1000 := by
 have hL := Zaw i o
 unfold detC
 split
 ·have h := Zo1 (i := i) (o := o) (cs := (allC bs (max (Zaa i o) 2) 2 (Zag bs 2 s)).1)
  refine ⟨fun r hr => ?_, ?_⟩
  ·have h2 : r.length ≤ cntR (Zea i o (allC bs (max (Zaa i o) 2) 2 (Zag bs 2 s)).1).1.1 := ZnZ (g := List.length) hr
   omega
  ·have := Zr9 (i := i) (o := o) (cs := (allC bs (max (Zaa i o) 2) 2 (Zag bs 2 s)).1)
   exact Nat.le_trans this (by omega)
 ·have h1 := Za9 bs 4 (Zag bs 2 s)
  have h2 := Za9 bs 3 (ZhE bs (Zaa i o) (Zag bs 2 s)).2
  have h3 := h2.2 (by omega)
  refine ⟨fun r hr => ?_, ?_⟩
  ·have h4 := (ZlL (bs := bs) (n := 1 + ZaH bs 4 (Zag bs 2 s)) (L := (Zaa i o).toNat) (1 + ZaH bs 4 (Zag bs 2 s)).toNat [] (Zag bs 4 (Zag bs 2 s)) (by simp)).2 r hr
   omega
  ·show (Zo8 bs (Zaa i o) (Zag bs 2 s)).1.length ≤ 1000
   unfold Zo8
   rw [ZnB]; simp; omega
def ZyZ (bs : List Int) (d : DetT) (s : Nat × Int) : DetT × (Nat × Int) :=
 if ZaH bs 3 s = 0 then ((d.1.set 0 (nth d.1 0 ++ [0]), d.2), Zag bs 3 s)
 else if ZaH bs 3 s = 1 then (if 0 < (nth d.1 0).length then ((d.1.set 0 ((nth d.1 0).set 0 (Zqi bs (-1) 5 (Zag bs 3 s))), d.2), Zol bs (-1) 5 (Zag bs 3 s)) else (d, Zag bs 3 s))
 else ((d.1, d.2 ++ [([Zqi bs (-1) 5 (Zag bs 3 s)], [])]), Zol bs (-1) 5 (Zag bs 3 s))
def detA (bs : List Int) (i o : Int) (s : Nat × Int) : DetT × (Nat × Int) :=
 if ZiQ bs 12 (detC bs i o s).2 = true ∧ 0 < (detC bs i o s).1.1.length then ZyZ bs (detC bs i o s).1 (Zag bs 12 (detC bs i o s).2) else ((detC bs i o s).1, Zag bs 12 (detC bs i o s).2)
end Go.Proofs.YtnieejghoaccmaaGreat

