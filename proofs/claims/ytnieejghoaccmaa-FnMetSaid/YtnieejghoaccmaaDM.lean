/- Draws of the statements: sets, clauses, automata. No program in sight; no conditions. -/
import Derived.Test.YtnieejghoaccmaaPR
import Derived.Test.YtnieejghoaccmaaDW
namespace Go.Proofs.Ytnieejghoaccmaa
open Go.RowKit
open Shp
variable {bs : List Int} {n o : Int}
def setC (bs : List Int) : Nat → Int → List Int → Nat × Int → List Int × (Nat × Int)
 | 0, _, a, s => (a, s)
 | k + 1, i, a, s => setC bs k (i + 1) (if ZgH bs 2 s = true then a ++ [i] else a) (Zae bs 2 s)
theorem Zlm {bs : List Int} : ∀ (k : Nat) (i : Int) (a : List Int) (s : Nat × Int), (setC bs k i a s).1.length ≤ a.length + k
 | 0, _, a, s => by simp [setC]
 | k + 1, i, a, s => by
  simp only [setC]
  have := Zlm (bs := bs) k (i + 1) (if ZgH bs 2 s = true then a ++ [i] else a) (Zae bs 2 s)
  split at this <;> split <;> simp_all <;> omega
def ZcF (bs : List Int) (n : Int) (s : Nat × Int) : List Int × (Nat × Int) := setC bs n.toNat 0 [] s
def clC (bs : List Int) (n : Int) (s : Nat × Int) : (Int × List Int × List Int) × (Nat × Int) :=
 if ZhE (1 + ZaL bs 7 s) = true then ((1 + ZaL bs 7 s, (ZcF bs n (Zae bs 7 s)).1, (ZcF bs n (ZcF bs n (Zae bs 7 s)).2).1), (ZcF bs n (ZcF bs n (Zae bs 7 s)).2).2)
 else ((1 + ZaL bs 7 s, (ZcF bs n (Zae bs 7 s)).1, []), (ZcF bs n (Zae bs 7 s)).2)
theorem Zha  {s : Nat × Int} : (ZcF bs n s).1.length ≤ n.toNat := by
 have := Zlm (bs := bs) n.toNat 0 [] s
 simpa [ZcF] using this
theorem ZsF  {s : Nat × Int} : (clC bs n s).1.2.1.length ≤ n.toNat ∧ (clC bs n s).1.2.2.length ≤ n.toNat := by
 unfold clC
 split
 ·exact ⟨Zha, Zha⟩
 ·exact ⟨Zha, by simp⟩
def clB (bs : List Int) (x : Int × List Int × List Int) (s : Nat × Int) : (Int × List Int × List Int) × (Nat × Int) :=
 if ZaL bs 3 s = 0 then ((Zoo bs 0 8 (Zae bs 3 s), x.2.1, x.2.2), Zl5 bs 0 8 (Zae bs 3 s))
 else if ZaL bs 3 s = 1 then ((x.1, x.2.1 ++ [(numD bs 15 (Zae bs 3 s)).1], x.2.2), (numD bs 15 (Zae bs 3 s)).2)
 else ((x.1, x.2.1, x.2.2 ++ [(numD bs 15 (Zae bs 3 s)).1]), (numD bs 15 (Zae bs 3 s)).2)
def clA (bs : List Int) (n : Int) (s : Nat × Int) : (Int × List Int × List Int) × (Nat × Int) :=
 if ZgH bs 10 (clC bs n s).2 = true then clB bs (clC bs n s).1 (Zae bs 10 (clC bs n s).2) else ((clC bs n s).1, Zae bs 10 (clC bs n s).2)
def clsC (bs : List Int) (n : Int) : Nat → List (Int × List Int × List Int) → Nat × Int → List (Int × List Int × List Int) × (Nat × Int)
 | 0, a, s => (a, s)
 | k + 1, a, s => clsC bs n k (a ++ [(clC bs n s).1]) (clC bs n s).2
def fewC (bs : List Int) (n m : Int) (s : Nat × Int) : List (Int × List Int × List Int) × (Nat × Int) := clsC bs n (ZaL bs (m + 1) s).toNat [] (Zae bs (m + 1) s)
def allC (bs : List Int) (n m : Int) (s : Nat × Int) : List (Int × List Int × List Int) × (Nat × Int) :=
 if ZgH bs 20 (fewC bs n m s).2 = true then ((fewC bs n m s).1 ++ [(clA bs n (Zae bs 20 (fewC bs n m s).2)).1], (clA bs n (Zae bs 20 (fewC bs n m s).2)).2) else ((fewC bs n m s).1, Zae bs 20 (fewC bs n m s).2)
def Zj5 (bs : List Int) (n : Int) (L : Nat) : Nat → List (List Int) → Nat × Int → List (List Int) × (Nat × Int)
 | 0, a, s => (a, s)
 | k + 1, a, s => Zj5 bs n L k (a ++ [(lstC bs n L [] s).1]) (lstC bs n L [] s).2
def prsC (bs : List Int) (n : Int) : Nat → List (List Int × List Int) → Nat × Int → List (List Int × List Int) × (Nat × Int)
 | 0, a, s => (a, s)
 | k + 1, a, s => prsC bs n k (a ++ [((ZcF bs n s).1, (ZcF bs n (ZcF bs n s).2).1)]) (ZcF bs n (ZcF bs n s).2).2
theorem Zj1 {bs : List Int} {n : Int} {L : Nat} : ∀ (k : Nat) (a : List (List Int)) (s : Nat × Int), (∀ r ∈ a, r.length ≤ L) → (Zj5 bs n L k a s).1.length = a.length + k ∧ ∀ r ∈ (Zj5 bs n L k a s).1, r.length ≤ L
 | 0, a, s, h => ⟨rfl, h⟩
 | k + 1, a, s, h => by
  simp only [Zj5]
  have h2 := Zj1 (bs := bs) (n := n) (L := L) k (a ++ [(lstC bs n L [] s).1]) (lstC bs n L [] s).2 (fun r hr => by
   rcases List.mem_append.1 hr with hr | hr
   ·exact h r hr
   ·have e : r = (lstC bs n L [] s).1 := by simpa using hr
    rw [e, ZiO]; simp)
  refine ⟨?_, h2.2⟩
  have := h2.1
  rw [List.length_append, List.length_singleton] at this
  omega
theorem ZlM {bs : List Int} {n : Int} : ∀ (k : Nat) (a : List (List Int × List Int)) (s : Nat × Int), (prsC bs n k a s).1.length = a.length + k
 | 0, _, _ => rfl
 | k + 1, a, s => by simp only [prsC]; rw [ZlM]; simp; omega
abbrev DetT := List (List Int) × List (List Int × List Int)
def ZgE (bs : List Int) (L : Int) (s : Nat × Int) : List (List Int) × (Nat × Int) := Zj5 bs (1 + ZaL bs 4 s) L.toNat (1 + ZaL bs 4 s).toNat [] (Zae bs 4 s)
def Zn5 (bs : List Int) (L : Int) (s : Nat × Int) : List (List Int × List Int) × (Nat × Int) := prsC bs (1 + ZaL bs 4 s) (ZaL bs 3 (ZgE bs L s).2).toNat [] (Zae bs 3 (ZgE bs L s).2)
def detC (bs : List Int) (i o : Int) (s : Nat × Int) : DetT × (Nat × Int) :=
 if ZgH bs 2 s = true then ((Zdx i o (allC bs (max (Zaa i o) 2) 2 (Zae bs 2 s)).1).1, (allC bs (max (Zaa i o) 2) 2 (Zae bs 2 s)).2)
 else (((ZgE bs (Zaa i o) (Zae bs 2 s)).1, (Zn5 bs (Zaa i o) (Zae bs 2 s)).1), (Zn5 bs (Zaa i o) (Zae bs 2 s)).2)
theorem Zll {α : Type} {g : α → Nat} : ∀ {xs : List α} {x : α}, x ∈ xs → g x ≤ cntG g xs
 | [], x, h => by simp at h
 | y :: xs, x, h => by
  simp only [cntG]
  rcases List.mem_cons.1 h with rfl | h
  ·omega
  ·have := Zll (g := g) h; omega
theorem Zls {i o : Int} {L : Nat} : ∀ {cs : List (Int × List Int × List Int)} {n : List (List Int)} {ps : List (List Int × List Int)}, L = (Zaa i o).toNat → detB i o n ps = true → (∀ c ∈ cs, 1 ≤ c.1 ∧ c.1 ≤ 7) → (Zeg L cs n ps).1.2.length ≤ 4
 | [], n, ps, _, hd, _ => ZjR hd
 | c :: cs, n, ps, hL, hd, hk => by
  simp only [Zeg]
  subst hL
  have hs := (detB_iff.1 hd).1
  have hm := ZnZ (a := c.2.1) (b := c.2.2) hs (hk c (.head _))
  split
  ·rename_i h
   exact Zls rfl (ZgT hd hm h) fun d hd => hk d (.tail _ hd)
  ·simp
theorem Zo8 {i : Int} {cs : List (Int × List Int × List Int)} : (Zdx i o cs).1.2.length ≤ 4 := by
 cases h : ZaZ i o cs
 ·rw [Zf9 h]; simp
 ·obtain ⟨h1, h2, h3⟩ := Zd7 h
  unfold Zdx; rw [if_pos h]
  refine Zls (i := i) (o := o) rfl (Zk6 h1) fun c hc => ?_
  obtain ⟨k, hk, rfl⟩ := ZbW hc
  exact ZfG (h3 k hk)
theorem ZpB  {i : Int} {s : Nat × Int} : (∀ r ∈ (detC bs i o s).1.1, r.length ≤ 1000) ∧ (detC bs i o s).1.2.length ≤ 1000 := by
 have hL := ZaJ i o
 unfold detC
 split
 ·have h := Zn9 (i := i) (o := o) (cs := (allC bs (max (Zaa i o) 2) 2 (Zae bs 2 s)).1)
  refine ⟨fun r hr => ?_, ?_⟩
  ·have h2 : r.length ≤ cntR (Zdx i o (allC bs (max (Zaa i o) 2) 2 (Zae bs 2 s)).1).1.1 := Zll (g := List.length) hr
   omega
  ·have := Zo8 (i := i) (o := o) (cs := (allC bs (max (Zaa i o) 2) 2 (Zae bs 2 s)).1)
   exact Nat.le_trans this (by omega)
 ·have h1 := ZaW bs 4 (Zae bs 2 s)
  have h2 := ZaW bs 3 (ZgE bs (Zaa i o) (Zae bs 2 s)).2
  have h3 := h2.2 (by omega)
  refine ⟨fun r hr => ?_, ?_⟩
  ·have h4 := (Zj1 (bs := bs) (n := 1 + ZaL bs 4 (Zae bs 2 s)) (L := (Zaa i o).toNat) (1 + ZaL bs 4 (Zae bs 2 s)).toNat [] (Zae bs 4 (Zae bs 2 s)) (by simp)).2 r hr
   omega
  ·show (Zn5 bs (Zaa i o) (Zae bs 2 s)).1.length ≤ 1000
   unfold Zn5
   rw [ZlM]; simp; omega
def Zur (bs : List Int) (d : DetT) (s : Nat × Int) : DetT × (Nat × Int) :=
 if ZaL bs 3 s = 0 then ((d.1.set 0 (nth d.1 0 ++ [0]), d.2), Zae bs 3 s)
 else if ZaL bs 3 s = 1 then (if 0 < (nth d.1 0).length then ((d.1.set 0 ((nth d.1 0).set 0 (Zoo bs (-1) 5 (Zae bs 3 s))), d.2), Zl5 bs (-1) 5 (Zae bs 3 s)) else (d, Zae bs 3 s))
 else ((d.1, d.2 ++ [([Zoo bs (-1) 5 (Zae bs 3 s)], [])]), Zl5 bs (-1) 5 (Zae bs 3 s))
def detA (bs : List Int) (i o : Int) (s : Nat × Int) : DetT × (Nat × Int) :=
 if ZgH bs 12 (detC bs i o s).2 = true ∧ 0 < (detC bs i o s).1.1.length then Zur bs (detC bs i o s).1 (Zae bs 12 (detC bs i o s).2) else ((detC bs i o s).1, Zae bs 12 (detC bs i o s).2)
end Go.Proofs.Ytnieejghoaccmaa

