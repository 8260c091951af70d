/- Predecessors, laid vertex by vertex. No program in sight; no conditions. -/
import Derived.Test.YtjjidamlmebaaaaGreatZC
namespace Go.Proofs.YtjjidamlmebaaaaGreat
open Go.RowKit
open Shp
variable {k n : Nat}
def ZfR (v : Int) (us : List Int) (A : List (List Int)) : List (List Int) := us.foldl (fun A u => A.set u.toNat (nth A u.toNat ++ [v])) A
theorem ZjH {v : Int} {us : List Int} {A : List (List Int)}  (h : k < us.length) : ZfR v (us.take (k + 1)) A = (ZfR v (us.take k) A).set (nth us k).toNat (nth (ZfR v (us.take k) A) (nth us k).toNat ++ [v]) := by
 unfold ZfR; rw [ZaF h, List.foldl_append]; rfl
theorem Za0 {v : Int} : ∀ {us : List Int} {A : List (List Int)}, (ZfR v us A).length = A.length
 | [], _ => rfl
 | u :: us, A => by
  have := Za0 (v := v) (us := us) (A := A.set u.toNat (nth A u.toNat ++ [v]))
  rw [List.length_set] at this
  exact this
theorem Zj2 {v : Int} : ∀ {us : List Int} {A : List (List Int)}, us.Nodup → (∀ u ∈ us, 0 ≤ u) → ∀ {x : Nat}, x < A.length → nth (ZfR v us A) x = if (x : Int) ∈ us then nth A x ++ [v] else nth A x
 | [], A, _, _, x, _ => by simp [ZfR]
 | u :: us, A, hn, hr, x, hx => by
  rw [List.nodup_cons] at hn
  have h0 := hr u (List.mem_cons_self ..)
  have ih := Zj2 (v := v) (us := us) (A := A.set u.toNat (nth A u.toNat ++ [v])) hn.2 (fun y hy => hr y (List.mem_cons_of_mem _ hy)) (x := x) (by rw [List.length_set]; exact hx)
  show nth (ZfR v us (A.set u.toNat (nth A u.toNat ++ [v]))) x = _
  rw [ih]
  by_cases e : u.toNat = x
  ·subst e
   have e1 : ((u.toNat : Nat) : Int) = u := by omega
   rw [Zav hx, e1, if_neg hn.1, if_pos (List.mem_cons_self ..)]
  ·rw [ZaI e]
   have e1 : ((x : Int) ∈ u :: us) ↔ (x : Int) ∈ us := by
    rw [List.mem_cons]
    exact ⟨fun h => h.elim (fun h => by omega) id, .inr⟩
   simp only [e1]
def ZbL (nx : List (List Int)) (n : Nat) : Nat → List (List Int)
 | 0 => List.replicate n []
 | v + 1 => ZfR v (nth nx v) (ZbL nx n v)
theorem ZaK {nx : List (List Int)} {n : Nat} : ∀ {v : Nat}, (ZbL nx n v).length = n
 | 0 => by simp [ZbL]
 | v + 1 => by simp only [ZbL]; rw [Za0]; exact ZaK
structure ARd (n : Nat) (nx : List (List Int)) : Prop where
 ln : nx.length = n
 rg : ∀ v, v < n → ∀ u ∈ nth nx v, 0 ≤ u ∧ u < n
 nd : ∀ v, v < n → (nth nx v).Nodup
theorem GDt.ard  {o p : List Int} {nx : List (List Int)} (h : GDt n o p nx) : ARd n nx := ⟨h.ln, h.rg, h.nd⟩
theorem Zhz {n : Nat} {nx : List (List Int)} (hg : ARd n nx) : ∀ {v : Nat}, v ≤ n → ∀ u, u < n → (nth (ZbL nx n v) u).Nodup ∧ ∀ x : Int, x ∈ nth (ZbL nx n v) u ↔ 0 ≤ x ∧ x < v ∧ (u : Int) ∈ nth nx x.toNat
 | 0, _, u, hu => by
  simp only [ZbL]
  rw [Zdc hu]
  exact ⟨List.nodup_nil, fun x => ⟨fun h => absurd h (by simp), fun h => by have := h.2.1; omega⟩⟩
 | v + 1, hv, u, hu => by
  have ih := Zhz hg (v := v) (by omega) u hu
  simp only [ZbL]
  rw [Zj2 (hg.nd v (by omega)) (fun y hy => (hg.rg v (by omega) y hy).1) (by rw [ZaK]; exact hu)]
  split
  ·rename_i h
   refine ⟨?_, fun x => ?_⟩
   ·rw [List.nodup_append]
    refine ⟨ih.1, by simp, fun x hx y hy e => ?_⟩
    rw [List.mem_singleton.1 hy] at e
    have := (ih.2 x).1 hx
    omega
   ·rw [List.mem_append, List.mem_singleton, ih.2]
    constructor
    ·rintro (⟨h1, h2, h3⟩ | rfl)
     ·exact ⟨h1, by omega, h3⟩
     ·exact ⟨by omega, by omega, by simpa using h⟩
    ·rintro ⟨h1, h2, h3⟩
     rcases Int.lt_or_le x v with h4 | h4
     ·exact .inl ⟨h1, h4, h3⟩
     ·exact .inr (by omega)
  ·rename_i h
   refine ⟨ih.1, fun x => ?_⟩
   rw [ih.2]
   constructor
   ·rintro ⟨h1, h2, h3⟩; exact ⟨h1, by omega, h3⟩
   ·rintro ⟨h1, h2, h3⟩
    refine ⟨h1, ?_, h3⟩
    rcases Int.lt_or_le x v with h4 | h4
    ·exact h4
    ·rw [show x.toNat = v by omega] at h3; exact absurd h3 h
theorem ZkK  {nx : List (List Int)} (hg : ARd n nx) : PRd n nx (ZbL nx n n) := ⟨ZaK, fun u hu => (Zhz hg (Nat.le_refl _) u hu).1, fun u hu v => (Zhz hg (Nat.le_refl _) u hu).2 v⟩
theorem ZfE  {nx : List (List Int)} (hg : ARd n nx) {v : Nat} (hv : v < n) {u : Nat} (hu : u < n) : (nth (ZfR v ((nth nx v).take k) (ZbL nx n v)) u).length ≤ n + 1 := by
 have h1 := Zhz hg (v := v) (by omega) u hu
 have h2 := Zbh (n := n) h1.1 fun x hx => by have := (h1.2 x).1 hx; omega
 rw [Zj2 ((hg.nd v hv).sublist (List.take_sublist _ _)) (fun y hy => (hg.rg v hv y (List.mem_of_mem_take hy)).1) (by rw [ZaK]; exact hu)]
 split
 ·rw [List.length_append, List.length_singleton]; omega
 ·omega
end Go.Proofs.YtjjidamlmebaaaaGreat

