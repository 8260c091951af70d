/- The reference's solver: what its steps lay is what player 0 wins. No program in sight; no conditions. -/
import Derived.Test.YtjjidamlmebaaaaGreatZC
namespace Go.Proofs.YtjjidamlmebaaaaGreat
open Go.RowKit
open Shp
variable {v x : Nat} {f : Nat → Bool}
section
variable {n : Nat} {o p : List Int} {nx : List (List Int)} {ins : List Bool}
def anyL (v : Nat) (f : Nat → Bool) : Bool := (List.range v).any f
theorem ZoE (v : Nat) (f : Nat → Bool) : anyL (v + 1) f = (anyL v f || f v) := by unfold anyL; rw [List.range_succ, List.any_append]; simp
theorem anyL_no : anyL v f = false ↔ ∀ x, x < v → f x = false := by unfold anyL; simp
theorem ZqS  (h : anyL v f = true) : ∃ x, x < v ∧ f x = true := by
 unfold anyL at h
 obtain ⟨x, hx, hf⟩ := List.any_eq_true.1 h
 exact ⟨x, List.mem_range.1 hx, hf⟩
theorem Zmk : ∀ {v x : Nat}, x < v → nth ins x = true → nth p x ≤ topL p ins v
 | v + 1, x, hx, hi => by
  simp only [topL]
  by_cases e : x = v
  ·subst e; rw [if_pos hi]; omega
  ·have := Zmk (v := v) (show x < v by omega) hi
   split <;> omega
theorem Zmi : ∀ {v : Nat}, (∀ x, x < v → 0 ≤ nth p x) → (topL p ins v = -1 ∧ ∀ x, x < v → nth ins x = false) ∨ (0 ≤ topL p ins v ∧ ∃ x, x < v ∧ nth ins x = true ∧ nth p x = topL p ins v)
 | 0, _ => .inl ⟨rfl, fun x hx => by omega⟩
 | v + 1, h => by
  have ih := Zmi (v := v) fun x hx => h x (by omega)
  simp only [topL]
  cases hv : nth ins v with
  | true =>
   rw [if_pos rfl]
   have h0 := h v (by omega)
   rcases ih with ⟨e, hn⟩ | ⟨e, x, hx, hi, hp⟩
   ·exact .inr ⟨by omega, v, by omega, hv, by omega⟩
   ·rcases Int.lt_or_le (topL p ins v) (nth p v) with h1 | h1
    ·exact .inr ⟨by omega, v, by omega, hv, by omega⟩
    ·exact .inr ⟨by omega, x, by omega, hi, by omega⟩
  | false =>
   rw [if_neg (by simp)]
   rcases ih with ⟨e, hn⟩ | ⟨e, x, hx, hi, hp⟩
   ·refine .inl ⟨e, fun x hx => ?_⟩
    by_cases e2 : x = v
    ·rw [e2]; exact hv
    ·exact hn x (by omega)
   ·exact .inr ⟨e, x, by omega, hi, hp⟩
def Zgi (n : Nat) (p : List Int) (ins : List Bool) (top : Int) : List Bool := (List.range n).map fun x => nth ins x && (nth p x == top)
noncomputable def Zda (n : Nat) (o p : List Int) (nx : List (List Int)) (ins : List Bool) (top : Int) : List Bool := ZcN n ins (attL n o p nx (top % 2) ins (Zgi n p ins top))
noncomputable def ZeY (n : Nat) (o p : List Int) (nx : List (List Int)) (ins : List Bool) (top : Int) (x : Nat) : Bool := nth (Zda n o p nx ins top) x && (nth (winL n o p nx 0 (Zda n o p nx ins top)) x != (top % 2 == 0))
noncomputable def ZfZ (n : Nat) (o p : List Int) (nx : List (List Int)) (ins : List Bool) (top : Int) : List Bool := (List.range n).map (ZeY n o p nx ins top)
noncomputable def ZkD (n : Nat) (o p : List Int) (nx : List (List Int)) (ins : List Bool) (top : Int) : List Bool := attL n o p nx (1 - top % 2) ins (ZfZ n o p nx ins top)
noncomputable def ZgF (n : Nat) (o p : List Int) (nx : List (List Int)) (ins : List Bool) (top : Int) : List Bool := ZcN n ins (ZkD n o p nx ins top)
theorem Zgv  (hv : v < n) : nth ((List.range n).map f) v = f v := by rw [Zaz (by simpa using hv)]; simp
theorem Zic {top : Int}  (hv : v < n) : nth (Zgi n p ins top) v = true ↔ nth ins v = true ∧ nth p v = top := by
 unfold Zgi; rw [Zgv hv, Bool.and_eq_true, beq_iff_eq]
theorem ZoB (top : Int) : (Zgi n p ins top).length = n := by unfold Zgi; simp
theorem ZoL (top : Int) : (ZfZ n o p nx ins top).length = n := by unfold ZfZ; simp
theorem Zk3 (top : Int) : (Zda n o p nx ins top).length = n := ZaZ _ _
theorem Zlv (top : Int) : (ZgF n o p nx ins top).length = n := ZaZ _ _
theorem ZaX (i : Int) : (winL n o p nx i ins).length = n := ZbE _ _
theorem ZdM (i : Int) (goal : List Bool) : (attL n o p nx i ins goal).length = n := ZbE _ _
theorem Zm5 {top : Int} (hg : GDt n o p nx) (ht : TotL n nx ins) : TotL n nx (Zda n o p nx ins top) := ZeC (i := top % 2) (T := fun v => nth (Zgi n p ins top) v = true) hg ht fun v hv => ZaN hv
theorem ZrI {top : Int} (hg : GDt n o p nx) (ht : TotL n nx ins) : TotL n nx (ZgF n o p nx ins top) := ZeC (i := 1 - top % 2) (T := fun v => nth (ZfZ n o p nx ins top) v = true) hg ht fun v hv => ZaN hv
theorem Ztf {top : Int}  (hx : x < n) (hi : nth ins x = true) (hp : nth p x = top) : cnt n (inS n (Zda n o p nx ins top)) < cnt n (inS n ins) := by
 have hb : ∀ v, v < n → (nth (attL n o p nx (top % 2) ins (Zgi n p ins top)) v = true ↔ AttR (pgd o p nx) (top % 2) (inS n ins) (fun v => nth (Zgi n p ins top) v = true) v) := fun v hv => ZaN hv
 have hA := ZdS (G := pgd o p nx) (i := top % 2) (S := inS n ins) (T := fun v => nth (Zgi n p ins top) v = true) (n := n) fun v hv => hv.1
 exact ZlD (fun v hv => ((Zcq hb v).1 hv).1) hx ⟨hx, hi⟩ fun h => ((Zcq hb x).1 h).2 (hA.goal x ⟨hx, hi⟩ ((Zic hx).2 ⟨hi, hp⟩))
theorem ZsB {top : Int}  (hx : x < n) (h : ZeY n o p nx ins top x = true) : nth ins x = true := by
 unfold ZeY at h
 rw [Bool.and_eq_true] at h
 have := h.1
 unfold Zda at this
 rw [Zdh hx, Bool.and_eq_true] at this
 exact this.1
theorem ZtE {top : Int}  (hx : x < n) (h : ZeY n o p nx ins top x = true) : cnt n (inS n (ZgF n o p nx ins top)) < cnt n (inS n ins) := by
 have hb : ∀ v, v < n → (nth (ZkD n o p nx ins top) v = true ↔ AttR (pgd o p nx) (1 - top % 2) (inS n ins) (fun v => nth (ZfZ n o p nx ins top) v = true) v) := fun v hv => ZaN hv
 have hA := ZdS (G := pgd o p nx) (i := 1 - top % 2) (S := inS n ins) (T := fun v => nth (ZfZ n o p nx ins top) v = true) (n := n) fun v hv => hv.1
 have hi := ZsB hx h
 exact ZlD (fun v hv => ((Zcq hb v).1 hv).1) hx ⟨hx, hi⟩ fun h' => ((Zcq hb x).1 h').2 (hA.goal x ⟨hx, hi⟩ (by show nth (ZfZ n o p nx ins top) x = true; unfold ZfZ; rw [Zgv hx]; exact h))
theorem ZmM {top : Int} (hg : GDt n o p nx) (ht : TotL n nx ins) (v : Nat) (hv : v < n) : nth (ZfZ n o p nx ins top) v = true ↔ winP n o p nx (1 - top % 2) (Zda n o p nx ins top) v := by
 have htr := Zm5 (top := top) hg ht
 have hw : nth (winL n o p nx 0 (Zda n o p nx ins top)) v = true ↔ winP n o p nx 0 (Zda n o p nx ins top) v := ZaN hv
 unfold ZfZ
 rw [Zgv hv]
 unfold ZeY
 rw [Bool.and_eq_true]
 rcases show top % 2 = 0 ∨ top % 2 = 1 by omega with e | e
 ·rw [e]
  constructor
  ·rintro ⟨h1, h2⟩
   rw [ZlO (i := 1 - 0) hg htr (.inr rfl) ⟨hv, h1⟩]
   intro h3
   have := hw.2 h3
   rw [this] at h2; cases h2
  ·intro h
   have hs := Zcv h
   refine ⟨hs.2, ?_⟩
   have h3 := (ZlO (i := 1 - 0) hg htr (.inr rfl) hs).1 h
   have h4 : nth (winL n o p nx 0 (Zda n o p nx ins top)) v = false := by rw [Bool.eq_false_iff]; exact fun h5 => h3 (hw.1 h5)
   rw [h4]; rfl
 ·rw [e]
  constructor
  ·rintro ⟨h1, h2⟩
   have h2 : nth (winL n o p nx 0 (Zda n o p nx ins top)) v = true := by
    cases h5 : nth (winL n o p nx 0 (Zda n o p nx ins top)) v with
    | true => rfl
    | false => rw [h5] at h2; cases h2
   exact hw.1 h2
  ·intro h
   exact ⟨(Zcv h).2, by rw [hw.2 h]; rfl⟩
theorem Zv5 (h : ∀ v, v < n → nth ins v = false) : List.replicate n false = winL n o p nx 0 ins := ZcR (by simp) fun v hv => by
 rw [Zdc hv]
 constructor
 ·intro e; cases e
 ·intro hw
  have := (Zcv hw).2
  rw [h v hv] at this; cases this
theorem Zvl {top : Int} (hg : GDt n o p nx) (ht : TotL n nx ins) (hle : ∀ v, v < n → nth ins v = true → nth p v ≤ top) (hno : anyL n (ZeY n o p nx ins top) = false) : (List.range n).map (fun x => nth ins x && (top % 2 == 0)) = winL n o p nx 0 ins := ZcR (by simp) fun v hv => by
 have hn : ∀ v, ¬ winP n o p nx (1 - top % 2) (Zda n o p nx ins top) v := fun x hx => by
  have h1 := (ZmM hg ht x (Zcv hx).1).2 hx
  unfold ZfZ at h1
  rw [Zgv (Zcv hx).1, (anyL_no.1 hno) x (Zcv hx).1] at h1; cases h1
 have hw := ZmT (goal := Zgi n p ins top) (rest := Zda n o p nx ins top) hg ht (rfl : top % 2 = top % 2) hle (fun v hv h => ⟨((Zic hv).1 h).2, ((Zic hv).1 h).1⟩) rfl hn v
 rw [Zgv hv, Bool.and_eq_true, beq_iff_eq]
 rcases show top % 2 = 0 ∨ top % 2 = 1 by omega with e | e
 ·rw [e] at hw ⊢
  exact ⟨fun h => hw.1.2 ⟨hv, h.1⟩, fun h => ⟨(hw.1.1 h).2, rfl⟩⟩
 ·rw [e] at hw ⊢
  exact ⟨fun h => by have := h.2; omega, fun h => absurd h hw.2⟩
theorem ZvG {top : Int} (hg : GDt n o p nx) (ht : TotL n nx ins) : (List.range n).map (fun x => nth (winL n o p nx 0 (ZgF n o p nx ins top)) x || (nth (ZkD n o p nx ins top) x && (top % 2 == 1))) = winL n o p nx 0 ins := ZcR (by simp) fun v hv => by
 obtain ⟨_, _, h⟩ := ZmJ (goal := Zgi n p ins top) (rest := Zda n o p nx ins top) (lost := ZfZ n o p nx ins top) (less := ZgF n o p nx ins top) hg ht (show top % 2 = 0 ∨ top % 2 = 1 by omega) rfl (ZmM hg ht) rfl
 have hw : nth (winL n o p nx 0 (ZgF n o p nx ins top)) v = true ↔ winP n o p nx 0 (ZgF n o p nx ins top) v := ZaN hv
 rw [Zgv hv, Bool.or_eq_true, Bool.and_eq_true, beq_iff_eq, hw]
 have h2 := h v hv
 rcases show top % 2 = 0 ∨ top % 2 = 1 by omega with e | e
 ·rw [e] at h2 ⊢
  rw [h2.1]
  exact ⟨fun h => h.elim id fun h => by have := h.2; omega, .inl⟩
 ·rw [e] at h2 ⊢
  rw [show winP n o p nx 0 ins v ↔ _ from h2.2]
  unfold ZkD
  rw [e]
  exact ⟨fun h => h.elim .inr fun h => .inl h.1, fun h => h.elim (fun h => .inr ⟨h, rfl⟩) .inl⟩
def lstL (ins : List Bool) : Nat → List Int
 | 0 => []
 | v + 1 => if nth ins v = true then lstL ins v ++ [(v : Int)] else lstL ins v
theorem ZeN (ins : List Bool) : ∀ v, (lstL ins v).length ≤ v
 | 0 => Nat.le_refl _
 | v + 1 => by
  have := ZeN ins v
  simp only [lstL]
  split
  ·rw [List.length_append, List.length_singleton]; omega
  ·omega
theorem ZbZ (ins : List Bool) {x : Int} : ∀ {v : Nat}, x ∈ lstL ins v ↔ 0 ≤ x ∧ x < v ∧ nth ins x.toNat = true
 | 0 => by simp [lstL]; omega
 | v + 1 => by
  have ih := ZbZ ins (x := x) (v := v)
  simp only [lstL]
  split
  ·rename_i h
   rw [List.mem_append, List.mem_singleton, ih]
   constructor
   ·rintro (⟨h1, h2, h3⟩ | rfl)
    ·exact ⟨h1, by omega, h3⟩
    ·exact ⟨by omega, by omega, by simpa using h⟩
   ·rintro ⟨h1, h2, h3⟩
    rcases Int.lt_or_le x v with h4 | h4
    ·exact .inl ⟨h1, h4, h3⟩
    ·exact .inr (by omega)
  ·rename_i h
   rw [ih]
   constructor
   ·rintro ⟨h1, h2, h3⟩; exact ⟨h1, by omega, h3⟩
   ·rintro ⟨h1, h2, h3⟩
    refine ⟨h1, ?_, h3⟩
    rcases Int.lt_or_le x v with h4 | h4
    ·exact h4
    ·rw [show x.toNat = v by omega] at h3; exact absurd h3 h
end
end Go.Proofs.YtjjidamlmebaaaaGreat

