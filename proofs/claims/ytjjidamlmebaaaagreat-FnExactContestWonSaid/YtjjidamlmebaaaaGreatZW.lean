/- Parity games as data: what the players win, by the steps of the two solvers. No program in sight; no conditions. -/
import Derived.Test.YtjjidamlmebaaaaGreatZM
namespace Go.Proofs.YtjjidamlmebaaaaGreat
open Go.RowKit
open Shp
variable {ins a b goal : List Bool} {v : Nat}
section
variable {n : Nat} {o p : List Int} {nx : List (List Int)}
def winP (n : Nat) (o p : List Int) (nx : List (List Int)) (i : Int) (ins : List Bool) : Nat → Prop := Win (pgd o p nx) i (inS n ins)
noncomputable def winL (n : Nat) (o p : List Int) (nx : List (List Int)) (i : Int) (ins : List Bool) : List Bool := Zme n (winP n o p nx i ins)
def TotL (n : Nat) (nx : List (List Int)) (ins : List Bool) : Prop := ∀ v, v < n → nth ins v = true → ∃ u ∈ nth nx v, nth ins u.toNat = true
theorem TotL.tot  (h : TotL n nx ins) (hg : GDt n o p nx) : Tot (pgd o p nx) (inS n ins) := fun v hv => by
 obtain ⟨u, hu, hi⟩ := h v hv.1 hv.2
 have hr := hg.rg v hv.1 u hu
 exact ⟨u.toNat, ⟨by omega, hi⟩, by show (u.toNat : Int) ∈ nth nx v; rw [Int.toNat_of_nonneg hr.1]; exact hu⟩
def ZcN (n : Nat) (a b : List Bool) : List Bool := (List.range n).map fun v => nth a v && !nth b v
theorem Zdh  (hv : v < n) : nth (ZcN n a b) v = (nth a v && !nth b v) := by
 unfold ZcN
 rw [Zaz (by simpa using hv)]; simp
theorem ZaZ (a b : List Bool) : (ZcN n a b).length = n := by unfold ZcN; simp
theorem Zcq  {Q : Nat → Prop} (hb : ∀ v, v < n → (nth b v = true ↔ Q v)) (v : Nat) : inS n (ZcN n a b) v ↔ inS n a v ∧ ¬ Q v := by
 unfold inS
 constructor
 ·rintro ⟨h1, h2⟩
  rw [Zdh h1, Bool.and_eq_true, Bool.not_eq_true'] at h2
  exact ⟨⟨h1, h2.1⟩, fun hq => by rw [(hb v h1).2 hq] at h2; cases h2.2⟩
 ·rintro ⟨⟨h1, h2⟩, h3⟩
  refine ⟨h1, ?_⟩
  rw [Zdh h1, h2, Bool.true_and, Bool.not_eq_true', Bool.eq_false_iff]
  exact fun h => h3 ((hb v h1).1 h)
theorem ZeC {i : Int}  {T : Nat → Prop}  (hg : GDt n o p nx) (ht : TotL n nx ins) (hb : ∀ v, v < n → (nth b v = true ↔ AttR (pgd o p nx) i (inS n ins) T v)) : TotL n nx (ZcN n ins b) := fun v hv h => by
 have hA := ZdS (G := pgd o p nx) (i := i) (S := inS n ins) (T := T) (n := n) fun v hv => hv.1
 obtain ⟨u, hu, he⟩ := hA.rest (ht.tot hg) v ((Zcq hb v).1 ⟨hv, h⟩)
 exact ⟨(u : Int), he, by simpa using ((Zcq hb u).2 hu).2⟩
theorem Zkq  (hg : GDt n o p nx) (ht : TotL n nx ins) : Sol (pgd o p nx) (inS n ins) fun i v => winP n o p nx i ins v := by
 obtain ⟨W, hW⟩ := ZwN (G := pgd o p nx) (n := n) (fun v hv => hg.ow v hv) (S := inS n ins) (fun v hv => hv.1) (ht.tot hg)
 have e : ∀ i, i = 0 ∨ i = 1 → ∀ v, W i v ↔ winP n o p nx i ins v := fun i hi v => hW.win (n := n) (fun v hv => hv.1) (fun v hv => hg.ow v hv.1) hi v
 obtain ⟨σ, h0⟩ := hW.d0
 obtain ⟨τ, h1⟩ := hW.d1
 exact ⟨fun v hv => (hW.cov v hv).imp (e 0 (.inl rfl) v).1 (e 1 (.inr rfl) v).1, ⟨σ, h0.congr (fun _ => Iff.rfl) (e 0 (.inl rfl))⟩, ⟨τ, h1.congr (fun _ => Iff.rfl) (e 1 (.inr rfl))⟩⟩
theorem ZeH  {W : Int → Nat → Prop} (hg : GDt n o p nx) (h : Sol (pgd o p nx) (inS n ins) W) {i : Int} (hi : i = 0 ∨ i = 1) (v : Nat) : winP n o p nx i ins v ↔ W i v := (h.win (n := n) (fun v hv => hv.1) (fun v hv => hg.ow v hv.1) hi v).symm
theorem ZlO  (hg : GDt n o p nx) (ht : TotL n nx ins) {i : Int} (hi : i = 0 ∨ i = 1)  (hv : inS n ins v) : winP n o p nx i ins v ↔ ¬ winP n o p nx (1 - i) ins v := by
 have hs := Zkq hg ht
 have ho : ∀ v, inS n ins v → (pgd o p nx).own v = 0 ∨ (pgd o p nx).own v = 1 := fun v hv => hg.ow v hv.1
 have hc := hs.cov v hv
 constructor
 ·intro h1 h2
  exact ZjO (n := n) (fun v hv => hv.1) (show i ≠ 1 - i by omega) (fun v hv => by have := ho v hv; omega) h1 h2
 ·intro h
  rcases hi with rfl | rfl
  ·exact hc.resolve_right h
  ·exact hc.resolve_left h
theorem Zcv  {i : Int}  (h : winP n o p nx i ins v) : inS n ins v := by
 obtain ⟨D, σ, hd, hv⟩ := h; exact hd.sub v hv
theorem ZmT {rest : List Bool} {top i : Int} (hg : GDt n o p nx) (ht : TotL n nx ins) (hi : top % 2 = i) (hle : ∀ v, v < n → nth ins v = true → nth p v ≤ top) (hgo : ∀ v, v < n → nth goal v = true → nth p v = top ∧ nth ins v = true)
  (hr : rest = ZcN n ins (attL n o p nx i ins goal)) (hno : ∀ v, ¬ winP n o p nx (1 - i) rest v) (v : Nat) : (winP n o p nx i ins v ↔ inS n ins v) ∧ ¬ winP n o p nx (1 - i) ins v := by
 have hi2 : i = 0 ∨ i = 1 := by omega
 have hA := ZdS (G := pgd o p nx) (i := i) (S := inS n ins) (T := fun v => nth goal v = true) (n := n) fun v hv => hv.1
 have hb : ∀ v, v < n → (nth (attL n o p nx i ins goal) v = true ↔ AttR (pgd o p nx) i (inS n ins) (fun v => nth goal v = true) v) := fun v hv => ZaN hv
 have htr := ZeC hg ht hb
 have hs := Sol.all (T := fun v => inS n ins v ∧ nth goal v = true) hi2 (ht.tot hg) hi (fun v hv => hle v hv.1 hv.2) (fun v hv => (hgo v hv.1.1 hv.2).1) (r := rnk (pgd o p nx) i (inS n ins) fun v => nth goal v = true) (A := AttR (pgd o p nx) i (inS n ins) fun v => nth goal v = true)
  ⟨hA.sub, fun v h1 h2 => hA.goal v h1 h2.2, fun v h1 h2 => hA.mine v h1 fun h3 => h2 ⟨hA.sub v h1, h3⟩, fun v h1 h2 => hA.his v h1 fun h3 => h2 ⟨hA.sub v h1, h3⟩, hA.cm, hA.ch⟩ (fun v => Zcq hb v) (Zkq hg htr) (by rw [← hr]; exact hno)
 refine ⟨(ZeH hg hs hi2 v).trans (by simp), fun h => ?_⟩
 have := (ZeH hg hs (show 1 - i = 0 ∨ 1 - i = 1 by omega) v).1 h
 have := this.1
 omega
theorem ZmJ {rest lost less : List Bool} {i : Int} (hg : GDt n o p nx) (ht : TotL n nx ins) (hi : i = 0 ∨ i = 1) (hr : rest = ZcN n ins (attL n o p nx i ins goal)) (hl : ∀ v, v < n → (nth lost v = true ↔ winP n o p nx (1 - i) rest v)) (hs : less = ZcN n ins (attL n o p nx (1 - i) ins lost)) :
  TotL n nx rest ∧ TotL n nx less ∧ ∀ v, v < n → (winP n o p nx i ins v ↔ winP n o p nx i less v) ∧ (winP n o p nx (1 - i) ins v ↔ nth (attL n o p nx (1 - i) ins lost) v = true ∨ winP n o p nx (1 - i) less v) := by
 have hj : 1 - i = 0 ∨ 1 - i = 1 := by omega
 have hA := ZdS (G := pgd o p nx) (i := i) (S := inS n ins) (T := fun v => nth goal v = true) (n := n) fun v hv => hv.1
 have hB := ZdS (G := pgd o p nx) (i := 1 - i) (S := inS n ins) (T := fun v => nth lost v = true) (n := n) fun v hv => hv.1
 have ha : ∀ v, v < n → (nth (attL n o p nx i ins goal) v = true ↔ AttR (pgd o p nx) i (inS n ins) (fun v => nth goal v = true) v) := fun v hv => ZaN hv
 have hb : ∀ v, v < n → (nth (attL n o p nx (1 - i) ins lost) v = true ↔ AttR (pgd o p nx) (1 - i) (inS n ins) (fun v => nth lost v = true) v) := fun v hv => ZaN hv
 have htr : TotL n nx rest := hr ▸ ZeC hg ht ha
 have htl : TotL n nx less := hs ▸ ZeC hg ht hb
 have hB' : Att (pgd o p nx) (1 - i) (inS n ins) (winP n o p nx (1 - i) rest) (AttR (pgd o p nx) (1 - i) (inS n ins) fun v => nth lost v = true) (rnk (pgd o p nx) (1 - i) (inS n ins) fun v => nth lost v = true) :=
  ⟨hB.sub, fun v h1 h2 => hB.goal v h1 ((hl v h1.1).2 h2), fun v h1 h2 => hB.mine v h1 fun h3 => h2 ((hl v (hB.sub v h1).1).1 h3), fun v h1 h2 => hB.his v h1 fun h3 => h2 ((hl v (hB.sub v h1).1).1 h3), hB.cm, hB.ch⟩
 have hsol := Sol.lost (S' := inS n less) (R := inS n rest) hi (fun v hv => hg.ow v hv.1) hA (fun v => by rw [hr]; exact Zcq ha v) (Zkq hg htr) (L := winP n o p nx (1 - i) rest) (fun v => Iff.rfl) hB' (fun v => by rw [hs]; exact Zcq hb v) (Zkq hg htl)
 refine ⟨htr, htl, fun v hv => ⟨(ZeH hg hsol hi v).trans (by simp), (ZeH hg hsol hj v).trans ?_⟩⟩
 rw [hb v hv]
 have e : (1 - i = i) = False := by simp; omega
 simp only [e, if_false]
end
end Go.Proofs.YtjjidamlmebaaaaGreat

