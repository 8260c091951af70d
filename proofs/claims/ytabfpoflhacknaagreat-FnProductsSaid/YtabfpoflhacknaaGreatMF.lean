/- Machines: states found, states alike. No program in sight; no conditions. -/
import Derived.Test.YtabfpoflhacknaaGreatMG
namespace Go.Proofs.YtabfpoflhacknaaGreat
open Go.RowKit
open Shp
variable {N k j p q W : Nat} {out n : List (List Int)} {x v : Int} {xs c : List Int} {α : Type} {near : Nat → Nat → Bool}
def FdOk (N : Nat) (out : List Int) : Prop := out.Nodup ∧ ∀ x ∈ out, 0 ≤ x ∧ x < (N : Int)
theorem FdOk.len {N : Nat} {out : List Int} (h : FdOk N out) : out.length ≤ N := ZcL N out h.1 h.2
theorem FdOk.add  {out : List Int} (h : FdOk N out)  (hx : 0 ≤ x ∧ x < (N : Int)) (hn : has out x = false) : FdOk N (out ++ [x]) := by
 refine ⟨ZhE h.1 (fun hm => by rw [has_iff.2 hm] at hn; cases hn), fun y hy => ?_⟩
 rcases List.mem_append.1 hy with h1 | h1
 ·exact h.2 y h1
 ·simp only [List.mem_singleton] at h1; subst h1; exact hx
theorem FdOk.one  (h : 1 ≤ N) : FdOk N [0] := ⟨by simp, fun x hx => by simp only [List.mem_singleton] at hx; subst hx; omega⟩
theorem FdOk.at  {out : List Int} (h : FdOk N out)  (hk : k < out.length) : 0 ≤ nth out k ∧ nth out k < (N : Int) := h.2 _ (Zal hk)
def rowN (n : List (List Int)) (q : Int) : List Int := nth n q.toNat
theorem Zmv : has xs x = decide (Za5 xs x ≥ 0) := firstN_ge.symm
theorem Ziq  (h : Za5 xs x < 0) : has xs x = false := by rw [Zmv]; simpa using h
theorem ZoE  (h : ¬ Za5 xs x < 0) : has xs x = true := by rw [Zmv]; simpa using h
def it {α : Type} (f : α → α) : Nat → α → α
 | 0, c => c
 | j + 1, c => it f j (f c)
theorem ZdX {α : Type} {f : α → α} : ∀ {j : Nat} {c : α}, it f (j + 1) c = f (it f j c)
 | 0, _ => rfl
 | j + 1, c => by show it f (j + 1) (f c) = _; rw [ZdX]; rfl
theorem ZdO {α : Type} {f : α → α} : ∀ {j k : Nat} {c : α}, it f (j + k) c = it f k (it f j c)
 | 0, k, c => by rw [Nat.zero_add]; rfl
 | j + 1, k, c => by rw [show j + 1 + k = (j + k) + 1 by omega]; show it f (j + k) (f c) = _; rw [ZdO]; rfl
theorem Zqf {α : Type} {f : α → α} {c : α} (h : f c = c) : ∀ {j : Nat}, it f j c = c
 | 0 => rfl
 | j + 1 => by show it f j (f c) = c; rw [h, Zqf h]
theorem ZuK  {f : α → α} {c : α}  (hj : f (it f j c) = it f j c) (hk : f (it f k c) = it f k c) : it f j c = it f k c := by
 rcases Nat.le_total j k with h | h
 ·obtain ⟨d, rfl⟩ := Nat.exists_eq_add_of_le h
  rw [ZdO, Zqf hj]
 ·obtain ⟨d, rfl⟩ := Nat.exists_eq_add_of_le h
  rw [ZdO, Zqf hk]
open Classical in
noncomputable def limF {α : Type} (f : α → α) (c : α) : α := if h : ∃ j, f (it f j c) = it f j c then it f h.choose c else c
theorem Zwk  {f : α → α} {c : α}  (hj : f (it f j c) = it f j c) : limF f c = it f j c := by
 unfold limF
 have h : ∃ j, f (it f j c) = it f j c := ⟨j, hj⟩
 rw [dif_pos h]
 exact ZuK h.choose_spec hj
def clsN (N : Nat) (near : Nat → Nat → Bool) : List Int := (List.range N).map fun q => ZcB (q + 1) fun p => near p q
theorem Zk7 : (clsN N near).length = N := by simp [clsN]
theorem ZtX  (h : q < N) : nth (clsN N near) q = ZcB (q + 1) fun p => near p q := by
 rw [Zbi (by rw [Zk7]; exact h)]; simp [clsN]
theorem ZbQ  (h : q < N) (hr : near q q = true) : ∃ r : Nat, r ≤ q ∧ nth (clsN N near) q = (r : Int) ∧ near r q = true ∧ ∀ z, z < r → near z q = false := by
 rw [ZtX h]
 rcases ZbP (q + 1) (fun p => near p q) with ⟨_, h2⟩ | ⟨i, h1, h2, h3, h4⟩
 ·rw [h2 q (by omega)] at hr; cases hr
 ·exact ⟨i, by omega, h2, h3, h4⟩
def ClOk (N : Nat) (c : List Int) : Prop := c.length = N ∧ ∀ q : Nat, q < N → 0 ≤ nth c q ∧ nth c q ≤ (q : Int)
theorem Zp4  (hr : ∀ q, q < N → near q q = true) : ClOk N (clsN N near) := ⟨Zk7, fun q hq => by
 obtain ⟨r, h1, h2, _⟩ := ZbQ hq (hr q hq)
 omega⟩
def msrN (N : Nat) : List Int → Nat
 | [] => 0
 | x :: xs => ((N : Int) - x).toNat + msrN N xs
theorem Zp7 {N : Nat} : ∀ {xs ys : List Int}, xs.length = ys.length → (∀ i, i < xs.length → nth xs i ≤ nth ys i) → msrN N ys ≤ msrN N xs
 | [], [], _, _ => Nat.le_refl _
 | x :: xs, y :: ys, hl, h => by
  have h0 := h 0 (by simp)
  have h1 := Zp7 (N := N) (xs := xs) (ys := ys) (by simpa using hl) fun i hi => by have := h (i + 1) (by simpa using hi); simpa [nth] using this
  simp only [nth, List.getD_cons_zero] at h0
  simp only [msrN]; omega
theorem Zre {N : Nat} : ∀ {xs ys : List Int}, xs.length = ys.length → (∀ i, i < xs.length → nth xs i ≤ nth ys i ∧ nth xs i < (N : Int)) → xs ≠ ys → msrN N ys < msrN N xs
 | [], [], _, _, hn => absurd rfl hn
 | x :: xs, y :: ys, hl, h, hn => by
  have h0 := h 0 (by simp)
  simp only [nth, List.getD_cons_zero] at h0
  have hs : ∀ i, i < xs.length → nth xs i ≤ nth ys i ∧ nth xs i < (N : Int) := fun i hi => by have := h (i + 1) (by simpa using hi); simpa [nth] using this
  simp only [msrN]
  by_cases e : x = y
  ·subst e
   have := Zre (N := N) (xs := xs) (ys := ys) (by simpa using hl) hs (fun e => hn (by rw [e]))
   omega
  ·have := Zp7 (N := N) (xs := xs) (ys := ys) (by simpa using hl) fun i hi => (hs i hi).1
   omega
theorem ZpP  (hc : ClOk N c) (hr : ∀ q, q < N → near q q = true) (hn : ∀ p q, p < N → q < N → near p q = true → nth c p = nth c q) (hne : clsN N near ≠ c) : msrN N (clsN N near) < msrN N c := by
 refine Zre (by rw [Zk7, hc.1]) (fun i hi => ?_) (fun e => hne e.symm)
 rw [hc.1] at hi
 obtain ⟨r, h1, h2, h3, _⟩ := ZbQ hi (hr i hi)
 have h4 := hn r i (by omega) hi h3
 have h5 := hc.2 r (by omega)
 have h6 := hc.2 i hi
 omega
def ZeR (n : List (List Int)) (c : List Int) (p q : Nat) : Bool := decide (nth c q = nth c p) && allN (nth n q).length fun i => decide (nth c (nth (nth n q) i).toNat = nth c (nth (nth n p) i).toNat)
def ZcM (n : List (List Int)) (c : List Int) : List Int := clsN n.length (ZeR n c)
theorem Zbz : ZeR n c q q = true := by simp [ZeR, allN_iff]
theorem ZkR  (h : ZeR n c p q = true) : nth c p = nth c q := by unfold ZeR at h; simp only [Bool.and_eq_true, decide_eq_true_eq] at h; exact h.1.symm
theorem Zow : ClOk n.length (ZcM n c) := Zp4 fun q _ => Zbz
theorem Zr5  (hc : ClOk n.length c) (h : ZcM n c ≠ c) : msrN n.length (ZcM n c) < msrN n.length c := ZpP hc (fun q _ => Zbz) (fun p q _ _ h => ZkR h) h
def ZBk (n out : List (List Int)) (W : Nat) : Prop := ∀ q, q < n.length → (nth n q).length = W ∧ (nth out q).length = W
end Go.Proofs.YtabfpoflhacknaaGreat

