/- Machines that answer alike have one least machine. No program in sight; no conditions. -/
import Derived.Test.YtnieejghoaccmaaGreatMG
namespace Go.Proofs.YtnieejghoaccmaaGreat
open Go.RowKit
open Shp
variable {N k j p q W : Nat} {out n : List (List Int)} {x v : Int} {xs c : List Int} {α : Type} {near : Nat → Nat → Bool}
def rowN (n : List (List Int)) (q : Int) : List Int := nth n q.toNat
def it {α : Type} (f : α → α) : Nat → α → α
 | 0, c => c
 | j + 1, c => it f j (f c)
theorem Zd8 {α : Type} {f : α → α} : ∀ {j : Nat} {c : α}, it f (j + 1) c = f (it f j c)
 | 0, _ => rfl
 | j + 1, c => by show it f (j + 1) (f c) = _; rw [Zd8]; rfl
theorem Zdo {α : Type} {f : α → α} : ∀ {j k : Nat} {c : α}, it f (j + k) c = it f k (it f j c)
 | 0, k, c => by rw [Nat.zero_add]; rfl
 | j + 1, k, c => by rw [show j + 1 + k = (j + k) + 1 by omega]; show it f (j + k) (f c) = _; rw [Zdo]; rfl
theorem ZpU {α : Type} {f : α → α} {c : α} (h : f c = c) : ∀ {j : Nat}, it f j c = c
 | 0 => rfl
 | j + 1 => by show it f j (f c) = c; rw [h, ZpU h]
theorem Zvn  {f : α → α} {c : α}  (hj : f (it f j c) = it f j c) (hk : f (it f k c) = it f k c) : it f j c = it f k c := by
 rcases Nat.le_total j k with h | h
 ·obtain ⟨d, rfl⟩ := Nat.exists_eq_add_of_le h
  rw [Zdo, ZpU hj]
 ·obtain ⟨d, rfl⟩ := Nat.exists_eq_add_of_le h
  rw [Zdo, ZpU hk]
open Classical in
noncomputable def limF {α : Type} (f : α → α) (c : α) : α := if h : ∃ j, f (it f j c) = it f j c then it f h.choose c else c
theorem ZvW  {f : α → α} {c : α}  (hj : f (it f j c) = it f j c) : limF f c = it f j c := by
 unfold limF
 have h : ∃ j, f (it f j c) = it f j c := ⟨j, hj⟩
 rw [dif_pos h]
 exact Zvn h.choose_spec hj
def clsN (N : Nat) (near : Nat → Nat → Bool) : List Int := (List.range N).map fun q => Zc4 (q + 1) fun p => near p q
theorem ZkG : (clsN N near).length = N := by simp [clsN]
theorem ZsE  (h : q < N) : nth (clsN N near) q = Zc4 (q + 1) fun p => near p q := by
 rw [Zbu (by rw [ZkG]; exact h)]; simp [clsN]
theorem ZbN  (h : q < N) (hr : near q q = true) : ∃ r : Nat, r ≤ q ∧ nth (clsN N near) q = (r : Int) ∧ near r q = true ∧ ∀ z, z < r → near z q = false := by
 rw [ZsE h]
 rcases ZcC (q + 1) (fun p => near p q) with ⟨_, h2⟩ | ⟨i, h1, h2, h3, h4⟩
 ·rw [h2 q (by omega)] at hr; cases hr
 ·exact ⟨i, by omega, h2, h3, h4⟩
def ClOk (N : Nat) (c : List Int) : Prop := c.length = N ∧ ∀ q : Nat, q < N → 0 ≤ nth c q ∧ nth c q ≤ (q : Int)
theorem Zpq  (hr : ∀ q, q < N → near q q = true) : ClOk N (clsN N near) := ⟨ZkG, fun q hq => by
 obtain ⟨r, h1, h2, _⟩ := ZbN hq (hr q hq)
 omega⟩
def msrN (N : Nat) : List Int → Nat
 | [] => 0
 | x :: xs => ((N : Int) - x).toNat + msrN N xs
theorem ZpZ {N : Nat} : ∀ {xs ys : List Int}, xs.length = ys.length → (∀ i, i < xs.length → nth xs i ≤ nth ys i) → msrN N ys ≤ msrN N xs
 | [], [], _, _ => Nat.le_refl _
 | x :: xs, y :: ys, hl, h => by
  have h0 := h 0 (by simp)
  have h1 := ZpZ (N := N) (xs := xs) (ys := ys) (by simpa using hl) fun i hi => by have := h (i + 1) (by simpa using hi); simpa [nth] using this
  simp only [nth, List.getD_cons_zero] at h0
  simp only [msrN]; omega
theorem ZqI {N : Nat} : ∀ {xs ys : List Int}, xs.length = ys.length → (∀ i, i < xs.length → nth xs i ≤ nth ys i ∧ nth xs i < (N : Int)) → xs ≠ ys → msrN N ys < msrN N xs
 | [], [], _, _, hn => absurd rfl hn
 | x :: xs, y :: ys, hl, h, hn => by
  have h0 := h 0 (by simp)
  simp only [nth, List.getD_cons_zero] at h0
  have hs : ∀ i, i < xs.length → nth xs i ≤ nth ys i ∧ nth xs i < (N : Int) := fun i hi => by have := h (i + 1) (by simpa using hi); simpa [nth] using this
  simp only [msrN]
  by_cases e : x = y
  ·subst e
   have := ZqI (N := N) (xs := xs) (ys := ys) (by simpa using hl) hs (fun e => hn (by rw [e]))
   omega
  ·have := ZpZ (N := N) (xs := xs) (ys := ys) (by simpa using hl) fun i hi => (hs i hi).1
   omega
theorem ZpG  (hc : ClOk N c) (hr : ∀ q, q < N → near q q = true) (hn : ∀ p q, p < N → q < N → near p q = true → nth c p = nth c q) (hne : clsN N near ≠ c) : msrN N (clsN N near) < msrN N c := by
 refine ZqI (by rw [ZkG, hc.1]) (fun i hi => ?_) (fun e => hne e.symm)
 rw [hc.1] at hi
 obtain ⟨r, h1, h2, h3, _⟩ := ZbN hi (hr i hi)
 have h4 := hn r i (by omega) hi h3
 have h5 := hc.2 r (by omega)
 have h6 := hc.2 i hi
 omega
def Zfp (n : List (List Int)) (c : List Int) (p q : Nat) : Bool := decide (nth c q = nth c p) && allN (nth n q).length fun i => decide (nth c (nth (nth n q) i).toNat = nth c (nth (nth n p) i).toNat)
def Zdk (n : List (List Int)) (c : List Int) : List Int := clsN n.length (Zfp n c)
theorem ZbZ : Zfp n c q q = true := by simp [Zfp, allN_iff]
theorem Zkw  (h : Zfp n c p q = true) : nth c p = nth c q := by unfold Zfp at h; simp only [Bool.and_eq_true, decide_eq_true_eq] at h; exact h.1.symm
theorem ZnV : ClOk n.length (Zdk n c) := Zpq fun q _ => ZbZ
theorem Zrx  (hc : ClOk n.length c) (h : Zdk n c ≠ c) : msrN n.length (Zdk n c) < msrN n.length c := ZpG hc (fun q _ => ZbZ) (fun p q _ _ h => Zkw h) h
def Zza (n out : List (List Int)) (W : Nat) : Prop := ∀ q, q < n.length → (nth n q).length = W ∧ (nth out q).length = W
end Go.Proofs.YtnieejghoaccmaaGreat

namespace Go.Proofs.YtnieejghoaccmaaGreat
open Go.RowKit
open Shp
variable {q p N r : Nat} {x : Int} {xs c : List Int} {al : Bool}
def MOk (n out : List (List Int)) (W : Nat) : Prop := (1 ≤ n.length ∧ n.length ≤ 48) ∧ GoOk n (W : Int) ∧ Zza n out W
theorem ZnH {n : List (List Int)} : ∀ (m : Nat) (c : List Int), ClOk n.length c → msrN n.length c ≤ m → ∃ j, Zdk n (it (Zdk n) j c) = it (Zdk n) j c
 | m, c, hc, hm => by
  by_cases e : Zdk n c = c
  ·exact ⟨0, e⟩
  ·have h1 := Zrx hc e
   match m, hm with
   | 0, hm => omega
   | m + 1, hm =>
    obtain ⟨j, hj⟩ := ZnH m (Zdk n c) ZnV (by omega)
    exact ⟨j + 1, hj⟩
def inN (N : Nat) (q : Int) : Prop := 0 ≤ q ∧ q < (N : Int)
section
variable {n out : List (List Int)} {W : Nat}
theorem MOk.row (h : MOk n out W) {q : Int} (hq : inN n.length q) : (rowN n q).length = W ∧ (rowN out q).length = W := h.2.2 q.toNat (by unfold inN at hq; omega)
theorem MOk.step (h : MOk n out W) {q : Int} (hq : inN n.length q) {i : Nat} (hi : i < W) : inN n.length (nth (rowN n q) i) := by
 have := h.2.1.step (x := (i : Int)) hq (by omega)
 rwa [Int.toNat_natCast] at this
theorem below_cons  {W : Int} : below (x :: xs) W = true ↔ (0 ≤ x ∧ x < W) ∧ below xs W = true := by
 rw [below_iff, below_iff]
 constructor
 ·intro h
  refine ⟨by have := h 0 (by simp); simpa [nth] using this, fun j hj => by have := h (j + 1) (by simpa using hj); simpa [nth] using this⟩
 ·rintro ⟨h1, h2⟩ j hj
  rcases j with _ | j
  ·simpa [nth] using h1
  ·have := h2 j (by simpa using hj); simpa [nth] using this
theorem Znv  {near : Nat → Nat → Bool}  (hp : p < N) (hq : q < N) (rp : near p p = true) (rq : near q q = true) (h : ∀ z, z < N → near z p = near z q) : nth (clsN N near) p = nth (clsN N near) q := by
 obtain ⟨r, h1, h2, h3, h4⟩ := ZbN hp rp
 obtain ⟨r2, g1, g2, g3, g4⟩ := ZbN hq rq
 have a : ¬ r < r2 := fun hl => by have := g4 r hl; rw [← h r (by omega), h3] at this; cases this
 have b : ¬ r2 < r := fun hl => by have := h4 r2 hl; rw [h r2 (by omega), g3] at this; cases this
 omega
theorem ZdF {α β : Type} [Inhabited α] [Inhabited β] {f : α → β} {xs : List α} {i : Nat} (h : i < xs.length) : nth (xs.map f) i = f (nth xs i) := by
 rw [Zbu (by simpa using h), Zbu h, List.getElem_map]
theorem ZjH  (h : x ∈ xs) : ∃ j : Nat, j < xs.length ∧ ZbK xs x = (j : Int) ∧ nth xs j = x := by
 unfold ZbK
 rcases ZcC xs.length (fun i => nth xs i == x) with ⟨h1, h2⟩ | ⟨i, h1, h2, h3, _⟩
 ·obtain ⟨i, hi, e⟩ := Zbx h
  have := h2 i hi
  rw [e] at this; simp at this
 ·exact ⟨i, h1, h2, by simpa using h3⟩
end
def Zbr (a b : List (List Int)) (x : Int × Int) : List (Int × Int) := (List.range (rowN a x.1).length).map fun i => (nth (rowN a x.1) i, nth (rowN b x.2) i)
theorem Zbi {a b : List (List Int)} {x : Int × Int} : (Zbr a b x).length = (rowN a x.1).length := by simp [Zbr]
theorem Zcd {a b : List (List Int)} {x : Int × Int} {i : Nat} (h : i < (rowN a x.1).length) : nth (Zbr a b x) i = (nth (rowN a x.1) i, nth (rowN b x.2) i) := by
 rw [Zbu (by rw [Zbi]; exact h)]; simp [Zbr]
def VP (A B : Nat) (x : Int × Int) : Prop := inN A x.1 ∧ inN B x.2
theorem Zqu {A B : Nat} (ha : A ≤ 48) (hb : B ≤ 48) (xs : List (Int × Int)) (hn : xs.Nodup) (hv : ∀ x ∈ xs, VP A B x) : xs.length ≤ 2304 := by
 have h1 : (xs.map fun x => x.1 * 48 + x.2).Nodup := Zh6 hn fun x hx y hy e => by
  have a := hv x hx; have b := hv y hy
  unfold VP inN at a b
  refine Prod.ext ?_ ?_ <;> omega
 have h2 := ZeU 2304 _ h1 fun x hx => by
  obtain ⟨y, hy, rfl⟩ := List.mem_map.1 hx
  have a := hv y hy
  unfold VP inN at a
  omega
 simpa using h2
section
variable {a oa b ob : List (List Int)} {W : Nat}
theorem Zvg (ha : MOk a oa W) (hb : MOk b ob W) : VP a.length b.length (0, 0) := ⟨⟨by simp, by have := ha.1; simp; omega⟩, ⟨by simp, by have := hb.1; simp; omega⟩⟩
end
theorem ZhY  (h : xs.length ≤ q) : (xs.take q).take q = xs := by
 rw [List.take_take, Nat.min_self, List.take_of_length_le h]
theorem ZkQ  (h : xs.length ≤ q) : ((xs.take q).drop 0).take q = xs := by
 rw [List.drop_zero, ZhY h]
end Go.Proofs.YtnieejghoaccmaaGreat

