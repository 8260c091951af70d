/- Machines: states found, states alike. No program in sight; no conditions. -/
import Derived.Test.YtabfpoflhacknaaMG
set_option linter.unusedSimpArgs false
set_option linter.unusedVariables false
namespace Go.Proofs.Ytabfpoflhacknaa
open Go.RowKit
open Shp

/-- states once each -/
def FdOk (N : Nat) (out : List Int) : Prop := out.Nodup ∧ ∀ x ∈ out, 0 ≤ x ∧ x < (N : Int)
theorem FdOk.len {N : Nat} {out : List Int} (h : FdOk N out) : out.length ≤ N := nodup_len N out h.1 h.2
theorem FdOk.add {N : Nat} {out : List Int} (h : FdOk N out) {x : Int} (hx : 0 ≤ x ∧ x < (N : Int)) (hn : has out x = false) : FdOk N (out ++ [x]) := by
  refine ⟨nodup_snoc h.1 (fun hm => by rw [has_iff.2 hm] at hn; cases hn), fun y hy => ?_⟩
  rcases List.mem_append.1 hy with h1 | h1
  · exact h.2 y h1
  · simp only [List.mem_singleton] at h1; subst h1; exact hx
theorem FdOk.one {N : Nat} (h : 1 ≤ N) : FdOk N [0] := ⟨by simp, fun x hx => by simp only [List.mem_singleton] at hx; subst hx; omega⟩
theorem FdOk.at {N : Nat} {out : List Int} (h : FdOk N out) {k : Nat} (hk : k < out.length) : 0 ≤ nth out k ∧ nth out k < (N : Int) := h.2 _ (nth_mem hk)
def rowN (n : List (List Int)) (q : Int) : List Int := nth n q.toNat
theorem has_place {xs : List Int} {x : Int} : has xs x = decide (place xs x ≥ 0) := firstN_ge.symm
theorem place_lt {xs : List Int} {x : Int} (h : place xs x < 0) : has xs x = false := by rw [has_place]; simpa using h
theorem place_ge {xs : List Int} {x : Int} (h : ¬ place xs x < 0) : has xs x = true := by rw [has_place]; simpa using h

/-! what goes on till nothing changes -/
def it {α : Type} (f : α → α) : Nat → α → α
  | 0, c => c
  | j + 1, c => it f j (f c)
theorem it_succ {α : Type} {f : α → α} : ∀ {j : Nat} {c : α}, it f (j + 1) c = f (it f j c)
  | 0, _ => rfl
  | j + 1, c => by show it f (j + 1) (f c) = _; rw [it_succ]; rfl
theorem it_add {α : Type} {f : α → α} : ∀ {j k : Nat} {c : α}, it f (j + k) c = it f k (it f j c)
  | 0, k, c => by rw [Nat.zero_add]; rfl
  | j + 1, k, c => by rw [show j + 1 + k = (j + k) + 1 by omega]; show it f (j + k) (f c) = _; rw [it_add]; rfl
theorem it_fix {α : Type} {f : α → α} {c : α} (h : f c = c) : ∀ {j : Nat}, it f j c = c
  | 0 => rfl
  | j + 1 => by show it f j (f c) = c; rw [h, it_fix h]
theorem it_same {α : Type} {f : α → α} {c : α} {j k : Nat} (hj : f (it f j c) = it f j c) (hk : f (it f k c) = it f k c) : it f j c = it f k c := by
  rcases Nat.le_total j k with h | h
  · obtain ⟨d, rfl⟩ := Nat.exists_eq_add_of_le h
    rw [it_add, it_fix hj]
  · obtain ⟨d, rfl⟩ := Nat.exists_eq_add_of_le h
    rw [it_add, it_fix hk]
open Classical in
noncomputable def limF {α : Type} (f : α → α) (c : α) : α := if h : ∃ j, f (it f j c) = it f j c then it f h.choose c else c
theorem limF_eq {α : Type} {f : α → α} {c : α} {j : Nat} (hj : f (it f j c) = it f j c) : limF f c = it f j c := by
  unfold limF
  have h : ∃ j, f (it f j c) = it f j c := ⟨j, hj⟩
  rw [dif_pos h]
  exact it_same h.choose_spec hj

theorem firstN_congr {n : Nat} {p q : Nat → Bool} (h : ∀ j, j < n → p j = q j) : firstN n p = firstN n q := by
  rcases firstN_cases n p with ⟨h1, h2⟩ | ⟨i, h1, h2, h3, h4⟩
  · rw [h1, firstN_none fun j hj => by rw [← h j hj]; exact h2 j hj]
  · rw [h2, firstN_at i h1 (by rw [← h i h1]; exact h3) fun j hj => by rw [← h j (by omega)]; exact h4 j hj]
/-! classes: each state's class is its first fellow -/
def clsN (N : Nat) (near : Nat → Nat → Bool) : List Int := (List.range N).map fun q => firstN (q + 1) fun p => near p q
theorem clsN_len {N : Nat} {near : Nat → Nat → Bool} : (clsN N near).length = N := by simp [clsN]
theorem clsN_nth {N : Nat} {near : Nat → Nat → Bool} {q : Nat} (h : q < N) : nth (clsN N near) q = firstN (q + 1) fun p => near p q := by
  rw [nth_eq (by rw [clsN_len]; exact h)]; simp [clsN]
theorem clsN_spec {N : Nat} {near : Nat → Nat → Bool} {q : Nat} (h : q < N) (hr : near q q = true) : ∃ r : Nat, r ≤ q ∧ nth (clsN N near) q = (r : Int) ∧ near r q = true ∧ ∀ z, z < r → near z q = false := by
  rw [clsN_nth h]
  rcases firstN_cases (q + 1) (fun p => near p q) with ⟨_, h2⟩ | ⟨i, h1, h2, h3, h4⟩
  · rw [h2 q (by omega)] at hr; cases hr
  · exact ⟨i, by omega, h2, h3, h4⟩
theorem clsN_at {N : Nat} {near : Nat → Nat → Bool} {q p : Nat} (h : q < N) (hp : p ≤ q) (hr : near p q = true) (hb : ∀ z, z < p → near z q = false) : nth (clsN N near) q = (p : Int) := by
  rw [clsN_nth h]; exact firstN_at p (by omega) hr hb
theorem clsN_take {N : Nat} {near : Nat → Nat → Bool} {q p : Nat} (h : q < N) (hp : p ≤ q) (hr : near p q = true) (hb : ∀ z, z < p → near z q = false) : (clsN N near).take (q + 1) = (clsN N near).take q ++ [(p : Int)] := by
  rw [take_nth (by rw [clsN_len]; exact h), clsN_at h hp hr hb]
theorem clsN_congr {N : Nat} {near near2 : Nat → Nat → Bool} (h : ∀ p q, p < N → q < N → near p q = near2 p q) : clsN N near = clsN N near2 := by
  refine list_ext (by rw [clsN_len, clsN_len]) fun q hq => ?_
  rw [clsN_len] at hq
  rw [clsN_nth hq, clsN_nth hq]
  exact firstN_congr fun j hj => h j q (by omega) hq
/-- classes are numbers of states -/
def ClOk (N : Nat) (c : List Int) : Prop := c.length = N ∧ ∀ q : Nat, q < N → 0 ≤ nth c q ∧ nth c q ≤ (q : Int)
theorem clsN_ok {N : Nat} {near : Nat → Nat → Bool} (hr : ∀ q, q < N → near q q = true) : ClOk N (clsN N near) := ⟨clsN_len, fun q hq => by
  obtain ⟨r, h1, h2, _⟩ := clsN_spec hq (hr q hq)
  omega⟩
def msrN (N : Nat) : List Int → Nat
  | [] => 0
  | x :: xs => ((N : Int) - x).toNat + msrN N xs
theorem msrN_le {N : Nat} : ∀ {xs ys : List Int}, xs.length = ys.length → (∀ i, i < xs.length → nth xs i ≤ nth ys i) → msrN N ys ≤ msrN N xs
  | [], [], _, _ => Nat.le_refl _
  | x :: xs, y :: ys, hl, h => by
    have h0 := h 0 (by simp)
    have h1 := msrN_le (N := N) (xs := xs) (ys := ys) (by simpa using hl) fun i hi => by have := h (i + 1) (by simpa using hi); simpa [nth] using this
    simp only [nth, List.getD_cons_zero] at h0
    simp only [msrN]; omega
theorem msrN_lt {N : Nat} : ∀ {xs ys : List Int}, xs.length = ys.length → (∀ i, i < xs.length → nth xs i ≤ nth ys i ∧ nth xs i < (N : Int)) → xs ≠ ys → msrN N ys < msrN N xs
  | [], [], _, _, hn => absurd rfl hn
  | x :: xs, y :: ys, hl, h, hn => by
    have h0 := h 0 (by simp)
    simp only [nth, List.getD_cons_zero] at h0
    have hs : ∀ i, i < xs.length → nth xs i ≤ nth ys i ∧ nth xs i < (N : Int) := fun i hi => by have := h (i + 1) (by simpa using hi); simpa [nth] using this
    simp only [msrN]
    by_cases e : x = y
    · subst e
      have := msrN_lt (N := N) (xs := xs) (ys := ys) (by simpa using hl) hs (fun e => hn (by rw [e]))
      omega
    · have := msrN_le (N := N) (xs := xs) (ys := ys) (by simpa using hl) fun i hi => (hs i hi).1
      omega
/-- finer classes grow -/
theorem clsN_grow {N : Nat} {near : Nat → Nat → Bool} {c : List Int} (hc : ClOk N c) (hr : ∀ q, q < N → near q q = true) (hn : ∀ p q, p < N → q < N → near p q = true → nth c p = nth c q) (hne : clsN N near ≠ c) : msrN N (clsN N near) < msrN N c := by
  refine msrN_lt (by rw [clsN_len, hc.1]) (fun i hi => ?_) (fun e => hne e.symm)
  rw [hc.1] at hi
  obtain ⟨r, h1, h2, h3, _⟩ := clsN_spec hi (hr i hi)
  have h4 := hn r i (by omega) hi h3
  have h5 := hc.2 r (by omega)
  have h6 := hc.2 i hi
  omega

/-! states alike in machines -/
def nearI (n : List (List Int)) (c : List Int) (p q : Nat) : Bool := decide (nth c q = nth c p) && allN (nth n q).length fun i => decide (nth c (nth (nth n q) i).toNat = nth c (nth (nth n p) i).toNat)
def stepI (n : List (List Int)) (c : List Int) : List Int := clsN n.length (nearI n c)
theorem nearI_refl {n : List (List Int)} {c : List Int} {q : Nat} : nearI n c q q = true := by simp [nearI, allN_iff]
theorem nearI_c {n : List (List Int)} {c : List Int} {p q : Nat} (h : nearI n c p q = true) : nth c p = nth c q := by unfold nearI at h; simp only [Bool.and_eq_true, decide_eq_true_eq] at h; exact h.1.symm
theorem stepI_ok {n : List (List Int)} {c : List Int} : ClOk n.length (stepI n c) := clsN_ok fun q _ => nearI_refl
theorem stepI_lt {n : List (List Int)} {c : List Int} (hc : ClOk n.length c) (h : stepI n c ≠ c) : msrN n.length (stepI n c) < msrN n.length c := clsN_grow hc (fun q _ => nearI_refl) (fun p q _ _ h => nearI_c h) h
/-- all rows have one length -/
def RowsW (n out : List (List Int)) (W : Nat) : Prop := ∀ q, q < n.length → (nth n q).length = W ∧ (nth out q).length = W
end Go.Proofs.Ytabfpoflhacknaa

