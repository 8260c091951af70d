/- Machines: states found, states alike. No program in sight; no conditions. -/
import Derived.Test.YtbjonekgeidoiaaMG
set_option linter.unusedSimpArgs false
set_option linter.unusedVariables false
namespace Go.Proofs.Ytbjonekgeidoiaa
open Go.RowKit
open Shp

/-- states once each -/
def FdOk (N : Nat) (out : List Int) : Prop := out.Nodup ∧ ∀ x ∈ out, 0 ≤ x ∧ x < (N : Int)
theorem FdOk.len {N : Nat} {out : List Int} (h : FdOk N out) : out.length ≤ N := nodup_len N out h.1 h.2
theorem FdOk.add {N : Nat} {out : List Int} (h : FdOk N out) {x : Int} (hx : 0 ≤ x ∧ x < (N : Int)) (hn : has out x = false) : FdOk N (out ++ [x]) := by
  refine ⟨nodup_snoc h.1 (fun hm => by rw [has_iff.2 hm] at hn; cases hn), fun y hy => ?_⟩
  rcases List.mem_append.1 hy with h1 | h1
  · exact h.2 y h1
  · simp only [List.mem_singleton] at h1; subst h1; exact hx
theorem FdOk.one {N : Nat} (h : 1 ≤ N) : FdOk N [0] := ⟨by simp, fun x hx => by simp only [List.mem_singleton] at hx; subst hx; omega⟩
theorem FdOk.at {N : Nat} {out : List Int} (h : FdOk N out) {k : Nat} (hk : k < out.length) : 0 ≤ nth out k ∧ nth out k < (N : Int) := h.2 _ (nth_mem hk)
def rowN (n : List (List Int)) (q : Int) : List Int := nth n q.toNat
/-! what goes on till nothing changes -/
def it {α : Type} (f : α → α) : Nat → α → α
  | 0, c => c
  | j + 1, c => it f j (f c)
theorem it_succ {α : Type} {f : α → α} : ∀ {j : Nat} {c : α}, it f (j + 1) c = f (it f j c)
  | 0, _ => rfl
  | j + 1, c => by show it f (j + 1) (f c) = _; rw [it_succ]; rfl
theorem it_add {α : Type} {f : α → α} : ∀ {j k : Nat} {c : α}, it f (j + k) c = it f k (it f j c)
  | 0, k, c => by rw [Nat.zero_add]; rfl
  | j + 1, k, c => by rw [show j + 1 + k = (j + k) + 1 by omega]; show it f (j + k) (f c) = _; rw [it_add]; rfl
theorem it_fix {α : Type} {f : α → α} {c : α} (h : f c = c) : ∀ {j : Nat}, it f j c = c
  | 0 => rfl
  | j + 1 => by show it f j (f c) = c; rw [h, it_fix h]
theorem it_same {α : Type} {f : α → α} {c : α} {j k : Nat} (hj : f (it f j c) = it f j c) (hk : f (it f k c) = it f k c) : it f j c = it f k c := by
  rcases Nat.le_total j k with h | h
  · obtain ⟨d, rfl⟩ := Nat.exists_eq_add_of_le h
    rw [it_add, it_fix hj]
  · obtain ⟨d, rfl⟩ := Nat.exists_eq_add_of_le h
    rw [it_add, it_fix hk]
open Classical in
noncomputable def limF {α : Type} (f : α → α) (c : α) : α := if h : ∃ j, f (it f j c) = it f j c then it f h.choose c else c
theorem limF_eq {α : Type} {f : α → α} {c : α} {j : Nat} (hj : f (it f j c) = it f j c) : limF f c = it f j c := by
  unfold limF
  have h : ∃ j, f (it f j c) = it f j c := ⟨j, hj⟩
  rw [dif_pos h]
  exact it_same h.choose_spec hj

/-! classes: each state's class is its first fellow -/
def clsN (N : Nat) (near : Nat → Nat → Bool) : List Int := (List.range N).map fun q => firstN (q + 1) fun p => near p q
theorem clsN_len {N : Nat} {near : Nat → Nat → Bool} : (clsN N near).length = N := by simp [clsN]
theorem clsN_nth {N : Nat} {near : Nat → Nat → Bool} {q : Nat} (h : q < N) : nth (clsN N near) q = firstN (q + 1) fun p => near p q := by
  rw [nth_eq (by rw [clsN_len]; exact h)]; simp [clsN]
theorem clsN_spec {N : Nat} {near : Nat → Nat → Bool} {q : Nat} (h : q < N) (hr : near q q = true) : ∃ r : Nat, r ≤ q ∧ nth (clsN N near) q = (r : Int) ∧ near r q = true ∧ ∀ z, z < r → near z q = false := by
  rw [clsN_nth h]
  rcases firstN_cases (q + 1) (fun p => near p q) with ⟨_, h2⟩ | ⟨i, h1, h2, h3, h4⟩
  · rw [h2 q (by omega)] at hr; cases hr
  · exact ⟨i, by omega, h2, h3, h4⟩
theorem clsN_at {N : Nat} {near : Nat → Nat → Bool} {q p : Nat} (h : q < N) (hp : p ≤ q) (hr : near p q = true) (hb : ∀ z, z < p → near z q = false) : nth (clsN N near) q = (p : Int) := by
  rw [clsN_nth h]; exact firstN_at p (by omega) hr hb
/-- classes are numbers of states -/
def ClOk (N : Nat) (c : List Int) : Prop := c.length = N ∧ ∀ q : Nat, q < N → 0 ≤ nth c q ∧ nth c q ≤ (q : Int)
theorem clsN_ok {N : Nat} {near : Nat → Nat → Bool} (hr : ∀ q, q < N → near q q = true) : ClOk N (clsN N near) := ⟨clsN_len, fun q hq => by
  obtain ⟨r, h1, h2, _⟩ := clsN_spec hq (hr q hq)
  omega⟩
def msrN (N : Nat) : List Int → Nat
  | [] => 0
  | x :: xs => ((N : Int) - x).toNat + msrN N xs
theorem msrN_le {N : Nat} : ∀ {xs ys : List Int}, xs.length = ys.length → (∀ i, i < xs.length → nth xs i ≤ nth ys i) → msrN N ys ≤ msrN N xs
  | [], [], _, _ => Nat.le_refl _
  | x :: xs, y :: ys, hl, h => by
    have h0 := h 0 (by simp)
    have h1 := msrN_le (N := N) (xs := xs) (ys := ys) (by simpa using hl) fun i hi => by have := h (i + 1) (by simpa using hi); simpa [nth] using this
    simp only [nth, List.getD_cons_zero] at h0
    simp only [msrN]; omega
theorem msrN_lt {N : Nat} : ∀ {xs ys : List Int}, xs.length = ys.length → (∀ i, i < xs.length → nth xs i ≤ nth ys i ∧ nth xs i < (N : Int)) → xs ≠ ys → msrN N ys < msrN N xs
  | [], [], _, _, hn => absurd rfl hn
  | x :: xs, y :: ys, hl, h, hn => by
    have h0 := h 0 (by simp)
    simp only [nth, List.getD_cons_zero] at h0
    have hs : ∀ i, i < xs.length → nth xs i ≤ nth ys i ∧ nth xs i < (N : Int) := fun i hi => by have := h (i + 1) (by simpa using hi); simpa [nth] using this
    simp only [msrN]
    by_cases e : x = y
    · subst e
      have := msrN_lt (N := N) (xs := xs) (ys := ys) (by simpa using hl) hs (fun e => hn (by rw [e]))
      omega
    · have := msrN_le (N := N) (xs := xs) (ys := ys) (by simpa using hl) fun i hi => (hs i hi).1
      omega
/-- finer classes grow -/
theorem clsN_grow {N : Nat} {near : Nat → Nat → Bool} {c : List Int} (hc : ClOk N c) (hr : ∀ q, q < N → near q q = true) (hn : ∀ p q, p < N → q < N → near p q = true → nth c p = nth c q) (hne : clsN N near ≠ c) : msrN N (clsN N near) < msrN N c := by
  refine msrN_lt (by rw [clsN_len, hc.1]) (fun i hi => ?_) (fun e => hne e.symm)
  rw [hc.1] at hi
  obtain ⟨r, h1, h2, h3, _⟩ := clsN_spec hi (hr i hi)
  have h4 := hn r i (by omega) hi h3
  have h5 := hc.2 r (by omega)
  have h6 := hc.2 i hi
  omega

/-! states alike in machines -/
def nearI (n : List (List Int)) (c : List Int) (p q : Nat) : Bool := decide (nth c q = nth c p) && allN (nth n q).length fun i => decide (nth c (nth (nth n q) i).toNat = nth c (nth (nth n p) i).toNat)
def stepI (n : List (List Int)) (c : List Int) : List Int := clsN n.length (nearI n c)
def cls0 (n out : List (List Int)) : List Int := clsN n.length fun p q => decide (nth out q = nth out p)
def zeros (N : Nat) : List Int := List.replicate N 0
noncomputable def alikeN (n out : List (List Int)) : List Int := limF (stepI n) (cls0 n out)
theorem nearI_refl {n : List (List Int)} {c : List Int} {q : Nat} : nearI n c q q = true := by simp [nearI, allN_iff]
theorem nearI_c {n : List (List Int)} {c : List Int} {p q : Nat} (h : nearI n c p q = true) : nth c p = nth c q := by unfold nearI at h; simp only [Bool.and_eq_true, decide_eq_true_eq] at h; exact h.1.symm
theorem stepI_ok {n : List (List Int)} {c : List Int} : ClOk n.length (stepI n c) := clsN_ok fun q _ => nearI_refl
theorem cls0_ok {n out : List (List Int)} : ClOk n.length (cls0 n out) := clsN_ok fun q _ => by simp
theorem stepI_lt {n : List (List Int)} {c : List Int} (hc : ClOk n.length c) (h : stepI n c ≠ c) : msrN n.length (stepI n c) < msrN n.length c := clsN_grow hc (fun q _ => nearI_refl) (fun p q _ _ h => nearI_c h) h
/-- same class, same outputs -/
def Finer (out : List (List Int)) (N : Nat) (c : List Int) : Prop := ∀ p q : Nat, p < N → q < N → nth c p = nth c q → nth out p = nth out q
theorem cls0_finer {n out : List (List Int)} : Finer out n.length (cls0 n out) := fun p q hp hq h => by
  obtain ⟨r, _, h2, h3, _⟩ := clsN_spec (near := fun p q => decide (nth out q = nth out p)) hp (by simp)
  obtain ⟨r2, _, g2, g3, _⟩ := clsN_spec (near := fun p q => decide (nth out q = nth out p)) hq (by simp)
  have e : r = r2 := by unfold cls0 at h; omega
  subst e
  simp only [decide_eq_true_eq] at h3 g3
  rw [h3, g3]
theorem stepI_finer {n out : List (List Int)} {c : List Int} (hf : Finer out n.length c) : Finer out n.length (stepI n c) := fun p q hp hq h => by
  obtain ⟨r, _, h2, h3, _⟩ := clsN_spec (near := nearI n c) hp nearI_refl
  obtain ⟨r2, _, g2, g3, _⟩ := clsN_spec (near := nearI n c) hq nearI_refl
  have e : r = r2 := by unfold stepI at h; omega
  subst e
  exact hf p q hp hq ((nearI_c h3).symm.trans (nearI_c g3))
/-- all rows have one length -/
def RowsW (n out : List (List Int)) (W : Nat) : Prop := ∀ q, q < n.length → (nth n q).length = W ∧ (nth out q).length = W
theorem itI_finer {n out : List (List Int)} : ∀ (j : Nat), Finer out n.length (it (stepI n) j (cls0 n out))
  | 0 => cls0_finer
  | j + 1 => by rw [it_succ]; exact stepI_finer (itI_finer j)
theorem alikeN_I {n out : List (List Int)} {c : List Int} (h : ∃ j, c = it (stepI n) j (cls0 n out)) (hfix : stepI n c = c) : alikeN n out = c := by
  obtain ⟨j, rfl⟩ := h
  exact limF_eq hfix
theorem machB_rows {i o : Int} {n out : List (List Int)} (h : machB i o n out = true) : RowsW n out (pw i).toNat := fun q hq => by
  obtain ⟨a, b, c, d⟩ := (machB_r h).2.2.2.2 q hq; omega
theorem stepI_at {n : List (List Int)} {c : List Int} {q p : Nat} (h : q < n.length) (hp : p ≤ q) (hr : nearI n c p q = true) (hb : ∀ z, z < p → nearI n c z q = false) : nth (stepI n c) q = (p : Int) := clsN_at h hp hr hb
theorem cls0_at {n out : List (List Int)} {q p : Nat} (h : q < n.length) (hp : p ≤ q) (hr : decide (nth out q = nth out p) = true) (hb : ∀ z, z < p → decide (nth out q = nth out z) = false) : nth (cls0 n out) q = (p : Int) := clsN_at (near := fun p q => decide (nth out q = nth out p)) h hp hr hb
/-- a list filled up to place q -/
def fillN (c : List Int) (q N : Nat) : List Int := c.take q ++ List.replicate (N - q) 0
theorem fill_all {c : List Int} {q N : Nat} (h : c.length ≤ q ∧ N ≤ q) : fillN c q N = c := by
  unfold fillN; rw [List.take_of_length_le h.1, Nat.sub_eq_zero_of_le h.2]; simp
theorem fill_set {c : List Int} {q N : Nat} {v : Int} (h : q < N ∧ N = c.length) (e : nth c q = v) : (fillN c q N).set q v = fillN c (q + 1) N := by
  unfold fillN
  have l : (c.take q).length = q := by simp; omega
  rw [List.set_append_right _ _ (by omega), l, Nat.sub_self, take_nth (by omega), e, show N - q = (N - (q + 1)) + 1 by omega, List.replicate_succ]
  simp
end Go.Proofs.Ytbjonekgeidoiaa

