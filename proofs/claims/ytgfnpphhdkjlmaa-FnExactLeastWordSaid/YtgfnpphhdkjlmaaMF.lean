/- Machines: states found, states alike. No program in sight; no conditions. -/
import Derived.Test.YtgfnpphhdkjlmaaMG
set_option linter.unusedSimpArgs false
set_option linter.unusedVariables false
namespace Go.Proofs.Ytgfnpphhdkjlmaa
open Go.RowKit
open Shp
def FdOk (N : Nat) (out : List Int) : Prop := out.Nodup ∧ ∀ x ∈ out, 0 ≤ x ∧ x < (N : Int)
theorem FdOk.len {N : Nat} {out : List Int} (h : FdOk N out) : out.length ≤ N := nodup_len N out h.1 h.2
theorem FdOk.add {N : Nat} {out : List Int} (h : FdOk N out) {x : Int} (hx : 0 ≤ x ∧ x < (N : Int)) (hn : has out x = false) : FdOk N (out ++ [x]) := by
  refine ⟨nodup_snoc h.1 (fun hm => by rw [has_iff.2 hm] at hn; cases hn), fun y hy => ?_⟩
  rcases List.mem_append.1 hy with h1 | h1
  · exact h.2 y h1
  · simp only [List.mem_singleton] at h1; subst h1; exact hx
theorem FdOk.one {N : Nat} (h : 1 ≤ N) : FdOk N [0] := ⟨by simp, fun x hx => by simp only [List.mem_singleton] at hx; subst hx; omega⟩
theorem FdOk.at {N : Nat} {out : List Int} (h : FdOk N out) {k : Nat} (hk : k < out.length) : 0 ≤ nth out k ∧ nth out k < (N : Int) := h.2 _ (nth_mem hk)
def rowN (n : List (List Int)) (q : Int) : List Int := nth n q.toNat
def bfsN (n : List (List Int)) (f k : Nat) (out : List Int) : List Int := bfsG (rowN n) f k out
def foundN (n : List (List Int)) : List Int := bfsN n 48 0 [0]
theorem bfsN_end {n : List (List Int)} {f k : Nat} {out : List Int} (h : out.length ≤ k) : bfsN n f k out = out := bfsG_end h
theorem bfsN_step {n : List (List Int)} {N k : Nat} {out : List Int} (h : k < out.length) (h2 : out.length ≤ N) : bfsN n (N - k) k out = bfsN n (N - (k + 1)) (k + 1) (addG out ((nth n (nth out k).toNat).drop 0)) := bfsG_step h h2
theorem addN_yes {out xs : List Int} {i : Nat} (h : i < xs.length) (hx : has out (nth xs i) = true) : addG out (xs.drop i) = addG out (xs.drop (i + 1)) := by rw [addG_drop h, if_pos (has_iff.1 hx)]
theorem addN_no {out xs : List Int} {i : Nat} (h : i < xs.length) (hx : has out (nth xs i) = false) : addG out (xs.drop i) = addG (out ++ [nth xs i]) (xs.drop (i + 1)) := by rw [addG_drop h, if_neg fun m => by rw [has_iff.2 m] at hx; cases hx]
theorem has_place {xs : List Int} {x : Int} : has xs x = decide (place xs x ≥ 0) := firstN_ge.symm
theorem place_lt {xs : List Int} {x : Int} (h : place xs x < 0) : has xs x = false := by rw [has_place]; simpa using h
theorem place_ge {xs : List Int} {x : Int} (h : ¬ place xs x < 0) : has xs x = true := by rw [has_place]; simpa using h
def it {α : Type} (f : α → α) : Nat → α → α
  | 0, c => c
  | j + 1, c => it f j (f c)
theorem it_succ {α : Type} {f : α → α} : ∀ {j : Nat} {c : α}, it f (j + 1) c = f (it f j c)
  | 0, _ => rfl
  | j + 1, c => by show it f (j + 1) (f c) = _; rw [it_succ]; rfl
theorem it_add {α : Type} {f : α → α} : ∀ {j k : Nat} {c : α}, it f (j + k) c = it f k (it f j c)
  | 0, k, c => by rw [Nat.zero_add]; rfl
  | j + 1, k, c => by rw [show j + 1 + k = (j + k) + 1 by omega]; show it f (j + k) (f c) = _; rw [it_add]; rfl
theorem it_fix {α : Type} {f : α → α} {c : α} (h : f c = c) : ∀ {j : Nat}, it f j c = c
  | 0 => rfl
  | j + 1 => by show it f j (f c) = c; rw [h, it_fix h]
theorem it_same {α : Type} {f : α → α} {c : α} {j k : Nat} (hj : f (it f j c) = it f j c) (hk : f (it f k c) = it f k c) : it f j c = it f k c := by
  rcases Nat.le_total j k with h | h
  · obtain ⟨d, rfl⟩ := Nat.exists_eq_add_of_le h
    rw [it_add, it_fix hj]
  · obtain ⟨d, rfl⟩ := Nat.exists_eq_add_of_le h
    rw [it_add, it_fix hk]
open Classical in
noncomputable def limF {α : Type} (f : α → α) (c : α) : α := if h : ∃ j, f (it f j c) = it f j c then it f h.choose c else c
theorem limF_eq {α : Type} {f : α → α} {c : α} {j : Nat} (hj : f (it f j c) = it f j c) : limF f c = it f j c := by
  unfold limF
  have h : ∃ j, f (it f j c) = it f j c := ⟨j, hj⟩
  rw [dif_pos h]
  exact it_same h.choose_spec hj
theorem firstN_congr {n : Nat} {p q : Nat → Bool} (h : ∀ j, j < n → p j = q j) : firstN n p = firstN n q := by
  rcases firstN_cases n p with ⟨h1, h2⟩ | ⟨i, h1, h2, h3, h4⟩
  · rw [h1, firstN_none fun j hj => by rw [← h j hj]; exact h2 j hj]
  · rw [h2, firstN_at i h1 (by rw [← h i h1]; exact h3) fun j hj => by rw [← h j (by omega)]; exact h4 j hj]
def clsN (N : Nat) (near : Nat → Nat → Bool) : List Int := (List.range N).map fun q => firstN (q + 1) fun p => near p q
theorem clsN_len {N : Nat} {near : Nat → Nat → Bool} : (clsN N near).length = N := by simp [clsN]
theorem clsN_nth {N : Nat} {near : Nat → Nat → Bool} {q : Nat} (h : q < N) : nth (clsN N near) q = firstN (q + 1) fun p => near p q := by
  rw [nth_eq (by rw [clsN_len]; exact h)]; simp [clsN]
theorem clsN_spec {N : Nat} {near : Nat → Nat → Bool} {q : Nat} (h : q < N) (hr : near q q = true) : ∃ r : Nat, r ≤ q ∧ nth (clsN N near) q = (r : Int) ∧ near r q = true ∧ ∀ z, z < r → near z q = false := by
  rw [clsN_nth h]
  rcases firstN_cases (q + 1) (fun p => near p q) with ⟨_, h2⟩ | ⟨i, h1, h2, h3, h4⟩
  · rw [h2 q (by omega)] at hr; cases hr
  · exact ⟨i, by omega, h2, h3, h4⟩
theorem clsN_at {N : Nat} {near : Nat → Nat → Bool} {q p : Nat} (h : q < N) (hp : p ≤ q) (hr : near p q = true) (hb : ∀ z, z < p → near z q = false) : nth (clsN N near) q = (p : Int) := by
  rw [clsN_nth h]; exact firstN_at p (by omega) hr hb
theorem clsN_take {N : Nat} {near : Nat → Nat → Bool} {q p : Nat} (h : q < N) (hp : p ≤ q) (hr : near p q = true) (hb : ∀ z, z < p → near z q = false) : (clsN N near).take (q + 1) = (clsN N near).take q ++ [(p : Int)] := by
  rw [take_nth (by rw [clsN_len]; exact h), clsN_at h hp hr hb]
theorem clsN_congr {N : Nat} {near near2 : Nat → Nat → Bool} (h : ∀ p q, p < N → q < N → near p q = near2 p q) : clsN N near = clsN N near2 := by
  refine list_ext (by rw [clsN_len, clsN_len]) fun q hq => ?_
  rw [clsN_len] at hq
  rw [clsN_nth hq, clsN_nth hq]
  exact firstN_congr fun j hj => h j q (by omega) hq
def ClOk (N : Nat) (c : List Int) : Prop := c.length = N ∧ ∀ q : Nat, q < N → 0 ≤ nth c q ∧ nth c q ≤ (q : Int)
theorem clsN_ok {N : Nat} {near : Nat → Nat → Bool} (hr : ∀ q, q < N → near q q = true) : ClOk N (clsN N near) := ⟨clsN_len, fun q hq => by
  obtain ⟨r, h1, h2, _⟩ := clsN_spec hq (hr q hq)
  omega⟩
def msrN (N : Nat) : List Int → Nat
  | [] => 0
  | x :: xs => ((N : Int) - x).toNat + msrN N xs
theorem msrN_le {N : Nat} : ∀ {xs ys : List Int}, xs.length = ys.length → (∀ i, i < xs.length → nth xs i ≤ nth ys i) → msrN N ys ≤ msrN N xs
  | [], [], _, _ => Nat.le_refl _
  | x :: xs, y :: ys, hl, h => by
    have h0 := h 0 (by simp)
    have h1 := msrN_le (N := N) (xs := xs) (ys := ys) (by simpa using hl) fun i hi => by have := h (i + 1) (by simpa using hi); simpa [nth] using this
    simp only [nth, List.getD_cons_zero] at h0
    simp only [msrN]; omega
theorem msrN_lt {N : Nat} : ∀ {xs ys : List Int}, xs.length = ys.length → (∀ i, i < xs.length → nth xs i ≤ nth ys i ∧ nth xs i < (N : Int)) → xs ≠ ys → msrN N ys < msrN N xs
  | [], [], _, _, hn => absurd rfl hn
  | x :: xs, y :: ys, hl, h, hn => by
    have h0 := h 0 (by simp)
    simp only [nth, List.getD_cons_zero] at h0
    have hs : ∀ i, i < xs.length → nth xs i ≤ nth ys i ∧ nth xs i < (N : Int) := fun i hi => by have := h (i + 1) (by simpa using hi); simpa [nth] using this
    simp only [msrN]
    by_cases e : x = y
    · subst e
      have := msrN_lt (N := N) (xs := xs) (ys := ys) (by simpa using hl) hs (fun e => hn (by rw [e]))
      omega
    · have := msrN_le (N := N) (xs := xs) (ys := ys) (by simpa using hl) fun i hi => (hs i hi).1
      omega
theorem clsN_grow {N : Nat} {near : Nat → Nat → Bool} {c : List Int} (hc : ClOk N c) (hr : ∀ q, q < N → near q q = true) (hn : ∀ p q, p < N → q < N → near p q = true → nth c p = nth c q) (hne : clsN N near ≠ c) : msrN N (clsN N near) < msrN N c := by
  refine msrN_lt (by rw [clsN_len, hc.1]) (fun i hi => ?_) (fun e => hne e.symm)
  rw [hc.1] at hi
  obtain ⟨r, h1, h2, h3, _⟩ := clsN_spec hi (hr i hi)
  have h4 := hn r i (by omega) hi h3
  have h5 := hc.2 r (by omega)
  have h6 := hc.2 i hi
  omega
def nearS (n out : List (List Int)) (c : List Int) (p q : Nat) : Bool := decide (nth c p = nth c q) && allN (nth n p).length fun i => decide (nth (nth out p) i = nth (nth out q) i) && decide (nth c (nth (nth n p) i).toNat = nth c (nth (nth n q) i).toNat)
def nearI (n : List (List Int)) (c : List Int) (p q : Nat) : Bool := decide (nth c q = nth c p) && allN (nth n q).length fun i => decide (nth c (nth (nth n q) i).toNat = nth c (nth (nth n p) i).toNat)
def stepS (n out : List (List Int)) (c : List Int) : List Int := clsN n.length (nearS n out c)
def stepI (n : List (List Int)) (c : List Int) : List Int := clsN n.length (nearI n c)
def cls0 (n out : List (List Int)) : List Int := clsN n.length fun p q => decide (nth out q = nth out p)
def zeros (N : Nat) : List Int := List.replicate N 0
theorem zeros_nth {N k : Nat} : nth (zeros N) k = 0 := by
  unfold nth zeros
  rw [List.getD_eq_getElem?_getD, List.getElem?_replicate]
  split <;> rfl
theorem zeros_ok {N : Nat} : ClOk N (zeros N) := ⟨by simp [zeros], fun q _ => by rw [zeros_nth]; omega⟩
noncomputable def alikeN (n out : List (List Int)) : List Int := limF (stepI n) (cls0 n out)
theorem nearS_refl {n out : List (List Int)} {c : List Int} {q : Nat} : nearS n out c q q = true := by simp [nearS, allN_iff]
theorem nearI_refl {n : List (List Int)} {c : List Int} {q : Nat} : nearI n c q q = true := by simp [nearI, allN_iff]
theorem nearS_c {n out : List (List Int)} {c : List Int} {p q : Nat} (h : nearS n out c p q = true) : nth c p = nth c q := by unfold nearS at h; simp only [Bool.and_eq_true, decide_eq_true_eq] at h; exact h.1
theorem nearI_c {n : List (List Int)} {c : List Int} {p q : Nat} (h : nearI n c p q = true) : nth c p = nth c q := by unfold nearI at h; simp only [Bool.and_eq_true, decide_eq_true_eq] at h; exact h.1.symm
theorem stepS_ok {n out : List (List Int)} {c : List Int} : ClOk n.length (stepS n out c) := clsN_ok fun q _ => nearS_refl
theorem stepI_ok {n : List (List Int)} {c : List Int} : ClOk n.length (stepI n c) := clsN_ok fun q _ => nearI_refl
theorem cls0_ok {n out : List (List Int)} : ClOk n.length (cls0 n out) := clsN_ok fun q _ => by simp
theorem stepS_lt {n out : List (List Int)} {c : List Int} (hc : ClOk n.length c) (h : stepS n out c ≠ c) : msrN n.length (stepS n out c) < msrN n.length c := clsN_grow hc (fun q _ => nearS_refl) (fun p q _ _ h => nearS_c h) h
theorem stepI_lt {n : List (List Int)} {c : List Int} (hc : ClOk n.length c) (h : stepI n c ≠ c) : msrN n.length (stepI n c) < msrN n.length c := clsN_grow hc (fun q _ => nearI_refl) (fun p q _ _ h => nearI_c h) h
def Finer (out : List (List Int)) (N : Nat) (c : List Int) : Prop := ∀ p q : Nat, p < N → q < N → nth c p = nth c q → nth out p = nth out q
theorem cls0_finer {n out : List (List Int)} : Finer out n.length (cls0 n out) := fun p q hp hq h => by
  obtain ⟨r, _, h2, h3, _⟩ := clsN_spec (near := fun p q => decide (nth out q = nth out p)) hp (by simp)
  obtain ⟨r2, _, g2, g3, _⟩ := clsN_spec (near := fun p q => decide (nth out q = nth out p)) hq (by simp)
  have e : r = r2 := by unfold cls0 at h; omega
  subst e
  simp only [decide_eq_true_eq] at h3 g3
  rw [h3, g3]
theorem stepI_finer {n out : List (List Int)} {c : List Int} (hf : Finer out n.length c) : Finer out n.length (stepI n c) := fun p q hp hq h => by
  obtain ⟨r, _, h2, h3, _⟩ := clsN_spec (near := nearI n c) hp nearI_refl
  obtain ⟨r2, _, g2, g3, _⟩ := clsN_spec (near := nearI n c) hq nearI_refl
  have e : r = r2 := by unfold stepI at h; omega
  subst e
  exact hf p q hp hq ((nearI_c h3).symm.trans (nearI_c g3))
def RowsW (n out : List (List Int)) (W : Nat) : Prop := ∀ q, q < n.length → (nth n q).length = W ∧ (nth out q).length = W
theorem step_eq {n out : List (List Int)} {W : Nat} {c : List Int} (hw : RowsW n out W) (hf : Finer out n.length c) : stepS n out c = stepI n c := by
  refine clsN_congr fun p q hp hq => ?_
  rw [Bool.eq_iff_iff]
  unfold nearS nearI
  simp only [Bool.and_eq_true, decide_eq_true_eq, allN_iff]
  rw [(hw p hp).1, (hw q hq).1]
  constructor
  · rintro ⟨h1, h2⟩; exact ⟨h1.symm, fun j hj => (h2 j hj).2.symm⟩
  · rintro ⟨h1, h2⟩; exact ⟨h1.symm, fun j hj => ⟨by rw [hf p q hp hq h1.symm], (h2 j hj).symm⟩⟩
theorem step_zero {n out : List (List Int)} {W : Nat} (hw : RowsW n out W) : stepS n out (zeros n.length) = cls0 n out := by
  refine clsN_congr fun p q hp hq => ?_
  rw [Bool.eq_iff_iff]
  unfold nearS
  simp only [Bool.and_eq_true, decide_eq_true_eq, allN_iff, zeros_nth, and_true, true_and]
  constructor
  · intro h
    refine list_ext (by rw [(hw p hp).2, (hw q hq).2]) fun i hi => (h i ?_).symm
    rw [(hw p hp).1]; rw [(hw q hq).2] at hi; exact hi
  · intro h j _; rw [h]
theorem itI_finer {n out : List (List Int)} : ∀ (j : Nat), Finer out n.length (it (stepI n) j (cls0 n out))
  | 0 => cls0_finer
  | j + 1 => by rw [it_succ]; exact stepI_finer (itI_finer j)
theorem it_eq {n out : List (List Int)} {W : Nat} (hw : RowsW n out W) : ∀ (j : Nat), it (stepS n out) (j + 1) (zeros n.length) = it (stepI n) j (cls0 n out)
  | 0 => step_zero hw
  | j + 1 => by rw [it_succ, it_eq hw j, it_succ]; exact step_eq hw (itI_finer j)
theorem alikeN_S {n out : List (List Int)} {W : Nat} (hw : RowsW n out W) {c : List Int} (h : ∃ j, c = it (stepS n out) j (zeros n.length)) (hfix : stepS n out c = c) : alikeN n out = c := by
  obtain ⟨j, rfl⟩ := h
  rcases j with _ | j
  · have e : zeros n.length = cls0 n out := by rw [← step_zero hw]; exact hfix.symm
    have e2 : stepI n (cls0 n out) = cls0 n out := by rw [← step_eq hw cls0_finer, ← e]; exact hfix
    show _ = zeros n.length
    rw [e]; exact limF_eq (j := 0) e2
  · rw [it_eq hw] at hfix ⊢
    rw [step_eq hw (itI_finer j)] at hfix
    exact limF_eq hfix
theorem alikeN_I {n out : List (List Int)} {c : List Int} (h : ∃ j, c = it (stepI n) j (cls0 n out)) (hfix : stepI n c = c) : alikeN n out = c := by
  obtain ⟨j, rfl⟩ := h
  exact limF_eq hfix
theorem machB_rows {i o : Int} {n out : List (List Int)} (h : machB i o n out = true) : RowsW n out (pw i).toNat := fun q hq => by
  obtain ⟨a, b, c, d⟩ := (machB_r h).2.2.2.2 q hq; omega
theorem stepS_take {n out : List (List Int)} {c : List Int} {q p : Nat} (h : q < n.length) (hp : p ≤ q) (hr : nearS n out c p q = true) (hb : ∀ z, z < p → nearS n out c z q = false) : (stepS n out c).take (q + 1) = (stepS n out c).take q ++ [(p : Int)] := clsN_take h hp hr hb
theorem stepI_at {n : List (List Int)} {c : List Int} {q p : Nat} (h : q < n.length) (hp : p ≤ q) (hr : nearI n c p q = true) (hb : ∀ z, z < p → nearI n c z q = false) : nth (stepI n c) q = (p : Int) := clsN_at h hp hr hb
theorem cls0_at {n out : List (List Int)} {q p : Nat} (h : q < n.length) (hp : p ≤ q) (hr : decide (nth out q = nth out p) = true) (hb : ∀ z, z < p → decide (nth out q = nth out z) = false) : nth (cls0 n out) q = (p : Int) := clsN_at (near := fun p q => decide (nth out q = nth out p)) h hp hr hb
def fillN (c : List Int) (q N : Nat) : List Int := c.take q ++ List.replicate (N - q) 0
theorem fill_all {c : List Int} {q N : Nat} (h : c.length ≤ q ∧ N ≤ q) : fillN c q N = c := by
  unfold fillN; rw [List.take_of_length_le h.1, Nat.sub_eq_zero_of_le h.2]; simp
theorem fill_set {c : List Int} {q N : Nat} {v : Int} (h : q < N ∧ N = c.length) (e : nth c q = v) : (fillN c q N).set q v = fillN c (q + 1) N := by
  unfold fillN
  have l : (c.take q).length = q := by simp; omega
  rw [List.set_append_right _ _ (by omega), l, Nat.sub_self, take_nth (by omega), e, show N - q = (N - (q + 1)) + 1 by omega, List.replicate_succ]
  simp
theorem fill_map_set {c : List Int} {q N : Nat} {v : Int} (h : q < N ∧ N = c.length) (e : nth c q = v) : ((fillN c q N).map GV.i).set q (GV.i v) = (fillN c (q + 1) N).map GV.i := by
  rw [← List.map_set, fill_set h e]
end Go.Proofs.Ytgfnpphhdkjlmaa
