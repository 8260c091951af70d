/- Endless runs of automata; monitors say what their clauses say. No program in sight; no conditions. -/
import Derived.Test.YtabfpoflhacknaaGreatPB
import Derived.Test.YtabfpoflhacknaaGreatCL
namespace Go.Proofs.YtabfpoflhacknaaGreat
open Go.RowKit
open Shp
variable {P : Nat → Prop} {o k : Int} {b a : List Int}
def IOf (P : Nat → Prop) : Prop := ∀ m, ∃ i, m ≤ i ∧ P i
theorem IOf.mono {Q : Nat → Prop} (h : IOf P) (hpq : ∀ i, P i → Q i) : IOf Q := fun m => by obtain ⟨i, h1, h2⟩ := h m; exact ⟨i, h1, hpq i h2⟩
theorem ZBt {Q : Nat → Prop} : IOf (fun i => P i ∨ Q i) ↔ IOf P ∨ IOf Q := by
 constructor
 ·intro h
  apply Classical.byContradiction
  intro hn
  have h1 : ¬ IOf P := fun x => hn (.inl x)
  have h2 : ¬ IOf Q := fun x => hn (.inr x)
  obtain ⟨m, hm⟩ := Classical.not_forall.1 h1
  obtain ⟨m2, hm2⟩ := Classical.not_forall.1 h2
  obtain ⟨i, hi, hp⟩ := h (m + m2)
  rcases hp with hp | hp
  ·exact hm ⟨i, by omega, hp⟩
  ·exact hm2 ⟨i, by omega, hp⟩
 ·rintro (h | h)
  ·exact h.mono fun _ => .inl
  ·exact h.mono fun _ => .inr
theorem Zru {f : Nat → Int} : ∀ {xs : List Int}, (∃ v, v ∈ xs ∧ IOf fun i => f i = v) ↔ IOf fun i => f i ∈ xs
 | [] => by
  constructor
  ·rintro ⟨v, h, _⟩; simp at h
  ·intro h; obtain ⟨i, _, h⟩ := h 0; simp at h
 | x :: xs => by
  have e : (fun i => f i ∈ x :: xs) = fun i => f i = x ∨ f i ∈ xs := by funext i; simp
  rw [e, ZBt, ← Zru (xs := xs)]
  constructor
  ·rintro ⟨v, hv, h⟩
   rcases List.mem_cons.1 hv with rfl | hv
   ·exact .inl h
   ·exact .inr ⟨v, hv, h⟩
  ·rintro (h | ⟨v, hv, h⟩)
   ·exact ⟨x, by simp, h⟩
   ·exact ⟨v, by simp [hv], h⟩
theorem ZlI : IOf (fun i => P (i + 1)) ↔ IOf P := by
 constructor
 ·intro h m; obtain ⟨i, h1, h2⟩ := h m; exact ⟨i + 1, by omega, h2⟩
 ·intro h m; obtain ⟨i, h1, h2⟩ := h (m + 1); exact ⟨i - 1, by omega, by show P (i - 1 + 1); rwa [show i - 1 + 1 = i by omega]⟩
theorem Zoo {f : Nat → Int} : ¬ IOf fun i => f i ∈ ([] : List Int) := fun h => by obtain ⟨i, _, h⟩ := h 0; simp at h
def runQ (n : List (List Int)) (q : Int) (f : Nat → Int) : Nat → Int
 | 0 => q
 | i + 1 => nth (nth n (runQ n q f i).toNat) (f i).toNat
theorem Zix {n : List (List Int)} {q : Int} {f : Nat → Int} (i : Nat) : ∀ j, runQ n q f (i + j) = runQ n (runQ n q f i) (fun t => f (i + t)) j
 | 0 => rfl
 | j + 1 => by show nth (nth n (runQ n q f (i + j)).toNat) (f (i + j)).toNat = _; rw [Zix i j]; rfl
theorem ZkY {n : List (List Int)} : ∀ {xs : List Int} {q : Int} {f : Nat → Int}, (∀ i, i < xs.length → f i = nth xs i) → goN n q xs = runQ n q f xs.length
 | [], q, f, _ => rfl
 | x :: xs, q, f, h => by
  have h0 : f 0 = x := h 0 (by simp)
  show goN n (nth (nth n q.toNat) x.toNat) xs = _
  rw [ZkY (f := fun t => f (1 + t)) fun i hi => by have := h (1 + i) (by simp; omega); rw [this, Nat.add_comm]; rfl]
  rw [List.length_cons, Nat.add_comm, Zix]
  show _ = runQ n (nth (nth n q.toNat) (f 0).toNat) _ _
  rw [h0]
theorem Zfm {n : List (List Int)} {W q : Int} {f : Nat → Int} (hg : GoOk n W) (hq : 0 ≤ q ∧ q < n.length) (hf : ∀ i, 0 ≤ f i ∧ f i < W) : ∀ i, 0 ≤ runQ n q f i ∧ runQ n q f i < n.length
 | 0 => hq
 | i + 1 => hg.step (Zfm hg hq hf i) (hf i)
section
variable {n : List (List Int)} {W : Int} {s l : List Int}
theorem Zra : goN n 0 s = runQ n 0 (letN s l) s.length := ZkY fun i hi => by unfold letN; rw [if_pos hi]
theorem ZpG (hl0 : 1 ≤ l.length) (k : Nat) {t : Nat} (ht : t < l.length) : letN s l (s.length + k * l.length + t) = nth l t := by
 unfold letN
 rw [if_neg (by omega), show s.length + k * l.length + t - s.length = t + l.length * k by rw [Nat.mul_comm]; omega, Nat.add_mul_mod_self_left, Nat.mod_eq_of_lt ht]
theorem ZqE (hl0 : 1 ≤ l.length) : ∀ k, it (lapN n l) k (goN n 0 s) = runQ n 0 (letN s l) (s.length + k * l.length)
 | 0 => by rw [Nat.zero_mul]; exact Zra
 | k + 1 => by
  rw [ZdX, ZqE hl0 k, show s.length + (k + 1) * l.length = s.length + k * l.length + l.length by rw [Nat.succ_mul]; omega, Zix (s.length + k * l.length) l.length]
  exact ZkY fun i hi => ZpG hl0 k hi
theorem ZmI (hl0 : 1 ≤ l.length) (k : Nat) {i : Nat} (hi : i < l.length) : nth (trN n (it (lapN n l) k (goN n 0 s)) l) i = runQ n 0 (letN s l) (s.length + k * l.length + (i + 1)) := by
 rw [Zk9 hi, ZqE hl0, Zix (s.length + k * l.length) (i + 1)]
 have e : (l.take (i + 1)).length = i + 1 := by rw [List.length_take]; omega
 rw [ZkY (f := fun t => letN s l (s.length + k * l.length + t)) fun j hj => by rw [e] at hj; rw [ZpG hl0 k (by omega), Zsu _ _ _ hj], e]
theorem Zup (hg : GoOk n W) (hs : below s W = true) (hl : below l W = true) (hn : 1 ≤ n.length) (hl0 : 1 ≤ l.length) {v : Int} : v ∈ metN n s l ↔ IOf fun i => runQ n 0 (letN s l) i = v := by
 rw [ZkT hg hs hl hn]
 have hq0 := ZbU hg hs (q := 0) ⟨by omega, by omega⟩
 constructor
 ·rintro ⟨k, hk, hv⟩ m
  obtain ⟨i, hi, e⟩ := Za1 hv
  rw [Zdp] at hi
  obtain ⟨p, hp1, _, hp⟩ := Zmw hg hl hq0
  have key : ∀ m, it (lapN n l) (k + m * p) (goN n 0 s) = it (lapN n l) k (goN n 0 s) := by
   intro m
   induction m with
   | zero => rw [Nat.zero_mul]; rfl
   | succ m ih => rw [show k + (m + 1) * p = k + m * p + p by rw [Nat.succ_mul]; omega, hp _ (by omega)]; exact ih
  refine ⟨s.length + (k + m * p) * l.length + (i + 1), ?_, ?_⟩
  ·have h1 : m * 1 ≤ m * p := Nat.mul_le_mul_left _ hp1
   have h2 : (k + m * p) * 1 ≤ (k + m * p) * l.length := Nat.mul_le_mul_left _ hl0
   omega
  ·show runQ n 0 (letN s l) (s.length + (k + m * p) * l.length + (i + 1)) = v
   rw [← ZmI hl0 _ hi, key m]; exact e
 ·intro h
  obtain ⟨i, h1, h2⟩ := h (s.length + n.length * l.length + 1)
  have hd := Nat.div_add_mod (i - 1 - s.length) l.length
  have hm := Nat.mod_lt (i - 1 - s.length) (show 0 < l.length by omega)
  have hk : n.length ≤ (i - 1 - s.length) / l.length := (Nat.le_div_iff_mul_le (by omega)).2 (by omega)
  refine ⟨(i - 1 - s.length) / l.length, hk, ?_⟩
  have e := ZmI (n := n) (s := s) hl0 ((i - 1 - s.length) / l.length) hm
  rw [show s.length + (i - 1 - s.length) / l.length * l.length + ((i - 1 - s.length) % l.length + 1) = i by rw [Nat.mul_comm]; omega] at e
  have e2 : runQ n 0 (letN s l) i = v := h2
  rw [← e2, ← e]
  exact Zal (by rw [Zdp]; exact hm)
def Zbm (Q : Nat → Int) (p : List Int × List Int) : Prop := (IOf fun i => Q i ∈ p.1) → IOf fun i => Q i ∈ p.2
theorem Zg8 (hg : GoOk n W) (hs : below s W = true) (hl : below l W = true) (hn : 1 ≤ n.length) (hl0 : 1 ≤ l.length) {xs : List Int} : ZcG (metN n s l) xs = true ↔ IOf fun i => runQ n 0 (letN s l) i ∈ xs := by
 rw [meetB_iff, ← Zru]
 constructor
 ·rintro ⟨v, h1, h2⟩; exact ⟨v, h2, (Zup hg hs hl hn hl0).1 h1⟩
 ·rintro ⟨v, h1, h2⟩; exact ⟨v, (Zup hg hs hl hn hl0).2 h2, h1⟩
theorem ZsX {i : Int} {p : List Int × List Int} (hd : detB i o n [p] = true) (hw : ZaI s l (Zaa i o) = true) : Zc4 i o n [p] s l = true ↔ Zbm (runQ n 0 (letN s l)) p := by
 obtain ⟨_, h1, _⟩ := ZeI hd
 have hg := Zcr hd
 obtain ⟨_, _, h4, h5, h6⟩ := wordB_parts.1 hw
 rw [← Zop hd hw, ZoL hd hw, decide_eq_true_eq]
 unfold Zbm
 rw [← Zg8 hg h5 h6 h1 h4, ← Zg8 hg h5 h6 h1 h4]
 show brkZ [p] (metN n s l) 1 = [] ↔ _
 simp only [brkZ]
 rw [show nth [p] 0 = p from rfl]
 cases ZcG (metN n s l) p.1 <;> cases ZcG (metN n s l) p.2 <;> simp
end
section
variable {Q : Nat → Int} {A B : Nat → Bool}
theorem ZqJ (h0 : Q 0 = 0) (hs : ∀ i, Q (i + 1) = ZbT 1 (Q i) (A i) (B i)) : Zbm Q ([1], []) ↔ ∀ i, A i = true := by
 have r : ∀ i, Q i = 0 ∨ Q i = 1 := by
  intro i
  induction i with
  | zero => exact .inl h0
  | succ i ih => rw [hs]; rcases ih with e | e <;> rw [e] <;> cases A i <;> cases B i <;> decide
 constructor
 ·intro h i
  apply Classical.byContradiction
  intro ha
  have ha : A i = false := by simpa using ha
  have st : ∀ j, i + 1 ≤ j → Q j = 1 := by
   intro j hj
   induction j with
   | zero => omega
   | succ j ih =>
    rw [hs]
    by_cases e : j = i
    ·subst e; rw [ha]; rcases r j with e | e <;> rw [e] <;> cases B j <;> decide
    ·rw [ih (by omega)]; cases A j <;> cases B j <;> decide
  exact Zoo (h fun m => ⟨m + i + 1, by omega, by show Q (m + i + 1) ∈ [1]; rw [st _ (by omega)]; simp⟩)
 ·intro h hio
  have z : ∀ j, Q j = 0 := by
   intro j
   induction j with
   | zero => exact h0
   | succ j ih => rw [hs, ih, h j]; cases B j <;> decide
  obtain ⟨i, _, hi⟩ := hio 0
  rw [z i] at hi; simp at hi
theorem ZpN (h0 : Q 0 = 0) (hs : ∀ i, Q (i + 1) = ZbT 2 (Q i) (A i) (B i)) : Zbm Q ([2], []) ↔ ∀ i, A i = true → B (i + 1) = true := by
 have r : ∀ i, Q i = 0 ∨ Q i = 1 ∨ Q i = 2 := by
  intro i
  induction i with
  | zero => exact .inl h0
  | succ i ih => rw [hs]; rcases ih with e | e | e <;> rw [e] <;> cases A i <;> cases B i <;> decide
 constructor
 ·intro h i ha
  apply Classical.byContradiction
  intro hb
  have hb : B (i + 1) = false := by simpa using hb
  have e1 : Q (i + 1) = 1 ∨ Q (i + 1) = 2 := by rw [hs, ha]; rcases r i with e | e | e <;> rw [e] <;> cases B i <;> decide
  have e2 : Q (i + 2) = 2 := by rw [hs (i + 1), hb]; rcases e1 with e | e <;> rw [e] <;> cases A (i + 1) <;> decide
  have st : ∀ j, i + 2 ≤ j → Q j = 2 := by
   intro j hj
   induction j with
   | zero => omega
   | succ j ih =>
    by_cases e : j = i + 1
    ·subst e; exact e2
    ·rw [hs, ih (by omega)]; cases A j <;> cases B j <;> decide
  exact Zoo (h fun m => ⟨m + i + 2, by omega, by show Q (m + i + 2) ∈ [2]; rw [st _ (by omega)]; simp⟩)
 ·intro h hio
  have z : ∀ j, Q j = 0 ∨ (Q j = 1 ∧ B j = true) := by
   intro j
   induction j with
   | zero => exact .inl h0
   | succ j ih =>
    have e2 : Q (j + 1) = bit (A j) := by
     rw [hs]; rcases ih with e | ⟨e, e3⟩
     ·rw [e]; cases A j <;> cases B j <;> decide
     ·rw [e, e3]; cases A j <;> decide
    cases e : A j
    ·left; rw [e2, e]; rfl
    ·right; exact ⟨by rw [e2, e]; rfl, h j e⟩
  obtain ⟨i, _, hi⟩ := hio 0
  have hi' : Q i = 2 := by simpa using hi
  rcases z i with e | ⟨e, _⟩ <;> omega
theorem ZqH (h0 : Q 0 = 0) (hs : ∀ i, Q (i + 1) = ZbT 3 (Q i) (A i) (B i)) : Zbm Q ([1], [0]) ↔ ∀ i, A i = true → ∃ j, i ≤ j ∧ B j = true := by
 have r : ∀ i, Q i = 0 ∨ Q i = 1 := by
  intro i
  induction i with
  | zero => exact .inl h0
  | succ i ih => rw [hs]; rcases ih with e | e <;> rw [e] <;> cases A i <;> cases B i <;> decide
 constructor
 ·intro h i ha
  apply Classical.byContradiction
  intro hb
  have hb : ∀ j, i ≤ j → B j = false := fun j hj => by
   cases e : B j
   ·rfl
   ·exact absurd ⟨j, hj, e⟩ hb
  have st : ∀ j, i + 1 ≤ j → Q j = 1 := by
   intro j hj
   induction j with
   | zero => omega
   | succ j ih =>
    rw [hs, hb j (by omega)]
    by_cases e : j = i
    ·subst e; rw [ha]; rcases r j with e | e <;> rw [e] <;> decide
    ·rw [ih (by omega)]; cases A j <;> decide
  obtain ⟨m, h1, h2⟩ := h (fun m => ⟨m + i + 1, by omega, by show Q (m + i + 1) ∈ [1]; rw [st _ (by omega)]; simp⟩) (i + 1)
  have h2' : Q m = 0 := by simpa using h2
  have := st m h1; omega
 ·intro h hio m
  have w : ∀ j, Q j = 1 → ∃ t, t < j ∧ A t = true ∧ ∀ u, t ≤ u → u < j → B u = false := by
   intro j
   induction j with
   | zero => intro e; omega
   | succ j ih =>
    intro e
    have hb : B j = false := by
     cases e2 : B j
     ·rfl
     ·rw [hs, e2] at e; rcases r j with e3 | e3 <;> rw [e3] at e <;> revert e <;> cases A j <;> decide
    rcases r j with e3 | e3
    ·refine ⟨j, by omega, ?_, fun u h1 h2 => by rw [show u = j by omega]; exact hb⟩
     cases e2 : A j
     ·rw [hs, hb, e2, e3] at e; revert e; decide
     ·rfl
    ·obtain ⟨t, t1, t2, t3⟩ := ih e3
     refine ⟨t, by omega, t2, fun u h1 h2 => ?_⟩
     by_cases e4 : u = j
     ·rw [e4]; exact hb
     ·exact t3 u h1 (by omega)
  obtain ⟨i, h1, h2⟩ := hio m
  obtain ⟨t, t1, t2, t3⟩ := w i (by simpa using h2)
  obtain ⟨j, j1, j2⟩ := h t t2
  refine ⟨j + 1, ?_, ?_⟩
  ·apply Classical.byContradiction; intro hn
   have := t3 j j1 (by omega); rw [this] at j2; cases j2
  ·show Q (j + 1) ∈ [0]
   rw [hs, j2]; rcases r j with e | e <;> rw [e] <;> cases A j <;> decide
theorem ZrD (h0 : Q 0 = 0) (hs : ∀ i, Q (i + 1) = ZbT 4 (Q i) (A i) (B i)) : Zbm Q ([0, 1], [1]) ↔ IOf fun i => A i = true := by
 have e : ∀ i, Q (i + 1) = bit (A i) := fun i => hs i
 have r : ∀ i, Q i ∈ [(0 : Int), 1] := by
  intro i
  cases i with
  | zero => rw [h0]; simp
  | succ i => rw [e]; cases A i <;> simp [bit]
 have k : (IOf fun i => Q i ∈ [(1 : Int)]) ↔ IOf fun i => A i = true := by
  rw [← ZlI]
  have : (fun i => Q (i + 1) ∈ [(1 : Int)]) = fun i => A i = true := by funext i; rw [e, List.mem_singleton, bit1]
  rw [this]
 unfold Zbm
 rw [← k]
 exact ⟨fun h => h fun m => ⟨m, Nat.le_refl _, r m⟩, fun h _ => h⟩
theorem ZyY : ¬ IOf P ↔ ∃ n, ∀ i, n ≤ i → ¬ P i := by
 constructor
 ·intro h
  obtain ⟨m, hm⟩ := Classical.not_forall.1 h
  exact ⟨m, fun i hi hp => hm ⟨i, hi, hp⟩⟩
 ·rintro ⟨n, hn⟩ h
  obtain ⟨i, h1, h2⟩ := h n
  exact hn i h1 h2
theorem ZqB (hs : ∀ i, Q (i + 1) = ZbT 5 (Q i) (A i) (B i)) : Zbm Q ([1], []) ↔ ∃ n, ∀ i, n ≤ i → A i = true := by
 have k : (IOf fun i => Q i ∈ [(1 : Int)]) ↔ IOf fun i => ¬ A i = true := by
  rw [← ZlI]
  have : (fun i => Q (i + 1) ∈ [(1 : Int)]) = fun i => ¬ A i = true := by
   funext i; rw [show Q (i + 1) = 1 - bit (A i) from hs i, List.mem_singleton]; cases A i <;> simp [bit]
  rw [this]
 have k2 : (¬ IOf fun i => ¬ A i = true) ↔ ∃ n, ∀ i, n ≤ i → A i = true := by rw [ZyY]; simp only [Classical.not_not]
 unfold Zbm
 rw [k, ← k2]
 exact ⟨fun h hn => Zoo (h hn), fun h hn => absurd hn h⟩
theorem Zqz (h0 : Q 0 = 0) (hs : ∀ i, Q (i + 1) = ZbT 6 (Q i) (A i) (B i)) : Zbm Q ([0], []) ↔ ∃ i, A i = true := by
 constructor
 ·intro h
  apply Classical.byContradiction
  intro hn
  have z : ∀ j, Q j = 0 := by
   intro j
   induction j with
   | zero => exact h0
   | succ j ih =>
    have ha : A j = false := by
     cases e : A j
     ·rfl
     ·exact absurd ⟨j, e⟩ hn
    rw [hs, ih, ha]; cases B j <;> decide
  exact Zoo (h fun m => ⟨m, Nat.le_refl _, by show Q m ∈ [0]; rw [z]; simp⟩)
 ·rintro ⟨i, ha⟩ hio
  have r : ∀ i, Q i = 0 ∨ Q i = 1 := by
   intro i
   induction i with
   | zero => exact .inl h0
   | succ i ih => rw [hs]; rcases ih with e | e <;> rw [e] <;> cases A i <;> cases B i <;> decide
  have st : ∀ j, i + 1 ≤ j → Q j = 1 := by
   intro j hj
   induction j with
   | zero => omega
   | succ j ih =>
    rw [hs]
    by_cases e : j = i
    ·subst e; rw [ha]; rcases r j with e | e <;> rw [e] <;> cases B j <;> decide
    ·rw [ih (by omega)]; cases A j <;> cases B j <;> decide
  obtain ⟨m, h1, h2⟩ := hio (i + 1)
  have h2' : Q m = 0 := by simpa using h2
  have := st m h1; omega
theorem Zqx (hs : ∀ i, Q (i + 1) = ZbT 7 (Q i) (A i) (B i)) : Zbm Q ([2, 3], [1, 3]) ↔ ((IOf fun i => A i = true) → IOf fun i => B i = true) := by
 have e : ∀ i, Q (i + 1) = 2 * bit (A i) + bit (B i) := fun i => hs i
 have k1 : (IOf fun i => Q i ∈ [(2 : Int), 3]) ↔ IOf fun i => A i = true := by
  rw [← ZlI]
  have : (fun i => Q (i + 1) ∈ [(2 : Int), 3]) = fun i => A i = true := by funext i; rw [e]; cases A i <;> cases B i <;> simp [bit]
  rw [this]
 have k2 : (IOf fun i => Q i ∈ [(1 : Int), 3]) ↔ IOf fun i => B i = true := by
  rw [← ZlI]
  have : (fun i => Q (i + 1) ∈ [(1 : Int), 3]) = fun i => B i = true := by funext i; rw [e]; cases A i <;> cases B i <;> simp [bit]
  rw [this]
 unfold Zbm
 rw [k1, k2]
end
theorem ZtI {k : Int} {a b : List Int} {f : Nat → Int} {Q : Nat → Int} (hk : 1 ≤ k ∧ k ≤ 7) (h0 : Q 0 = 0) (hs : ∀ i, Q (i + 1) = ZbT k (Q i) (has a (f i)) (has b (f i))) : Zbm Q (monP k) ↔ Zwb k a b f := by
 have h : k = 1 ∨ k = 2 ∨ k = 3 ∨ k = 4 ∨ k = 5 ∨ k = 6 ∨ k = 7 := by omega
 have e : ∀ (c : List Int) i, f i ∈ c ↔ has c (f i) = true := fun c i => has_iff.symm
 rcases h with rfl | rfl | rfl | rfl | rfl | rfl | rfl
 ·show Zbm Q ([1], []) ↔ ∀ i, f i ∈ a
  simp only [e]; exact ZqJ h0 hs
 ·show Zbm Q ([2], []) ↔ ∀ i, f i ∈ a → f (i + 1) ∈ b
  simp only [e]; exact ZpN (A := fun i => has a (f i)) (B := fun i => has b (f i)) h0 hs
 ·show Zbm Q ([1], [0]) ↔ ∀ i, f i ∈ a → ∃ j, i ≤ j ∧ f j ∈ b
  simp only [e]; exact ZqH (A := fun i => has a (f i)) (B := fun i => has b (f i)) h0 hs
 ·show Zbm Q ([0, 1], [1]) ↔ ∀ n, ∃ i, n ≤ i ∧ f i ∈ a
  simp only [e]; exact ZrD h0 hs
 ·show Zbm Q ([1], []) ↔ ∃ n, ∀ i, n ≤ i → f i ∈ a
  simp only [e]; exact ZqB hs
 ·show Zbm Q ([0], []) ↔ ∃ i, f i ∈ a
  simp only [e]; exact Zqz h0 hs
 ·show Zbm Q ([2, 3], [1, 3]) ↔ ((∀ n, ∃ i, n ≤ i ∧ f i ∈ a) → ∀ n, ∃ i, n ≤ i ∧ f i ∈ b)
  simp only [e]; exact Zqx hs
theorem ZiE {s l : List Int} {W : Int} (hl : 1 ≤ l.length) (h : below s W = true) (h2 : below l W = true) (i : Nat) : 0 ≤ letN s l i ∧ letN s l i < W := by
 have hm := ZiA (s := s) hl i
 rcases List.mem_append.1 hm with hm | hm
 ·obtain ⟨j, hj, e⟩ := Za1 hm
  rw [← e]; exact below_iff.1 h j hj
 ·obtain ⟨j, hj, e⟩ := Za1 hm
  rw [← e]; exact below_iff.1 h2 j hj
theorem Zq8 {i : Int} {s l : List Int} (hs : sigB i o = true) (hc : ZbR (Zaa i o) k a b = true) (hw : ZaI s l (Zaa i o) = true) : Zc4 i o (monN k a b (Zaa i o).toNat) [monP k] s l = ZgN i o k a b s l := by
 have hk := Ze1 hc
 have hd := ZoD (a := a) (b := b) hs hk
 obtain ⟨_, _, h4, h5, h6⟩ := wordB_parts.1 hw
 have hL := ZaE i o
 have e1 : ZgN i o k a b s l = Zb7 k a b s l := by unfold ZgN; rw [hs, hc, hw]; rfl
 rw [e1, Bool.eq_iff_iff, ZsX hd hw, ZnO h4]
 have hf := ZiE h4 h5 h6
 have hr := Zfm (Zcr hd) (q := 0) ⟨by omega, by rw [Zan]; have := Zbl k; omega⟩ hf
 refine ZtI hk rfl fun j => ?_
 have r1 := hr j
 have r2 := hf j
 rw [Zan] at r1
 show nth (nth (monN k a b (Zaa i o).toNat) (runQ _ 0 (letN s l) j).toNat) (letN s l j).toNat = _
 generalize runQ (monN k a b (Zaa i o).toNat) 0 (letN s l) j = q at *
 generalize letN s l j = x at *
 have e2 : nth (monN k a b (Zaa i o).toNat) q.toNat = ZaL k a b (Zaa i o).toNat (q.toNat : Int) := by rw [Zbi (by rw [Zan]; omega)]; simp [monN]
 have e3 : nth (ZaL k a b (Zaa i o).toNat (q.toNat : Int)) x.toNat = ZbT k (q.toNat : Int) (has a (x.toNat : Int)) (has b (x.toNat : Int)) := by rw [Zbi (by rw [Zat]; omega)]; simp [ZaL]
 rw [e2, e3, Int.toNat_of_nonneg r1.1, Int.toNat_of_nonneg r2.1]
end Go.Proofs.YtabfpoflhacknaaGreat

