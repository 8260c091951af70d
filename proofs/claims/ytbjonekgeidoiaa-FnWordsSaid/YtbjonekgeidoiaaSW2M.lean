/- Infinite words: two representations of one word have the same least representation. No program in sight; no conditions. -/
import Derived.Test.YtbjonekgeidoiaaSWM
set_option linter.unusedSimpArgs false
set_option linter.unusedVariables false
namespace Go.Proofs.Ytbjonekgeidoiaa
open Go.RowKit
open Shp

theorem nth_rotL {l : List Int} (h : 1 ≤ l.length) (k : Nat) (hk : k < l.length) : nth (rotL l) k = if k = 0 then nth l (l.length - 1) else nth l (k - 1) := by
  unfold rotL
  rcases k with _ | k
  · rfl
  · rw [if_neg (by omega), show k + 1 - 1 = k by omega, ← nth_take l (l.length - 1) k (by omega)]
    unfold nth; simp
theorem letN_trim {s l : List Int} (hs : 1 ≤ s.length) (hl : 1 ≤ l.length) (h : nth s (s.length - 1) = nth l (l.length - 1)) (i : Nat) : letN (s.take (s.length - 1)) (rotL l) i = letN s l i := by
  unfold letN
  have e1 : (s.take (s.length - 1)).length = s.length - 1 := by simp
  rw [e1, rotL_len hl]
  by_cases h1 : i < s.length - 1
  · rw [if_pos h1, if_pos (by omega), nth_take _ _ _ h1]
  · rw [if_neg h1]
    by_cases h2 : i < s.length
    · rw [if_pos h2, show i - (s.length - 1) = 0 by omega, Nat.zero_mod, nth_rotL hl 0 (by omega), if_pos rfl, show i = s.length - 1 by omega, h]
    · rw [if_neg h2, nth_rotL hl _ (Nat.mod_lt _ (by omega)), show i - (s.length - 1) = (i - s.length) + 1 by omega, Nat.add_mod]
      have hq := Nat.mod_lt (i - s.length) (y := l.length) (by omega)
      rcases Nat.lt_or_ge 1 l.length with h3 | h3
      · rw [Nat.mod_eq_of_lt h3]
        rcases Nat.lt_or_ge ((i - s.length) % l.length + 1) l.length with h4 | h4
        · rw [Nat.mod_eq_of_lt h4, if_neg (by omega), show (i - s.length) % l.length + 1 - 1 = (i - s.length) % l.length by omega]
        · rw [show (i - s.length) % l.length + 1 = l.length by omega, Nat.mod_self, if_pos rfl, show (i - s.length) % l.length = l.length - 1 by omega]
      · have e2 : l.length = 1 := by omega
        rw [e2]; simp [Nat.mod_one]
theorem per_mod {l : List Int} {r : Nat} (hr : 1 ≤ r) (h : ∀ i, r ≤ i → i < l.length → nth l i = nth l (i - r)) : ∀ i, i < l.length → nth l i = nth l (i % r) := by
  intro i
  induction i using Nat.strongRecOn with
  | _ i ih =>
    intro hi
    rcases Nat.lt_or_ge i r with h1 | h1
    · rw [Nat.mod_eq_of_lt h1]
    · rw [h i h1 hi, ih (i - r) (by omega) (by omega)]
      congr 1
      exact (Nat.mod_eq_sub_mod h1).symm
theorem rootL_len {l : List Int} (h : 1 ≤ l.length) : (rootL l).length = rootN l := by have := rootN_spec h; simp [rootL]; omega
theorem letN_root {s l : List Int} (hl : 1 ≤ l.length) (i : Nat) : letN s (rootL l) i = letN s l i := by
  obtain ⟨h1, h2, h3, _⟩ := rootN_spec hl
  obtain ⟨h4, h5⟩ := isPer_iff.1 h3
  unfold letN
  split
  · rfl
  · rw [rootL_len hl]
    have hm := Nat.mod_lt (i - s.length) (y := rootN l) (by omega)
    rw [show rootL l = l.take (rootN l) from rfl, nth_take _ _ _ hm, per_mod h1 h5 _ (Nat.mod_lt (i - s.length) (y := l.length) (by omega)), Nat.mod_mod_of_dvd _ (Nat.dvd_of_mod_eq_zero h4)]
theorem letN_trimN : ∀ (k : Nat) (s l : List Int), s.length = k → 1 ≤ l.length → ∀ i, letN (trimN k s l).1 (trimN k s l).2 i = letN s l i
  | 0, s, l, _, _, i => rfl
  | k + 1, s, l, hs, hl, i => by
    simp only [trimN]
    split
    · rename_i h
      rw [letN_trimN k _ _ (by simp; omega) (by rw [rotL_len hl]; exact hl)]
      have := letN_trim (s := s) (l := l) (by omega) hl (by rw [hs]; exact h) i
      rw [hs] at this
      exact this
    · rfl
theorem trimN_len : ∀ (k : Nat) (s l : List Int), 1 ≤ l.length → (trimN k s l).2.length = l.length
  | 0, s, l, _ => rfl
  | k + 1, s, l, hl => by
    simp only [trimN]
    split
    · rw [trimN_len k _ _ (by rw [rotL_len hl]; exact hl), rotL_len hl]
    · rfl
theorem trimN_last : ∀ (k : Nat) (s l : List Int), s.length = k → (trimN k s l).1 = [] ∨ nth (trimN k s l).1 ((trimN k s l).1.length - 1) ≠ nth (trimN k s l).2 ((trimN k s l).2.length - 1)
  | 0, s, l, hs => .inl (List.eq_nil_of_length_eq_zero hs)
  | k + 1, s, l, hs => by
    simp only [trimN]
    split
    · exact trimN_last k _ _ (by simp; omega)
    · rename_i h
      right; rw [hs]; exact h

/-- from n on, it comes again after p -/
def PerF (f : Nat → Int) (n p : Nat) : Prop := ∀ i, n ≤ i → f (i + p) = f i
theorem PerF.sub {f : Nat → Int} {n p q : Nat} (h1 : PerF f n p) (h2 : PerF f n q) (h : p ≤ q) : PerF f n (q - p) := fun i hi => by
  have a := h1 (i + (q - p)) (by omega)
  rw [show i + (q - p) + p = i + q by omega, h2 i hi] at a
  exact a.symm
theorem PerF.gcd {f : Nat → Int} {n : Nat} : ∀ p q : Nat, PerF f n p → PerF f n q → PerF f n (Nat.gcd p q) := by
  intro p q
  induction hm : p + q using Nat.strongRecOn generalizing p q with
  | _ m ih =>
    intro h1 h2
    rcases Nat.eq_zero_or_pos p with rfl | hp
    · simpa using h2
    · rcases Nat.eq_zero_or_pos q with rfl | hq
      · simpa using h1
      · rcases Nat.le_total p q with h | h
        · have := ih (p + (q - p)) (by omega) p (q - p) rfl h1 (h1.sub h2 h)
          rwa [Nat.gcd_sub_self_right h] at this
        · have := ih ((p - q) + q) (by omega) (p - q) q rfl (h2.sub h1 h) h2
          rwa [Nat.gcd_sub_self_left h] at this
theorem PerF.mono {f : Nat → Int} {n m p : Nat} (h : PerF f n p) (hn : n ≤ m) : PerF f m p := fun i hi => h i (by omega)
theorem PerF.mul {f : Nat → Int} {n p : Nat} (h : PerF f n p) (k : Nat) : PerF f n (k * p) := by
  induction k with
  | zero => intro i _; simp
  | succ k ih => intro i hi; rw [Nat.succ_mul, ← Nat.add_assoc, h _ (by omega), ih i hi]
theorem letN_per {s l : List Int} : PerF (letN s l) s.length l.length := fun i hi => by
  unfold letN
  rw [if_neg (by omega), if_neg (by omega), show i + l.length - s.length = (i - s.length) + l.length by omega, Nat.add_mod_right]
theorem letN_loop {s l : List Int} {j : Nat} (hj : j < l.length) (k : Nat) : letN s l (s.length + k * l.length + j) = nth l j := by
  unfold letN
  rw [if_neg (by omega), show s.length + k * l.length + j - s.length = j + k * l.length by omega, Nat.add_mul_mod_self_right, Nat.mod_eq_of_lt hj]

/-- no shorter loop will do -/
theorem root_min {s l : List Int} (hl : 1 ≤ l.length) {n p : Nat} (hp : 1 ≤ p) (h : PerF (letN s l) n p) : rootN l ≤ p := by
  obtain ⟨h1, h2, h3, hmin⟩ := rootN_spec hl
  obtain ⟨h4, _⟩ := isPer_iff.1 h3
  apply Classical.byContradiction
  intro hn
  have h0 : PerF (letN s l) s.length (rootN l) := by
    have := letN_per (s := s) (l := rootL l)
    rw [rootL_len hl] at this
    intro i hi
    rw [← letN_root hl, ← letN_root hl]; exact this i hi
  have hg := PerF.gcd p (rootN l) (h.mono (Nat.le_add_right n s.length)) (h0.mono (Nat.le_add_left _ n))
  have hgp : Nat.gcd p (rootN l) ≤ p := Nat.gcd_le_left _ hp
  have hg1 : 1 ≤ Nat.gcd p (rootN l) := Nat.gcd_pos_of_pos_left _ hp
  have hd : rootN l ∣ l.length := Nat.dvd_of_mod_eq_zero h4
  have hgd : Nat.gcd p (rootN l) ∣ l.length := Nat.dvd_trans (Nat.gcd_dvd_right _ _) hd
  have := hmin _ hg1 (by omega)
  rw [isPer_iff.2 ⟨Nat.mod_eq_zero_of_dvd hgd, fun i hi1 hi2 => ?_⟩] at this
  · cases this
  · have a := letN_loop (s := s) (l := l) hi2 n
    have b := letN_loop (s := s) (l := l) (j := i - Nat.gcd p (rootN l)) (by omega) n
    have hmul : n ≤ n * l.length := Nat.le_mul_of_pos_right n hl
    have c := hg (s.length + n * l.length + (i - Nat.gcd p (rootN l))) (by omega)
    rw [show s.length + n * l.length + (i - Nat.gcd p (rootN l)) + Nat.gcd p (rootN l) = s.length + n * l.length + i by omega] at c
    rw [← a, ← b, c]

theorem leastW_let {s l : List Int} (hl : 1 ≤ l.length) (i : Nat) : letN (leastW s l).1 (leastW s l).2 i = letN s l i := by
  have hr := rootN_spec hl
  have := letN_trimN s.length s (rootL l) rfl (by rw [rootL_len hl]; omega) i
  rw [letN_root hl] at this
  exact this
theorem leastW_len {s l : List Int} (hl : 1 ≤ l.length) : (leastW s l).2.length = rootN l := by
  have hr := rootN_spec hl
  have := trimN_len s.length s (rootL l) (by rw [rootL_len hl]; omega)
  rw [rootL_len hl] at this
  exact this
theorem leastW_stem {s l : List Int} (hl : 1 ≤ l.length) {n : Nat} (h : PerF (letN s l) n (rootN l)) : (leastW s l).1.length ≤ n := by
  have hr := rootN_spec hl
  rcases trimN_last s.length s (rootL l) rfl with h1 | h1
  · have : (leastW s l).1 = [] := h1
    rw [this]; simp
  · apply Classical.byContradiction
    intro hn
    apply h1
    have hlen := leastW_len (s := s) hl
    have a := h ((leastW s l).1.length - 1) (by omega)
    rw [← leastW_let hl, ← leastW_let hl] at a
    unfold letN at a
    rw [if_neg (by omega), if_pos (by omega), hlen, show (leastW s l).1.length - 1 + rootN l - (leastW s l).1.length = rootN l - 1 by omega, Nat.mod_eq_of_lt (by omega)] at a
    show nth (leastW s l).1 ((leastW s l).1.length - 1) = nth (leastW s l).2 ((leastW s l).2.length - 1)
    rw [hlen]; exact a.symm
/-- the least representation tells the word -/
theorem leastW_uniq {s l s2 l2 : List Int} (hl : 1 ≤ l.length) (hl2 : 1 ≤ l2.length) (h : ∀ i, letN s l i = letN s2 l2 i) : leastW s l = leastW s2 l2 := by
  have hf : letN s l = letN s2 l2 := funext h
  have r1 := rootN_spec hl
  have r2 := rootN_spec hl2
  have p1 : PerF (letN s l) (leastW s l).1.length (rootN l) := by
    have := letN_per (s := (leastW s l).1) (l := (leastW s l).2)
    rw [leastW_len hl] at this
    intro i hi; rw [← leastW_let hl, ← leastW_let hl]; exact this i hi
  have p2 : PerF (letN s2 l2) (leastW s2 l2).1.length (rootN l2) := by
    have := letN_per (s := (leastW s2 l2).1) (l := (leastW s2 l2).2)
    rw [leastW_len hl2] at this
    intro i hi; rw [← leastW_let hl2, ← leastW_let hl2]; exact this i hi
  have e : rootN l = rootN l2 := Nat.le_antisymm (root_min hl r2.1 (by rw [hf]; exact p2)) (root_min hl2 r1.1 (by rw [← hf]; exact p1))
  have e2 : (leastW s l).1.length = (leastW s2 l2).1.length := Nat.le_antisymm (leastW_stem hl (by rw [hf, e]; exact p2)) (leastW_stem hl2 (by rw [← hf, ← e]; exact p1))
  have hL : ∀ i, letN (leastW s l).1 (leastW s l).2 i = letN (leastW s2 l2).1 (leastW s2 l2).2 i := fun i => by rw [leastW_let hl, leastW_let hl2, h]
  refine Prod.ext (list_ext e2 fun i hi => ?_) (list_ext (by rw [leastW_len hl, leastW_len hl2, e]) fun i hi => ?_)
  · have := hL i
    unfold letN at this
    rwa [if_pos hi, if_pos (by omega)] at this
  · have := hL ((leastW s l).1.length + i)
    unfold letN at this
    rw [leastW_len hl] at hi
    rw [if_neg (by omega), if_neg (by omega), ← e2, leastW_len hl, leastW_len hl2, ← e, show (leastW s l).1.length + i - (leastW s l).1.length = i by omega, Nat.mod_eq_of_lt hi] at this
    exact this
/-- who agrees that far, agrees everywhere -/
theorem letN_agree {s l s2 l2 : List Int} (h : ∀ i, i < max s.length s2.length + l.length + l2.length → letN s l i = letN s2 l2 i) : ∀ i, letN s l i = letN s2 l2 i := by
  rcases Nat.eq_zero_or_pos l.length with h0 | hl
  · intro i
    rcases Nat.lt_or_ge i (max s.length s2.length + l.length + l2.length) with h1 | h1
    · exact h i h1
    · have hs := List.eq_nil_of_length_eq_zero h0
      subst hs
      rcases Nat.eq_zero_or_pos l2.length with h2 | h2
      · have hs2 := List.eq_nil_of_length_eq_zero h2
        subst hs2
        unfold letN
        rw [if_neg (by omega), if_neg (by omega)]; simp [nth]
      · have a : letN s [] i = default := by unfold letN; rw [if_neg (by omega)]; simp [nth]
        have b : ∀ j, j < l2.length → letN s2 l2 (max s.length s2.length + j) = default := fun j hj => by
          rw [← h _ (by omega)]; unfold letN; rw [if_neg (by omega)]; simp [nth]
        have hp := (letN_per (s := s2) (l := l2)).mul ((i - max s.length s2.length) / l2.length) (max s.length s2.length + (i - max s.length s2.length) % l2.length) (by omega)
        rw [b _ (Nat.mod_lt _ h2)] at hp
        rw [a, ← hp]
        congr 1
        have := Nat.div_add_mod (i - max s.length s2.length) l2.length
        rw [Nat.mul_comm] at this
        omega
  · rcases Nat.eq_zero_or_pos l2.length with h0 | hl2
    · intro i
      rcases Nat.lt_or_ge i (max s.length s2.length + l.length + l2.length) with h1 | h1
      · exact h i h1
      · have hs := List.eq_nil_of_length_eq_zero h0
        subst hs
        have a : letN s2 [] i = default := by unfold letN; rw [if_neg (by omega)]; simp [nth]
        have b : ∀ j, j < l.length → letN s l (max s.length s2.length + j) = default := fun j hj => by
          rw [h _ (by omega)]; unfold letN; rw [if_neg (by omega)]; simp [nth]
        have hp := (letN_per (s := s) (l := l)).mul ((i - max s.length s2.length) / l.length) (max s.length s2.length + (i - max s.length s2.length) % l.length) (by omega)
        rw [b _ (Nat.mod_lt _ hl)] at hp
        rw [a, ← hp]
        congr 1
        have := Nat.div_add_mod (i - max s.length s2.length) l.length
        rw [Nat.mul_comm] at this
        omega
    · intro i
      induction i using Nat.strongRecOn with
      | _ i ih =>
        rcases Nat.lt_or_ge i (max s.length s2.length + l.length + l2.length) with h1 | h1
        · exact h i h1
        · have a1 := letN_per (s := s) (l := l) (i - l.length) (by omega)
          have a2 := letN_per (s := s2) (l := l2) (i - l.length - l2.length) (by omega)
          have a3 := letN_per (s := s) (l := l) (i - l.length - l2.length) (by omega)
          have a4 := letN_per (s := s2) (l := l2) (i - l2.length) (by omega)
          rw [show i - l.length + l.length = i by omega] at a1
          rw [show i - l.length - l2.length + l2.length = i - l.length by omega] at a2
          rw [show i - l.length - l2.length + l.length = i - l2.length by omega] at a3
          rw [show i - l2.length + l2.length = i by omega] at a4
          rw [a1, ih (i - l.length) (by omega), a2, ← ih (i - l.length - l2.length) (by omega), ← a3, ih (i - l2.length) (by omega), ← a4]

theorem sameW_no {s l s2 l2 : List Int} (h1 : wordB s l 16 = true) (h2 : wordB s2 l2 16 = true) (i : Nat) (h : ¬ atW s l i = atW s2 l2 i) : sameW s l s2 l2 = false := by
  unfold sameW
  rw [h1, h2, Bool.true_and, Bool.true_and, decide_eq_false_iff_not]
  intro e
  apply h
  rw [atW_nat, atW_nat, ← leastW_let (wordB_r h1).1, ← leastW_let (wordB_r h2).1, e]
theorem sameW_yes {s l s2 l2 : List Int} (h1 : wordB s l 16 = true) (h2 : wordB s2 l2 16 = true) (h : ∀ j : Nat, j < max s.length s2.length + l.length + l2.length → atW s l j = atW s2 l2 j) : sameW s l s2 l2 = true := by
  unfold sameW
  rw [h1, h2, Bool.true_and, Bool.true_and, decide_eq_true_eq]
  exact leastW_uniq (wordB_r h1).1 (wordB_r h2).1 (letN_agree fun i hi => by rw [← atW_nat, ← atW_nat]; exact h i hi)

end Go.Proofs.Ytbjonekgeidoiaa

