/- States of automata that are alike: classes made finer, and pairs told apart. No program in sight; no conditions. -/
import Derived.Test.YtabfpoflhacknaaMS
set_option linter.unusedSimpArgs false
set_option linter.unusedVariables false
namespace Go.Proofs.Ytabfpoflhacknaa
open Go.RowKit
open Shp

/-- the k-th pair of sets holds both or none -/
def memK (ps : List (List Int × List Int)) (q r : Int) (k : Nat) : Bool := decide (has (nth ps k).1 q = has (nth ps k).1 r) && decide (has (nth ps k).2 q = has (nth ps k).2 r)
def memQ (ps : List (List Int × List Int)) (q r : Int) : Bool := allN ps.length (memK ps q r)
theorem memQ_iff {ps : List (List Int × List Int)} {q r : Int} : memQ ps q r = true ↔ ∀ k, k < ps.length → has (nth ps k).1 q = has (nth ps k).1 r ∧ has (nth ps k).2 q = has (nth ps k).2 r := by
  unfold memQ memK
  simp only [allN_iff, Bool.and_eq_true, decide_eq_true_eq]
theorem memQ_refl {ps : List (List Int × List Int)} {q : Int} : memQ ps q q = true := memQ_iff.2 fun _ _ => ⟨rfl, rfl⟩
theorem memQ_join {ps : List (List Int × List Int)} {z p q : Int} (h1 : memQ ps z p = true) (h2 : memQ ps z q = true) : memQ ps p q = true := memQ_iff.2 fun k hk => ⟨(memQ_iff.1 h1 k hk).1.symm.trans (memQ_iff.1 h2 k hk).1, (memQ_iff.1 h1 k hk).2.symm.trans (memQ_iff.1 h2 k hk).2⟩

def near26 (n : List (List Int)) (c : List Int) (p q : Nat) : Bool := decide (nth c p = nth c q) && allN (nth n p).length fun i => decide (nth c (nth (nth n p) i).toNat = nth c (nth (nth n q) i).toNat)
def cls26 (n : List (List Int)) (ps : List (List Int × List Int)) : List Int := clsN n.length fun p q => memQ ps (p : Int) (q : Int)
def step26 (n : List (List Int)) (c : List Int) : List Int := clsN n.length (near26 n c)
noncomputable def alike26 (n : List (List Int)) (ps : List (List Int × List Int)) : List Int := limF (stepI n) (cls26 n ps)

theorem GoOk.rowN {n : List (List Int)} {W : Nat} (h : GoOk n (W : Int)) {q : Nat} (hq : q < n.length) : (nth n q).length = W := by have := (h q hq).1; omega
theorem GoOk.stepN {n : List (List Int)} {W : Nat} (h : GoOk n (W : Int)) {q x : Nat} (hq : q < n.length) (hx : x < W) : 0 ≤ nth (nth n q) x ∧ nth (nth n q) x < (n.length : Int) := by
  have := h.step (q := (q : Int)) (x := (x : Int)) ⟨by omega, by omega⟩ ⟨by omega, by omega⟩
  simpa using this

theorem step26_eq {n : List (List Int)} {W : Nat} (h : GoOk n (W : Int)) (c : List Int) : step26 n c = stepI n c := by
  refine clsN_congr fun p q hp hq => ?_
  unfold near26 nearI
  rw [h.rowN hp, h.rowN hq, Bool.eq_iff_iff]
  simp only [Bool.and_eq_true, decide_eq_true_eq, allN_iff]
  constructor
  · rintro ⟨h1, h2⟩; exact ⟨h1.symm, fun j hj => (h2 j hj).symm⟩
  · rintro ⟨h1, h2⟩; exact ⟨h1.symm, fun j hj => (h2 j hj).symm⟩
theorem near26_refl {n : List (List Int)} {c : List Int} {q : Nat} : near26 n c q q = true := by simp [near26, allN_iff]
theorem cls26_ok {n : List (List Int)} {ps : List (List Int × List Int)} : ClOk n.length (cls26 n ps) := clsN_ok fun q _ => memQ_refl
theorem step26_ok {n : List (List Int)} {c : List Int} : ClOk n.length (step26 n c) := clsN_ok fun q _ => near26_refl
theorem cls26_take {n : List (List Int)} {ps : List (List Int × List Int)} {q p : Nat} (h : q < n.length) (hp : p ≤ q) (hr : memQ ps p q = true) (hb : ∀ z : Nat, z < p → memQ ps z q = false) : (cls26 n ps).take (q + 1) = (cls26 n ps).take q ++ [(p : Int)] := clsN_take (near := fun p q => memQ ps (p : Int) (q : Int)) h hp hr hb
theorem step26_take {n : List (List Int)} {c : List Int} {q p : Nat} (h : q < n.length) (hp : p ≤ q) (hr : near26 n c p q = true) (hb : ∀ z, z < p → near26 n c z q = false) : (step26 n c).take (q + 1) = (step26 n c).take q ++ [(p : Int)] := clsN_take h hp hr hb
theorem step26_lt {n : List (List Int)} {c : List Int} (hc : ClOk n.length c) (h : step26 n c ≠ c) : msrN n.length (step26 n c) < msrN n.length c := clsN_grow hc (fun q _ => near26_refl) (fun p q _ _ h => by unfold near26 at h; simp only [Bool.and_eq_true, decide_eq_true_eq] at h; exact h.1) h

theorem near26_no0 {n : List (List Int)} {c : List Int} {p q : Nat} (h : ¬ nth c p = nth c q) : false = near26 n c p q := by
  unfold near26; rw [decide_eq_false h]; rfl
theorem near26_no2 {n : List (List Int)} {c : List Int} {p q i : Nat} (hi : i < (nth n p).length) (h : ¬ nth c (nth (nth n p) i).toNat = nth c (nth (nth n q) i).toNat) : false = near26 n c p q := by
  unfold near26; rw [allN_false i hi (by rw [decide_eq_false h]), Bool.and_false]
theorem near26_yes {n : List (List Int)} {c : List Int} {p q i : Nat} (h0 : nth c p = nth c q) (hi : (nth n p).length ≤ i) (h : ∀ z, z < i → decide (nth c (nth (nth n p) z).toNat = nth c (nth (nth n q) z).toNat) = true) : true = near26 n c p q := by
  unfold near26; rw [decide_eq_true h0, allN_true fun j hj => h j (by omega)]; rfl

/-- same class, same sets -/
def Fin26 (ps : List (List Int × List Int)) (N : Nat) (c : List Int) : Prop := ∀ p q : Nat, p < N → q < N → nth c p = nth c q → memQ ps p q = true
theorem cls26_fin {n : List (List Int)} {ps : List (List Int × List Int)} : Fin26 ps n.length (cls26 n ps) := fun p q hp hq h => by
  obtain ⟨r, _, h2, h3, _⟩ := clsN_spec (near := fun p q => memQ ps (p : Int) (q : Int)) hp memQ_refl
  obtain ⟨r2, _, g2, g3, _⟩ := clsN_spec (near := fun p q => memQ ps (p : Int) (q : Int)) hq memQ_refl
  have e : r = r2 := by unfold cls26 at h; omega
  subst e
  exact memQ_join h3 g3
theorem stepI_fin {n : List (List Int)} {ps : List (List Int × List Int)} {c : List Int} (hf : Fin26 ps n.length c) : Fin26 ps n.length (stepI n c) := fun p q hp hq h => by
  obtain ⟨r, _, h2, h3, _⟩ := clsN_spec (near := nearI n c) hp nearI_refl
  obtain ⟨r2, _, g2, g3, _⟩ := clsN_spec (near := nearI n c) hq nearI_refl
  have e : r = r2 := by unfold stepI at h; omega
  subst e
  exact hf p q hp hq ((nearI_c h3).symm.trans (nearI_c g3))
theorem it26_fin {n : List (List Int)} {ps : List (List Int × List Int)} : ∀ (j : Nat), Fin26 ps n.length (it (stepI n) j (cls26 n ps))
  | 0 => cls26_fin
  | j + 1 => by rw [it_succ]; exact stepI_fin (it26_fin j)
theorem it26_ok {n : List (List Int)} {ps : List (List Int × List Int)} : ∀ (j : Nat), ClOk n.length (it (stepI n) j (cls26 n ps))
  | 0 => cls26_ok
  | j + 1 => by rw [it_succ]; exact stepI_ok
theorem a26_spec (n : List (List Int)) (ps : List (List Int × List Int)) : ClOk n.length (alike26 n ps) ∧ stepI n (alike26 n ps) = alike26 n ps ∧ Fin26 ps n.length (alike26 n ps) ∧ ∃ j, alike26 n ps = it (stepI n) j (cls26 n ps) := by
  obtain ⟨j, hj⟩ := it_stops (n := n) _ (cls26 n ps) cls26_ok (Nat.le_refl _)
  have e : alike26 n ps = it (stepI n) j (cls26 n ps) := limF_eq hj
  rw [e]
  exact ⟨it26_ok j, hj, it26_fin j, j, rfl⟩
theorem alike26_I {n : List (List Int)} {ps : List (List Int × List Int)} {W : Nat} (hg : GoOk n (W : Int)) {c : List Int} (h : ∃ j, c = it (step26 n) j (cls26 n ps)) (hfix : step26 n c = c) : alike26 n ps = c := by
  have e : step26 n = stepI n := funext (step26_eq hg)
  rw [e] at h hfix
  obtain ⟨j, rfl⟩ := h
  exact limF_eq hfix

section
variable {n : List (List Int)} {ps : List (List Int × List Int)} {W : Nat}
def nx26 (n : List (List Int)) (q x : Nat) : Nat := (nth (nth n q) x).toNat
theorem nx26_lt (hg : GoOk n (W : Int)) {q x : Nat} (hq : q < n.length) (hx : x < W) : nx26 n q x < n.length := by
  have := hg.stepN hq hx; unfold nx26; omega

/-- stable classes: same class, same classes behind -/
theorem stable (hg : GoOk n (W : Int)) {c : List Int} (hs : stepI n c = c) {q r : Nat} (hq : q < n.length) (hr : r < n.length) (e : nth c q = nth c r) {x : Nat} (hx : x < W) : nth c (nx26 n q x) = nth c (nx26 n r x) := by
  obtain ⟨z, h1, h2, h3, _⟩ := clsN_spec (near := nearI n c) hq nearI_refl
  obtain ⟨z2, g1, g2, g3, _⟩ := clsN_spec (near := nearI n c) hr nearI_refl
  have e1 : clsN n.length (nearI n c) = c := hs
  rw [e1] at h2 g2
  have e2 : z = z2 := by omega
  subst e2
  unfold nearI at h3 g3
  simp only [Bool.and_eq_true, decide_eq_true_eq, allN_iff] at h3 g3
  have k1 := h3.2 x (by rw [hg.rowN hq]; exact hx)
  have k2 := g3.2 x (by rw [hg.rowN hr]; exact hx)
  unfold nx26
  rw [k1, k2]
/-- a class is named by its first state -/
theorem class_first (hg : GoOk n (W : Int)) {c : List Int} (hc : ClOk n.length c) (hs : stepI n c = c) {q : Nat} (hq : q < n.length) : ∃ r : Nat, r ≤ q ∧ nth c q = (r : Int) ∧ nth c r = nth c q ∧ ∀ z : Nat, z < r → nth c z ≠ nth c q := by
  obtain ⟨r, h1, h2, h3, h4⟩ := clsN_spec (near := nearI n c) hq nearI_refl
  have e1 : clsN n.length (nearI n c) = c := hs
  rw [e1] at h2
  refine ⟨r, h1, h2, nearI_c h3, fun z hz e => ?_⟩
  have := h4 z hz
  rw [Bool.eq_false_iff] at this
  apply this
  unfold nearI
  simp only [Bool.and_eq_true, decide_eq_true_eq, allN_iff]
  refine ⟨e.symm, fun x hx => ?_⟩
  rw [hg.rowN hq] at hx
  exact stable hg hs hq (by omega) e.symm hx

/-! pairs told apart -/
def cel (A : List (List Bool)) (q r : Nat) : Bool := nth (nth A q) r
theorem nth_setB {α : Type} [Inhabited α] {A : List α} {q z : Nat} {B : α} (hq : q < A.length) : nth (A.set q B) z = if z = q then B else nth A z := by
  unfold nth
  simp only [List.getD_eq_getElem?_getD, List.getElem?_set]
  by_cases e : q = z
  · subst e; simp [hq]
  · rw [if_neg e, if_neg (fun h => e h.symm)]
theorem cel_set {A : List (List Bool)} {q r z y : Nat} {v : Bool} (hq : q < A.length) (hr : r < (nth A q).length) : cel (A.set q ((nth A q).set r v)) z y = if z = q ∧ y = r then v else cel A z y := by
  unfold cel
  rw [nth_setB hq]
  by_cases e : z = q
  · subst e
    rw [if_pos rfl, nth_setB hr]
    by_cases e2 : y = r
    · subst e2; simp
    · simp [e2]
  · simp [e]
theorem row_set {A : List (List Bool)} {q r z : Nat} {v : Bool} (hq : q < A.length) : (nth (A.set q ((nth A q).set r v)) z).length = (nth A z).length := by
  rw [nth_setB hq]
  split
  · rename_i e; subst e; simp
  · rfl

def P1 (ps : List (List Int × List Int)) (N : Nat) (A : List (List Bool)) (q : Nat) : Prop := A.length = N ∧ ∀ z, z < q → (nth A z).length = N ∧ ∀ r, r < N → cel A z r = !memQ ps z r
def R1 (ps : List (List Int × List Int)) (N : Nat) (A : List (List Bool)) (q r : Nat) : Prop := P1 ps N A q ∧ (nth A q).length = N ∧ (∀ z, z < r → cel A q z = !memQ ps q z) ∧ ∀ z, r ≤ z → z < N → cel A q z = false
def R4 (ps : List (List Int × List Int)) (N : Nat) (A : List (List Bool)) (q r k : Nat) : Prop := P1 ps N A q ∧ (nth A q).length = N ∧ (∀ z, z < r → cel A q z = !memQ ps q z) ∧ cel A q r = (!allN k (memK ps q r)) ∧ ∀ z, r < z → z < N → cel A q z = false
theorem p1_zero {N : Nat} {A : List (List Bool)} (h : A.length = N) : P1 ps N A 0 := ⟨h, fun z hz => by omega⟩
theorem r1_zero {N q : Nat} {A : List (List Bool)} (h : P1 ps N A q) (hq : q < N) : R1 ps N (A.set q (List.replicate N false)) q 0 := by
  have hqa : q < A.length := by rw [h.1]; exact hq
  refine ⟨⟨by simpa using h.1, fun z hz => ?_⟩, by rw [nth_setB hqa, if_pos rfl]; simp, fun z hz => by omega, fun z _ hz => ?_⟩
  · have := h.2 z hz
    have e : nth (A.set q (List.replicate N false)) z = nth A z := by rw [nth_setB hqa, if_neg (by omega)]
    unfold cel at *
    rw [e]; exact this
  · unfold cel; rw [nth_setB hqa, if_pos rfl]
    unfold nth; rw [List.getD_eq_getElem?_getD, List.getElem?_replicate]; split <;> rfl
theorem r4_zero {N q r : Nat} {A : List (List Bool)} (h : R1 ps N A q r) (hr : r < N) : R4 ps N A q r 0 := ⟨h.1, h.2.1, h.2.2.1, by rw [h.2.2.2 r (Nat.le_refl _) hr]; rfl, fun z h1 h2 => h.2.2.2 z (by omega) h2⟩
theorem r4_set {N q r k : Nat} {A : List (List Bool)} (h : R4 ps N A q r k) (hq : q < N) (hr : r < N) : R4 ps N (A.set q ((nth A q).set r (!allN (k + 1) (memK ps q r)))) q r (k + 1) := by
  have hqa : q < A.length := by rw [h.1.1]; exact hq
  have hra : r < (nth A q).length := by rw [h.2.1]; exact hr
  refine ⟨⟨by simpa using h.1.1, fun z hz => ⟨by rw [row_set hqa]; exact (h.1.2 z hz).1, fun y hy => ?_⟩⟩, by rw [row_set hqa]; exact h.2.1, fun z hz => ?_, ?_, fun z h1 h2 => ?_⟩
  · rw [cel_set hqa hra, if_neg (by omega)]; exact (h.1.2 z hz).2 y hy
  · rw [cel_set hqa hra, if_neg (by omega)]; exact h.2.2.1 z hz
  · rw [cel_set hqa hra, if_pos ⟨rfl, rfl⟩]
  · rw [cel_set hqa hra, if_neg (by omega)]; exact h.2.2.2.2 z h1 h2
theorem r4_end {N q r k : Nat} {A : List (List Bool)} (h : R4 ps N A q r k) (hk : k = ps.length) : R1 ps N A q (r + 1) := by
  subst hk
  refine ⟨h.1, h.2.1, fun z hz => ?_, fun z h1 h2 => h.2.2.2.2 z (by omega) h2⟩
  rcases Nat.lt_or_ge z r with h3 | h3
  · exact h.2.2.1 z h3
  · have : z = r := by omega
    subst this; exact h.2.2.2.1
theorem r1_end {N q r : Nat} {A : List (List Bool)} (h : R1 ps N A q r) (hr : N ≤ r) : P1 ps N A (q + 1) := by
  refine ⟨h.1.1, fun z hz => ?_⟩
  rcases Nat.lt_or_ge z q with h3 | h3
  · exact h.1.2 z h3
  · have : z = q := by omega
    subst this; exact ⟨h.2.1, fun y hy => h.2.2.1 y (by omega)⟩
theorem allN_k1 {p : Nat → Bool} {k : Nat} : allN (k + 1) p = (allN k p && p k) := by rw [allN_succ]

theorem not_t {b : Bool} (h : (!b) = true) : b = false := by cases b <;> simp_all
theorem not_f {b : Bool} (h : (!b) = false) : b = true := by cases b <;> simp_all
theorem r4_v1 {N q r k : Nat} {A : List (List Bool)} (h : R4 ps N A q r k) (hc : nth (nth A q) r = true) : true = !allN (k + 1) (memK ps q r) := by
  have h9 := h.2.2.2.1
  unfold cel at h9
  rw [allN_k1, show allN k (memK ps q r) = false from not_t (h9.symm.trans hc)]; rfl
theorem r4_v2 {N q r k : Nat} {A : List (List Bool)} (_h : R4 ps N A q r k) (hc : ¬ has (nth ps k).1 (q : Int) = has (nth ps k).1 (r : Int)) : true = !allN (k + 1) (memK ps q r) := by
  rw [allN_k1, show memK ps q r k = false by unfold memK; rw [decide_eq_false hc]; rfl, Bool.and_false]; rfl
theorem r4_v3 {N q r k : Nat} {A : List (List Bool)} (h : R4 ps N A q r k) (hn : nth (nth A q) r = false) (hc : has (nth ps k).1 (q : Int) = has (nth ps k).1 (r : Int)) : (!(has (nth ps k).2 (q : Int) == has (nth ps k).2 (r : Int))) = !allN (k + 1) (memK ps q r) := by
  have h9 := h.2.2.2.1
  unfold cel at h9
  rw [allN_k1, show allN k (memK ps q r) = true from not_f (h9.symm.trans hn), Bool.true_and]
  unfold memK
  rw [decide_eq_true hc, Bool.true_and]
  cases has (nth ps k).2 (q : Int) <;> cases has (nth ps k).2 (r : Int) <;> rfl

/-- what is told apart is apart, and so is what the sets tell -/
structure P2 (n : List (List Int)) (ps : List (List Int × List Int)) (A : List (List Bool)) : Prop where
  len : A.length = n.length
  row : ∀ z, z < n.length → (nth A z).length = n.length
  snd : ∀ q r, q < n.length → r < n.length → cel A q r = true → nth (alike26 n ps) q ≠ nth (alike26 n ps) r
  ini : ∀ q r : Nat, q < n.length → r < n.length → memQ ps q r = false → cel A q r = true
theorem P2.of {A : List (List Bool)} (h : P1 ps n.length A n.length) : P2 n ps A := by
  refine ⟨h.1, fun z hz => (h.2 z hz).1, fun q r hq hr hc e => ?_, fun q r hq hr hm => ?_⟩
  · rw [(h.2 q hq).2 r hr] at hc
    have := (a26_spec n ps).2.2.1 q r hq hr e
    rw [this] at hc; cases hc
  · rw [(h.2 q hq).2 r hr, hm]; rfl

def cnt1 : List Bool → Nat
  | [] => 0
  | b :: bs => (if b then 0 else 1) + cnt1 bs
def cntF : List (List Bool) → Nat
  | [] => 0
  | r :: A => cnt1 r + cntF A
theorem cnt1_set : ∀ {r : List Bool} {k : Nat}, k < r.length → nth r k = false → cnt1 (r.set k true) + 1 = cnt1 r
  | [], k, h, _ => by simp at h
  | b :: bs, 0, _, h => by
    have : b = false := h
    subst this
    simp only [List.set_cons_zero, cnt1]; simp; omega
  | b :: bs, k + 1, h, hn => by
    have := cnt1_set (r := bs) (k := k) (by simpa using h) (by simpa [nth] using hn)
    simp only [List.set_cons_succ, cnt1]; omega
theorem cntF_set : ∀ {A : List (List Bool)} {q : Nat} {B : List Bool}, q < A.length → cnt1 B + 1 = cnt1 (nth A q) → cntF (A.set q B) + 1 = cntF A
  | [], q, _, h, _ => by simp at h
  | r :: A, 0, B, _, h => by
    have : cnt1 B + 1 = cnt1 r := h
    simp only [List.set_cons_zero, cntF]; omega
  | r :: A, q + 1, B, h, hn => by
    have := cntF_set (A := A) (q := q) (B := B) (by simpa using h) (by simpa [nth] using hn)
    simp only [List.set_cons_succ, cntF]; omega

/-- closed as far as this -/
def Cl26 (n : List (List Int)) (W : Nat) (A : List (List Bool)) (q r x : Nat) : Prop := ∀ q' r' x', q' < n.length → r' < n.length → x' < W → (q' < q ∨ (q' = q ∧ (r' < r ∨ (r' = r ∧ x' < x)))) → cel A (nx26 n q' x') (nx26 n r' x') = true → cel A q' r' = true
def In26 (n : List (List Int)) (ps : List (List Int × List Int)) (W : Nat) (A0 A : List (List Bool)) (ch : Bool) (q r x : Nat) : Prop := P2 n ps A ∧ (ch = false → A = A0 ∧ Cl26 n W A0 q r x) ∧ (ch = true → cntF A < cntF A0)
theorem in26_zero {A : List (List Bool)} (h : P2 n ps A) : In26 n ps W A A false 0 0 0 := ⟨h, fun _ => ⟨rfl, fun q' r' x' _ _ _ h => by omega⟩, fun h => by cases h⟩
theorem in26_x {A0 A : List (List Bool)} {ch : Bool} {q r x : Nat} (h : In26 n ps W A0 A ch q r x) (hx : W ≤ x) : In26 n ps W A0 A ch q (r + 1) 0 :=
  ⟨h.1, fun e => ⟨(h.2.1 e).1, fun q' r' x' a b c d => (h.2.1 e).2 q' r' x' a b c (by omega)⟩, h.2.2⟩
theorem in26_r {A0 A : List (List Bool)} {ch : Bool} {q r : Nat} (h : In26 n ps W A0 A ch q r 0) (hr : n.length ≤ r) : In26 n ps W A0 A ch (q + 1) 0 0 :=
  ⟨h.1, fun e => ⟨(h.2.1 e).1, fun q' r' x' a b c d => (h.2.1 e).2 q' r' x' a b c (by omega)⟩, h.2.2⟩
theorem in26_no {A0 A : List (List Bool)} {ch : Bool} {q r x : Nat} (h : In26 n ps W A0 A ch q r x) (hc : cel A q r = true ∨ cel A (nx26 n q x) (nx26 n r x) = false) : In26 n ps W A0 A ch q r (x + 1) := by
  refine ⟨h.1, fun e => ⟨(h.2.1 e).1, fun q' r' x' a b c d hcl => ?_⟩, h.2.2⟩
  have eA := (h.2.1 e).1
  by_cases e2 : q' = q ∧ r' = r ∧ x' = x
  · obtain ⟨rfl, rfl, rfl⟩ := e2
    rw [eA] at hc
    rcases hc with hc | hc
    · exact hc
    · rw [hc] at hcl; cases hcl
  · exact (h.2.1 e).2 q' r' x' a b c (by omega) hcl
theorem in26_yes (hg : GoOk n (W : Int)) {A0 A : List (List Bool)} {ch : Bool} {q r x : Nat} (h : In26 n ps W A0 A ch q r x) (hq : q < n.length) (hr : r < n.length) (hx : x < W) (h1 : cel A q r = false) (h2 : cel A (nx26 n q x) (nx26 n r x) = true) :
    In26 n ps W A0 (A.set q ((nth A q).set r true)) true q r (x + 1) := by
  have hqa : q < A.length := by rw [h.1.len]; exact hq
  have hra : r < (nth A q).length := by rw [h.1.row q hq]; exact hr
  refine ⟨⟨by simpa using h.1.len, fun z hz => by rw [row_set hqa]; exact h.1.row z hz, fun z y hz hy hc => ?_, fun z y hz hy hm => ?_⟩, (fun e => by cases e), fun _ => ?_⟩
  · rw [cel_set hqa hra] at hc
    split at hc
    · rename_i e; obtain ⟨rfl, rfl⟩ := e
      intro e
      exact h.1.snd _ _ (nx26_lt hg hq hx) (nx26_lt hg hr hx) h2 (stable hg (a26_spec n ps).2.1 hq hr e hx)
    · exact h.1.snd z y hz hy hc
  · rw [cel_set hqa hra]
    split
    · rfl
    · exact h.1.ini z y hz hy hm
  · have k1 := cntF_set (A := A) (q := q) (B := (nth A q).set r true) hqa (cnt1_set hra h1)
    cases ch with
    | true => have := h.2.2 rfl; omega
    | false => have := (h.2.1 rfl).1; subst this; omega
def ms26 (A : List (List Bool)) (ch : Bool) : Nat := 2 * cntF A + (if ch then 1 else 0)
theorem ms26_lt {A0 A : List (List Bool)} {ch : Bool} {q r x : Nat} (h : In26 n ps W A0 A ch q r x) : ms26 A ch < ms26 A0 true := by
  unfold ms26
  cases ch with
  | true => have := h.2.2 rfl; simp; omega
  | false => rw [(h.2.1 rfl).1]; simp
theorem in26_end {A0 A : List (List Bool)} {ch : Bool} {q : Nat} (h : In26 n ps W A0 A ch q 0 0) (hq : n.length ≤ q) : P2 n ps A ∧ (ch = false → Cl26 n W A n.length 0 0) :=
  ⟨h.1, fun e => by rw [(h.2.1 e).1]; exact fun q' r' x' a b c d => (h.2.1 e).2 q' r' x' a b c (by omega)⟩

/-- what is not told apart is alike -/
theorem not_apart (hg : GoOk n (W : Int)) {A : List (List Bool)} (h : P2 n ps A) (hc : Cl26 n W A n.length 0 0) : ∀ (j : Nat) {q r : Nat}, q < n.length → r < n.length → cel A q r = false → nth (it (stepI n) j (cls26 n ps)) q = nth (it (stepI n) j (cls26 n ps)) r
  | 0, q, r, hq, hr, e => by
    have hm : memQ ps q r = true := by
      cases h2 : memQ ps (q : Int) (r : Int) with
      | true => rfl
      | false => rw [h.ini q r hq hr h2] at e; cases e
    show nth (cls26 n ps) q = nth (cls26 n ps) r
    refine cls_same (near := fun p q => memQ ps (p : Int) (q : Int)) hq hr memQ_refl memQ_refl fun z hz => ?_
    rw [Bool.eq_iff_iff]
    constructor
    · intro h1; exact memQ_iff.2 fun k hk => ⟨(memQ_iff.1 h1 k hk).1.trans (memQ_iff.1 hm k hk).1, (memQ_iff.1 h1 k hk).2.trans (memQ_iff.1 hm k hk).2⟩
    · intro h1; exact memQ_iff.2 fun k hk => ⟨(memQ_iff.1 h1 k hk).1.trans (memQ_iff.1 hm k hk).1.symm, (memQ_iff.1 h1 k hk).2.trans (memQ_iff.1 hm k hk).2.symm⟩
  | j + 1, q, r, hq, hr, e => by
    rw [it_succ]
    have ih := not_apart hg h hc j hq hr e
    have ihx : ∀ x, x < W → nth (it (stepI n) j (cls26 n ps)) (nx26 n q x) = nth (it (stepI n) j (cls26 n ps)) (nx26 n r x) := fun x hx => by
      refine not_apart hg h hc j (nx26_lt hg hq hx) (nx26_lt hg hr hx) ?_
      cases h2 : cel A (nx26 n q x) (nx26 n r x) with
      | false => rfl
      | true => rw [hc q r x hq hr hx (.inl hq) h2] at e; cases e
    refine cls_same (near := nearI n _) hq hr nearI_refl nearI_refl fun z hz => ?_
    unfold nearI
    rw [ih, hg.rowN hq, hg.rowN hr]
    congr 1
    rw [Bool.eq_iff_iff]
    simp only [allN_iff, decide_eq_true_eq]
    constructor
    · intro h1 x hx; rw [← h1 x hx]; exact (ihx x hx).symm
    · intro h1 x hx; rw [← h1 x hx]; exact ihx x hx

theorem alike_last (hg : GoOk n (W : Int)) {A : List (List Bool)} (h : P2 n ps A) (hc : Cl26 n W A n.length 0 0) {q : Nat} (hq : q < n.length) : firstN (nth A q).length (fun i => nth (nth A q) i == false) = nth (alike26 n ps) q := by
  obtain ⟨c1, c2, c3, j, cj⟩ := a26_spec n ps
  obtain ⟨r, h1, h2, h3, h4⟩ := class_first hg c1 c2 hq
  have hna : ∀ z, z < n.length → cel A q z = false → nth (alike26 n ps) q = nth (alike26 n ps) z := fun z hz e => by
    rw [cj]; exact not_apart hg h hc j hq hz e
  have hap : ∀ z, z < n.length → nth (alike26 n ps) q = nth (alike26 n ps) z → cel A q z = false := fun z hz e => by
    cases h5 : cel A q z with
    | false => rfl
    | true => exact absurd e (h.snd q z hq hz h5)
  rw [h2]
  refine firstN_at r (by rw [h.row q hq]; omega) ?_ fun z hz => ?_
  · have := hap r (by omega) h3.symm
    unfold cel at this; rw [this]; rfl
  · have h5 : cel A q z ≠ false := fun e => h4 z hz (hna z (by omega) e).symm
    unfold cel at h5
    simpa using h5
theorem alike26_take {n : List (List Int)} {ps : List (List Int × List Int)} {q : Nat} (hq : q < n.length) : (alike26 n ps).take (q + 1) = (alike26 n ps).take q ++ [nth (alike26 n ps) q] := take_nth (by rw [(a26_spec n ps).1.1]; exact hq)
theorem alike26_len : (alike26 n ps).length = n.length := (a26_spec n ps).1.1
end
end Go.Proofs.Ytabfpoflhacknaa

