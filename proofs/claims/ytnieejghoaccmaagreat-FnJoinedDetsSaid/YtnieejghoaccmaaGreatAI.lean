/- States of automata that are alike: classes made finer, and pairs told apart. No program in sight; no conditions. -/
import Derived.Test.YtnieejghoaccmaaGreatMS
namespace Go.Proofs.YtnieejghoaccmaaGreat
open Go.RowKit
open Shp
variable {q r z p x N k : Nat} {c : List Int} {A A0 : List (List Bool)} {v b ch : Bool}
def memK (ps : List (List Int × List Int)) (q r : Int) (k : Nat) : Bool := decide (has (nth ps k).1 q = has (nth ps k).1 r) && decide (has (nth ps k).2 q = has (nth ps k).2 r)
def memQ (ps : List (List Int × List Int)) (q r : Int) : Bool := allN ps.length (memK ps q r)
theorem memQ_iff {ps : List (List Int × List Int)} {q r : Int} : memQ ps q r = true ↔ ∀ k, k < ps.length → has (nth ps k).1 q = has (nth ps k).1 r ∧ has (nth ps k).2 q = has (nth ps k).2 r := by
 unfold memQ memK
 simp only [allN_iff, Bool.and_eq_true, decide_eq_true_eq]
theorem ZeE {ps : List (List Int × List Int)} {q : Int} : memQ ps q q = true := memQ_iff.2 fun _ _ => ⟨rfl, rfl⟩
theorem ZqX {ps : List (List Int × List Int)} {z p q : Int} (h1 : memQ ps z p = true) (h2 : memQ ps z q = true) : memQ ps p q = true := memQ_iff.2 fun k hk => ⟨(memQ_iff.1 h1 k hk).1.symm.trans (memQ_iff.1 h2 k hk).1, (memQ_iff.1 h1 k hk).2.symm.trans (memQ_iff.1 h2 k hk).2⟩
def ZfD (n : List (List Int)) (ps : List (List Int × List Int)) : List Int := clsN n.length fun p q => memQ ps (p : Int) (q : Int)
noncomputable def ZaU (n : List (List Int)) (ps : List (List Int × List Int)) : List Int := limF (Zdk n) (ZfD n ps)
theorem GoOk.rowN {n : List (List Int)} {W : Nat} (h : GoOk n (W : Int))  (hq : q < n.length) : (nth n q).length = W := by have := (h q hq).1; omega
theorem GoOk.stepN {n : List (List Int)} {W : Nat} (h : GoOk n (W : Int))  (hq : q < n.length) (hx : x < W) : 0 ≤ nth (nth n q) x ∧ nth (nth n q) x < (n.length : Int) := by
 have := h.step (q := (q : Int)) (x := (x : Int)) ⟨by omega, by omega⟩ ⟨by omega, by omega⟩
 simpa using this
theorem ZnW {n : List (List Int)} {ps : List (List Int × List Int)} : ClOk n.length (ZfD n ps) := Zpq fun q _ => ZeE
def Zp0 (ps : List (List Int × List Int)) (N : Nat) (c : List Int) : Prop := ∀ p q : Nat, p < N → q < N → nth c p = nth c q → memQ ps p q = true
theorem ZpK {n : List (List Int)} {ps : List (List Int × List Int)} : Zp0 ps n.length (ZfD n ps) := fun p q hp hq h => by
 obtain ⟨r, _, h2, h3, _⟩ := ZbN (near := fun p q => memQ ps (p : Int) (q : Int)) hp ZeE
 obtain ⟨r2, _, g2, g3, _⟩ := ZbN (near := fun p q => memQ ps (p : Int) (q : Int)) hq ZeE
 have e : r = r2 := by unfold ZfD at h; omega
 subst e
 exact ZqX h3 g3
theorem Zqg {n : List (List Int)} {ps : List (List Int × List Int)}  (hf : Zp0 ps n.length c) : Zp0 ps n.length (Zdk n c) := fun p q hp hq h => by
 obtain ⟨r, _, h2, h3, _⟩ := ZbN (near := Zfp n c) hp ZbZ
 obtain ⟨r2, _, g2, g3, _⟩ := ZbN (near := Zfp n c) hq ZbZ
 have e : r = r2 := by unfold Zdk at h; omega
 subst e
 exact hf p q hp hq ((Zkw h3).symm.trans (Zkw g3))
theorem Znx {n : List (List Int)} {ps : List (List Int × List Int)} : ∀ (j : Nat), Zp0 ps n.length (it (Zdk n) j (ZfD n ps))
 | 0 => ZpK
 | j + 1 => by rw [Zd8]; exact Zqg (Znx j)
theorem ZvD {n : List (List Int)} {ps : List (List Int × List Int)} : ∀ (j : Nat), ClOk n.length (it (Zdk n) j (ZfD n ps))
 | 0 => ZnW
 | j + 1 => by rw [Zd8]; exact ZnV
theorem Zeb (n : List (List Int)) (ps : List (List Int × List Int)) : ClOk n.length (ZaU n ps) ∧ Zdk n (ZaU n ps) = ZaU n ps ∧ Zp0 ps n.length (ZaU n ps) ∧ ∃ j, ZaU n ps = it (Zdk n) j (ZfD n ps) := by
 obtain ⟨j, hj⟩ := ZnH (n := n) _ (ZfD n ps) ZnW (Nat.le_refl _)
 have e : ZaU n ps = it (Zdk n) j (ZfD n ps) := ZvW hj
 rw [e]
 exact ⟨ZvD j, hj, Znx j, j, rfl⟩
section
variable {n : List (List Int)} {ps : List (List Int × List Int)} {W : Nat}
def nx26 (n : List (List Int)) (q x : Nat) : Nat := (nth (nth n q) x).toNat
theorem Zk2 (hg : GoOk n (W : Int))  (hq : q < n.length) (hx : x < W) : nx26 n q x < n.length := by
 have := hg.stepN hq hx; unfold nx26; omega
theorem Zs9 (hg : GoOk n (W : Int))  (hs : Zdk n c = c)  (hq : q < n.length) (hr : r < n.length) (e : nth c q = nth c r)  (hx : x < W) : nth c (nx26 n q x) = nth c (nx26 n r x) := by
 obtain ⟨z, h1, h2, h3, _⟩ := ZbN (near := Zfp n c) hq ZbZ
 obtain ⟨z2, g1, g2, g3, _⟩ := ZbN (near := Zfp n c) hr ZbZ
 have e1 : clsN n.length (Zfp n c) = c := hs
 rw [e1] at h2 g2
 have e2 : z = z2 := by omega
 subst e2
 unfold Zfp at h3 g3
 simp only [Bool.and_eq_true, decide_eq_true_eq, allN_iff] at h3 g3
 have k1 := h3.2 x (by rw [hg.rowN hq]; exact hx)
 have k2 := g3.2 x (by rw [hg.rowN hr]; exact hx)
 unfold nx26
 rw [k1, k2]
theorem ZfI (hg : GoOk n (W : Int))  (hc : ClOk n.length c) (hs : Zdk n c = c)  (hq : q < n.length) : ∃ r : Nat, r ≤ q ∧ nth c q = (r : Int) ∧ nth c r = nth c q ∧ ∀ z : Nat, z < r → nth c z ≠ nth c q := by
 obtain ⟨r, h1, h2, h3, h4⟩ := ZbN (near := Zfp n c) hq ZbZ
 have e1 : clsN n.length (Zfp n c) = c := hs
 rw [e1] at h2
 refine ⟨r, h1, h2, Zkw h3, fun z hz e => ?_⟩
 have := h4 z hz
 rw [Bool.eq_false_iff] at this
 apply this
 unfold Zfp
 simp only [Bool.and_eq_true, decide_eq_true_eq, allN_iff]
 refine ⟨e.symm, fun x hx => ?_⟩
 rw [hg.rowN hq] at hx
 exact Zs9 hg hs hq (by omega) e.symm hx
def cel (A : List (List Bool)) (q r : Nat) : Bool := nth (nth A q) r
theorem Zcw {α : Type} [Inhabited α] {A : List α}  {B : α} (hq : q < A.length) : nth (A.set q B) z = if z = q then B else nth A z := by
 unfold nth
 simp only [List.getD_eq_getElem?_getD, List.getElem?_set]
 by_cases e : q = z
 ·subst e; simp [hq]
 ·rw [if_neg e, if_neg (fun h => e h.symm)]
theorem ZgO  {y : Nat}  (hq : q < A.length) (hr : r < (nth A q).length) : cel (A.set q ((nth A q).set r v)) z y = if z = q ∧ y = r then v else cel A z y := by
 unfold cel
 rw [Zcw hq]
 by_cases e : z = q
 ·subst e
  rw [if_pos rfl, Zcw hr]
  by_cases e2 : y = r
  ·subst e2; simp
  ·simp [e2]
 ·simp [e]
theorem Zmy  (hq : q < A.length) : (nth (A.set q ((nth A q).set r v)) z).length = (nth A z).length := by
 rw [Zcw hq]
 split
 ·rename_i e; subst e; simp
 ·rfl
def P1 (ps : List (List Int × List Int)) (N : Nat) (A : List (List Bool)) (q : Nat) : Prop := A.length = N ∧ ∀ z, z < q → (nth A z).length = N ∧ ∀ r, r < N → cel A z r = !memQ ps z r
def R1 (ps : List (List Int × List Int)) (N : Nat) (A : List (List Bool)) (q r : Nat) : Prop := P1 ps N A q ∧ (nth A q).length = N ∧ (∀ z, z < r → cel A q z = !memQ ps q z) ∧ ∀ z, r ≤ z → z < N → cel A q z = false
def R4 (ps : List (List Int × List Int)) (N : Nat) (A : List (List Bool)) (q r k : Nat) : Prop := P1 ps N A q ∧ (nth A q).length = N ∧ (∀ z, z < r → cel A q z = !memQ ps q z) ∧ cel A q r = (!allN k (memK ps q r)) ∧ ∀ z, r < z → z < N → cel A q z = false
theorem ZvP  (h : A.length = N) : P1 ps N A 0 := ⟨h, fun z hz => by omega⟩
theorem Zvx  (h : P1 ps N A q) (hq : q < N) : R1 ps N (A.set q (List.replicate N false)) q 0 := by
 have hqa : q < A.length := by rw [h.1]; exact hq
 refine ⟨⟨by simpa using h.1, fun z hz => ?_⟩, by rw [Zcw hqa, if_pos rfl]; simp, fun z hz => by omega, fun z _ hz => ?_⟩
 ·have := h.2 z hz
  have e : nth (A.set q (List.replicate N false)) z = nth A z := by rw [Zcw hqa, if_neg (by omega)]
  unfold cel at *
  rw [e]; exact this
 ·unfold cel; rw [Zcw hqa, if_pos rfl]
  unfold nth; rw [List.getD_eq_getElem?_getD, List.getElem?_replicate]; split <;> rfl
theorem ZvA  (h : R1 ps N A q r) (hr : r < N) : R4 ps N A q r 0 := ⟨h.1, h.2.1, h.2.2.1, by rw [h.2.2.2 r (Nat.le_refl _) hr]; rfl, fun z h1 h2 => h.2.2.2 z (by omega) h2⟩
theorem Zwa  (h : R4 ps N A q r k) (hq : q < N) (hr : r < N) : R4 ps N (A.set q ((nth A q).set r (!allN (k + 1) (memK ps q r)))) q r (k + 1) := by
 have hqa : q < A.length := by rw [h.1.1]; exact hq
 have hra : r < (nth A q).length := by rw [h.2.1]; exact hr
 refine ⟨⟨by simpa using h.1.1, fun z hz => ⟨by rw [Zmy hqa]; exact (h.1.2 z hz).1, fun y hy => ?_⟩⟩, by rw [Zmy hqa]; exact h.2.1, fun z hz => ?_, ?_, fun z h1 h2 => ?_⟩
 ·rw [ZgO hqa hra, if_neg (by omega)]; exact (h.1.2 z hz).2 y hy
 ·rw [ZgO hqa hra, if_neg (by omega)]; exact h.2.2.1 z hz
 ·rw [ZgO hqa hra, if_pos ⟨rfl, rfl⟩]
 ·rw [ZgO hqa hra, if_neg (by omega)]; exact h.2.2.2.2 z h1 h2
theorem Zy9  (h : R4 ps N A q r k) (hk : k = ps.length) : R1 ps N A q (r + 1) := by
 subst hk
 refine ⟨h.1, h.2.1, fun z hz => ?_, fun z h1 h2 => h.2.2.2.2 z (by omega) h2⟩
 rcases Nat.lt_or_ge z r with h3 | h3
 ·exact h.2.2.1 z h3
 ·have : z = r := by omega
  subst this; exact h.2.2.2.1
theorem Zy4  (h : R1 ps N A q r) (hr : N ≤ r) : P1 ps N A (q + 1) := by
 refine ⟨h.1.1, fun z hz => ?_⟩
 rcases Nat.lt_or_ge z q with h3 | h3
 ·exact h.1.2 z h3
 ·have : z = q := by omega
  subst this; exact ⟨h.2.1, fun y hy => h.2.2.1 y (by omega)⟩
theorem Zm3 {p : Nat → Bool}  : allN (k + 1) p = (allN k p && p k) := by rw [Zo9]
theorem Zz7  (h : (!b) = true) : b = false := by cases b <;> simp_all
theorem ZzJ  (h : (!b) = false) : b = true := by cases b <;> simp_all
theorem ZxN  (h : R4 ps N A q r k) (hc : nth (nth A q) r = true) : true = !allN (k + 1) (memK ps q r) := by
 have h9 := h.2.2.2.1
 unfold cel at h9
 rw [Zm3, show allN k (memK ps q r) = false from Zz7 (h9.symm.trans hc)]; rfl
theorem Zw4  (_h : R4 ps N A q r k) (hc : ¬ has (nth ps k).1 (q : Int) = has (nth ps k).1 (r : Int)) : true = !allN (k + 1) (memK ps q r) := by
 rw [Zm3, show memK ps q r k = false by unfold memK; rw [decide_eq_false hc]; rfl, Bool.and_false]; rfl
theorem Zwj  (h : R4 ps N A q r k) (hn : nth (nth A q) r = false) (hc : has (nth ps k).1 (q : Int) = has (nth ps k).1 (r : Int)) : (!(has (nth ps k).2 (q : Int) == has (nth ps k).2 (r : Int))) = !allN (k + 1) (memK ps q r) := by
 have h9 := h.2.2.2.1
 unfold cel at h9
 rw [Zm3, show allN k (memK ps q r) = true from ZzJ (h9.symm.trans hn), Bool.true_and]
 unfold memK
 rw [decide_eq_true hc, Bool.true_and]
 cases has (nth ps k).2 (q : Int) <;> cases has (nth ps k).2 (r : Int) <;> rfl
structure P2 (n : List (List Int)) (ps : List (List Int × List Int)) (A : List (List Bool)) : Prop where
 len : A.length = n.length
 row : ∀ z, z < n.length → (nth A z).length = n.length
 snd : ∀ q r, q < n.length → r < n.length → cel A q r = true → nth (ZaU n ps) q ≠ nth (ZaU n ps) r
 ini : ∀ q r : Nat, q < n.length → r < n.length → memQ ps q r = false → cel A q r = true
theorem P2.of  (h : P1 ps n.length A n.length) : P2 n ps A := by
 refine ⟨h.1, fun z hz => (h.2 z hz).1, fun q r hq hr hc e => ?_, fun q r hq hr hm => ?_⟩
 ·rw [(h.2 q hq).2 r hr] at hc
  have := (Zeb n ps).2.2.1 q r hq hr e
  rw [this] at hc; cases hc
 ·rw [(h.2 q hq).2 r hr, hm]; rfl
def cnt1 : List Bool → Nat
 | [] => 0
 | b :: bs => (if b then 0 else 1) + cnt1 bs
def cntF : List (List Bool) → Nat
 | [] => 0
 | r :: A => cnt1 r + cntF A
theorem ZnK : ∀ {r : List Bool} {k : Nat}, k < r.length → nth r k = false → cnt1 (r.set k true) + 1 = cnt1 r
 | [], k, h, _ => by simp at h
 | b :: bs, 0, _, h => by
  have : b = false := h
  subst this
  simp only [List.set_cons_zero, cnt1]; simp; omega
 | b :: bs, k + 1, h, hn => by
  have := ZnK (r := bs) (k := k) (by simpa using h) (by simpa [nth] using hn)
  simp only [List.set_cons_succ, cnt1]; omega
theorem Zno : ∀ {A : List (List Bool)} {q : Nat} {B : List Bool}, q < A.length → cnt1 B + 1 = cnt1 (nth A q) → cntF (A.set q B) + 1 = cntF A
 | [], q, _, h, _ => by simp at h
 | r :: A, 0, B, _, h => by
  have : cnt1 B + 1 = cnt1 r := h
  simp only [List.set_cons_zero, cntF]; omega
 | r :: A, q + 1, B, h, hn => by
  have := Zno (A := A) (q := q) (B := B) (by simpa using h) (by simpa [nth] using hn)
  simp only [List.set_cons_succ, cntF]; omega
def Cl26 (n : List (List Int)) (W : Nat) (A : List (List Bool)) (q r x : Nat) : Prop := ∀ q' r' x', q' < n.length → r' < n.length → x' < W → (q' < q ∨ (q' = q ∧ (r' < r ∨ (r' = r ∧ x' < x)))) → cel A (nx26 n q' x') (nx26 n r' x') = true → cel A q' r' = true
def In26 (n : List (List Int)) (ps : List (List Int × List Int)) (W : Nat) (A0 A : List (List Bool)) (ch : Bool) (q r x : Nat) : Prop := P2 n ps A ∧ (ch = false → A = A0 ∧ Cl26 n W A0 q r x) ∧ (ch = true → cntF A < cntF A0)
theorem Zpa  (h : P2 n ps A) : In26 n ps W A A false 0 0 0 := ⟨h, fun _ => ⟨rfl, fun q' r' x' _ _ _ h => by omega⟩, fun h => by cases h⟩
theorem ZyN  (h : In26 n ps W A0 A ch q r x) (hx : W ≤ x) : In26 n ps W A0 A ch q (r + 1) 0 :=
 ⟨h.1, fun e => ⟨(h.2.1 e).1, fun q' r' x' a b c d => (h.2.1 e).2 q' r' x' a b c (by omega)⟩, h.2.2⟩
theorem Zv4  (h : In26 n ps W A0 A ch q r 0) (hr : n.length ≤ r) : In26 n ps W A0 A ch (q + 1) 0 0 :=
 ⟨h.1, fun e => ⟨(h.2.1 e).1, fun q' r' x' a b c d => (h.2.1 e).2 q' r' x' a b c (by omega)⟩, h.2.2⟩
theorem Zk8  (h : In26 n ps W A0 A ch q r x) (hc : cel A q r = true ∨ cel A (nx26 n q x) (nx26 n r x) = false) : In26 n ps W A0 A ch q r (x + 1) := by
 refine ⟨h.1, fun e => ⟨(h.2.1 e).1, fun q' r' x' a b c d hcl => ?_⟩, h.2.2⟩
 have eA := (h.2.1 e).1
 by_cases e2 : q' = q ∧ r' = r ∧ x' = x
 ·obtain ⟨rfl, rfl, rfl⟩ := e2
  rw [eA] at hc
  rcases hc with hc | hc
  ·exact hc
  ·rw [hc] at hcl; cases hcl
 ·exact (h.2.1 e).2 q' r' x' a b c (by omega) hcl
theorem ZnX (hg : GoOk n (W : Int))    (h : In26 n ps W A0 A ch q r x) (hq : q < n.length) (hr : r < n.length) (hx : x < W) (h1 : cel A q r = false) (h2 : cel A (nx26 n q x) (nx26 n r x) = true) :
  In26 n ps W A0 (A.set q ((nth A q).set r true)) true q r (x + 1) := by
 have hqa : q < A.length := by rw [h.1.len]; exact hq
 have hra : r < (nth A q).length := by rw [h.1.row q hq]; exact hr
 refine ⟨⟨by simpa using h.1.len, fun z hz => by rw [Zmy hqa]; exact h.1.row z hz, fun z y hz hy hc => ?_, fun z y hz hy hm => ?_⟩, (fun e => by cases e), fun _ => ?_⟩
 ·rw [ZgO hqa hra] at hc
  split at hc
  ·rename_i e; obtain ⟨rfl, rfl⟩ := e
   intro e
   exact h.1.snd _ _ (Zk2 hg hq hx) (Zk2 hg hr hx) h2 (Zs9 hg (Zeb n ps).2.1 hq hr e hx)
  ·exact h.1.snd z y hz hy hc
 ·rw [ZgO hqa hra]
  split
  ·rfl
  ·exact h.1.ini z y hz hy hm
 ·have k1 := Zno (A := A) (q := q) (B := (nth A q).set r true) hqa (ZnK hra h1)
  cases ch with
  | true => have := h.2.2 rfl; omega
  | false => have := (h.2.1 rfl).1; subst this; omega
def ms26 (A : List (List Bool)) (ch : Bool) : Nat := 2 * cntF A + (if ch then 1 else 0)
theorem ZuC  (h : In26 n ps W A0 A ch q r x) : ms26 A ch < ms26 A0 true := by
 unfold ms26
 cases ch with
 | true => have := h.2.2 rfl; simp; omega
 | false => rw [(h.2.1 rfl).1]; simp
theorem Zsp  (h : In26 n ps W A0 A ch q 0 0) (hq : n.length ≤ q) : P2 n ps A ∧ (ch = false → Cl26 n W A n.length 0 0) :=
 ⟨h.1, fun e => by rw [(h.2.1 e).1]; exact fun q' r' x' a b c d => (h.2.1 e).2 q' r' x' a b c (by omega)⟩
theorem Zib (hg : GoOk n (W : Int)) {A : List (List Bool)} (h : P2 n ps A) (hc : Cl26 n W A n.length 0 0) : ∀ (j : Nat) {q r : Nat}, q < n.length → r < n.length → cel A q r = false → nth (it (Zdk n) j (ZfD n ps)) q = nth (it (Zdk n) j (ZfD n ps)) r
 | 0, q, r, hq, hr, e => by
  have hm : memQ ps q r = true := by
   cases h2 : memQ ps (q : Int) (r : Int) with
   | true => rfl
   | false => rw [h.ini q r hq hr h2] at e; cases e
  show nth (ZfD n ps) q = nth (ZfD n ps) r
  refine Znv (near := fun p q => memQ ps (p : Int) (q : Int)) hq hr ZeE ZeE fun z hz => ?_
  rw [Bool.eq_iff_iff]
  constructor
  ·intro h1; exact memQ_iff.2 fun k hk => ⟨(memQ_iff.1 h1 k hk).1.trans (memQ_iff.1 hm k hk).1, (memQ_iff.1 h1 k hk).2.trans (memQ_iff.1 hm k hk).2⟩
  ·intro h1; exact memQ_iff.2 fun k hk => ⟨(memQ_iff.1 h1 k hk).1.trans (memQ_iff.1 hm k hk).1.symm, (memQ_iff.1 h1 k hk).2.trans (memQ_iff.1 hm k hk).2.symm⟩
 | j + 1, q, r, hq, hr, e => by
  rw [Zd8]
  have ih := Zib hg h hc j hq hr e
  have ihx : ∀ x, x < W → nth (it (Zdk n) j (ZfD n ps)) (nx26 n q x) = nth (it (Zdk n) j (ZfD n ps)) (nx26 n r x) := fun x hx => by
   refine Zib hg h hc j (Zk2 hg hq hx) (Zk2 hg hr hx) ?_
   cases h2 : cel A (nx26 n q x) (nx26 n r x) with
   | false => rfl
   | true => rw [hc q r x hq hr hx (.inl hq) h2] at e; cases e
  refine Znv (near := Zfp n _) hq hr ZbZ ZbZ fun z hz => ?_
  unfold Zfp
  rw [ih, hg.rowN hq, hg.rowN hr]
  congr 1
  rw [Bool.eq_iff_iff]
  simp only [allN_iff, decide_eq_true_eq]
  constructor
  ·intro h1 x hx; rw [← h1 x hx]; exact (ihx x hx).symm
  ·intro h1 x hx; rw [← h1 x hx]; exact ihx x hx
theorem Ze8 (hg : GoOk n (W : Int))  (h : P2 n ps A) (hc : Cl26 n W A n.length 0 0)  (hq : q < n.length) : Zc4 (nth A q).length (fun i => nth (nth A q) i == false) = nth (ZaU n ps) q := by
 obtain ⟨c1, c2, c3, j, cj⟩ := Zeb n ps
 obtain ⟨r, h1, h2, h3, h4⟩ := ZfI hg c1 c2 hq
 have hna : ∀ z, z < n.length → cel A q z = false → nth (ZaU n ps) q = nth (ZaU n ps) z := fun z hz e => by
  rw [cj]; exact Zib hg h hc j hq hz e
 have hap : ∀ z, z < n.length → nth (ZaU n ps) q = nth (ZaU n ps) z → cel A q z = false := fun z hz e => by
  cases h5 : cel A q z with
  | false => rfl
  | true => exact absurd e (h.snd q z hq hz h5)
 rw [h2]
 refine ZbW r (by rw [h.row q hq]; omega) ?_ fun z hz => ?_
 ·have := hap r (by omega) h3.symm
  unfold cel at this; rw [this]; rfl
 ·have h5 : cel A q z ≠ false := fun e => h4 z hz (hna z (by omega) e).symm
  unfold cel at h5
  simpa using h5
theorem Zdu {n : List (List Int)} {ps : List (List Int × List Int)}  (hq : q < n.length) : (ZaU n ps).take (q + 1) = (ZaU n ps).take q ++ [nth (ZaU n ps) q] := Zce (by rw [(Zeb n ps).1.1]; exact hq)
theorem Zix : (ZaU n ps).length = n.length := (Zeb n ps).1.1
end
end Go.Proofs.YtnieejghoaccmaaGreat

