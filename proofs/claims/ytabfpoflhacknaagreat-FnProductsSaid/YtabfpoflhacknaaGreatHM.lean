/- Clauses on words. No program in sight; no conditions. -/
import Derived.Test.YtabfpoflhacknaaGreatD0
namespace Go.Proofs.YtabfpoflhacknaaGreat
open Go.RowKit
open Shp
variable {xs a ys b : List Int} {p : Bool} {o : Int} {cs : List (Int × List Int × List Int)} {j : Nat} {n n2 : List (List Int)} {ps ps2 : List (List Int × List Int)}
def Zcg (xs a : List Int) : Bool := !allN xs.length fun i => !has a (nth xs i)
def ZjZ (xs a : List Int) : Bool := allN xs.length fun i => has a (nth xs i)
theorem Zg3 : ZjZ xs a = true ↔ ∀ x ∈ xs, x ∈ a := by
 unfold ZjZ; rw [allN_iff]
 constructor
 ·intro h x hx
  obtain ⟨i, hi, rfl⟩ := Za1 hx
  exact has_iff.1 (h i hi)
 ·intro h j hj; exact has_iff.2 (h _ (Zal hj))
theorem someH_iff : Zcg xs a = true ↔ ∃ x ∈ xs, x ∈ a := by
 unfold Zcg
 constructor
 ·intro h
  apply Classical.byContradiction
  intro hn
  rw [ZaS (fun j hj => ?_)] at h
  ·cases h
  ·cases e : has a (nth xs j)
   ·rfl
   ·exact absurd ⟨_, Zal hj, has_iff.1 e⟩ hn
 ·rintro ⟨x, hx, ha⟩
  obtain ⟨i, hi, rfl⟩ := Za1 hx
  rw [ZaM i hi (by rw [has_iff.2 ha]; rfl)]; rfl
theorem Zf2 : Zcg xs a = false ↔ ∀ x ∈ xs, x ∉ a := by
 rw [← Bool.not_eq_true, someH_iff]; simp
def wayH (s l : List Int) : List Int := s ++ l ++ [nth l 0]
theorem Zqu {s l : List Int} (hl : 1 ≤ l.length) (x : Int) : x ∈ wayH s l ↔ x ∈ s ++ l := by
 unfold wayH
 have := Zal (xs := l) (k := 0) (by omega)
 simp only [List.mem_append, List.mem_singleton]
 constructor
 ·rintro (h | rfl)
  ·exact h
  ·exact .inr this
 ·exact .inl
theorem ZpL {s l : List Int} (hl : 1 ≤ l.length) : Zcg (wayH s l) a = Zcg (s ++ l) a := by
 rw [Bool.eq_iff_iff, someH_iff, someH_iff]; simp only [Zqu hl]
theorem ZrS {s l : List Int} (hl : 1 ≤ l.length) : ZjZ (wayH s l) a = ZjZ (s ++ l) a := by
 rw [Bool.eq_iff_iff, Zg3, Zg3]; simp only [Zqu hl]
def Zhl (all : List Int) (back : Nat) (a b : List Int) (i : Nat) : Bool := !(has a (nth all i)) || has b (nth all (if i + 1 < all.length then i + 1 else back))
def Zk0 (all : List Int) (back : Nat) (a b : List Int) : Bool := allN all.length (Zhl all back a b)
def Zjl (way a b : List Int) (i : Nat) : Bool := !(has a (nth way i)) || has b (nth way (i + 1))
theorem Zeu  {i : Nat} (h : i < xs.length) : nth (xs ++ ys) i = nth xs i := by unfold nth; simp only [List.getD_eq_getElem?_getD]; rw [List.getElem?_append_left h]
theorem Zep  {i : Nat} (h : xs.length ≤ i) : nth (xs ++ ys) i = nth ys (i - xs.length) := by unfold nth; simp only [List.getD_eq_getElem?_getD]; rw [List.getElem?_append_right h]
theorem Znr {s l : List Int} : (wayH s l).length = s.length + l.length + 1 := by simp [wayH]; omega
theorem ZmP {s l : List Int} (hl : 1 ≤ l.length) : (allN (s.length + l.length) (Zjl (wayH s l) a b)) = Zk0 (s ++ l) s.length a b := by
 unfold Zk0
 rw [List.length_append]
 refine Zkn fun j hj => ?_
 unfold Zjl Zhl
 rw [List.length_append]
 have e1 : nth (wayH s l) j = nth (s ++ l) j := Zeu (by simpa using hj)
 rw [e1]
 congr 2
 split
 ·rename_i h; exact Zeu (by simpa using h)
 ·rename_i h
  have h2 : j + 1 = (s ++ l).length := by simp; omega
  rw [show nth (wayH s l) (j + 1) = nth [nth l 0] (j + 1 - (s ++ l).length) from Zep (by omega), h2, Nat.sub_self, Zep (by omega), Nat.sub_self]; rfl
def Zjg (a b : List Int) : Bool → List Int → Bool
 | p, [] => p
 | p, x :: xs => Zjg a b ((p || has a x) && !has b x) xs
theorem ZmO {a b : List Int} : ∀ (xs : List Int) (p : Bool), Zjg a b p xs = true ↔ ((p = true ∧ Zcg xs b = false) ∨ ∃ i, i < xs.length ∧ has a (nth xs i) = true ∧ Zcg (xs.drop i) b = false)
 | [], p => by
  simp only [Zjg, Zf2]
  constructor
  ·intro h; exact .inl ⟨h, by simp⟩
  ·rintro (h | ⟨i, hi, _⟩)
   ·exact h.1
   ·simp at hi
 | x :: xs, p => by
  simp only [Zjg]
  rw [ZmO xs]
  have key : Zcg (x :: xs) b = false ↔ has b x = false ∧ Zcg xs b = false := by
   rw [Zf2, Zf2, ← Bool.not_eq_true, has_iff]
   simp
  constructor
  ·rintro (⟨h1, h2⟩ | ⟨i, hi, h1, h2⟩)
   ·simp only [Bool.and_eq_true, Bool.or_eq_true, Bool.not_eq_true'] at h1
    rcases h1.1 with h3 | h3
    ·exact .inl ⟨h3, key.2 ⟨h1.2, h2⟩⟩
    ·exact .inr ⟨0, by simp, by simpa [nth] using h3, by rw [List.drop_zero]; exact key.2 ⟨h1.2, h2⟩⟩
   ·exact .inr ⟨i + 1, by simp; omega, by simpa [nth] using h1, by simpa using h2⟩
  ·rintro (⟨h1, h2⟩ | ⟨i, hi, h1, h2⟩)
   ·have := key.1 h2
    exact .inl ⟨by simp [h1, this.1], this.2⟩
   ·rcases i with _ | i
    ·rw [List.drop_zero] at h2
     have := key.1 h2
     exact .inl ⟨by simp [this.1, show has a x = true by simpa [nth] using h1], this.2⟩
    ·exact .inr ⟨i, by simpa using hi, by simpa [nth] using h1, by simpa using h2⟩
def ZgR (all a b : List Int) (i : Nat) : Bool := !(has a (nth all i)) || Zcg (all.drop i) b
def ansH (s l a b : List Int) : Bool := Zcg l b || allN (s ++ l).length (ZgR (s ++ l) a b)
theorem ZrR {s l : List Int} : (!(Zjg a b false (s ++ l)) || Zcg l b) = ansH s l a b := by
 unfold ansH
 cases e : Zcg l b
 ·rw [Bool.or_false, Bool.false_or, Bool.eq_iff_iff, Bool.not_eq_true', ← Bool.not_eq_true, ZmO, allN_iff]
  constructor
  ·intro h j hj
   unfold ZgR
   cases e1 : has a (nth (s ++ l) j)
   ·rfl
   ·cases e2 : Zcg ((s ++ l).drop j) b
    ·exact absurd (.inr ⟨j, hj, e1, e2⟩) h
    ·rfl
  ·rintro h (⟨h1, _⟩ | ⟨i, hi, h1, h2⟩)
   ·cases h1
   ·have := h i hi
    unfold ZgR at this
    rw [h1, h2] at this; cases this
 ·simp
theorem Zpo  {i : Nat} (h : i < xs.length) : Zjg a b p (xs.drop i) = Zjg a b ((p || has a (nth xs i)) && !has b (nth xs i)) (xs.drop (i + 1)) := by rw [ZfB h]; rfl
def Zb7 (k : Int) (a b s l : List Int) : Bool :=
 if k = 1 then ZjZ (s ++ l) a else if k = 2 then Zk0 (s ++ l) s.length a b else if k = 3 then ansH s l a b else if k = 4 then Zcg l a else if k = 5 then ZjZ l a else if k = 6 then Zcg (s ++ l) a else !Zcg l a || Zcg l b
def ZgN (i o k : Int) (a b s l : List Int) : Bool := sigB i o && ZbR (Zaa i o) k a b && ZaI s l (Zaa i o) && Zb7 k a b s l
def Ze6 (cs : List (Int × List Int × List Int)) (s l : List Int) (j : Nat) : Bool := !Zb7 (nth cs j).1 (nth cs j).2.1 (nth cs j).2.2 s l
def ZcE (i o : Int) (cs : List (Int × List Int × List Int)) (s l : List Int) : Int :=
 if (ZaB i o cs && ZaI s l (Zaa i o)) = true then ZcB cs.length (Ze6 cs s l) else -2
theorem Zmd {i : Int}  {s l : List Int}  (h : ZaB i o cs = true) (hw : ZaI s l (Zaa i o) = true) (hj : j < cs.length) : ZgN i o (nth cs j).1 (nth cs j).2.1 (nth cs j).2.2 s l = !Ze6 cs s l j := by
 unfold ZaB at h
 simp only [Bool.and_eq_true, allN_iff, ZcV] at h
 unfold ZgN Ze6
 rw [h.1.1, h.2 j hj, hw]; simp
def Zno (i o : Int) (n : List (List Int)) (ps : List (List Int × List Int)) (n2 : List (List Int)) (ps2 : List (List Int × List Int)) : Bool := detB i o n ps && detB i o n2 ps2 && decide (n = n2) && decide (ps = ps2)
theorem Zms : (decide (n.length = n2.length) && allN n.length fun i => decide (nth n i = nth n2 i)) = decide (n = n2) := by
 by_cases h : n.length = n2.length
 ·rw [decide_eq_true h, Bool.true_and]
  rw [Bool.eq_iff_iff, allN_iff, decide_eq_true_eq]
  exact ⟨fun h2 => Zfl h fun i hi => by simpa using h2 i hi, fun e => by subst e; simp⟩
 ·rw [decide_eq_false h, decide_eq_false fun e => h (by rw [e])]; rfl
theorem ZlG {n n2 : List (List Int × List Int)} : (decide (n.length = n2.length) && allN n.length fun i => decide ((nth n i).1 = (nth n2 i).1) && decide ((nth n i).2 = (nth n2 i).2)) = decide (n = n2) := by
 by_cases h : n.length = n2.length
 ·rw [decide_eq_true h, Bool.true_and]
  rw [Bool.eq_iff_iff, allN_iff, decide_eq_true_eq]
  exact ⟨fun h2 => Zfl h fun i hi => Prod.ext_iff.2 (by simpa using h2 i hi), fun e => by subst e; simp⟩
 ·rw [decide_eq_false h, decide_eq_false fun e => h (by rw [e])]; rfl
theorem Zqv : (!(!allN xs.length fun i => !(!has a (nth xs i)))) = ZjZ xs a := by simp only [Bool.not_not]; rfl
theorem ZxU {s l : List Int} (hl : 1 ≤ l.length) : (!(!allN (wayH s l).length fun i => !(!has a (nth (wayH s l) i)))) = Zb7 1 a b s l := by rw [Zqv, ZrS hl]; rfl
theorem Zuz {s l : List Int}  (hl : 1 ≤ l.length) (h : ∀ q, q < j → Zjl (wayH s l) a b q = true) (hj : s.length + l.length ≤ j) : true = Zb7 2 a b s l := by
 show true = Zk0 (s ++ l) s.length a b
 rw [← ZmP hl, ZaS fun q hq => h q (by omega)]
theorem ZvL {s l : List Int}  (hl : 1 ≤ l.length) (h : Zjl (wayH s l) a b j = false) (hj : j < s.length + l.length) : false = Zb7 2 a b s l := by
 show false = Zk0 (s ++ l) s.length a b
 rw [← ZmP hl, ZaM j hj h]
theorem ZyX {s l : List Int}   (h : Zjg a b p ((s ++ l).drop j) = Zjg a b false (s ++ l)) (hj : s.length + l.length ≤ j) : (!p || Zcg l b) = Zb7 3 a b s l := by
 show _ = ansH s l a b
 rw [← ZrR, ← h, List.drop_eq_nil_of_le (by rw [List.length_append]; omega)]; rfl
theorem ZAh {s l : List Int} : Zcg l a = Zb7 4 a b s l := rfl
theorem ZxZ {s l : List Int} : (!(!allN l.length fun i => !(!has a (nth l i)))) = Zb7 5 a b s l := by rw [Zqv]; rfl
theorem Zz5 {s l : List Int} (hl : 1 ≤ l.length) : Zcg (wayH s l) a = Zb7 6 a b s l := by rw [ZpL hl]; rfl
theorem ZAs {k : Int} {s l : List Int} (h1 : ¬ k = 1) (h2 : ¬ k = 2) (h3 : ¬ k = 3) (h4 : ¬ k = 4) (h5 : ¬ k = 5) (h6 : ¬ k = 6) : (!Zcg l a || Zcg l b) = Zb7 k a b s l := by
 unfold Zb7; rw [if_neg h1, if_neg h2, if_neg h3, if_neg h4, if_neg h5, if_neg h6]
theorem Znf {i : Int}  (h : ZaB i o cs = true) : sigB i o = true := by
 unfold ZaB at h; simp only [Bool.and_eq_true] at h; exact h.1.1
theorem ZdZ {i : Int}  {s l : List Int} (h : ZaB i o cs = false ∨ ZaI s l (Zaa i o) = false) : -2 = ZcE i o cs s l := by
 unfold ZcE; rw [if_neg]; rintro hh; simp only [Bool.and_eq_true] at hh; rcases h with h | h
 ·rw [hh.1] at h; cases h
 ·rw [hh.2] at h; cases h
theorem Zf1 {i : Int}  {s l : List Int} (h : ZaB i o cs = true) (hw : ZaI s l (Zaa i o) = true) : ZcB cs.length (Ze6 cs s l) = ZcE i o cs s l := by
 unfold ZcE; rw [if_pos]; simp [h, hw]
theorem Zt0 {i : Int}   (h : detB i o n ps = true) : sigB i o = true := (ZeI h).1
theorem Zip {i : Int}     (h : sigB i o = false ∨ detB i o n ps = false ∨ detB i o n2 ps2 = false ∨ n ≠ n2 ∨ ps ≠ ps2) : false = Zno i o n ps n2 ps2 := by
 unfold Zno
 symm
 simp only [Bool.and_eq_false_iff, decide_eq_false_iff_not]
 rcases h with h | h | h | h | h
 ·refine .inl (.inl (.inl ?_))
  rw [Bool.eq_false_iff]; intro hd; rw [Zt0 hd] at h; cases h
 ·exact .inl (.inl (.inl h))
 ·exact .inl (.inl (.inr h))
 ·exact .inl (.inr h)
 ·exact .inr h
theorem Zrq {i : Int}     (h : detB i o n ps = true) (h2 : detB i o n2 ps2 = true) (h3 : n = n2) : decide (ps = ps2) = Zno i o n ps n2 ps2 := by
 unfold Zno; rw [h, h2, decide_eq_true h3]; simp
theorem Znd {i : Int}  (h : sigB i o = false) : ZaB i o cs = false := by
 unfold ZaB; rw [h]; rfl
theorem ZmQ {i : Int}  (h : ¬ cs.length ≤ 3 ∨ allN cs.length (ZcV (Zaa i o) cs) = false) : ZaB i o cs = false := by
 unfold ZaB; simp only [Bool.and_eq_false_iff, decide_eq_false_iff_not]
 rcases h with h | h
 ·exact .inl (.inr (by omega))
 ·exact .inr h
theorem Ztj  (h : n.length = n2.length ∧ (allN n.length fun i => decide (nth n i = nth n2 i)) = true) : n = n2 := by
 have := Zms (n := n) (n2 := n2); rw [h.2, decide_eq_true h.1] at this; simpa using this.symm
theorem Zwv  (h : ¬ n.length = n2.length ∨ (allN n.length fun i => decide (nth n i = nth n2 i)) = false) : ¬ n = n2 := by
 rintro rfl
 rcases h with h | h
 ·exact h rfl
 ·rw [ZaS (fun j hj => by simp)] at h; cases h
end Go.Proofs.YtabfpoflhacknaaGreat

