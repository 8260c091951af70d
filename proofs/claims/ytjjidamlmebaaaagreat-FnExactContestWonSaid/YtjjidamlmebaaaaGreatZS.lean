/- Games of places: the vertices of an arena with records of pairs. As data. No program in sight; no conditions. -/
import Derived.Test.YtjjidamlmebaaaaGreatZR
import Derived.Test.YtjjidamlmebaaaaGreatME
namespace Go.Proofs.YtjjidamlmebaaaaGreat
open Go.RowKit
open Shp
variable {n k : Nat} {x : Int} {α : Type} {r us out : List Int}
abbrev Pl := Int × List Int
abbrev GV.placeP (x : Pl) : GV := .agg [.i x.1, .ints x.2]
abbrev GV.places (l : List Pl) : GV := .sl 2 (l.map GV.placeP)
def upI (n : Nat) : List Int := (List.range n).map fun x : Nat => (x : Int)
theorem ZaQ (n : Nat) : (upI n).length = n := by simp [upI]
theorem Zkv (n : Nat) : upI n ++ [(n : Int)] = upI (n + 1) := by simp [upI, List.range_succ]
theorem ZiI {i : Nat} (h : i < n) : nth (upI n) i = (i : Int) := by rw [Zaz (by simpa [upI] using h)]; simp [upI]
theorem upI_mem : x ∈ upI n ↔ 0 ≤ x ∧ x < n := by
 simp only [upI, List.mem_map, List.mem_range]
 exact ⟨fun ⟨y, h1, h2⟩ => by omega, fun ⟨h1, h2⟩ => ⟨x.toNat, by omega, by omega⟩⟩
def Zfq (n : Nat) (l : List Int) : List Bool := l.foldl (fun m v => m.set v.toNat true) (List.replicate n false)
theorem Zjr (n : Nat) : Zfq n [] = List.replicate n false := rfl
theorem ZjC  {l : List Int}  (h : k < l.length) : Zfq n (l.take (k + 1)) = (Zfq n (l.take k)).set (nth l k).toNat true := by
 unfold Zfq; rw [ZaF h, List.foldl_append]; rfl
theorem ZcB : ∀ (l : List Int) , (Zfq n l).length = n := by
 intro l
 unfold Zfq
 have : ∀ (l : List Int) (m : List Bool), (l.foldl (fun m v => m.set v.toNat true) m).length = m.length := by
  intro l
  induction l with
  | nil => intro m; rfl
  | cons x l ih => intro m; rw [List.foldl_cons, ih]; simp
 rw [this]; simp
theorem Zpp  {x : Nat} (hx : x < n) : ∀ (l : List Int), (∀ v ∈ l, 0 ≤ v) → (nth (Zfq n l) x = true ↔ (x : Int) ∈ l) := by
 have key : ∀ (l : List Int) (m : List Bool), m.length = n → (∀ v ∈ l, 0 ≤ v) → (nth (l.foldl (fun m v => m.set v.toNat true) m) x = true ↔ nth m x = true ∨ (x : Int) ∈ l) := by
  intro l
  induction l with
  | nil => intro m hm _; simp
  | cons y l ih =>
   intro m hm h
   rw [List.foldl_cons, ih _ (by simpa using hm) fun v hv => h v (List.mem_cons_of_mem _ hv)]
   have h0 := h y (List.mem_cons_self ..)
   by_cases e : y.toNat = x
   ·subst e
    rw [Zav (by omega)]
    have : ((y.toNat : Nat) : Int) = y := by omega
    simp [this]
   ·rw [ZaI e, List.mem_cons]
    have : ¬ (x : Int) = y := by omega
    simp [this]
 intro l h
 unfold Zfq
 rw [key l _ (by simp) h, Zdc hx]; simp
theorem Zm3 : Zfq n (upI n) = List.replicate n true := by
 apply List.ext_getElem
 ·rw [ZcB]; simp
 ·intro x h1 h2
  have hx : x < n := by simpa using h2
  have := (Zpp hx (upI n) fun v hv => (upI_mem.1 hv).1).2 (upI_mem.2 ⟨by omega, by omega⟩)
  rw [Zaz h1] at this
  rw [this]; simp
def oneK (n : Nat) (l : List Int) : List Int := l.foldl (fun m v => m.set v.toNat 1) (List.replicate n 0)
theorem Zia (n : Nat) : oneK n [] = List.replicate n 0 := rfl
theorem ZkS  {l : List Int}  (h : k < l.length) : oneK n (l.take (k + 1)) = (oneK n (l.take k)).set (nth l k).toNat 1 := by
 unfold oneK; rw [ZaF h, List.foldl_append]; rfl
theorem ZeI  (l : List Int) : (oneK n l).length = n := by
 unfold oneK
 have : ∀ (l : List Int) (m : List Int), (l.foldl (fun m v => m.set v.toNat 1) m).length = m.length := by
  intro l
  induction l with
  | nil => intro m; rfl
  | cons x l ih => intro m; rw [List.foldl_cons, ih]; simp
 rw [this]; simp
theorem ZqB  {x : Nat} (hx : x < n) (l : List Int) (h : ∀ v ∈ l, 0 ≤ v) : nth (oneK n l) x = if (x : Int) ∈ l then 1 else 0 := by
 have key : ∀ (l : List Int) (m : List Int), m.length = n → (∀ v ∈ l, 0 ≤ v) → nth (l.foldl (fun m v => m.set v.toNat 1) m) x = if (x : Int) ∈ l then 1 else nth m x := by
  intro l
  induction l with
  | nil => intro m hm _; simp
  | cons y l ih =>
   intro m hm h
   rw [List.foldl_cons, ih _ (by simpa using hm) fun v hv => h v (List.mem_cons_of_mem _ hv)]
   have h0 := h y (List.mem_cons_self ..)
   by_cases e : y.toNat = x
   ·subst e
    rw [Zav (by omega)]
    have : ((y.toNat : Nat) : Int) = y := by omega
    simp [this]
   ·rw [ZaI e]
    have : ¬ (x : Int) = y := by omega
    simp [this]
 unfold oneK
 rw [key l _ (by simp) h, Zdc hx]
def nxR (ps : List (List Int × List Int)) (r : List Int) (v : Int) : List Int := r.filter (fun i => has (nth ps i.toNat).2 v) ++ r.filter fun i => !has (nth ps i.toNat).2 v
theorem Zie  [Inhabited α] {f : α → Bool} {l : List α}  (h : k < l.length) : (l.take (k + 1)).filter f = (l.take k).filter f ++ if f (nth l k) = true then [nth l k] else [] := by
 rw [ZaF h, List.filter_append]; congr 1; simp only [List.filter_cons, List.filter_nil]
theorem ZeJ  [Inhabited α] {f : α → Bool} {l : List α}  (h : k < l.length) (hf : f (nth l k) = true) : (l.take k).filter f ++ [nth l k] = (l.take (k + 1)).filter f := by rw [Zie h, if_pos hf]
theorem Zf8  [Inhabited α] {f : α → Bool} {l : List α}  (h : k < l.length) (hf : f (nth l k) = false) : (l.take k).filter f = (l.take (k + 1)).filter f := by rw [Zie h, if_neg (by rw [hf]; exact Bool.false_ne_true), List.append_nil]
def Ze3 (f : Int → Bool) (r : List Int) : Nat → Int
 | 0 => -1
 | k + 1 => if f (nth r k) = true then (k : Int) else Ze3 f r k
theorem ZbN (f : Int → Bool) (r : List Int) : ∀ k, -1 ≤ Ze3 f r k ∧ Ze3 f r k < k
 | 0 => by simp [Ze3]
 | k + 1 => by
  have := ZbN f r k
  simp only [Ze3]; split <;> omega
def prG (a g : Int) : Int := if a < 0 ∧ g < 0 then 0 else if a > g then 2 * a + 1 else 2 * g + 2
def prQ (ps : List (List Int × List Int)) (r : List Int) (v : Int) : Int := prG (Ze3 (fun i => has (nth ps i.toNat).1 v) r r.length) (Ze3 (fun i => has (nth ps i.toNat).2 v) r r.length)
def fndP (pl : List Pl) (u : Int) (r : List Int) : Int := Zdk pl.length fun i => (nth pl i).1 == u && decide ((nth pl i).2 = r)
def addP (r : List Int) (s : List Pl × List Int) (u : Int) : List Pl × List Int := if fndP s.1 u r < 0 then (s.1 ++ [(u, r)], s.2 ++ [(s.1.length : Int)]) else (s.1, s.2 ++ [fndP s.1 u r])
def addL (r : List Int) (s : List Pl × List Int) (us : List Int) : List Pl × List Int := us.foldl (addP r) s
theorem Zlr  {s : List Pl × List Int}   (h : k < us.length) : addL r s (us.take (k + 1)) = addP r (addL r s (us.take k)) (nth us k) := by
 unfold addL; rw [ZaF h, List.foldl_append]; rfl
theorem ZfY  {s : List Pl × List Int}   (h : k < us.length) (hf : fndP (addL r s (us.take k)).1 (nth us k) r < 0) : addL r s (us.take (k + 1)) = ((addL r s (us.take k)).1 ++ [(nth us k, r)], (addL r s (us.take k)).2 ++ [((addL r s (us.take k)).1.length : Int)]) := by
 rw [Zlr h]; unfold addP; rw [if_pos hf]
theorem ZhF  {s : List Pl × List Int}   (h : k < us.length) (hf : ¬ fndP (addL r s (us.take k)).1 (nth us k) r < 0) : addL r s (us.take (k + 1)) = ((addL r s (us.take k)).1, (addL r s (us.take k)).2 ++ [fndP (addL r s (us.take k)).1 (nth us k) r]) := by
 rw [Zlr h]; unfold addP; rw [if_neg hf]
theorem Zrz  {s : List Pl × List Int} {u : Int} : s.1.length ≤ (addP r s u).1.length ∧ (addP r s u).1.length ≤ s.1.length + 1 ∧ (addP r s u).2.length = s.2.length + 1 := by
 unfold addP; split <;> simp
theorem addL_len {r : List Int} : ∀ {us : List Int} {s : List Pl × List Int}, s.1.length ≤ (addL r s us).1.length ∧ (addL r s us).1.length ≤ s.1.length + us.length ∧ (addL r s us).2.length = s.2.length + us.length
 | [], s => by simp [addL]
 | u :: us, s => by
  have h1 := Zrz (r := r) (s := s) (u := u)
  have h2 := addL_len (r := r) (us := us) (s := addP r s u)
  have : addL r s (u :: us) = addL r (addP r s u) us := rfl
  rw [this]; simp only [List.length_cons]; omega
theorem ZlK  {s : List Pl × List Int} (k : Nat) : (addL r s (us.take k)).1.length ≤ (addL r s us).1.length := by
 have : addL r s us = addL r (addL r s (us.take k)) (us.drop k) := by
  unfold addL; rw [← List.foldl_append, List.take_append_drop]
 rw [this]; exact addL_len.1
theorem ZpY  {s : List Pl × List Int}   (h : k < us.length) (hf : fndP (addL r s (us.take k)).1 (nth us k) r < 0) (h2 : 256 ≤ (addL r s (us.take k)).1.length) : 256 < (addL r s us).1.length := by
 have h3 := ZlK (r := r) (us := us) (s := s) (k + 1)
 rw [ZfY h hf] at h3
 simp only [List.length_append, List.length_singleton] at h3
 omega
structure RS where
 pl : List Pl
 ow : List Int
 nx : List (List Int)
 pr : List Int
noncomputable def K256 : Nat := Classical.choose (⟨256, rfl⟩ : ∃ k, k = 256)
theorem ZtN : K256 = 256 := Classical.choose_spec (⟨256, rfl⟩ : ∃ k, k = 256)
section
variable (o : List Int) (nx : List (List Int)) (ps : List (List Int × List Int))
def atQ (s : RS) (i : Nat) : Nat := (nth s.pl i).1.toNat
def rcR (s : RS) (i : Nat) : List Int := nxR ps (nth s.pl i).2 (nth s.pl i).1
def grow (s : RS) (i : Nat) : List Pl × List Int := addL (rcR ps s i) (s.pl, []) (nth nx (atQ s i))
def Zfi (s : RS) (i : Nat) : RS := ⟨(grow nx ps s i).1, s.ow ++ [nth o (atQ s i)], s.nx ++ [Zev (grow nx ps s i).2], s.pr ++ [prQ ps (nth s.pl i).2 (nth s.pl i).1]⟩
def recS (st : Int) : Nat → RS
 | 0 => ⟨[(st, upI ps.length)], [], [], []⟩
 | i + 1 => if i < (recS st i).pl.length then Zfi o nx ps (recS st i) i else recS st i
noncomputable def recF (st : Int) : RS := recS o nx ps st K256
noncomputable def recO (st : Int) : Bool := decide (256 < (recF o nx ps st).pl.length)
noncomputable def recR (st : Int) : RS := if recO o nx ps st = true then ⟨[], [], [], []⟩ else recF o nx ps st
end
section
variable {o : List Int} {nx : List (List Int)} {ps : List (List Int × List Int)} {st : Int}
theorem recF_eq : recF o nx ps st = recS o nx ps st 256 := by unfold recF; rw [ZtN]
theorem Zec : ∀ {i j : Nat}, i ≤ j → (recS o nx ps st i).pl.length ≤ (recS o nx ps st j).pl.length
 | i, 0, h => by rw [show i = 0 by omega]; exact Nat.le_refl _
 | i, j + 1, h => by
  rcases Nat.lt_or_ge i (j + 1) with h1 | h1
  ·have ih := Zec (i := i) (j := j) (by omega)
   simp only [recS]
   split
   ·have := addL_len (r := rcR ps (recS o nx ps st j) j) (us := nth nx (atQ (recS o nx ps st j) j)) (s := ((recS o nx ps st j).pl, []))
    exact Nat.le_trans ih this.1
   ·exact ih
  ·rw [show i = j + 1 by omega]; exact Nat.le_refl _
theorem ZhT {i : Nat} (h : (recS o nx ps st i).pl.length ≤ i) : ∀ j, i ≤ j → recS o nx ps st j = recS o nx ps st i
 | 0, hj => by rw [show i = 0 by omega]
 | j + 1, hj => by
  rcases Nat.lt_or_ge i (j + 1) with h1 | h1
  ·have ih := ZhT h j (by omega)
   simp only [recS]
   rw [ih, if_neg (by omega)]
  ·rw [show i = j + 1 by omega]
theorem ZcE {i : Nat} (h : i < (recS o nx ps st i).pl.length) : recS o nx ps st (i + 1) = Zfi o nx ps (recS o nx ps st i) i := by simp only [recS]; rw [if_pos h]
theorem ZmZ {i : Nat} (h : (recS o nx ps st i).pl.length ≤ i) (hi : i ≤ 256) : recR o nx ps st = recS o nx ps st i ∧ recO o nx ps st = false := by
 have e : recF o nx ps st = recS o nx ps st i := recF_eq.trans (ZhT h 256 hi)
 have h2 : recO o nx ps st = false := by unfold recO; rw [e]; simp; omega
 refine ⟨?_, h2⟩
 unfold recR; rw [h2, if_neg Bool.false_ne_true, e]
theorem Zol {i : Nat} (h : 256 < (recS o nx ps st i).pl.length) (hi : i ≤ 256) : recR o nx ps st = ⟨[], [], [], []⟩ ∧ recO o nx ps st = true := by
 have h1 : recO o nx ps st = true := by
  have := Zec (o := o) (nx := nx) (ps := ps) (st := st) hi
  unfold recO; rw [recF_eq]; simp; omega
 exact ⟨by unfold recR; rw [h1, if_pos rfl], h1⟩
theorem ZjF {i : Nat} (h0 : i < (recS o nx ps st i).pl.length) (h : 256 < (grow nx ps (recS o nx ps st i) i).1.length) (hi : i < 256) : recR o nx ps st = ⟨[], [], [], []⟩ ∧ recO o nx ps st = true :=
 Zol (i := i + 1) (by rw [ZcE h0]; exact h) (by omega)
end
theorem ZhK : ∀ {l1 l2 : List Int}, l1.Pairwise (· ≤ ·) → l2.Pairwise (· ≤ ·) → l1.Perm l2 → l1 = l2
 | [], l2, _, _, h => by rw [h.nil_eq]
 | a :: l1, l2, h1, h2, h => by
  cases l2 with
  | nil => exact absurd h.length_eq (by simp)
  | cons b l2 =>
   have e : a = b := by
    have ha : a ∈ b :: l2 := h.subset (List.mem_cons_self ..)
    have hb : b ∈ a :: l1 := h.symm.subset (List.mem_cons_self ..)
    rw [List.pairwise_cons] at h1 h2
    rcases List.mem_cons.1 ha with ha | ha
    ·exact ha
    ·rcases List.mem_cons.1 hb with hb | hb
     ·exact hb.symm
     ·have := h1.1 b hb
      have := h2.1 a ha
      omega
   subst e
   rw [ZhK (List.pairwise_cons.1 h1).2 (List.pairwise_cons.1 h2).2 ((List.perm_cons a).1 h)]
def insP (out : List Int) (k : Nat) (x : Int) : List Int := out.take k ++ ([x] ++ out.drop k)
theorem Zkw : (insP out k x).length = out.length + 1 := by
 unfold insP
 have := congrArg List.length (List.take_append_drop k out)
 simp only [List.length_append, List.length_singleton] at this ⊢
 omega
theorem Zr6 {l : List Int} (h : l.Pairwise (· ≤ ·)) {i j : Nat} (hij : i < j) (hj : j < l.length) : nth l i ≤ nth l j := by
 rw [Zaz (by omega), Zaz hj]
 exact (List.pairwise_iff_getElem.1 h) i j (by omega) hj hij
theorem Zs7 {l : List Int} {i : Nat} (hi : i < l.length) (h1 : out.Pairwise (· ≤ ·)) (h2 : out.Perm (l.take i)) (hk : k ≤ out.length) (hl : k = 0 ∨ nth out (k - 1) ≤ nth l i) (hu : ∀ j, k ≤ j → j < out.length → nth l i < nth out j) :
  (insP out k (nth l i)).Pairwise (· ≤ ·) ∧ (insP out k (nth l i)).Perm (l.take (i + 1)) := by
 have mt : ∀ x ∈ out.take k, x ≤ nth l i := fun x hx => by
  obtain ⟨j, hj, rfl⟩ := List.getElem_of_mem hx
  have hjk : j < k := by simp at hj; omega
  rw [List.getElem_take, ← Zaz (by omega)]
  rcases hl with hl | hl
  ·omega
  ·rcases Nat.lt_or_ge j (k - 1) with h3 | h3
   ·have := Zr6 h1 h3 (by omega); omega
   ·rw [show j = k - 1 by omega]; exact hl
 have md : ∀ x ∈ out.drop k, nth l i < x := fun x hx => by
  obtain ⟨j, hj, rfl⟩ := List.getElem_of_mem hx
  have hjk : k + j < out.length := by simp at hj; omega
  rw [List.getElem_drop, ← Zaz hjk]
  exact hu _ (by omega) hjk
 constructor
 ·unfold insP
  rw [List.pairwise_append]
  refine ⟨h1.sublist (List.take_sublist _ _), ?_, fun x hx y hy => ?_⟩
  ·rw [List.singleton_append, List.pairwise_cons]
   exact ⟨fun y hy => by have := md y hy; omega, h1.sublist (List.drop_sublist _ _)⟩
  ·have := mt x hx
   rw [List.singleton_append] at hy
   rcases List.mem_cons.1 hy with rfl | hy
   ·exact this
   ·have := md y hy; omega
 ·rw [ZaF hi]
  have e : (insP out k (nth l i)).Perm ([nth l i] ++ out) := by
   unfold insP
   rw [← List.append_assoc]
   refine ((List.perm_append_comm (l₁ := out.take k) (l₂ := [nth l i])).append_right _).trans ?_
   rw [List.append_assoc, List.take_append_drop]
  exact e.trans ((List.perm_append_comm).trans (h2.append_right _))
theorem Zp5 {l : List Int} {i : Nat} (hi : l.length ≤ i) (h1 : out.Pairwise (· ≤ ·)) (h2 : out.Perm (l.take i)) : out = Zev l := by
 rw [List.take_of_length_le hi] at h2
 exact ZhK h1 ZeF (h2.trans (List.mergeSort_perm _ _).symm)
end Go.Proofs.YtjjidamlmebaaaaGreat

