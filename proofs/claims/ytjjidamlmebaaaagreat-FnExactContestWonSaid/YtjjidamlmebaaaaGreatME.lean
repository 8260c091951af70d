/- Sets as ascending lists; the states that are met again and again. No program in sight; no conditions. -/
import Derived.Test.YtjjidamlmebaaaaGreatJN
import Derived.Lib.SlicesCompact
namespace Go.Proofs.YtjjidamlmebaaaaGreat
open Go.RowKit
open Shp
variable {xs ys zs ts : List Int} {N p m j : Nat} {v q b o : Int} {f : Int → Int} {ps : List (List Int × List Int)}
def Asc (xs : List Int) : Prop := xs.Pairwise (· < ·)
theorem Zsa : ∀ {xs ys : List Int}, Asc xs → Asc ys → (∀ v, v ∈ xs ↔ v ∈ ys) → xs = ys
 | [], [], _, _, _ => rfl
 | [], y :: ys, _, _, h => by have := (h y).2 (by simp); simp at this
 | x :: xs, [], _, _, h => by have := (h x).1 (by simp); simp at this
 | x :: xs, y :: ys, hx, hy, h => by
  have hx' := List.pairwise_cons.1 hx
  have hy' := List.pairwise_cons.1 hy
  have e : x = y := by
   have h1 := (h x).1 (by simp)
   have h2 := (h y).2 (by simp)
   rcases List.mem_cons.1 h1 with h1 | h1
   ·exact h1
   ·rcases List.mem_cons.1 h2 with h2 | h2
    ·exact h2.symm
    ·have a := hy'.1 x h1; have b := hx'.1 y h2; omega
  subst e
  rw [Zsa hx'.2 hy'.2 fun v => ?_]
  have h3 := h v
  simp only [List.mem_cons] at h3
  constructor
  ·intro hv
   rcases h3.1 (.inr hv) with h4 | h4
   ·have := hx'.1 v hv; omega
   ·exact h4
  ·intro hv
   rcases h3.2 (.inr hv) with h4 | h4
   ·have := hy'.1 v hv; omega
   ·exact h4
def insZ (x : Int) : List Int → List Int
 | [] => [x]
 | y :: ys => if y < x then y :: insZ x ys else if y = x then y :: ys else x :: y :: ys
theorem insZ_mem {x : Int} : ∀ {ys : List Int} {v : Int}, v ∈ insZ x ys ↔ v = x ∨ v ∈ ys
 | [], v => by simp [insZ]
 | y :: ys, v => by
  unfold insZ
  split
  ·rw [List.mem_cons, insZ_mem, List.mem_cons]
   constructor
   ·rintro (h | h | h)
    ·exact .inr (.inl h)
    ·exact .inl h
    ·exact .inr (.inr h)
   ·rintro (h | h | h)
    ·exact .inr (.inl h)
    ·exact .inl h
    ·exact .inr (.inr h)
  ·split
   ·rename_i h; subst h
    simp only [List.mem_cons]
    constructor
    ·exact fun h => .inr h
    ·rintro (h | h)
     ·exact .inl h
     ·exact h
   ·simp only [List.mem_cons]
theorem Zm7 {x : Int} : ∀ {ys : List Int}, Asc ys → Asc (insZ x ys)
 | [], _ => by simp [insZ, Asc]
 | y :: ys, h => by
  have h' := List.pairwise_cons.1 h
  unfold insZ
  split
  ·rename_i hlt
   refine List.pairwise_cons.2 ⟨fun v hv => ?_, Zm7 h'.2⟩
   rcases insZ_mem.1 hv with rfl | hv
   ·exact hlt
   ·exact h'.1 v hv
  ·split
   ·exact h
   ·rename_i h1 h2
    refine List.pairwise_cons.2 ⟨fun v hv => ?_, h⟩
    rcases List.mem_cons.1 hv with rfl | hv
    ·omega
    ·have := h'.1 v hv; omega
theorem ZoI {x : Int} : ∀ {ys : List Int} (k : Nat), k ≤ ys.length → (∀ z, z < k → nth ys z < x) → (k < ys.length → x < nth ys k) → insZ x ys = ys.take k ++ [x] ++ ys.drop k
 | [], k, hk, _, _ => by
  have : k = 0 := by simpa using hk
  subst this; rfl
 | y :: ys, 0, _, _, h => by
  have h' : x < y := h (by simp)
  unfold insZ
  rw [if_neg (by omega), if_neg (by omega)]; rfl
 | y :: ys, k + 1, hk, hb, h => by
  have h0 : y < x := hb 0 (by omega)
  unfold insZ
  rw [if_pos h0, ZoI (ys := ys) k (by simpa using hk) (fun z hz => hb (z + 1) (by omega)) (fun hlt => h (by simpa using hlt))]
  rfl
theorem ZlP {x : Int} : ∀ {ys : List Int} (k : Nat), k < ys.length → (∀ z, z < k → nth ys z < x) → nth ys k = x → insZ x ys = ys
 | [], k, hk, _, _ => by simp at hk
 | y :: ys, 0, _, _, h => by
  have h' : y = x := h
  unfold insZ
  rw [if_neg (by omega), if_pos h']
 | y :: ys, k + 1, hk, hb, h => by
  have h0 : y < x := hb 0 (by omega)
  unfold insZ
  rw [if_pos h0, ZlP (ys := ys) k (by simpa using hk) (fun z hz => hb (z + 1) (by omega)) h]
def insL (xs : List Int) : List Int → List Int
 | [] => xs
 | y :: ys => insL (insZ y xs) ys
theorem Znb : ∀ {ys xs : List Int} {v : Int}, v ∈ insL xs ys ↔ v ∈ xs ∨ v ∈ ys
 | [], xs, v => by simp [insL]
 | y :: ys, xs, v => by
  simp only [insL]
  rw [Znb, insZ_mem, List.mem_cons]
  constructor
  ·rintro ((h | h) | h)
   ·exact .inr (.inl h)
   ·exact .inl h
   ·exact .inr (.inr h)
  ·rintro (h | h | h)
   ·exact .inl (.inr h)
   ·exact .inl (.inl h)
   ·exact .inr h
theorem ZmS : ∀ {ys xs : List Int}, Asc xs → Asc (insL xs ys)
 | [], _, h => h
 | _ :: ys, _, h => ZmS (ys := ys) (Zm7 h)
theorem Zng {x : Int} : ∀ {ys : List Int}, (insZ x ys).length ≤ ys.length + 1
 | [] => by simp [insZ]
 | y :: ys => by
  have := Zng (x := x) (ys := ys)
  unfold insZ
  split
  ·simp only [List.length_cons]; omega
  ·split
   ·simp
   ·simp
theorem Zpi  {i : Nat} (h : i < ys.length) : insL xs (ys.drop i) = insL (insZ (nth ys i) xs) (ys.drop (i + 1)) := by rw [Zga h]; rfl
theorem ZmN  {i : Nat} (h : ys.length ≤ i) : insL xs (ys.drop i) = xs := by rw [List.drop_eq_nil_of_le h]; rfl
theorem ZpC {n : Int} : ∀ {xs : List Int}, Asc xs → (∀ v ∈ xs, 0 ≤ v ∧ v < n) → Zbc xs n = true := fun {xs} h hv => by
 unfold Zbc
 rw [allN_iff]
 intro j hj
 have h1 := hv _ (ZaE hj)
 simp only [Bool.and_eq_true, Bool.or_eq_true, decide_eq_true_eq]
 refine ⟨⟨h1.1, h1.2⟩, ?_⟩
 rcases Nat.eq_zero_or_pos j with h2 | h2
 ·exact .inl h2
 ·right
  rw [Zaz hj, Zaz (show j - 1 < xs.length by omega)]
  exact List.pairwise_iff_getElem.1 h (j - 1) j (by omega) hj (by omega)
theorem Zdt {n : Int}  (h : Zbc xs n = true) : Asc xs := by
 unfold Zbc at h
 rw [allN_iff] at h
 have key : ∀ i d, i + d + 1 < xs.length → nth xs i < nth xs (i + d + 1) := by
  intro i d
  induction d with
  | zero =>
   intro hd
   have := h (i + 1) hd
   simp only [Bool.and_eq_true, Bool.or_eq_true, decide_eq_true_eq] at this
   rcases this.2 with q | q
   ·omega
   ·exact q
  | succ d ih =>
   intro hd
   have h1 := ih (by omega)
   have h2 := h (i + (d + 1) + 1) hd
   simp only [Bool.and_eq_true, Bool.or_eq_true, decide_eq_true_eq] at h2
   rcases h2.2 with q | q
   ·omega
   ·rw [show i + (d + 1) + 1 - 1 = i + d + 1 by omega] at q; omega
 refine List.pairwise_iff_getElem.2 fun i j hi hj hij => ?_
 rw [← Zaz hi, ← Zaz hj, show j = i + (j - i - 1) + 1 by omega]
 exact key i (j - i - 1) (by omega)
theorem Zsq  (h : Asc xs) (hv : ∀ v ∈ xs, 0 ≤ v ∧ v < (N : Int)) : xs.length ≤ N :=
 Zik N xs (List.Pairwise.imp (fun h => by omega) h) hv
def Zev (xs : List Int) : List Int := xs.mergeSort fun x y => decide (x ≤ y)
theorem sortZ_len : (Zev xs).length = xs.length := List.length_mergeSort xs
theorem sortZ_mem : v ∈ Zev xs ↔ v ∈ xs := List.mem_mergeSort
theorem ZeF : (Zev xs).Pairwise (· ≤ ·) := by
 have := List.pairwise_mergeSort (le := fun x y : Int => decide (x ≤ y)) (fun a b c h1 h2 => by simp at *; omega) (fun a b => by simp; omega) xs
 exact List.Pairwise.imp (fun h => by simpa using h) this
open Go.Lib in
theorem ZgI {zs : List Int} (h : zs.Pairwise (· ≤ ·)) : ∀ m, m ≤ zs.length → Asc (compactUpTo zs.toArray m) ∧ (∀ v, v ∈ compactUpTo zs.toArray m ↔ ∃ j, j < m ∧ nth zs j = v)
 | 0, _ => ⟨by simp [compactUpTo, Asc], fun v => by simp [compactUpTo]⟩
 | m + 1, hm => by
  obtain ⟨h1, h2⟩ := ZgI h m (by omega)
  have hg : ∀ k, k < zs.length → zs.toArray[k]! = nth zs k := fun k hk => by
   rw [Zaz hk, getElem!_pos zs.toArray k (by simpa using hk)]; simp
  have hle : ∀ i j, i ≤ j → j < zs.length → nth zs i ≤ nth zs j := fun i j hij hj => by
   rcases Nat.lt_or_ge i j with h3 | h3
   ·rw [Zaz hj, Zaz (show i < zs.length by omega)]
    exact List.pairwise_iff_getElem.1 h i j (by omega) hj h3
   ·rw [show i = j by omega]; exact Int.le_refl _
  rw [compactUpTo_succ, hg m (by omega)]
  by_cases hk : keeps zs.toArray m = true
  ·rw [if_pos hk]
   unfold Go.Lib.keeps at hk
   rw [decide_eq_true_eq] at hk
   refine ⟨List.pairwise_append.2 ⟨h1, by simp, fun a ha b hb => ?_⟩, fun v => ?_⟩
   ·simp only [List.mem_singleton] at hb; subst hb
    obtain ⟨j, hj, rfl⟩ := (h2 a).1 ha
    rcases hk with hk | hk
    ·omega
    ·rw [hg m (by omega), hg (m - 1) (by omega)] at hk
     have q1 := hle j (m - 1) (by omega) (by omega)
     have q2 := hle (m - 1) m (by omega) (by omega)
     omega
   ·rw [List.mem_append, h2 v, List.mem_singleton]
    constructor
    ·rintro (⟨j, hj, e⟩ | e)
     ·exact ⟨j, by omega, e⟩
     ·exact ⟨m, by omega, e.symm⟩
    ·rintro ⟨j, hj, e⟩
     by_cases hjm : j = m
     ·subst hjm; exact .inr e.symm
     ·exact .inl ⟨j, by omega, e⟩
  ·rw [if_neg hk, List.append_nil]
   unfold Go.Lib.keeps at hk
   rw [decide_eq_true_eq] at hk
   have hm0 : m ≠ 0 := fun e => hk (.inl e)
   have hk2 : nth zs m = nth zs (m - 1) := by
    rw [← hg m (by omega), ← hg (m - 1) (by omega)]
    exact Classical.byContradiction fun e => hk (.inr e)
   refine ⟨h1, fun v => ?_⟩
   rw [h2 v]
   constructor
   ·rintro ⟨j, hj, e⟩; exact ⟨j, by omega, e⟩
   ·rintro ⟨j, hj, e⟩
    by_cases hjm : j = m
    ·subst hjm; exact ⟨j - 1, by omega, by rw [← hk2]; exact e⟩
    ·exact ⟨j, by omega, e⟩
def cmpZ (zs : List Int) : List Int := Go.Lib.compactUpTo zs.toArray zs.length
theorem Znc  (h : zs.Pairwise (· ≤ ·)) : Asc (cmpZ zs) := (ZgI h _ (Nat.le_refl _)).1
theorem Zm8  (h : zs.Pairwise (· ≤ ·))  : v ∈ cmpZ zs ↔ v ∈ zs := by
 unfold cmpZ
 rw [(ZgI h _ (Nat.le_refl _)).2 v]
 constructor
 ·rintro ⟨j, hj, rfl⟩; exact ZaE hj
 ·intro hv; exact Zke hv
theorem ZhH : (cmpZ zs).length ≤ zs.length := by
 unfold cmpZ Go.Lib.compactUpTo
 rw [List.length_map]
 exact Nat.le_trans (List.length_filter_le _ _) (by simp)
def setZ (xs : List Int) : List Int := cmpZ (Zev xs)
theorem ZsK  (hy : Asc ys) (h : ∀ v, v ∈ xs ↔ v ∈ ys) : setZ xs = ys :=
 Zsa (Znc ZeF) hy fun v => by rw [setZ, Zm8 ZeF, sortZ_mem, h v]
theorem ZqF : Asc (setZ xs) := Znc ZeF
theorem setZ_mem : v ∈ setZ xs ↔ v ∈ xs := by rw [setZ, Zm8 ZeF, sortZ_mem]
section
variable {n : List (List Int)} {W : Int} {l : List Int}
end
section
variable {n : List (List Int)} {W : Int} {s l : List Int}
end
end Go.Proofs.YtjjidamlmebaaaaGreat

