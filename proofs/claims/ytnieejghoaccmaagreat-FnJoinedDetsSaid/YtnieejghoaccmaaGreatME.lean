/- Sets as ascending lists; the states that are met again and again. No program in sight; no conditions. -/
import Derived.Test.YtnieejghoaccmaaGreatMS
import Derived.Lib.SlicesCompact
namespace Go.Proofs.YtnieejghoaccmaaGreat
open Go.RowKit
open Shp
variable {xs ys zs ts : List Int} {N p m j : Nat} {v q b o : Int} {f : Int → Int} {ps : List (List Int × List Int)}
def Asc (xs : List Int) : Prop := xs.Pairwise (· < ·)
theorem Zqp : ∀ {xs ys : List Int}, Asc xs → Asc ys → (∀ v, v ∈ xs ↔ v ∈ ys) → xs = ys
 | [], [], _, _, _ => rfl
 | [], y :: ys, _, _, h => by have := (h y).2 (by simp); simp at this
 | x :: xs, [], _, _, h => by have := (h x).1 (by simp); simp at this
 | x :: xs, y :: ys, hx, hy, h => by
  have hx' := List.pairwise_cons.1 hx
  have hy' := List.pairwise_cons.1 hy
  have e : x = y := by
   have h1 := (h x).1 (by simp)
   have h2 := (h y).2 (by simp)
   rcases List.mem_cons.1 h1 with h1 | h1
   ·exact h1
   ·rcases List.mem_cons.1 h2 with h2 | h2
    ·exact h2.symm
    ·have a := hy'.1 x h1; have b := hx'.1 y h2; omega
  subst e
  rw [Zqp hx'.2 hy'.2 fun v => ?_]
  have h3 := h v
  simp only [List.mem_cons] at h3
  constructor
  ·intro hv
   rcases h3.1 (.inr hv) with h4 | h4
   ·have := hx'.1 v hv; omega
   ·exact h4
  ·intro hv
   rcases h3.2 (.inr hv) with h4 | h4
   ·have := hy'.1 v hv; omega
   ·exact h4
def insZ (x : Int) : List Int → List Int
 | [] => [x]
 | y :: ys => if y < x then y :: insZ x ys else if y = x then y :: ys else x :: y :: ys
theorem insZ_mem {x : Int} : ∀ {ys : List Int} {v : Int}, v ∈ insZ x ys ↔ v = x ∨ v ∈ ys
 | [], v => by simp [insZ]
 | y :: ys, v => by
  unfold insZ
  split
  ·rw [List.mem_cons, insZ_mem, List.mem_cons]
   constructor
   ·rintro (h | h | h)
    ·exact .inr (.inl h)
    ·exact .inl h
    ·exact .inr (.inr h)
   ·rintro (h | h | h)
    ·exact .inr (.inl h)
    ·exact .inl h
    ·exact .inr (.inr h)
  ·split
   ·rename_i h; subst h
    simp only [List.mem_cons]
    constructor
    ·exact fun h => .inr h
    ·rintro (h | h)
     ·exact .inl h
     ·exact h
   ·simp only [List.mem_cons]
theorem ZnU {x : Int} : ∀ {ys : List Int}, Asc ys → Asc (insZ x ys)
 | [], _ => by simp [insZ, Asc]
 | y :: ys, h => by
  have h' := List.pairwise_cons.1 h
  unfold insZ
  split
  ·rename_i hlt
   refine List.pairwise_cons.2 ⟨fun v hv => ?_, ZnU h'.2⟩
   rcases insZ_mem.1 hv with rfl | hv
   ·exact hlt
   ·exact h'.1 v hv
  ·split
   ·exact h
   ·rename_i h1 h2
    refine List.pairwise_cons.2 ⟨fun v hv => ?_, h⟩
    rcases List.mem_cons.1 hv with rfl | hv
    ·omega
    ·have := h'.1 v hv; omega
theorem Zqr {x : Int} : ∀ {ys : List Int} (k : Nat), k ≤ ys.length → (∀ z, z < k → nth ys z < x) → (k < ys.length → x < nth ys k) → insZ x ys = ys.take k ++ [x] ++ ys.drop k
 | [], k, hk, _, _ => by
  have : k = 0 := by simpa using hk
  subst this; rfl
 | y :: ys, 0, _, _, h => by
  have h' : x < y := h (by simp)
  unfold insZ
  rw [if_neg (by omega), if_neg (by omega)]; rfl
 | y :: ys, k + 1, hk, hb, h => by
  have h0 : y < x := hb 0 (by omega)
  unfold insZ
  rw [if_pos h0, Zqr (ys := ys) k (by simpa using hk) (fun z hz => hb (z + 1) (by omega)) (fun hlt => h (by simpa using hlt))]
  rfl
theorem Zmm {x : Int} : ∀ {ys : List Int} (k : Nat), k < ys.length → (∀ z, z < k → nth ys z < x) → nth ys k = x → insZ x ys = ys
 | [], k, hk, _, _ => by simp at hk
 | y :: ys, 0, _, _, h => by
  have h' : y = x := h
  unfold insZ
  rw [if_neg (by omega), if_pos h']
 | y :: ys, k + 1, hk, hb, h => by
  have h0 : y < x := hb 0 (by omega)
  unfold insZ
  rw [if_pos h0, Zmm (ys := ys) k (by simpa using hk) (fun z hz => hb (z + 1) (by omega)) h]
def insL (xs : List Int) : List Int → List Int
 | [] => xs
 | y :: ys => insL (insZ y xs) ys
theorem insL_mem : ∀ {ys xs : List Int} {v : Int}, v ∈ insL xs ys ↔ v ∈ xs ∨ v ∈ ys
 | [], xs, v => by simp [insL]
 | y :: ys, xs, v => by
  simp only [insL]
  rw [insL_mem, insZ_mem, List.mem_cons]
  constructor
  ·rintro ((h | h) | h)
   ·exact .inr (.inl h)
   ·exact .inl h
   ·exact .inr (.inr h)
  ·rintro (h | h | h)
   ·exact .inl (.inr h)
   ·exact .inl (.inl h)
   ·exact .inr h
theorem Zkm : ∀ {ys xs : List Int}, Asc xs → Asc (insL xs ys)
 | [], _, h => h
 | _ :: ys, _, h => Zkm (ys := ys) (ZnU h)
theorem ZkT {x : Int} : ∀ {ys : List Int}, (insZ x ys).length ≤ ys.length + 1
 | [] => by simp [insZ]
 | y :: ys => by
  have := ZkT (x := x) (ys := ys)
  unfold insZ
  split
  ·simp only [List.length_cons]; omega
  ·split
   ·simp
   ·simp
theorem Zj3  {n : Int} {i : Nat} (h : below xs n = true) : below (xs.take i) n = true := by
 rw [below_iff] at h ⊢
 intro j hj
 rw [List.length_take] at hj
 have e : nth (xs.take i) j = nth xs j := by unfold nth; simp only [List.getD_eq_getElem?_getD]; rw [List.getElem?_take_of_lt (by omega)]
 rw [e]; exact h j (by omega)
theorem ZlK  {i : Nat} (h : i < ys.length) : insL xs (ys.drop i) = insL (insZ (nth ys i) xs) (ys.drop (i + 1)) := by rw [Ze2 h]; rfl
theorem ZhR  {i : Nat} (h : ys.length ≤ i) : insL xs (ys.drop i) = xs := by rw [List.drop_eq_nil_of_le h]; rfl
theorem Zpf {n : Int} : ∀ {xs : List Int}, Asc xs → (∀ v ∈ xs, 0 ≤ v ∧ v < n) → ZbS xs n = true := fun {xs} h hv => by
 unfold ZbS
 rw [allN_iff]
 intro j hj
 have h1 := hv _ (Zaz hj)
 simp only [Bool.and_eq_true, Bool.or_eq_true, decide_eq_true_eq]
 refine ⟨⟨h1.1, h1.2⟩, ?_⟩
 rcases Nat.eq_zero_or_pos j with h2 | h2
 ·exact .inl h2
 ·right
  rw [Zbu hj, Zbu (show j - 1 < xs.length by omega)]
  exact List.pairwise_iff_getElem.1 h (j - 1) j (by omega) hj (by omega)
theorem Zio {n : Int}  (h : ZbS xs n = true) : Asc xs := by
 unfold ZbS at h
 rw [allN_iff] at h
 have key : ∀ i d, i + d + 1 < xs.length → nth xs i < nth xs (i + d + 1) := by
  intro i d
  induction d with
  | zero =>
   intro hd
   have := h (i + 1) hd
   simp only [Bool.and_eq_true, Bool.or_eq_true, decide_eq_true_eq] at this
   rcases this.2 with q | q
   ·omega
   ·exact q
  | succ d ih =>
   intro hd
   have h1 := ih (by omega)
   have h2 := h (i + (d + 1) + 1) hd
   simp only [Bool.and_eq_true, Bool.or_eq_true, decide_eq_true_eq] at h2
   rcases h2.2 with q | q
   ·omega
   ·rw [show i + (d + 1) + 1 - 1 = i + d + 1 by omega] at q; omega
 refine List.pairwise_iff_getElem.2 fun i j hi hj hij => ?_
 rw [← Zbu hi, ← Zbu hj, show j = i + (j - i - 1) + 1 by omega]
 exact key i (j - i - 1) (by omega)
theorem ZpH  (h : Asc xs) (hv : ∀ v ∈ xs, 0 ≤ v ∧ v < (N : Int)) : xs.length ≤ N :=
 ZeU N xs (List.Pairwise.imp (fun h => by omega) h) hv
def ZoQ (xs : List Int) : List Int := xs.mergeSort fun x y => decide (x ≤ y)
theorem sortZ_len : (ZoQ xs).length = xs.length := List.length_mergeSort xs
theorem ZqP : v ∈ ZoQ xs ↔ v ∈ xs := List.mem_mergeSort
theorem Znp : (ZoQ xs).Pairwise (· ≤ ·) := by
 have := List.pairwise_mergeSort (le := fun x y : Int => decide (x ≤ y)) (fun a b c h1 h2 => by simp at *; omega) (fun a b => by simp; omega) xs
 exact List.Pairwise.imp (fun h => by simpa using h) this
open Go.Lib in
theorem ZgL {zs : List Int} (h : zs.Pairwise (· ≤ ·)) : ∀ m, m ≤ zs.length → Asc (compactUpTo zs.toArray m) ∧ (∀ v, v ∈ compactUpTo zs.toArray m ↔ ∃ j, j < m ∧ nth zs j = v)
 | 0, _ => ⟨by simp [compactUpTo, Asc], fun v => by simp [compactUpTo]⟩
 | m + 1, hm => by
  obtain ⟨h1, h2⟩ := ZgL h m (by omega)
  have hg : ∀ k, k < zs.length → zs.toArray[k]! = nth zs k := fun k hk => by
   rw [Zbu hk, getElem!_pos zs.toArray k (by simpa using hk)]; simp
  have hle : ∀ i j, i ≤ j → j < zs.length → nth zs i ≤ nth zs j := fun i j hij hj => by
   rcases Nat.lt_or_ge i j with h3 | h3
   ·rw [Zbu hj, Zbu (show i < zs.length by omega)]
    exact List.pairwise_iff_getElem.1 h i j (by omega) hj h3
   ·rw [show i = j by omega]; exact Int.le_refl _
  rw [compactUpTo_succ, hg m (by omega)]
  by_cases hk : keeps zs.toArray m = true
  ·rw [if_pos hk]
   unfold Go.Lib.keeps at hk
   rw [decide_eq_true_eq] at hk
   refine ⟨List.pairwise_append.2 ⟨h1, by simp, fun a ha b hb => ?_⟩, fun v => ?_⟩
   ·simp only [List.mem_singleton] at hb; subst hb
    obtain ⟨j, hj, rfl⟩ := (h2 a).1 ha
    rcases hk with hk | hk
    ·omega
    ·rw [hg m (by omega), hg (m - 1) (by omega)] at hk
     have q1 := hle j (m - 1) (by omega) (by omega)
     have q2 := hle (m - 1) m (by omega) (by omega)
     omega
   ·rw [List.mem_append, h2 v, List.mem_singleton]
    constructor
    ·rintro (⟨j, hj, e⟩ | e)
     ·exact ⟨j, by omega, e⟩
     ·exact ⟨m, by omega, e.symm⟩
    ·rintro ⟨j, hj, e⟩
     by_cases hjm : j = m
     ·subst hjm; exact .inr e.symm
     ·exact .inl ⟨j, by omega, e⟩
  ·rw [if_neg hk, List.append_nil]
   unfold Go.Lib.keeps at hk
   rw [decide_eq_true_eq] at hk
   have hm0 : m ≠ 0 := fun e => hk (.inl e)
   have hk2 : nth zs m = nth zs (m - 1) := by
    rw [← hg m (by omega), ← hg (m - 1) (by omega)]
    exact Classical.byContradiction fun e => hk (.inr e)
   refine ⟨h1, fun v => ?_⟩
   rw [h2 v]
   constructor
   ·rintro ⟨j, hj, e⟩; exact ⟨j, by omega, e⟩
   ·rintro ⟨j, hj, e⟩
    by_cases hjm : j = m
    ·subst hjm; exact ⟨j - 1, by omega, by rw [← hk2]; exact e⟩
    ·exact ⟨j, by omega, e⟩
def cmpZ (zs : List Int) : List Int := Go.Lib.compactUpTo zs.toArray zs.length
theorem ZrX  (h : zs.Pairwise (· ≤ ·)) : Asc (cmpZ zs) := (ZgL h _ (Nat.le_refl _)).1
theorem Zsw  (h : zs.Pairwise (· ≤ ·))  : v ∈ cmpZ zs ↔ v ∈ zs := by
 unfold cmpZ
 rw [(ZgL h _ (Nat.le_refl _)).2 v]
 constructor
 ·rintro ⟨j, hj, rfl⟩; exact Zaz hj
 ·intro hv; exact Zbx hv
theorem Zlf : (cmpZ zs).length ≤ zs.length := by
 unfold cmpZ Go.Lib.compactUpTo
 rw [List.length_map]
 exact Nat.le_trans (List.length_filter_le _ _) (by simp)
def setZ (xs : List Int) : List Int := cmpZ (ZoQ xs)
theorem ZuS  (hy : Asc ys) (h : ∀ v, v ∈ xs ↔ v ∈ ys) : setZ xs = ys :=
 Zqp (ZrX Znp) hy fun v => by rw [setZ, Zsw Znp, ZqP, h v]
def trN (n : List (List Int)) : Int → List Int → List Int
 | _, [] => []
 | q, x :: xs => nth (nth n q.toNat) x.toNat :: trN n (nth (nth n q.toNat) x.toNat) xs
theorem Zpm {n : List (List Int)} {W : Int} (hg : GoOk n W) : ∀ {xs : List Int} {q : Int}, below xs W = true → 0 ≤ q ∧ q < n.length → ∀ v ∈ trN n q xs, 0 ≤ v ∧ v < (n.length : Int)
 | [], _, _, _, v, hv => by simp [trN] at hv
 | x :: xs, q, hx, hq, v, hv => by
  have hx' := below_cons.1 hx
  have hs := hg.step hq hx'.1
  simp only [trN, List.mem_cons] at hv
  rcases hv with rfl | hv
  ·exact hs
  ·exact Zpm hg hx'.2 hs v hv
section
variable {n : List (List Int)} {W : Int} {l : List Int}
abbrev lapN (n : List (List Int)) (l : List Int) (q : Int) : Int := goN n q l
theorem Zf4 (hg : GoOk n W) (hl : below l W = true) {q : Int} (hq : 0 ≤ q ∧ q < n.length) : ∀ k, 0 ≤ it (lapN n l) k q ∧ it (lapN n l) k q < (n.length : Int)
 | 0 => hq
 | k + 1 => by rw [Zd8]; exact ZbP hg hl (Zf4 hg hl hq k)
theorem Zti  {f : Nat → Int} (h : ∀ k, 0 ≤ f k ∧ f k < (N : Int)) : ∃ i j, i < j ∧ j ≤ N ∧ f i = f j := by
 apply Classical.byContradiction
 intro hn
 have hnd : ((List.range (N + 1)).map f).Nodup := Zh6 List.nodup_range fun x hx y hy e => by
  rw [List.mem_range] at hx hy
  apply Classical.byContradiction
  intro hne
  rcases Nat.lt_or_ge x y with h1 | h1
  ·exact hn ⟨x, y, h1, by omega, e⟩
  ·exact hn ⟨y, x, by omega, by omega, e.symm⟩
 have := ZeU N _ hnd fun v hv => by
  obtain ⟨k, _, rfl⟩ := List.mem_map.1 hv
  exact h k
 simp at this; omega
theorem Zl4 (hg : GoOk n W) (hl : below l W = true)  (hq : 0 ≤ q ∧ q < n.length) : ∃ p, 1 ≤ p ∧ p ≤ n.length ∧ ∀ k, n.length ≤ k → it (lapN n l) (k + p) q = it (lapN n l) k q := by
 obtain ⟨i, j, hij, hj, e⟩ := Zti (Zf4 hg hl hq)
 refine ⟨j - i, by omega, by omega, fun k hk => ?_⟩
 have h1 : it (lapN n l) (k + (j - i)) q = it (lapN n l) (k - i) (it (lapN n l) j q) := by rw [← Zdo]; congr 1; omega
 have h2 : it (lapN n l) k q = it (lapN n l) (k - i) (it (lapN n l) i q) := by rw [← Zdo]; congr 1; omega
 rw [h1, h2, e]
def MetP (n : List (List Int)) (s l : List Int) (v : Int) : Prop := ∃ k, n.length ≤ k ∧ v ∈ trN n (it (lapN n l) k (goN n 0 s)) l
noncomputable def metN (n : List (List Int)) (s l : List Int) : List Int := ((List.range n.length).map fun (k : Nat) => (k : Int)).filter fun v => @decide (MetP n s l v) (Classical.propDecidable _)
theorem ZkA {s : List Int} : Asc (metN n s l) := by
 unfold metN Asc
 refine List.Pairwise.filter _ ?_
 rw [List.pairwise_map]
 exact List.Pairwise.imp (fun h => by omega) List.pairwise_lt_range
theorem Zko {s : List Int} (hg : GoOk n W) (hs : below s W = true) (hl : below l W = true) (hn : 1 ≤ n.length)  : v ∈ metN n s l ↔ MetP n s l v := by
 unfold metN
 rw [List.mem_filter, @decide_eq_true_eq _ (Classical.propDecidable _)]
 refine ⟨fun h => h.2, fun h => ⟨?_, h⟩⟩
 obtain ⟨k, _, hv⟩ := h
 have hq := ZbP hg hs (q := 0) ⟨by omega, by omega⟩
 have := Zpm hg hl (Zf4 hg hl hq k) v hv
 refine List.mem_map.2 ⟨v.toNat, List.mem_range.2 (by omega), by omega⟩
end
theorem Zdd {n : List (List Int)} : ∀ {l : List Int} {q : Int}, (trN n q l).length = l.length
 | [], _ => rfl
 | x :: xs, q => by simp only [trN, List.length_cons]; rw [Zdd]
theorem ZfX {n : List (List Int)} : ∀ {l : List Int} {q : Int} {i : Nat}, i < l.length → goN n q (l.take (i + 1)) = nth (nth n (goN n q (l.take i)).toNat) (nth l i).toNat
 | [], _, _, h => by simp at h
 | x :: xs, q, 0, _ => by simp [goN, nth]
 | x :: xs, q, i + 1, h => by
  have := ZfX (n := n) (l := xs) (q := nth (nth n q.toNat) x.toNat) (i := i) (by simpa using h)
  simp only [List.take_succ_cons, goN]
  rw [this]; rfl
theorem Zke {n : List (List Int)} : ∀ {l : List Int} {q : Int} {i : Nat}, i < l.length → nth (trN n q l) i = goN n q (l.take (i + 1))
 | [], _, _, h => by simp at h
 | x :: xs, q, 0, _ => by simp [goN, trN, nth]
 | x :: xs, q, i + 1, h => by
  have := Zke (n := n) (l := xs) (q := nth (nth n q.toNat) x.toNat) (i := i) (by simpa using h)
  simp only [List.take_succ_cons, goN]
  rw [← this]; rfl
theorem ZnS {n : List (List Int)} {l : List Int}  {i : Nat} (h : i < l.length) : (trN n q l).take i ++ [nth (nth n (goN n q (l.take i)).toNat) (nth l i).toNat] = (trN n q l).take (i + 1) := by
 rw [Zce (by rw [Zdd]; exact h), Zke h, ZfX h]
def Zd6 (n : List (List Int)) (l : List Int) (b : Int) : Nat → List Int
 | 0 => []
 | m + 1 => Zd6 n l b m ++ trN n (it (lapN n l) m b) l
theorem Zh8 {n : List (List Int)} {l : List Int} {b : Int} : ∀ {m : Nat}, (Zd6 n l b m).length = m * l.length
 | 0 => by simp [Zd6]
 | m + 1 => by simp only [Zd6, List.length_append]; rw [Zh8, Zdd, Nat.succ_mul]
theorem ZlD {n : List (List Int)} {l : List Int} {b v : Int} : ∀ {m : Nat}, v ∈ Zd6 n l b m ↔ ∃ i, i < m ∧ v ∈ trN n (it (lapN n l) i b) l
 | 0 => by simp [Zd6]
 | m + 1 => by
  simp only [Zd6, List.mem_append]
  rw [ZlD]
  constructor
  ·rintro (⟨i, hi, h⟩ | h)
   ·exact ⟨i, by omega, h⟩
   ·exact ⟨m, by omega, h⟩
  ·rintro ⟨i, hi, h⟩
   by_cases e : i = m
   ·subst e; exact .inr h
   ·exact .inl ⟨i, by omega, h⟩
theorem Ztj  (hp : 1 ≤ p) (h : it f p b = b) : ∀ j, it f j b = it f (j % p) b := by
 intro j
 induction j using Nat.strongRecOn with
 | _ j ih =>
  rcases Nat.lt_or_ge j p with h1 | h1
  ·rw [Nat.mod_eq_of_lt h1]
  ·have e : it f j b = it f (j - p) b := by
    rw [show j = p + (j - p) by omega, Zdo, h]; congr 1; omega
   rw [e, ih (j - p) (by omega), Nat.mod_eq_sub_mod h1]
section
variable {n : List (List Int)} {W : Int} {s l : List Int}
abbrev begN (n : List (List Int)) (s l : List Int) : Int := it (lapN n l) n.length (goN n 0 s)
theorem Zqq (hg : GoOk n W) (hs : below s W = true) (hl : below l W = true) (hn : 1 ≤ n.length) : ∃ p, 1 ≤ p ∧ p ≤ n.length ∧ it (lapN n l) p (begN n s l) = begN n s l := by
 obtain ⟨p, h1, h2, h3⟩ := Zl4 hg hl (ZbP hg hs (q := 0) ⟨by omega, by omega⟩)
 refine ⟨p, h1, h2, ?_⟩
 have := h3 n.length (Nat.le_refl _)
 rwa [Zdo] at this
theorem Zrb (hl0 : 1 ≤ l.length)  (hp : 1 ≤ p) (h : it (lapN n l) p (begN n s l) = begN n s l)  : v ∈ Zd6 n l (begN n s l) p ↔ MetP n s l v := by
 rw [ZlD]
 constructor
 ·rintro ⟨i, hi, hv⟩
  exact ⟨n.length + i, by omega, by rw [Zdo]; exact hv⟩
 ·rintro ⟨k, hk, hv⟩
  refine ⟨(k - n.length) % p, Nat.mod_lt _ (by omega), ?_⟩
  rw [← Ztj hp h, show it (lapN n l) (k - n.length) (begN n s l) = it (lapN n l) k (goN n 0 s) by
   show it (lapN n l) (k - n.length) (it (lapN n l) n.length (goN n 0 s)) = _
   rw [← Zdo]; congr 1; omega]
  exact hv
theorem Zvq (hg : GoOk n W) (hs : below s W = true) (hl : below l W = true) (hn : 1 ≤ n.length) (hl0 : 1 ≤ l.length)  (hp : 1 ≤ p) (h : it (lapN n l) p (begN n s l) = begN n s l) : setZ (Zd6 n l (begN n s l) p) = metN n s l :=
 ZuS ZkA fun v => by rw [Zrb hl0 hp h, Zko hg hs hl hn]
theorem Zkq (hg : GoOk n W) (hs : below s W = true) (hl : below l W = true) (hn : 1 ≤ n.length)  (h : ∀ i, 1 ≤ i → i ≤ m → ¬ it (lapN n l) i (begN n s l) = begN n s l) : m < n.length := by
 obtain ⟨p, h1, h2, h3⟩ := Zqq hg hs hl hn
 rcases Nat.lt_or_ge m p with h4 | h4
 ·omega
 ·exact absurd h3 (h p h1 h4)
def seqN (n : List (List Int)) (s l : List Int) (j : Nat) : List Int := (List.range j).map fun i => it (lapN n l) i (goN n 0 s)
theorem Zcj : (seqN n s l j).length = j := by simp [seqN]
theorem ZhT {i : Nat} (h : i < j) : nth (seqN n s l j) i = it (lapN n l) i (goN n 0 s) := by
 rw [Zbu (by rw [Zcj]; exact h)]; simp [seqN]
theorem Zmq : seqN n s l (j + 1) = seqN n s l j ++ [it (lapN n l) j (goN n 0 s)] := by simp [seqN, List.range_succ]
theorem ZrS {i : Nat} (h : i < j) : has (seqN n s l j) (it (lapN n l) i (goN n 0 s)) = true := has_iff.2 (by rw [← ZhT h]; exact Zaz (by rw [Zcj]; exact h))
theorem ZfY (hg : GoOk n W) (hs : below s W = true) (hl : below l W = true) (hn : 1 ≤ n.length)  (h : ∀ z, z < j → has (seqN n s l z) (it (lapN n l) z (goN n 0 s)) = false) : j ≤ n.length := by
 obtain ⟨a, b, hab, hb, e⟩ := Zti (Zf4 hg hl (ZbP hg hs (q := 0) ⟨by omega, by omega⟩))
 rcases Nat.lt_or_ge b j with h1 | h1
 ·have := h b h1
  rw [← e, ZrS hab] at this; cases this
 ·omega
def Zjo (n : List (List Int)) (s l : List Int) : Nat := (Zc4 (n.length + 1) fun j => has (seqN n s l j) (it (lapN n l) j (goN n 0 s))).toNat
def Zb0 (n : List (List Int)) (s l : List Int) : List Int := (seqN n s l (Zjo n s l)).drop (ZbK (seqN n s l (Zjo n s l)) (it (lapN n l) (Zjo n s l) (goN n 0 s))).toNat
theorem Zr5  (hj : j ≤ n.length) (h : ∀ z, z < j → has (seqN n s l z) (it (lapN n l) z (goN n 0 s)) = false) (h2 : has (seqN n s l j) (it (lapN n l) j (goN n 0 s)) = true) : Zjo n s l = j := by
 unfold Zjo; rw [ZbW j (by omega) h2 h]; simp
theorem Zpl  (hj : j ≤ n.length) (h2 : has (seqN n s l j) (it (lapN n l) j (goN n 0 s)) = true) (e : Zjo n s l = j)  : v ∈ Zb0 n s l ↔ ∃ k, n.length ≤ k ∧ v = it (lapN n l) k (goN n 0 s) := by
 obtain ⟨i0, hi0, e1, e2⟩ := ZjH (has_iff.1 h2)
 rw [Zcj] at hi0
 rw [ZhT hi0] at e2
 unfold Zb0
 rw [e, e1, Int.toNat_natCast]
 have hp : it (lapN n l) (j - i0) (it (lapN n l) i0 (goN n 0 s)) = it (lapN n l) i0 (goN n 0 s) := by
  rw [← Zdo, show i0 + (j - i0) = j by omega, e2]
 have hper := Ztj (by omega) hp
 have hmem : v ∈ (seqN n s l j).drop i0 ↔ ∃ i, i0 ≤ i ∧ i < j ∧ v = it (lapN n l) i (goN n 0 s) := by
  constructor
  ·intro hv
   obtain ⟨q, hq, rfl⟩ := Zbx hv
   rw [List.length_drop, Zcj] at hq
   have e3 : nth ((seqN n s l j).drop i0) q = nth (seqN n s l j) (i0 + q) := by unfold nth; simp only [List.getD_eq_getElem?_getD]; rw [List.getElem?_drop]
   exact ⟨i0 + q, by omega, by omega, by rw [e3, ZhT (by omega)]⟩
  ·rintro ⟨i, h3, h4, rfl⟩
   rw [← ZhT h4]
   have e3 : nth ((seqN n s l j).drop i0) (i - i0) = nth (seqN n s l j) i := by
    unfold nth; simp only [List.getD_eq_getElem?_getD]; rw [List.getElem?_drop]; congr 2; omega
   rw [← e3]
   exact Zaz (by rw [List.length_drop, Zcj]; omega)
 rw [hmem]
 constructor
 ·rintro ⟨i, h3, h4, rfl⟩
  refine ⟨i + n.length * (j - i0), ?_, ?_⟩
  ·have : n.length * 1 ≤ n.length * (j - i0) := Nat.mul_le_mul_left _ (by omega)
   omega
  ·have a1 : it (lapN n l) i (goN n 0 s) = it (lapN n l) (i - i0) (it (lapN n l) i0 (goN n 0 s)) := by rw [← Zdo]; congr 1; omega
   have a2 : it (lapN n l) (i + n.length * (j - i0)) (goN n 0 s) = it (lapN n l) ((i - i0) + n.length * (j - i0)) (it (lapN n l) i0 (goN n 0 s)) := by rw [← Zdo]; congr 1; omega
   rw [a1, a2, hper ((i - i0) + n.length * (j - i0)), Nat.add_mul_mod_self_right, ← hper]
 ·rintro ⟨k, hk, rfl⟩
  refine ⟨i0 + (k - i0) % (j - i0), by omega, ?_, ?_⟩
  ·have := Nat.mod_lt (k - i0) (y := j - i0) (by omega); omega
  ·have a1 : it (lapN n l) k (goN n 0 s) = it (lapN n l) (k - i0) (it (lapN n l) i0 (goN n 0 s)) := by rw [← Zdo]; congr 1; omega
   rw [a1, hper, ← Zdo]
theorem Znj (hg : GoOk n W) (hs : below s W = true) (hl : below l W = true) (hn : 1 ≤ n.length) : ∀ v ∈ Zb0 n s l, 0 ≤ v ∧ v < (n.length : Int) := fun v hv => by
 unfold Zb0 at hv
 have := List.mem_of_mem_drop hv
 obtain ⟨i, _, rfl⟩ := List.mem_map.1 this
 exact Zf4 hg hl (ZbP hg hs (q := 0) ⟨by omega, by omega⟩) i
theorem Znq (hg : GoOk n W) (hs : below s W = true) (hl : below l W = true) (hn : 1 ≤ n.length) : Zjo n s l ≤ n.length ∧ has (seqN n s l (Zjo n s l)) (it (lapN n l) (Zjo n s l) (goN n 0 s)) = true := by
 unfold Zjo
 rcases ZcC (n.length + 1) (fun j => has (seqN n s l j) (it (lapN n l) j (goN n 0 s))) with ⟨h1, h2⟩ | ⟨i, h1, h2, h3, h4⟩
 ·have := ZfY hg hs hl hn h2; omega
 ·rw [h2, Int.toNat_natCast]; exact ⟨by omega, h3⟩
theorem Zl0 (hg : GoOk n W) (hs : below s W = true) (hl : below l W = true) (hn : 1 ≤ n.length) : (Zb0 n s l).length ≤ n.length := by
 have := (Znq hg hs hl hn).1
 unfold Zb0; rw [List.length_drop, Zcj]; omega
theorem Zlz (hg : GoOk n W) (hs : below s W = true) (hl : below l W = true) (hn : 1 ≤ n.length) {o : List Int} {i : Nat} (hi : (Zb0 n s l).length ≤ i) (ha : Asc o) (hm : ∀ v, v ∈ o ↔ ∃ j, j < i ∧ j < (Zb0 n s l).length ∧ v ∈ trN n (nth (Zb0 n s l) j) l) : o = metN n s l :=
 Zqp ha ZkA fun v => by
  rw [hm v, Zko hg hs hl hn]
  obtain ⟨t1, t2⟩ := Znq hg hs hl hn
  have key := fun v => Zpl (v := v) t1 t2 rfl
  constructor
  ·rintro ⟨j, _, hj, hv⟩
   obtain ⟨k, hk, e⟩ := (key _).1 (Zaz hj)
   exact ⟨k, hk, by rw [← e]; exact hv⟩
  ·rintro ⟨k, hk, hv⟩
   obtain ⟨j, hj, e⟩ := Zbx ((key _).2 ⟨k, hk, rfl⟩)
   exact ⟨j, by omega, hj, by rw [e]; exact hv⟩
end
theorem ZsR {n : List (List Int)} {l o : List Int}  (h : ∀ v, v ∈ o ↔ ∃ k, k < j ∧ k < ts.length ∧ v ∈ trN n (nth ts k) l) (hj : j < ts.length) : ∀ v, v ∈ insL o (insL [] (trN n (nth ts j) l)) ↔ ∃ k, k < j + 1 ∧ k < ts.length ∧ v ∈ trN n (nth ts k) l := fun v => by
 rw [insL_mem, insL_mem, h v]
 constructor
 ·rintro (⟨k, h1, h2, h3⟩ | h1 | h1)
  ·exact ⟨k, by omega, h2, h3⟩
  ·simp at h1
  ·exact ⟨j, by omega, hj, h1⟩
 ·rintro ⟨k, h1, h2, h3⟩
  by_cases e : k = j
  ·subst e; exact .inr (.inr h3)
  ·exact .inl ⟨k, by omega, h2, h3⟩
theorem Zpu {n : List (List Int)} {l o : List Int}  (h : ∀ v ∈ o, 0 ≤ v ∧ v < 48) (h2 : ∀ v ∈ trN n q l, 0 ≤ v ∧ v < 48) : ∀ v ∈ insL o (insL [] (trN n q l)), 0 ≤ v ∧ v < 48 := fun v hv => by
 rcases insL_mem.1 hv with h1 | h1
 ·exact h v h1
 ·rcases insL_mem.1 h1 with h3 | h3
  ·simp at h3
  ·exact h2 v h3
theorem Zxt {n : List (List Int)} {l : List Int}  (h : j < ts.length → ∀ v ∈ trN n (nth ts j) l, 0 ≤ v ∧ v < 48) (hj : j < ts.length := by omega) : ∀ v ∈ insL [] (trN n (nth ts j) l), 0 ≤ v ∧ v < 48 := fun v hv => by
 rcases insL_mem.1 hv with h3 | h3
 ·simp at h3
 ·exact h hj v h3
theorem ZkJ  (h : Asc xs) (hv : ∀ v ∈ xs, 0 ≤ v ∧ v < 48) : setN xs 256 = true ∧ xs.length ≤ 256 := by
 have hl := ZpH (N := 48) h (fun v hm => by have := hv v hm; omega)
 refine ⟨?_, by omega⟩
 rw [ZjT (by omega) (by omega)]
 exact Zpf h fun v hm => by have := hv v hm; omega
theorem Zkj {n : List (List Int)} {l : List Int}  {i : Nat} (hi : l.length ≤ i) : goN n (it (lapN n l) m b) (l.take i) = it (lapN n l) (m + 1) b := by
 rw [List.take_of_length_le hi, Zd8]
theorem Zp8  (h : ∀ i, 1 ≤ i → i ≤ m → ¬ it f i b = b) (h2 : ¬ it f (m + 1) b = b) : ∀ i, 1 ≤ i → i ≤ m + 1 → ¬ it f i b = b := fun i h1 h3 => by
 by_cases e : i = m + 1
 ·subst e; exact h2
 ·exact h i h1 (by omega)
theorem Zbq {s l : List Int} {n : Int} (h : ZaN s l n = true) : below s n = true ∧ below l n = true := by
 unfold ZaN at h
 simp only [Bool.and_eq_true] at h
 exact ⟨h.1.2, h.2⟩
noncomputable def metB (i o : Int) (n : List (List Int)) (ps : List (List Int × List Int)) (s l : List Int) : List Int := if detB i o n ps = true ∧ ZaN s l (Zaa i o) = true then metN n s l else []
theorem ZqV {i : Int} {n : List (List Int)}  {s l : List Int} (h : detB i o n ps = true) (h2 : ZaN s l (Zaa i o) = true) : metB i o n ps s l = metN n s l := if_pos ⟨h, h2⟩
theorem ZkV {i : Int} {n : List (List Int)}  {s l : List Int} (h : detB i o n ps = false) : metB i o n ps s l = [] := if_neg (by rw [h]; simp)
theorem ZkZ {i : Int} {n : List (List Int)}  {s l : List Int} (h : ZaN s l (Zaa i o) = false) : metB i o n ps s l = [] := if_neg (by rw [h]; simp)
theorem ZmI {i : Int} {n : List (List Int)}  {s l : List Int} (h : sigB i o = false) : metB i o n ps s l = [] := ZkV (by unfold detB; rw [h]; rfl)
theorem ZsO {n : List (List Int)} {W : Int} {s l : List Int} (hg : GoOk n W) (hs : below s W = true) (hl : below l W = true) (hn : 1 ≤ n.length) : (metN n s l).length ≤ n.length := by
 unfold metN
 exact Nat.le_trans (List.length_filter_le _ _) (by simp)
end Go.Proofs.YtnieejghoaccmaaGreat

