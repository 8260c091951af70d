/- Games of places are right games. No program in sight; no conditions. -/
import Derived.Test.YtjjidamlmebaaaaGreatZT
namespace Go.Proofs.YtjjidamlmebaaaaGreat
open Go.RowKit
open Shp
variable {r : List Int} {v u : Int} {k : Nat} {α : Type}
structure PlOk (n k : Nat) (x : Pl) : Prop where
 at_ : 0 ≤ x.1 ∧ x.1 < n
 len : x.2.length = k
 rg : ∀ i ∈ x.2, 0 ≤ i ∧ i < k
section
variable {n : Nat} {o : List Int} {nx : List (List Int)} {ps : List (List Int × List Int)} {st : Int}
theorem Zjo {α : Type} {f : α → Bool} : ∀ {l : List α}, (l.filter f).length + (l.filter fun x => !f x).length = l.length
 | [] => rfl
 | x :: l => by
  have ih := Zjo (f := f) (l := l)
  cases hx : f x <;> simp [List.filter_cons, hx] <;> omega
theorem Zma : (nxR ps r v).length = r.length := by
 unfold nxR
 rw [List.length_append]
 exact Zjo (f := fun i : Int => has (nth ps i.toNat).2 v) (l := r)
theorem nxR_mem  {x : Int} : x ∈ nxR ps r v ↔ x ∈ r := by
 unfold nxR
 rw [List.mem_append, List.mem_filter, List.mem_filter]
 constructor
 ·rintro (h | h) <;> exact h.1
 ·intro h
  cases hx : has (nth ps x.toNat).2 v
  ·exact .inr ⟨h, by simp [hx]⟩
  ·exact .inl ⟨h, by simp [hx]⟩
theorem PlOk.next  {x : Pl} (h : PlOk n k x)  (hu : 0 ≤ u ∧ u < n) : PlOk n k (u, nxR ps x.2 x.1) := ⟨hu, by rw [← h.len]; exact Zma, fun i hi => h.rg i (nxR_mem.1 hi)⟩
theorem ZyW  (hu : 0 ≤ u ∧ u < n) : PlOk n k (u, upI k) := ⟨hu, ZaQ k, fun i hi => upI_mem.1 hi⟩
theorem ZuR  {s : List Pl × List Int}  (hs : ∀ x ∈ s.1, PlOk n k x) (hu : PlOk n k (u, r)) : ∀ x ∈ (addP r s u).1, PlOk n k x := fun x hx => by
 unfold addP at hx
 split at hx
 ·rcases List.mem_append.1 hx with hx | hx
  ·exact hs x hx
  ·rw [List.mem_singleton.1 hx]; exact hu
 ·exact hs x hx
theorem ZpP {k : Nat} {r : List Int} : ∀ {us : List Int} {s : List Pl × List Int}, (∀ x ∈ s.1, PlOk n k x) → (∀ u ∈ us, PlOk n k (u, r)) → ∀ x ∈ (addL r s us).1, PlOk n k x
 | [], s, hs, _ => hs
 | u :: us, s, hs, hu => ZpP (us := us) (s := addP r s u) (ZuR hs (hu u (List.mem_cons_self ..))) fun y hy => hu y (List.mem_cons_of_mem _ hy)
theorem Zf6 {i : Nat} {s : RS} (hs : ∀ x ∈ s.pl, PlOk n k x) (hi : i < s.pl.length) : PlOk n k (nth s.pl i) ∧ atQ s i < n ∧ ((atQ s i : Nat) : Int) = (nth s.pl i).1 := by
 have h := hs _ (ZaE hi)
 have := h.at_
 exact ⟨h, by unfold atQ; omega, by unfold atQ; omega⟩
theorem Zj0 (ha : AOK n o nx) (hst : 0 ≤ st ∧ st < n) : ∀ i, ∀ x ∈ (recS o nx ps st i).pl, PlOk n ps.length x
 | 0, x, hx => by
  simp only [recS] at hx
  rw [List.mem_singleton.1 hx]; exact ZyW hst
 | i + 1, x, hx => by
  have ih := Zj0 ha hst i
  simp only [recS] at hx
  split at hx
  ·rename_i hi
   obtain ⟨h1, h2, h3⟩ := Zf6 ih hi
   exact ZpP ih (fun u hu => h1.next (ZfH (ha.up _ h2) u hu)) x hx
  ·exact ih x hx
theorem Zeo : ∀ {i : Nat}, i ≤ (recS o nx ps st i).pl.length → (recS o nx ps st i).ow.length = i ∧ (recS o nx ps st i).nx.length = i ∧ (recS o nx ps st i).pr.length = i
 | 0, _ => by simp [recS]
 | i + 1, h => by
  simp only [recS] at h ⊢
  split
  ·rename_i hi
   have ih := Zeo (i := i) (by omega)
   unfold Zfi
   simp only [List.length_append, List.length_singleton]
   omega
  ·rename_i hi
   rw [if_neg hi] at h
   omega
theorem ZeB : ∀ i, 1 ≤ (recS o nx ps st i).pl.length
 | 0 => by simp [recS]
 | i + 1 => Nat.le_trans (ZeB i) (Zec (Nat.le_succ i))
theorem Zwv {pl : List Pl}   (h : ¬ fndP pl u r < 0) : (fndP pl u r).toNat < pl.length ∧ 0 ≤ fndP pl u r ∧ nth pl (fndP pl u r).toNat = (u, r) := by
 unfold fndP at h ⊢
 rcases ZgJ pl.length (fun i => (nth pl i).1 == u && decide ((nth pl i).2 = r)) with ⟨e, _⟩ | ⟨i, hi, e, hp, _⟩
 ·rw [e] at h; omega
 ·rw [e]
  simp only [Bool.and_eq_true, beq_iff_eq, decide_eq_true_eq] at hp
  refine ⟨by simpa using hi, by omega, ?_⟩
  simp only [Int.toNat_natCast]
  exact Prod.ext hp.1 hp.2
theorem Zc9  [Inhabited α] {l m : List α} {i : Nat} (h : i < l.length) : nth (l ++ m) i = nth l i := by rw [Zaz (by simp; omega), Zaz h, List.getElem_append_left h]
theorem ZcQ  [Inhabited α] {l : List α} {x : α} : nth (l ++ [x]) l.length = x := by rw [Zaz (by simp)]; simp
structure Nxt (r : List Int) (us : List Int) (pl : List Pl) (nt : List Int) : Prop where
 len : nt.length = us.length
 at_ : ∀ m, m < us.length → 0 ≤ nth nt m ∧ (nth nt m).toNat < pl.length ∧ nth pl (nth nt m).toNat = (nth us m, r)
theorem Znh {r : List Int} {pl : List Pl} {us : List Int} : ∀ {k : Nat}, k ≤ us.length → Nxt r (us.take k) (addL r (pl, []) (us.take k)).1 (addL r (pl, []) (us.take k)).2 ∧ ∀ m, m < pl.length → nth (addL r (pl, []) (us.take k)).1 m = nth pl m
 | 0, _ => ⟨⟨by simp [addL], fun m hm => by simp at hm⟩, fun m _ => rfl⟩
 | k + 1, hk => by
  obtain ⟨ih, ih2⟩ := Znh (r := r) (pl := pl) (us := us) (k := k) (by omega)
  have h1 := addL_len (r := r) (us := us.take k) (s := (pl, []))
  have hlt : (us.take k).length = k := by rw [List.length_take]; omega
  by_cases hf : fndP (addL r (pl, []) (us.take k)).1 (nth us k) r < 0
  ·rw [ZfY (by omega) hf]
   refine ⟨⟨?_, fun m hm => ?_⟩, fun m hm => ?_⟩
   ·rw [List.length_append, ih.len, List.length_singleton, hlt, List.length_take]; omega
   ·have hm' : m < k + 1 := by rw [List.length_take] at hm; omega
    simp only
    by_cases e : m < k
    ·have := ih.at_ m (by omega)
     rw [Zc9 (by rw [ih.len, hlt]; exact e), Zc9 this.2.1]
     refine ⟨this.1, by rw [List.length_append]; omega, ?_⟩
     rw [this.2.2, ZaF (by omega), Zc9 (by omega)]
    ·have e2 : m = (addL r (pl, []) (us.take k)).2.length := by rw [ih.len, hlt]; omega
     have e3 : m = (us.take k).length := by omega
     have e4 : nth ((addL r (pl, []) (us.take k)).2 ++ [(((addL r (pl, []) (us.take k)).1.length : Nat) : Int)]) m = (((addL r (pl, []) (us.take k)).1.length : Nat) : Int) := by rw [e2]; exact ZcQ
     rw [e4]
     refine ⟨by omega, by simp, ?_⟩
     rw [Int.toNat_natCast, ZcQ, ZaF (by omega), e3, ZcQ]
   ·simp only
    rw [Zc9 (Nat.lt_of_lt_of_le hm h1.1)]; exact ih2 m hm
  ·rw [ZhF (by omega) hf]
   have hfa := Zwv hf
   refine ⟨⟨?_, fun m hm => ?_⟩, fun m hm => ?_⟩
   ·rw [List.length_append, ih.len, List.length_singleton, hlt, List.length_take]; omega
   ·have hm' : m < k + 1 := by rw [List.length_take] at hm; omega
    simp only
    by_cases e : m < k
    ·have := ih.at_ m (by omega)
     rw [Zc9 (by rw [ih.len, hlt]; exact e)]
     refine ⟨this.1, this.2.1, ?_⟩
     rw [this.2.2, ZaF (by omega), Zc9 (by omega)]
    ·have e2 : m = (addL r (pl, []) (us.take k)).2.length := by rw [ih.len, hlt]; omega
     have e3 : m = (us.take k).length := by omega
     have e4 : nth ((addL r (pl, []) (us.take k)).2 ++ [fndP (addL r (pl, []) (us.take k)).1 (nth us k) r]) m = fndP (addL r (pl, []) (us.take k)).1 (nth us k) r := by rw [e2]; exact ZcQ
     rw [e4]
     refine ⟨hfa.2.1, hfa.1, ?_⟩
     rw [hfa.2.2, ZaF (by omega), e3, ZcQ]
   ·exact ih2 m hm
theorem addL_all  {pl : List Pl} {us : List Int} : Nxt r us (addL r (pl, []) us).1 (addL r (pl, []) us).2 ∧ ∀ m, m < pl.length → nth (addL r (pl, []) us).1 m = nth pl m := by
 have := Znh (r := r) (pl := pl) (us := us) (k := us.length) (Nat.le_refl _)
 rwa [List.take_length] at this
theorem Nxt.nodup {r us : List Int} {pl : List Pl} {nt : List Int} (h : Nxt r us pl nt) (hn : us.Nodup) : nt.Nodup := by
 rw [List.nodup_iff_pairwise_ne, List.pairwise_iff_getElem]
 intro i j hi hj hij e
 have hl := h.len
 have h1 := h.at_ i (by omega)
 have h2 := h.at_ j (by omega)
 rw [Zaz hi] at h1
 rw [Zaz hj, ← e] at h2
 have h3 := h1.2.2.symm.trans h2.2.2
 have h4 : nth us i = nth us j := congrArg Prod.fst h3
 rw [Zaz (by omega), Zaz (by omega)] at h4
 rw [List.nodup_iff_pairwise_ne, List.pairwise_iff_getElem] at hn
 exact hn i j (by omega) (by omega) hij h4
theorem Zn7 {l : List Int} {m : Nat} (hn : l.Nodup) (h : ∀ x ∈ l, 0 ≤ x ∧ x < m) : Zbc (Zev l) m = true := by
 have hnd : (Zev l).Nodup := (List.mergeSort_perm l _).nodup_iff.2 hn
 unfold Zbc
 rw [allN_iff]
 intro j hj
 have hm := h _ (sortZ_mem.1 (ZaE hj))
 simp only [Bool.and_eq_true, decide_eq_true_eq, Bool.or_eq_true]
 refine ⟨hm, ?_⟩
 by_cases e : j = 0
 ·exact .inl e
 ·right
  have h1 := Zr6 (ZeF (xs := l)) (show j - 1 < j by omega) hj
  have h2 : nth (Zev l) (j - 1) ≠ nth (Zev l) j := fun e2 => by
   rw [Zaz (by omega), Zaz hj] at e2
   rw [List.nodup_iff_pairwise_ne, List.pairwise_iff_getElem] at hnd
   exact hnd (j - 1) j (by omega) hj (by omega) e2
  omega
theorem Zte  (hr : r.length ≤ 4) : 0 ≤ prQ ps r v ∧ prQ ps r v ≤ 40 := by
 unfold prQ prG
 have h1 := ZbN (fun i => has (nth ps i.toNat).1 v) r r.length
 have h2 := ZbN (fun i => has (nth ps i.toNat).2 v) r r.length
 split
 ·omega
 ·split <;> omega
theorem Zgr {xs : List Int} {n m : Int} (h : Zbc xs n = true) (hn : n ≤ m) : Zbc xs m = true := by
 unfold Zbc at h ⊢
 rw [allN_iff] at h ⊢
 intro j hj
 have := h j hj
 simp only [Bool.and_eq_true, decide_eq_true_eq, Bool.or_eq_true] at this ⊢
 exact ⟨⟨this.1.1, by omega⟩, this.2⟩
theorem ZkU (ha : AOK n o nx) (hst : 0 ≤ st ∧ st < n) (hp : ps.length ≤ 4) : ∀ {i : Nat}, i ≤ (recS o nx ps st i).pl.length → ∀ j, j < i → (nth (recS o nx ps st i).ow j = 0 ∨ nth (recS o nx ps st i).ow j = 1) ∧ (1 ≤ (nth (recS o nx ps st i).nx j).length ∧ (nth (recS o nx ps st i).nx j).length ≤ 16) ∧
  Zbc (nth (recS o nx ps st i).nx j) (recS o nx ps st i).pl.length = true ∧ 0 ≤ nth (recS o nx ps st i).pr j ∧ nth (recS o nx ps st i).pr j ≤ 40
 | 0, _, j, hj => by omega
 | i + 1, h, j, hj => by
  by_cases hi : i < (recS o nx ps st i).pl.length
  ·have hl := Zeo (o := o) (nx := nx) (ps := ps) (st := st) (i := i) (by omega)
   have hok := Zj0 (ps := ps) ha hst i
   obtain ⟨h1, h2, h3⟩ := Zf6 hok hi
   have hmono := Zec (o := o) (nx := nx) (ps := ps) (st := st) (Nat.le_succ i)
   rw [ZcE hi] at h hmono ⊢
   by_cases e : j < i
   ·have ih := ZkU ha hst hp (i := i) (by omega) j e
    have e1 : nth (Zfi o nx ps (recS o nx ps st i) i).ow j = nth (recS o nx ps st i).ow j := Zc9 (by omega)
    have e2 : nth (Zfi o nx ps (recS o nx ps st i) i).nx j = nth (recS o nx ps st i).nx j := Zc9 (by omega)
    have e3 : nth (Zfi o nx ps (recS o nx ps st i) i).pr j = nth (recS o nx ps st i).pr j := Zc9 (by omega)
    rw [e1, e2, e3]
    exact ⟨ih.1, ih.2.1, Zgr ih.2.2.1 (by omega), ih.2.2.2⟩
   ·have ej : j = i := by omega
    subst ej
    have e1 : nth (Zfi o nx ps (recS o nx ps st j) j).ow j = nth o (atQ (recS o nx ps st j) j) := by
     have : nth ((recS o nx ps st j).ow ++ [nth o (atQ (recS o nx ps st j) j)]) (recS o nx ps st j).ow.length = _ := ZcQ
     rw [hl.1] at this; exact this
    have e2 : nth (Zfi o nx ps (recS o nx ps st j) j).nx j = Zev (grow nx ps (recS o nx ps st j) j).2 := by
     have : nth ((recS o nx ps st j).nx ++ [Zev (grow nx ps (recS o nx ps st j) j).2]) (recS o nx ps st j).nx.length = _ := ZcQ
     rw [hl.2.1] at this; exact this
    have e3 : nth (Zfi o nx ps (recS o nx ps st j) j).pr j = prQ ps (nth (recS o nx ps st j).pl j).2 (nth (recS o nx ps st j).pl j).1 := by
     have : nth ((recS o nx ps st j).pr ++ [prQ ps (nth (recS o nx ps st j).pl j).2 (nth (recS o nx ps st j).pl j).1]) (recS o nx ps st j).pr.length = _ := ZcQ
     rw [hl.2.2] at this; exact this
    rw [e1, e2, e3]
    have hN : Nxt (rcR ps (recS o nx ps st j) j) (nth nx (atQ (recS o nx ps st j) j)) (grow nx ps (recS o nx ps st j) j).1 (grow nx ps (recS o nx ps st j) j).2 := addL_all.1
    have hout := ha.out _ h2
    have hlen : (grow nx ps (recS o nx ps st j) j).2.length = (nth nx (atQ (recS o nx ps st j) j)).length := hN.len
    refine ⟨ha.ow _ h2, ?_, ?_, Zte (by rw [h1.len]; exact hp)⟩
    ·rw [sortZ_len, hlen]; exact hout
    ·refine Zn7 (hN.nodup (ZgC (Zdt (ha.up _ h2)))) fun x hx => ?_
     obtain ⟨m, hm, rfl⟩ := List.getElem_of_mem hx
     have := hN.at_ m (by rw [← hN.len]; exact hm)
     rw [Zaz hm] at this
     have h9 : ((grow nx ps (recS o nx ps st j) j).1.length : Int) = (Zfi o nx ps (recS o nx ps st j) j).pl.length := rfl
     omega
  ·have : recS o nx ps st (i + 1) = recS o nx ps st i := by simp only [recS]; rw [if_neg hi]
   rw [this] at h; omega
theorem ZdK (ha : AOK n o nx) (hst : 0 ≤ st ∧ st < n) (hp : ps.length ≤ 4) (hov : recO o nx ps st = false) : POK (recF o nx ps st).pl.length (recF o nx ps st).ow (recF o nx ps st).nx (recF o nx ps st).pr := by
 have h1 : (recF o nx ps st).pl.length ≤ 256 := by unfold recO at hov; simpa using hov
 have hpos := ZeB (o := o) (nx := nx) (ps := ps) (st := st) 256
 have hstage : ∃ i, i ≤ 256 ∧ (recS o nx ps st i).pl.length = i := by
  apply Classical.byContradiction
  intro hc
  have key : ∀ i, i ≤ 256 → i < (recS o nx ps st i).pl.length ∨ i = 0 := fun i => by
   induction i with
   | zero => intro _; exact .inr rfl
   | succ i ih =>
    intro hi
    have h0 := ih (by omega)
    have hp0 := ZeB (o := o) (nx := nx) (ps := ps) (st := st) i
    have hm := Zec (o := o) (nx := nx) (ps := ps) (st := st) (i := i) (j := i + 1) (by omega)
    have hne : (recS o nx ps st (i + 1)).pl.length ≠ i + 1 := fun e => hc ⟨i + 1, hi, e⟩
    left
    rcases h0 with h0 | h0 <;> omega
  have := key 256 (Nat.le_refl _)
  rw [recF_eq] at h1
  omega
 obtain ⟨i, hi, he⟩ := hstage
 have e : recF o nx ps st = recS o nx ps st i := recF_eq.trans (ZhT (by omega) 256 hi)
 have hposi := ZeB (o := o) (nx := nx) (ps := ps) (st := st) i
 rw [e, he]
 have hl := Zeo (o := o) (nx := nx) (ps := ps) (st := st) (i := i) (by omega)
 have hr := ZkU ha hst hp (i := i) (by omega)
 rw [he] at hr
 exact ⟨⟨by omega, hl.1, hl.2.1, fun v hv => (hr v hv).1, fun v hv => (hr v hv).2.1, fun v hv => (hr v hv).2.2.1⟩, hl.2.2, fun v hv => (hr v hv).2.2.2⟩
end
end Go.Proofs.YtjjidamlmebaaaaGreat

