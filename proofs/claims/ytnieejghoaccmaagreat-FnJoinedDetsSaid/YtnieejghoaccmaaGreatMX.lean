/- Endless runs of automata; monitors say what their clauses say. No program in sight; no conditions. -/
import Derived.Test.YtnieejghoaccmaaGreatME
import Derived.Test.YtnieejghoaccmaaGreatPO
import Derived.Test.YtnieejghoaccmaaGreatM2
namespace Go.Proofs.YtnieejghoaccmaaGreat
open Go.RowKit
open Shp
variable {xs ys : List Int}
def Zdj (xs ys : List Int) : List Int := xs.filter fun x => !has ys x
theorem Zi6 : (Zdj xs ys).length ≤ xs.length := List.length_filter_le _ _
theorem Zih  {i : Nat} (h : i < xs.length) (hh : has ys (nth xs i) = false) : Zdj (xs.take (i + 1)) ys = Zdj (xs.take i) ys ++ [nth xs i] := by
 unfold Zdj; rw [Zce h, List.filter_append]; simp [hh]
theorem Znk  {i : Nat} (h : i < xs.length) (hh : has ys (nth xs i) = true) : Zdj (xs.take (i + 1)) ys = Zdj (xs.take i) ys := by
 unfold Zdj; rw [Zce h, List.filter_append]; simp [hh]
def ZcJ (xs ys : List Int) : Bool := xs.any fun x => has ys x
theorem meetB_iff : ZcJ xs ys = true ↔ ∃ v, v ∈ xs ∧ v ∈ ys := by
 unfold ZcJ; rw [List.any_eq_true]
 constructor
 ·rintro ⟨v, h1, h2⟩; exact ⟨v, h1, has_iff.1 h2⟩
 ·rintro ⟨v, h1, h2⟩; exact ⟨v, h1, has_iff.2 h2⟩
theorem ZrT : decide (((Zdj xs ys).length : Int) < (xs.length : Nat)) = ZcJ xs ys := by
 have key : ∀ xs : List Int, ((Zdj xs ys).length < xs.length) ↔ ZcJ xs ys = true := by
  intro xs
  induction xs with
  | nil => simp [Zdj, ZcJ]
  | cons x xs ih =>
   have hle := Zi6 (xs := xs) (ys := ys)
   cases e : has ys x
   ·have h1 : Zdj (x :: xs) ys = x :: Zdj xs ys := by simp [Zdj, e]
    have h2 : ZcJ (x :: xs) ys = ZcJ xs ys := by simp [ZcJ, e]
    rw [h1, h2, List.length_cons, List.length_cons, ← ih]; omega
   ·have h1 : Zdj (x :: xs) ys = Zdj xs ys := by simp [Zdj, e]
    have h2 : ZcJ (x :: xs) ys = true := by simp [ZcJ, e]
    rw [h1, h2, List.length_cons]
    simp; omega
 rw [Bool.eq_iff_iff, decide_eq_true_eq, ← key xs]; omega
theorem ZsA  {i : Nat} (hi : i < xs.length) (h : has ys (nth xs i) = true) : ZcJ ys xs = true := meetB_iff.2 ⟨_, has_iff.1 h, Zaz hi⟩
theorem Zu4  {i : Nat} (hi : xs.length ≤ i) (h : ∀ z, z < i → (!has ys (nth xs z)) = true) : ZcJ ys xs = false := by
 cases e : ZcJ ys xs
 ·rfl
 ·obtain ⟨v, h1, h2⟩ := meetB_iff.1 e
  obtain ⟨z, hz, rfl⟩ := Zbx h2
  have := h z (by omega)
  rw [has_iff.2 h1] at this; cases this
def brkZ (ps : List (List Int × List Int)) (met : List Int) : Nat → List Int
 | 0 => []
 | k + 1 => if ZcJ met (nth ps k).1 = true ∧ ZcJ met (nth ps k).2 = false then brkZ ps met k ++ [(k : Int)] else brkZ ps met k
section
variable {ps : List (List Int × List Int)} {met : List Int} {k : Nat}
theorem Zka (h : ZcJ met (nth ps k).1 = true) (h2 : ZcJ met (nth ps k).2 = false) : brkZ ps met (k + 1) = brkZ ps met k ++ [(k : Int)] := by simp only [brkZ]; rw [if_pos ⟨h, h2⟩]
theorem Zn2 (h : ZcJ met (nth ps k).1 = false) : brkZ ps met (k + 1) = brkZ ps met k := by simp only [brkZ]; rw [if_neg (by rw [h]; simp)]
theorem Zn1 (h : ZcJ met (nth ps k).2 = true) : brkZ ps met (k + 1) = brkZ ps met k := by simp only [brkZ]; rw [if_neg (by rw [h]; simp)]
end
theorem Zkb {ps : List (List Int × List Int)} {met : List Int} : ∀ {k : Nat}, (brkZ ps met k).length ≤ k
 | 0 => Nat.le_refl _
 | k + 1 => by
  have := Zkb (ps := ps) (met := met) (k := k)
  simp only [brkZ]; split
  ·simp; omega
  ·omega
theorem ZjJ  {n m : Int} (h : ZbS xs n = true) (hm : n ≤ m) : ZbS xs m = true := by
 unfold ZbS at *
 rw [allN_iff] at h ⊢
 intro j hj
 have := h j hj
 simp only [Bool.and_eq_true, Bool.or_eq_true, decide_eq_true_eq] at this ⊢
 exact ⟨⟨this.1.1, by omega⟩, this.2⟩
theorem Zns {i o : Int} {n : List (List Int)} {ps : List (List Int × List Int)} (h : detB i o n ps = true) : Zei ps 256 = true := by
 obtain ⟨_, ⟨_, h1⟩, h2, _⟩ := detB_iff.1 h
 obtain ⟨h3, h4⟩ := pairsB_iff.1 h2
 exact pairsB_iff.2 ⟨h3, fun p hp => ⟨ZjJ (h4 p hp).1 (by omega), ZjJ (h4 p hp).2 (by omega)⟩⟩
theorem ZjO  {n : Int} (h : ZbS xs n = true) (h0 : n ≤ 600) : xs.length ≤ 600 := by
 have hb := below_iff.1 (ZmW h)
 exact ZpH (N := 600) (Zio h) fun v hv => by
  obtain ⟨k, hk, rfl⟩ := Zbx hv
  have := hb k hk; omega
theorem ZpE {i o : Int} {n : List (List Int)} {ps : List (List Int × List Int)} (h : detB i o n ps = true) : ∀ k, k < ps.length → (Asc (nth ps k).1 ∧ (nth ps k).1.length ≤ 600) ∧ Asc (nth ps k).2 ∧ (nth ps k).2.length ≤ 600 := fun k hk => by
 have := (pairsB_iff.1 (Zns h)).2 _ (Zaz hk)
 exact ⟨⟨Zio this.1, ZjO this.1 (by omega)⟩, Zio this.2, ZjO this.2 (by omega)⟩
theorem Zr2 {i o : Int} {n : List (List Int)} {ps : List (List Int × List Int)} {s l : List Int} : Asc (metB i o n ps s l) := by
 unfold metB; split
 ·exact ZkA
 ·simp [Asc]
theorem ZvS {n : List (List Int)} {s l : List Int} {v : Int} (h : v ∈ metN n s l) : 0 ≤ v ∧ v < (n.length : Int) := by
 unfold metN at h
 obtain ⟨h1, _⟩ := List.mem_filter.1 h
 obtain ⟨k, hk, rfl⟩ := List.mem_map.1 h1
 rw [List.mem_range] at hk; omega
theorem ZtP {i o : Int} {n : List (List Int)} {ps : List (List Int × List Int)} {s l : List Int} : ∀ v ∈ metB i o n ps s l, 0 ≤ v ∧ v < 48 := fun v hv => by
 unfold metB at hv
 split at hv
 ·rename_i h
  have := ZvS hv
  have := (Zdy h.1).2.2.1
  omega
 ·simp at hv
theorem ZoA {i o : Int} {n : List (List Int)} {ps : List (List Int × List Int)} {s l : List Int} (h : detB i o n ps = true) (h2 : ZaN s l (Zaa i o) = true) : (metN n s l).length ≤ 600 := by
 have h1 := Zdy h
 have := ZsO (Zcc h) (Zbq h2).1 (Zbq h2).2 h1.2.1
 omega
noncomputable def ZdU (i o : Int) (n : List (List Int)) (ps : List (List Int × List Int)) (s l : List Int) : Bool := detB i o n ps && ZaN s l (Zaa i o) && decide (brkZ ps (metB i o n ps s l) ps.length = [])
section
variable {i o : Int} {n : List (List Int)} {ps : List (List Int × List Int)} {s l : List Int}
theorem ZfK (h : detB i o n ps = false) : false = ZdU i o n ps s l := by unfold ZdU; rw [h]; rfl
theorem ZcH (h : ZaN s l (Zaa i o) = false) : false = ZdU i o n ps s l := by unfold ZdU; rw [h]; simp
theorem Zg2 (h : sigB i o = false) : false = ZdU i o n ps s l := ZfK (by unfold detB; rw [h]; rfl)
theorem Zqh : ((xs.length : Int) == 0) = decide (xs = []) := by
 rw [Bool.eq_iff_iff]; simp [List.length_eq_zero_iff]
theorem Zpg (h : detB i o n ps = true) (h2 : ZaN s l (Zaa i o) = true) : decide (brkZ ps (metB i o n ps s l) ps.length = []) = ZdU i o n ps s l := by unfold ZdU; rw [h, h2]; rfl
theorem ZtU (h : detB i o n ps = true) (h2 : ZaN s l (Zaa i o) = true) : (((brkZ ps (metN n s l) ps.length).length : Int) == 0) = ZdU i o n ps s l := by rw [← Zpg h h2, Zqh, ZqV h h2]
end
end Go.Proofs.YtnieejghoaccmaaGreat

namespace Go.Proofs.YtnieejghoaccmaaGreat
open Go.RowKit
open Shp
variable {P : Nat → Prop} {o k : Int} {b a : List Int}
def IOf (P : Nat → Prop) : Prop := ∀ m, ∃ i, m ≤ i ∧ P i
theorem IOf.mono {Q : Nat → Prop} (h : IOf P) (hpq : ∀ i, P i → Q i) : IOf Q := fun m => by obtain ⟨i, h1, h2⟩ := h m; exact ⟨i, h1, hpq i h2⟩
theorem ZAl {Q : Nat → Prop} : IOf (fun i => P i ∨ Q i) ↔ IOf P ∨ IOf Q := by
 constructor
 ·intro h
  apply Classical.byContradiction
  intro hn
  have h1 : ¬ IOf P := fun x => hn (.inl x)
  have h2 : ¬ IOf Q := fun x => hn (.inr x)
  obtain ⟨m, hm⟩ := Classical.not_forall.1 h1
  obtain ⟨m2, hm2⟩ := Classical.not_forall.1 h2
  obtain ⟨i, hi, hp⟩ := h (m + m2)
  rcases hp with hp | hp
  ·exact hm ⟨i, by omega, hp⟩
  ·exact hm2 ⟨i, by omega, hp⟩
 ·rintro (h | h)
  ·exact h.mono fun _ => .inl
  ·exact h.mono fun _ => .inr
theorem ZpQ {f : Nat → Int} : ∀ {xs : List Int}, (∃ v, v ∈ xs ∧ IOf fun i => f i = v) ↔ IOf fun i => f i ∈ xs
 | [] => by
  constructor
  ·rintro ⟨v, h, _⟩; simp at h
  ·intro h; obtain ⟨i, _, h⟩ := h 0; simp at h
 | x :: xs => by
  have e : (fun i => f i ∈ x :: xs) = fun i => f i = x ∨ f i ∈ xs := by funext i; simp
  rw [e, ZAl, ← ZpQ (xs := xs)]
  constructor
  ·rintro ⟨v, hv, h⟩
   rcases List.mem_cons.1 hv with rfl | hv
   ·exact .inl h
   ·exact .inr ⟨v, hv, h⟩
  ·rintro (h | ⟨v, hv, h⟩)
   ·exact ⟨x, by simp, h⟩
   ·exact ⟨v, by simp [hv], h⟩
def runQ (n : List (List Int)) (q : Int) (f : Nat → Int) : Nat → Int
 | 0 => q
 | i + 1 => nth (nth n (runQ n q f i).toNat) (f i).toNat
theorem ZhW {n : List (List Int)} {q : Int} {f : Nat → Int} (i : Nat) : ∀ j, runQ n q f (i + j) = runQ n (runQ n q f i) (fun t => f (i + t)) j
 | 0 => rfl
 | j + 1 => by show nth (nth n (runQ n q f (i + j)).toNat) (f (i + j)).toNat = _; rw [ZhW i j]; rfl
theorem Zlb {n : List (List Int)} : ∀ {xs : List Int} {q : Int} {f : Nat → Int}, (∀ i, i < xs.length → f i = nth xs i) → goN n q xs = runQ n q f xs.length
 | [], q, f, _ => rfl
 | x :: xs, q, f, h => by
  have h0 : f 0 = x := h 0 (by simp)
  show goN n (nth (nth n q.toNat) x.toNat) xs = _
  rw [Zlb (f := fun t => f (1 + t)) fun i hi => by have := h (1 + i) (by simp; omega); rw [this, Nat.add_comm]; rfl]
  rw [List.length_cons, Nat.add_comm, ZhW]
  show _ = runQ n (nth (nth n q.toNat) (f 0).toNat) _ _
  rw [h0]
section
variable {n : List (List Int)} {W : Int} {s l : List Int}
theorem Zpr : goN n 0 s = runQ n 0 (letN s l) s.length := Zlb fun i hi => by unfold letN; rw [if_pos hi]
theorem Zpz (hl0 : 1 ≤ l.length) (k : Nat) {t : Nat} (ht : t < l.length) : letN s l (s.length + k * l.length + t) = nth l t := by
 unfold letN
 rw [if_neg (by omega), show s.length + k * l.length + t - s.length = t + l.length * k by rw [Nat.mul_comm]; omega, Nat.add_mul_mod_self_left, Nat.mod_eq_of_lt ht]
theorem ZpI (hl0 : 1 ≤ l.length) : ∀ k, it (lapN n l) k (goN n 0 s) = runQ n 0 (letN s l) (s.length + k * l.length)
 | 0 => by rw [Nat.zero_mul]; exact Zpr
 | k + 1 => by
  rw [Zd8, ZpI hl0 k, show s.length + (k + 1) * l.length = s.length + k * l.length + l.length by rw [Nat.succ_mul]; omega, ZhW (s.length + k * l.length) l.length]
  exact Zlb fun i hi => Zpz hl0 k hi
theorem ZlZ (hl0 : 1 ≤ l.length) (k : Nat) {i : Nat} (hi : i < l.length) : nth (trN n (it (lapN n l) k (goN n 0 s)) l) i = runQ n 0 (letN s l) (s.length + k * l.length + (i + 1)) := by
 rw [Zke hi, ZpI hl0, ZhW (s.length + k * l.length) (i + 1)]
 have e : (l.take (i + 1)).length = i + 1 := by rw [List.length_take]; omega
 rw [Zlb (f := fun t => letN s l (s.length + k * l.length + t)) fun j hj => by rw [e] at hj; rw [Zpz hl0 k (by omega), Zrf _ _ _ hj], e]
theorem Ztp (hg : GoOk n W) (hs : below s W = true) (hl : below l W = true) (hn : 1 ≤ n.length) (hl0 : 1 ≤ l.length) {v : Int} : v ∈ metN n s l ↔ IOf fun i => runQ n 0 (letN s l) i = v := by
 rw [Zko hg hs hl hn]
 have hq0 := ZbP hg hs (q := 0) ⟨by omega, by omega⟩
 constructor
 ·rintro ⟨k, hk, hv⟩ m
  obtain ⟨i, hi, e⟩ := Zbx hv
  rw [Zdd] at hi
  obtain ⟨p, hp1, _, hp⟩ := Zl4 hg hl hq0
  have key : ∀ m, it (lapN n l) (k + m * p) (goN n 0 s) = it (lapN n l) k (goN n 0 s) := by
   intro m
   induction m with
   | zero => rw [Nat.zero_mul]; rfl
   | succ m ih => rw [show k + (m + 1) * p = k + m * p + p by rw [Nat.succ_mul]; omega, hp _ (by omega)]; exact ih
  refine ⟨s.length + (k + m * p) * l.length + (i + 1), ?_, ?_⟩
  ·have h1 : m * 1 ≤ m * p := Nat.mul_le_mul_left _ hp1
   have h2 : (k + m * p) * 1 ≤ (k + m * p) * l.length := Nat.mul_le_mul_left _ hl0
   omega
  ·show runQ n 0 (letN s l) (s.length + (k + m * p) * l.length + (i + 1)) = v
   rw [← ZlZ hl0 _ hi, key m]; exact e
 ·intro h
  obtain ⟨i, h1, h2⟩ := h (s.length + n.length * l.length + 1)
  have hd := Nat.div_add_mod (i - 1 - s.length) l.length
  have hm := Nat.mod_lt (i - 1 - s.length) (show 0 < l.length by omega)
  have hk : n.length ≤ (i - 1 - s.length) / l.length := (Nat.le_div_iff_mul_le (by omega)).2 (by omega)
  refine ⟨(i - 1 - s.length) / l.length, hk, ?_⟩
  have e := ZlZ (n := n) (s := s) hl0 ((i - 1 - s.length) / l.length) hm
  rw [show s.length + (i - 1 - s.length) / l.length * l.length + ((i - 1 - s.length) % l.length + 1) = i by rw [Nat.mul_comm]; omega] at e
  have e2 : runQ n 0 (letN s l) i = v := h2
  rw [← e2, ← e]
  exact Zaz (by rw [Zdd]; exact hm)
def Zgg (Q : Nat → Int) (p : List Int × List Int) : Prop := (IOf fun i => Q i ∈ p.1) → IOf fun i => Q i ∈ p.2
theorem Zky (hg : GoOk n W) (hs : below s W = true) (hl : below l W = true) (hn : 1 ≤ n.length) (hl0 : 1 ≤ l.length) {xs : List Int} : ZcJ (metN n s l) xs = true ↔ IOf fun i => runQ n 0 (letN s l) i ∈ xs := by
 rw [meetB_iff, ← ZpQ]
 constructor
 ·rintro ⟨v, h1, h2⟩; exact ⟨v, h2, (Ztp hg hs hl hn hl0).1 h1⟩
 ·rintro ⟨v, h1, h2⟩; exact ⟨v, (Ztp hg hs hl hn hl0).2 h2, h1⟩
end
section
variable {Q : Nat → Int} {A B : Nat → Bool}
end
theorem ZqD {s l : List Int} {W : Int} (hl : 1 ≤ l.length) (h : below s W = true) (h2 : below l W = true) (i : Nat) : 0 ≤ letN s l i ∧ letN s l i < W := by
 have hm := ZsX (s := s) hl i
 rcases List.mem_append.1 hm with hm | hm
 ·obtain ⟨j, hj, e⟩ := Zbx hm
  rw [← e]; exact below_iff.1 h j hj
 ·obtain ⟨j, hj, e⟩ := Zbx hm
  rw [← e]; exact below_iff.1 h2 j hj
end Go.Proofs.YtnieejghoaccmaaGreat

