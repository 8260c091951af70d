/- Parity games as data: what the loops of the reference's solver keep. No program in sight; no conditions. -/
import Derived.Test.YtjjidamlmebaaaaGreatZW
import Derived.Test.YtjjidamlmebaaaaGreatTM
namespace Go.Proofs.YtjjidamlmebaaaaGreat
open Go.RowKit
open Shp
variable {x : Nat} {f : Nat → Bool} {u : Int}
abbrev GV.gam (o p : List Int) (nx pv : List (List Int)) (pk : List Int) : GV := .agg [.ints o, .ints p, .rows nx, .rows pv, .ints pk]
section
variable {n : Nat} {o p : List Int} {nx pv : List (List Int)} {who : Int} {ins goal out : List Bool} {left q : List Int} {v : Nat}
structure PRd (n : Nat) (nx pv : List (List Int)) : Prop where
 len : pv.length = n
 nd : ∀ u, u < n → (nth pv u).Nodup
 mem : ∀ u, u < n → ∀ v : Int, v ∈ nth pv u ↔ 0 ≤ v ∧ v < n ∧ (u : Int) ∈ nth nx v.toNat
def degN (nx : List (List Int)) (ins : List Bool) (v : Nat) : Nat := (nth nx v).countP fun u => nth ins u.toNat
theorem Zbh {l : List Int} (hn : l.Nodup) (h : ∀ x ∈ l, 0 ≤ x ∧ x < n) : l.length ≤ n := by
 rcases Nat.lt_or_ge n l.length with h1 | h1
 ·obtain ⟨a, b, hab, hb, e⟩ := pig n (fun m => (nth l m).toNat) fun m hm => by
   have := h _ (ZaE (show m < l.length by omega)); omega
  have ha := h _ (ZaE (show a < l.length by omega))
  have hb' := h _ (ZaE (show b < l.length by omega))
  have e2 : nth l a = nth l b := by omega
  rw [Zaz (by omega), Zaz (by omega)] at e2
  rw [List.nodup_iff_pairwise_ne, List.pairwise_iff_getElem] at hn
  exact absurd e2 (hn a b (by omega) (by omega) hab)
 ·exact h1
theorem AQ.len (h : AQ n o p nx who ins goal out q) : q.length ≤ n := Zbh h.nd h.iq
structure Ini (n : Nat) (nx : List (List Int)) (ins goal : List Bool) (v : Nat) (out : List Bool) (left q : List Int) : Prop where
 lo : out.length = n
 ll : left.length = n
 lf : ∀ x, x < n → nth left x = if x < v ∧ nth ins x = true then cU nx ins [] x else 0
 nd : q.Nodup
 rg : ∀ x ∈ q, 0 ≤ x ∧ x < n
 mem : ∀ x, x < n → (nth out x = true ↔ (x : Int) ∈ q)
 iq : ∀ x, x < n → ((x : Int) ∈ q ↔ x < v ∧ nth ins x = true ∧ nth goal x = true)
theorem Zdc {α : Type} [Inhabited α] {a : α}  (h : x < n) : nth (List.replicate n a) x = a := by rw [Zaz (by simpa using h)]; simp
theorem Ini.zero : Ini n nx ins goal 0 (List.replicate n false) (List.replicate n 0) [] := by
 refine ⟨by simp, by simp, fun x hx => ?_, by simp, by simp, fun x hx => ?_, fun x _ => ?_⟩
 ·rw [Zdc hx, if_neg (by omega)]
 ·rw [Zdc hx]; simp
 ·simp
theorem Ini.no (h : Ini n nx ins goal v out left q) (hi : nth ins v = false) : Ini n nx ins goal (v + 1) out left q := by
 have key : ∀ x, (x < v + 1 ∧ nth ins x = true) ↔ (x < v ∧ nth ins x = true) := fun x => by
  constructor
  ·rintro ⟨h1, h2⟩
   refine ⟨?_, h2⟩
   rcases Nat.lt_or_ge x v with h3 | h3
   ·exact h3
   ·rw [show x = v by omega, hi] at h2; cases h2
  ·rintro ⟨h1, h2⟩; exact ⟨by omega, h2⟩
 refine ⟨h.lo, h.ll, fun x hx => ?_, h.nd, h.rg, h.mem, fun x hx => ?_⟩
 ·rw [h.lf x hx]; simp only [key]
 ·rw [h.iq x hx, ← and_assoc, ← and_assoc, key]
theorem Ini.deg (h : Ini n nx ins goal v out left q) (hv : v < n) (hi : nth ins v = true) (hg : nth goal v = false) : Ini n nx ins goal (v + 1) out (left.set v (cU nx ins [] v)) q := by
 have hll := h.ll
 refine ⟨h.lo, by rw [List.length_set]; exact h.ll, fun x hx => ?_, h.nd, h.rg, h.mem, fun x hx => ?_⟩
 ·by_cases e : v = x
  ·subst e
   rw [Zav (by omega), if_pos ⟨by omega, hi⟩]
  ·rw [ZaI e, h.lf x hx]
   have : (x < v + 1 ∧ nth ins x = true) ↔ (x < v ∧ nth ins x = true) := ⟨fun ⟨h1, h2⟩ => ⟨by omega, h2⟩, fun ⟨h1, h2⟩ => ⟨by omega, h2⟩⟩
   simp only [this]
 ·rw [h.iq x hx]
  constructor
  ·rintro ⟨h1, h2⟩; exact ⟨by omega, h2⟩
  ·rintro ⟨h1, h2, h3⟩
   refine ⟨?_, h2, h3⟩
   rcases Nat.lt_or_ge x v with h4 | h4
   ·exact h4
   ·rw [show x = v by omega, hg] at h3; cases h3
theorem Ini.put (h : Ini n nx ins goal v out left q) (hv : v < n) (hi : nth ins v = true) (hg : nth goal v = true) : Ini n nx ins goal (v + 1) (out.set v true) (left.set v (cU nx ins [] v)) (q ++ [(v : Int)]) := by
 have hll := h.ll
 have hlo := h.lo
 have hnq : (v : Int) ∉ q := fun hm => by have := ((h.iq v hv).1 hm).1; omega
 refine ⟨by rw [List.length_set]; exact h.lo, by rw [List.length_set]; exact h.ll, fun x hx => ?_, ?_, fun x hx => ?_, fun x hx => ?_, fun x hx => ?_⟩
 ·by_cases e : v = x
  ·subst e
   rw [Zav (by omega), if_pos ⟨by omega, hi⟩]
  ·rw [ZaI e, h.lf x hx]
   have : (x < v + 1 ∧ nth ins x = true) ↔ (x < v ∧ nth ins x = true) := ⟨fun ⟨h1, h2⟩ => ⟨by omega, h2⟩, fun ⟨h1, h2⟩ => ⟨by omega, h2⟩⟩
   simp only [this]
 ·rw [List.nodup_append]
  exact ⟨h.nd, by simp, fun x hx y hy e => by rw [List.mem_singleton.1 hy] at e; exact hnq (e ▸ hx)⟩
 ·rcases List.mem_append.1 hx with hx | hx
  ·exact h.rg x hx
  ·rw [List.mem_singleton.1 hx]; omega
 ·rw [List.mem_append, List.mem_singleton]
  by_cases e : v = x
  ·subst e; rw [Zav (by omega)]; simp
  ·rw [ZaI e, h.mem x hx]
   exact ⟨.inl, fun h1 => h1.elim id fun h2 => by omega⟩
 ·rw [List.mem_append, List.mem_singleton, h.iq x hx]
  by_cases e : v = x
  ·subst e
   exact ⟨fun _ => ⟨by omega, hi, hg⟩, fun _ => .inr rfl⟩
  ·exact ⟨fun h1 => h1.elim (fun h2 => ⟨by omega, h2.2⟩) fun h2 => by omega, fun h1 => .inl ⟨by omega, h1.2⟩⟩
theorem Ini.fin (h : Ini n nx ins goal v out left q) (hv : n ≤ v) : AQ n o p nx who ins goal out q ∧ CS n o nx who ins out left fun _ => q.take 0 := by
 refine ⟨⟨h.lo, h.rg, h.nd, h.mem, fun x hx hm => ?_, fun x hx h1 h2 => (h.iq x hx).2 ⟨by omega, h1, h2⟩⟩, ⟨h.ll, fun x hx h1 _ => ?_, fun x hx h1 _ _ u hu => ?_, fun x hx h1 _ u hu => ?_⟩⟩
 ·have := (h.iq x hx).1 hm
  exact ⟨0, ⟨hx, this.2.1⟩, this.2.2⟩
 ·rw [h.lf x hx, if_pos ⟨by omega, h1⟩]; rfl
 ·simp at hu
 ·simp at hu
theorem CS.first {i : Nat} (h : CS n o nx who ins out left fun _ => q.take i) (ps : List Int) : CS n o nx who ins out left (seen q ps i 0) := by rw [ZkP]; exact h
def preL (n v : Nat) (f : Nat → Bool) : List Bool := (List.range n).map fun x => decide (x < v) && f x
theorem ZbF (n v : Nat) (f : Nat → Bool) : (preL n v f).length = n := by unfold preL; simp
theorem Zed (n : Nat) (f : Nat → Bool) : preL n 0 f = List.replicate n false := by
 apply List.ext_getElem
 ·simp [preL]
 ·intro k h1 h2; simp [preL]
theorem Zhx {n v : Nat}  {b : Bool} (hb : b = f v) : (preL n v f).set v b = preL n (v + 1) f := by
 subst hb
 apply List.ext_getElem
 ·simp [preL]
 ·intro k h1 h2
  rw [List.getElem_set]
  simp only [preL, List.getElem_map, List.getElem_range]
  split
  ·rename_i e; subst e; simp
  ·rename_i e
   rw [show decide (k < v + 1) = decide (k < v) by rw [decide_eq_decide]; omega]
theorem Zft {n v : Nat}  (hv : n ≤ v) : preL n v f = (List.range n).map f := by
 apply List.ext_getElem
 ·simp [preL]
 ·intro k h1 h2
  have : k < n := by simpa [preL] using h1
  simp [preL]; omega
def topL (p : List Int) (ins : List Bool) : Nat → Int
 | 0 => -1
 | v + 1 => if nth ins v = true then max (topL p ins v) (nth p v) else topL p ins v
theorem ZiA : ((degN nx ins v : Nat) : Int) = cU nx ins [] v := by rw [Zu9]; rfl
theorem PRd.not (h : PRd n nx pv)  (hu : 0 ≤ u ∧ u < n) : ∀ v, v < n → (v : Int) ∉ nth pv u.toNat → u ∉ nth nx v := fun v hv hn hm => hn ((h.mem u.toNat (by omega) v).2 ⟨by omega, by omega, by rw [Int.toNat_of_nonneg hu.1]; simpa using hm⟩)
theorem PRd.at (h : PRd n nx pv) {u : Int} (hu : 0 ≤ u ∧ u < n) {k : Nat} (hk : k < (nth pv u.toNat).length) : 0 ≤ nth (nth pv u.toNat) k ∧ nth (nth pv u.toNat) k < n ∧ u ∈ nth nx (nth (nth pv u.toNat) k).toNat := by
 have := (h.mem u.toNat (by omega) _).1 (ZaE hk)
 rw [Int.toNat_of_nonneg hu.1] at this
 exact this
theorem PRd.row_len (h : PRd n nx pv)  (hu : 0 ≤ u ∧ u < n) : (nth pv u.toNat).length ≤ n := Zbh (h.nd _ (by omega)) fun x hx => by have := (h.mem u.toNat (by omega) x).1 hx; exact ⟨this.1, this.2.1⟩
theorem CS.rng {D : Nat → List Int} (h : CS n o nx who ins out left D) (hg : GDt n o p nx) (hv : v < n) (h1 : nth ins v = true) (h2 : nth out v = false) : 0 ≤ nth left v ∧ nth left v ≤ n := by
 have hl := h.lf v hv h1 h2
 have hn := Zbh (hg.nd v hv) (hg.rg v hv)
 have h0 := ZtZ (nx := nx) (ins := ins) (D v) v
 have : cU nx ins (D v) v ≤ (nth nx v).length := by
  unfold cU
  have := List.countP_le_length (p := fun u => nth ins u.toNat && !(D v).contains u) (l := nth nx v)
  omega
 omega
theorem ZpD (h : Ini n nx ins goal v out left q) (hv : n ≤ v) : 0 ≤ q.length ∧ AQ n o p nx who ins goal out q ∧ CS n o nx who ins out left fun _ => q.take 0 := ⟨Nat.zero_le _, (h.fin hv).1, (h.fin (p := p) (goal := goal) hv).2⟩
section
variable {i k : Nat} {O : List Bool} {L Q : List Int}
theorem ZgV (g2 : AQ n o p nx who ins goal O Q) (g4 : i < Q.length ∧ nth Q i = nth q i) : 0 ≤ nth q i ∧ nth q i < n := by rw [← g4.2]; exact g2.iq _ (ZaE g4.1)
theorem at_v (hp : PRd n nx pv) (g2 : AQ n o p nx who ins goal O Q) (g4 : i < Q.length ∧ nth Q i = nth q i) (hk : (k : Int) < (nth pv (nth q i).toNat).length) : nth (nth pv (nth q i).toNat) k = ((nth (nth pv (nth q i).toNat) k).toNat : Int) ∧ (nth (nth pv (nth q i).toNat) k).toNat < n ∧ nth Q i ∈ nth nx (nth (nth pv (nth q i).toNat) k).toNat := by
 have := hp.at (ZgV g2 g4) (show k < (nth pv (nth q i).toNat).length by omega)
 exact ⟨by omega, by omega, by rw [g4.2]; exact this.2.2⟩
theorem Zgx (hp : PRd n nx pv) (g2 : AQ n o p nx who ins goal O Q) (g3 : CS n o nx who ins O L (seen Q (nth pv (nth q i).toNat) i k)) (g4 : i < Q.length ∧ nth Q i = nth q i) (hk : (k : Int) < (nth pv (nth q i).toNat).length) (hs : nth ins (nth (nth pv (nth q i).toNat) k).toNat = false ∨ nth O (nth (nth pv (nth q i).toNat) k).toNat = true) :
  k + 1 ≤ (nth pv (nth q i).toNat).length ∧ AQ n o p nx who ins goal O Q ∧ CS n o nx who ins O L (seen Q (nth pv (nth q i).toNat) i (k + 1)) ∧ i < Q.length ∧ nth Q i = nth q i :=
 ⟨by omega, g2, g3.skip (by omega) (at_v hp g2 g4 hk).1 hs, g4⟩
theorem Znn (hg : GDt n o p nx) (hp : PRd n nx pv) (g2 : AQ n o p nx who ins goal O Q) (g3 : CS n o nx who ins O L (seen Q (nth pv (nth q i).toNat) i k)) (g4 : i < Q.length ∧ nth Q i = nth q i) (hk : (k : Int) < (nth pv (nth q i).toNat).length) (h1 : nth ins (nth (nth pv (nth q i).toNat) k).toNat = true) (h2 : nth O (nth (nth pv (nth q i).toNat) k).toNat = false)
  (ho : nth o (nth (nth pv (nth q i).toNat) k).toNat ≠ who) (hz : nth L (nth (nth pv (nth q i).toNat) k).toNat - 1 ≠ 0) :
  k + 1 ≤ (nth pv (nth q i).toNat).length ∧ AQ n o p nx who ins goal O Q ∧ CS n o nx who ins O (L.set (nth (nth pv (nth q i).toNat) k).toNat (nth L (nth (nth pv (nth q i).toNat) k).toNat - 1)) (seen Q (nth pv (nth q i).toNat) i (k + 1)) ∧ i < Q.length ∧ nth Q i = nth q i := by
 have hv := at_v hp g2 g4 hk
 have hr := ZgV g2 g4
 exact ⟨by omega, g2, g3.dec g2 hg (by omega) (hp.nd _ (by omega)) g4.1 hv.1 hv.2.1 hv.2.2 h1 h2 ho hz, g4⟩
theorem Zil (hg : GDt n o p nx) (hp : PRd n nx pv) (g2 : AQ n o p nx who ins goal O Q) (g3 : CS n o nx who ins O L (seen Q (nth pv (nth q i).toNat) i k)) (g4 : i < Q.length ∧ nth Q i = nth q i) (hk : (k : Int) < (nth pv (nth q i).toNat).length) (h1 : nth ins (nth (nth pv (nth q i).toNat) k).toNat = true) (h2 : nth O (nth (nth pv (nth q i).toNat) k).toNat = false)
  (ho : nth o (nth (nth pv (nth q i).toNat) k).toNat = who ∨ nth L (nth (nth pv (nth q i).toNat) k).toNat - 1 = 0) :
  k + 1 ≤ (nth pv (nth q i).toNat).length ∧ AQ n o p nx who ins goal (O.set (nth (nth pv (nth q i).toNat) k).toNat true) (Q ++ [nth (nth pv (nth q i).toNat) k]) ∧ CS n o nx who ins (O.set (nth (nth pv (nth q i).toNat) k).toNat true) (L.set (nth (nth pv (nth q i).toNat) k).toNat (nth L (nth (nth pv (nth q i).toNat) k).toNat - 1)) (seen (Q ++ [nth (nth pv (nth q i).toNat) k]) (nth pv (nth q i).toNat) i (k + 1)) ∧
   i < (Q ++ [nth (nth pv (nth q i).toNat) k]).length ∧ nth (Q ++ [nth (nth pv (nth q i).toNat) k]) i = nth q i := by
 have hv := at_v hp g2 g4 hk
 have hr := ZgV g2 g4
 have := g3.add g2 hg (by omega) (hp.nd _ (by omega)) g4.1 hv.1 hv.2.1 hv.2.2 h1 h2 ho
 rw [← hv.1] at this
 refine ⟨by omega, this.1, this.2, by rw [List.length_append]; omega, ?_⟩
 rw [← g4.2, Zaz (by rw [List.length_append]; omega), Zaz g4.1, List.getElem_append_left g4.1]
theorem ZpF (hp : PRd n nx pv) (g2 : AQ n o p nx who ins goal O Q) (g3 : CS n o nx who ins O L (seen Q (nth pv (nth q i).toNat) i k)) (g4 : i < Q.length ∧ nth Q i = nth q i) (hk : ((nth pv (nth q i).toNat).length : Int) ≤ k) :
  i + 1 ≤ Q.length ∧ AQ n o p nx who ins goal O Q ∧ CS n o nx who ins O L fun _ => Q.take (i + 1) :=
 ⟨by omega, g2, g3.next (by omega) g4.1 (by rw [g4.2]; exact hp.not (ZgV g2 g4))⟩
end
end
end Go.Proofs.YtjjidamlmebaaaaGreat

