/- The program's solver: a queue whose counts are laid when they are first needed; the rounds that take away what is lost. No program in sight; no conditions. -/
import Derived.Test.YtjjidamlmebaaaaGreatZD
namespace Go.Proofs.YtjjidamlmebaaaaGreat
open Go.RowKit
open Shp
variable {α : Type} {c m : Nat} {L' : List Int}
section
variable {n : Nat} {o p : List Int} {nx pv : List (List Int)} {who : Int} {ins goal out : List Bool} {left q ps : List Int} {v i k : Nat}
theorem Zpr  [Inhabited α] {l : List α} {i : Nat} (h : c ≤ i) : nth (l.drop c) (i - c) = nth l i := by
 simp only [nth, List.getD, List.getElem?_drop]; rw [show c + (i - c) = i by omega]
theorem ZqD  [Inhabited α] {l : List α} {i : Nat} {x : α} (h : nth l i = x) : l.set i x = l := by
 subst h
 apply List.ext_getElem
 ·simp
 ·intro k h1 h2
  rw [List.getElem_set]
  split
  ·rename_i e; subst e; rw [Zaz h2]
  ·rfl
theorem Zpk  {l : List α} {i : Nat} {x : α} (hc : c ≤ i) (hi : i ≤ l.length) (hm : m = l.length - i) : (l ++ [x]).drop i = ((l.drop c).drop (i - c)).take m ++ [x] := by
 rw [List.drop_drop, show c + (i - c) = i by omega, List.take_of_length_le (by rw [List.length_drop]; omega)]
 rw [List.drop_append_of_le_length hi]
structure LZ (n : Nat) (o : List Int) (nx : List (List Int)) (who : Int) (ins out : List Bool) (left : List Int) (D : Nat → List Int) : Prop where
 ll : left.length = n
 ex : ∃ l', CS n o nx who ins out l' D ∧ ∀ v, v < n → nth ins v = true → nth out v = false → nth left v = nth l' v ∨ (nth left v = 0 ∧ ∀ u ∈ D v, u ∉ nth nx v)
theorem Zgg (ins : List Bool) : ∀ v, (lstL ins v).Nodup
 | 0 => List.nodup_nil
 | v + 1 => by
  simp only [lstL]
  split
  ·rw [List.nodup_append]
   refine ⟨Zgg ins v, by simp, fun x hx y hy e => ?_⟩
   rw [List.mem_singleton.1 hy] at e
   have := (ZbZ ins).1 hx
   omega
  ·exact Zgg ins v
theorem ZmG (hl : goal.length = n) (hs : ∀ v, v < n → nth goal v = true → nth ins v = true) : AQ n o p nx who ins goal goal (lstL goal n) ∧ LZ n o nx who ins goal (List.replicate n 0) fun _ => (lstL goal n).take 0 := by
 have hm : ∀ v, v < n → ((v : Int) ∈ lstL goal n ↔ nth goal v = true) := fun v hv => by
  rw [ZbZ]
  constructor
  ·rintro ⟨_, _, h⟩; simpa using h
  ·intro h; exact ⟨by omega, by omega, by simpa using h⟩
 refine ⟨⟨hl, fun x hx => ?_, Zgg _ _, fun v hv => (hm v hv).symm, fun v hv hq => ?_, fun v hv _ h => (hm v hv).2 h⟩, ⟨by simp, (List.range n).map (fun v => cU nx ins [] v), ⟨by simp, fun v hv _ _ => ?_, fun v hv _ _ _ u hu => ?_, fun v hv _ _ u hu => ?_⟩, fun v hv _ _ => .inr ⟨by rw [Zdc hv], fun u hu => ?_⟩⟩⟩
 ·have := (ZbZ goal).1 hx; exact ⟨this.1, this.2.1⟩
 ·exact ⟨0, ⟨hv, hs v hv ((hm v hv).1 hq)⟩, (hm v hv).1 hq⟩
 ·rw [Zaz (by simpa using hv)]; simp
 ·simp at hu
 ·simp at hu
 ·simp at hu
theorem LZ.first (h : LZ n o nx who ins out left fun _ => q.take i) (ps : List Int) : LZ n o nx who ins out left (seen q ps i 0) := by rw [ZkP]; exact h
section
variable {O : List Bool} {L Q : List Int}
theorem Zcf (hp : PRd n nx pv) (g2 : AQ n o p nx who ins goal O Q) (g3 : LZ n o nx who ins O L (seen Q (nth pv (nth q i).toNat) i k)) (g4 : i < Q.length ∧ nth Q i = nth q i) (hk : (k : Int) < (nth pv (nth q i).toNat).length) (hs : nth ins (nth (nth pv (nth q i).toNat) k).toNat = false ∨ nth O (nth (nth pv (nth q i).toNat) k).toNat = true) :
  k + 1 ≤ (nth pv (nth q i).toNat).length ∧ AQ n o p nx who ins goal O Q ∧ LZ n o nx who ins O L (seen Q (nth pv (nth q i).toNat) i (k + 1)) ∧ i < Q.length ∧ nth Q i = nth q i := by
 obtain ⟨hll, l', h1, h2⟩ := g3
 refine ⟨by omega, g2, ⟨hll, l', h1.skip (by omega) (at_v hp g2 g4 hk).1 hs, fun v hv a b => ?_⟩, g4⟩
 have hne : nth (nth pv (nth q i).toNat) k ≠ (v : Int) := fun e => by
  rw [e] at hs
  simp only [Int.toNat_natCast] at hs
  rw [a, b] at hs
  simp at hs
 rw [Zdd (by omega) hne]
 exact h2 v hv a b
theorem ZpH (hg : GDt n o p nx) (hp : PRd n nx pv) (g2 : AQ n o p nx who ins goal O Q) (g3 : LZ n o nx who ins O L (seen Q (nth pv (nth q i).toNat) i k)) (g4 : i < Q.length ∧ nth Q i = nth q i) (hk : (k : Int) < (nth pv (nth q i).toNat).length) (h1 : nth ins (nth (nth pv (nth q i).toNat) k).toNat = true) (h2 : nth O (nth (nth pv (nth q i).toNat) k).toNat = false) :
  0 < degN nx ins (nth (nth pv (nth q i).toNat) k).toNat ∧ 0 ≤ nth L (nth (nth pv (nth q i).toNat) k).toNat ∧ nth L (nth (nth pv (nth q i).toNat) k).toNat ≤ n ∧
  (∀ l', CS n o nx who ins O l' (seen Q (nth pv (nth q i).toNat) i k) → (∀ v, v < n → nth ins v = true → nth O v = false → nth L v = nth l' v ∨ (nth L v = 0 ∧ ∀ u ∈ seen Q (nth pv (nth q i).toNat) i k v, u ∉ nth nx v)) →
   nth l' (nth (nth pv (nth q i).toNat) k).toNat = if nth L (nth (nth pv (nth q i).toNat) k).toNat = 0 then ((degN nx ins (nth (nth pv (nth q i).toNat) k).toNat : Nat) : Int) else nth L (nth (nth pv (nth q i).toNat) k).toNat) := by
 have hv := at_v hp g2 g4 hk
 have hr := ZgV g2 g4
 generalize hx : nth (nth pv (nth q i).toNat) k = x at *
 have hxv : nth (nth pv (nth q i).toNat) k = (x.toNat : Int) := by rw [hx]; exact hv.1
 have key : ∀ {l'}, CS n o nx who ins O l' (seen Q (nth pv (nth q i).toNat) i k) → nth l' x.toNat = cU nx ins (Q.take i) x.toNat ∧ cU nx ins (Q.take i ++ [nth Q i]) x.toNat = nth l' x.toNat - 1 := fun {l'} hc => hc.cur g2 hg (by omega) (hp.nd _ (by omega)) g4.1 hxv hv.2.1 hv.2.2 h1 h2
 have hsee := (Zmt (q := Q) (show k < (nth pv (nth q i).toNat).length by omega) (hp.nd _ (by omega)) g4.1 hxv).1
 have hpos : ∀ {l'}, CS n o nx who ins O l' (seen Q (nth pv (nth q i).toNat) i k) → 0 < nth l' x.toNat := fun {l'} hc => by
  have := (key hc).2
  have h5 := ZtZ (nx := nx) (ins := ins) (Q.take i ++ [nth Q i]) x.toNat
  omega
 have hnone : (∀ u ∈ Q.take i, u ∉ nth nx x.toNat) → cU nx ins (Q.take i) x.toNat = (degN nx ins x.toNat : Nat) := fun hno => by
  rw [ZiA]
  unfold cU
  congr 1
  refine List.countP_congr fun y hy => ?_
  have : y ∉ Q.take i := fun hm => hno y hm hy
  simp [this]
 obtain ⟨hll, l0, c1, c2⟩ := g3
 have hdeg : cU nx ins (Q.take i) x.toNat ≤ (degN nx ins x.toNat : Nat) := by
  unfold cU degN
  have : (nth nx x.toNat).countP (fun u => nth ins u.toNat && !(Q.take i).contains u) ≤ (nth nx x.toNat).countP fun u => nth ins u.toNat := List.countP_mono_left fun y _ hy => by
   simp only [Bool.and_eq_true] at hy; exact hy.1
  omega
 have hb := c1.rng hg hv.2.1 h1 h2
 have h0 := hpos c1
 have hk0 := (key c1).1
 refine ⟨by omega, ?_, ?_, fun l' d1 d2 => ?_⟩
 ·rcases c2 _ hv.2.1 h1 h2 with e | e
  ·omega
  ·omega
 ·rcases c2 _ hv.2.1 h1 h2 with e | e
  ·omega
  ·omega
 ·have hp' := hpos d1
  rcases d2 _ hv.2.1 h1 h2 with e | ⟨e, hno⟩
  ·rw [if_neg (by omega)]; exact e.symm
  ·rw [if_pos e, (key d1).1]
   rw [hsee] at hno
   exact hnone hno
theorem ZjA {V : Nat} (hV : V < L.length) (hm : ((nth nx V).length : Int) ≤ m) : nth ((L.set V (((nth nx V).take m).countP fun u => nth ins u.toNat : Nat)).set V (nth (L.set V (((nth nx V).take m).countP fun u => nth ins u.toNat : Nat)) V - 1)) V = (degN nx ins V : Nat) - 1 := by
 rw [Zav (by rw [List.length_set]; exact hV), Zav hV, List.take_of_length_le (by omega)]; rfl
theorem ZdV (hg : GDt n o p nx) (hp : PRd n nx pv) (g2 : AQ n o p nx who ins goal O Q) (g3 : LZ n o nx who ins O L (seen Q (nth pv (nth q i).toNat) i k)) (g4 : i < Q.length ∧ nth Q i = nth q i) (hk : (k : Int) < (nth pv (nth q i).toNat).length) (h1 : nth ins (nth (nth pv (nth q i).toNat) k).toNat = true) (h2 : nth O (nth (nth pv (nth q i).toNat) k).toNat = false)
  (ho : nth o (nth (nth pv (nth q i).toNat) k).toNat ≠ who) {m : Int} (hm : m = if nth L (nth (nth pv (nth q i).toNat) k).toNat = 0 then ((degN nx ins (nth (nth pv (nth q i).toNat) k).toNat : Nat) : Int) else nth L (nth (nth pv (nth q i).toNat) k).toNat) (hz : m - 1 > 0) :
  k + 1 ≤ (nth pv (nth q i).toNat).length ∧ AQ n o p nx who ins goal O Q ∧ LZ n o nx who ins O (L.set (nth (nth pv (nth q i).toNat) k).toNat (m - 1)) (seen Q (nth pv (nth q i).toNat) i (k + 1)) ∧ i < Q.length ∧ nth Q i = nth q i := by
 have hc := (ZpH hg hp g2 g3 g4 hk h1 h2).2.2.2
 have hv := at_v hp g2 g4 hk
 obtain ⟨hll, l', c1, c2⟩ := g3
 have hl := hc l' c1 c2
 rw [← hm] at hl
 obtain ⟨a1, a2, a3, a4⟩ := Znn hg hp g2 c1 g4 hk h1 h2 ho (by rw [hl]; omega)
 rw [hl] at a3
 refine ⟨a1, a2, ⟨by rw [List.length_set]; exact hll, _, a3, fun w hw b1 b2 => ?_⟩, a4⟩
 have hll' := c1.ll
 by_cases e : (nth (nth pv (nth q i).toNat) k).toNat = w
 ·subst e
  rw [Zav (by omega), Zav (by omega)]; exact .inl rfl
 ·rw [ZaI e, ZaI e, Zdd (by omega) (by rw [hv.1]; omega)]; exact c2 w hw b1 b2
theorem ZgS (hg : GDt n o p nx) (hp : PRd n nx pv) (g2 : AQ n o p nx who ins goal O Q) (g3 : LZ n o nx who ins O L (seen Q (nth pv (nth q i).toNat) i k)) (g4 : i < Q.length ∧ nth Q i = nth q i) (hk : (k : Int) < (nth pv (nth q i).toNat).length) (h1 : nth ins (nth (nth pv (nth q i).toNat) k).toNat = true) (h2 : nth O (nth (nth pv (nth q i).toNat) k).toNat = false)
   (hL : L' = L ∨ ∃ m, L' = L.set (nth (nth pv (nth q i).toNat) k).toNat m) (ho : nth o (nth (nth pv (nth q i).toNat) k).toNat = who ∨ (if nth L (nth (nth pv (nth q i).toNat) k).toNat = 0 then ((degN nx ins (nth (nth pv (nth q i).toNat) k).toNat : Nat) : Int) else nth L (nth (nth pv (nth q i).toNat) k).toNat) - 1 ≤ 0) :
  k + 1 ≤ (nth pv (nth q i).toNat).length ∧ AQ n o p nx who ins goal (O.set (nth (nth pv (nth q i).toNat) k).toNat true) (Q ++ [nth (nth pv (nth q i).toNat) k]) ∧ LZ n o nx who ins (O.set (nth (nth pv (nth q i).toNat) k).toNat true) L' (seen (Q ++ [nth (nth pv (nth q i).toNat) k]) (nth pv (nth q i).toNat) i (k + 1)) ∧
   i < (Q ++ [nth (nth pv (nth q i).toNat) k]).length ∧ nth (Q ++ [nth (nth pv (nth q i).toNat) k]) i = nth q i := by
 have hcur := ZpH hg hp g2 g3 g4 hk h1 h2
 have hc := hcur.2.2.2
 have hv := at_v hp g2 g4 hk
 obtain ⟨hll, l', c1, c2⟩ := g3
 have hl := hc l' c1 c2
 obtain ⟨a1, a2, a3, a4, a5⟩ := Zil hg hp g2 c1 g4 hk h1 h2 (ho.imp id fun h => by
  rw [← hl] at h
  have := c1.rng hg hv.2.1 h1 h2
  have h8 : 0 < nth l' (nth (nth pv (nth q i).toNat) k).toNat := by rw [hl]; split <;> omega
  omega)
 have hlo := g2.lo
 have hne : ∀ w, nth (O.set (nth (nth pv (nth q i).toNat) k).toNat true) w = false → (nth (nth pv (nth q i).toNat) k).toNat ≠ w := fun w hw e => by subst e; rw [Zav (by omega)] at hw; cases hw
 refine ⟨a1, a2, ⟨by rcases hL with rfl | ⟨m, rfl⟩ <;> simp [hll], _, a3, fun w hw b1 b2 => ?_⟩, a4, a5⟩
 have e := hne w b2
 rw [ZaI e] at b2
 rw [ZaI e, Zdd (by omega) (by rw [hv.1]; omega), ZmH g4.1]
 have : nth L' w = nth L w := by rcases hL with rfl | ⟨m, rfl⟩ <;> first | rfl | exact ZaI e
 rw [this]
 exact c2 w hw b1 b2
theorem ZgE (hg : GDt n o p nx) (hp : PRd n nx pv) (g2 : AQ n o p nx who ins goal O Q) (g3 : LZ n o nx who ins O L (seen Q (nth pv (nth q i).toNat) i k)) (g4 : i < Q.length ∧ nth Q i = nth q i) (hk : (k : Int) < (nth pv (nth q i).toNat).length) (h1 : nth ins (nth (nth pv (nth q i).toNat) k).toNat = true) (h2 : nth O (nth (nth pv (nth q i).toNat) k).toNat = false)
   (hL : L' = L ∨ ∃ m, L' = L.set (nth (nth pv (nth q i).toNat) k).toNat m) (h0 : nth L (nth (nth pv (nth q i).toNat) k).toNat = 0) (hz : ((degN nx ins (nth (nth pv (nth q i).toNat) k).toNat : Nat) : Int) - 1 ≤ 0) :
  k + 1 ≤ (nth pv (nth q i).toNat).length ∧ AQ n o p nx who ins goal (O.set (nth (nth pv (nth q i).toNat) k).toNat true) (Q ++ [nth (nth pv (nth q i).toNat) k]) ∧ LZ n o nx who ins (O.set (nth (nth pv (nth q i).toNat) k).toNat true) L' (seen (Q ++ [nth (nth pv (nth q i).toNat) k]) (nth pv (nth q i).toNat) i (k + 1)) ∧
   i < (Q ++ [nth (nth pv (nth q i).toNat) k]).length ∧ nth (Q ++ [nth (nth pv (nth q i).toNat) k]) i = nth q i :=
 ZgS hg hp g2 g3 g4 hk h1 h2 hL (.inr (by rw [if_pos h0]; exact hz))
theorem ZgB (hg : GDt n o p nx) (hp : PRd n nx pv) (g2 : AQ n o p nx who ins goal O Q) (g3 : LZ n o nx who ins O L (seen Q (nth pv (nth q i).toNat) i k)) (g4 : i < Q.length ∧ nth Q i = nth q i) (hk : (k : Int) < (nth pv (nth q i).toNat).length) (h1 : nth ins (nth (nth pv (nth q i).toNat) k).toNat = true) (h2 : nth O (nth (nth pv (nth q i).toNat) k).toNat = false)
   (hL : L' = L ∨ ∃ m, L' = L.set (nth (nth pv (nth q i).toNat) k).toNat m) (h0 : ¬ nth L (nth (nth pv (nth q i).toNat) k).toNat = 0) (hz : nth L (nth (nth pv (nth q i).toNat) k).toNat - 1 ≤ 0) :
  k + 1 ≤ (nth pv (nth q i).toNat).length ∧ AQ n o p nx who ins goal (O.set (nth (nth pv (nth q i).toNat) k).toNat true) (Q ++ [nth (nth pv (nth q i).toNat) k]) ∧ LZ n o nx who ins (O.set (nth (nth pv (nth q i).toNat) k).toNat true) L' (seen (Q ++ [nth (nth pv (nth q i).toNat) k]) (nth pv (nth q i).toNat) i (k + 1)) ∧
   i < (Q ++ [nth (nth pv (nth q i).toNat) k]).length ∧ nth (Q ++ [nth (nth pv (nth q i).toNat) k]) i = nth q i :=
 ZgS hg hp g2 g3 g4 hk h1 h2 hL (.inr (by rw [if_neg h0]; exact hz))
theorem Zpm (hp : PRd n nx pv) (g2 : AQ n o p nx who ins goal O Q) (g3 : LZ n o nx who ins O L (seen Q (nth pv (nth q i).toNat) i k)) (g4 : i < Q.length ∧ nth Q i = nth q i) (hk : ((nth pv (nth q i).toNat).length : Int) ≤ k) :
  i + 1 ≤ Q.length ∧ AQ n o p nx who ins goal O Q ∧ LZ n o nx who ins O L fun _ => Q.take (i + 1) := by
 obtain ⟨hll, l', c1, c2⟩ := g3
 obtain ⟨a1, a2, a3⟩ := ZpF hp g2 c1 g4 hk
 have hr := ZgV g2 g4
 have hnot := hp.not hr
 refine ⟨a1, a2, ⟨hll, l', a3, fun w hw b1 b2 => ?_⟩⟩
 rcases c2 w hw b1 b2 with e | ⟨e, hno⟩
 ·exact .inl e
 ·refine .inr ⟨e, fun u hu => ?_⟩
  have hs : seen Q (nth pv (nth q i).toNat) i k w = if (w : Int) ∈ nth pv (nth q i).toNat then Q.take (i + 1) else Q.take i := by unfold seen; rw [List.take_of_length_le (by omega)]
  rw [hs] at hno
  by_cases hm : (w : Int) ∈ nth pv (nth q i).toNat
  ·rw [if_pos hm] at hno; exact hno u hu
  ·rw [if_neg hm] at hno
   rw [ZaF g4.1] at hu
   rcases List.mem_append.1 hu with hu | hu
   ·exact hno u hu
   ·rw [List.mem_singleton.1 hu, g4.2]; exact hnot w hw hm
end
theorem LZ.fin (h : LZ n o nx who ins out left (fun _ => q.take i)) (hq : AQ n o p nx who ins goal out q) (hg : GDt n o p nx) (hi : q.length ≤ i) (ht : TotL n nx ins) : out = attL n o p nx who ins goal := by
 obtain ⟨_, l', h1, _⟩ := h
 exact h1.fin hq hg hi ht
end
end Go.Proofs.YtjjidamlmebaaaaGreat

