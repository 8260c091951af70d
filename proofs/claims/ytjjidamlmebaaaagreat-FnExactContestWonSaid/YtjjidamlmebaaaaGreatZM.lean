/- Parity games as data: the vertices that a player draws to a goal, by a queue. No program in sight; no conditions. -/
import Derived.Test.YtjjidamlmebaaaaGreatHM
import Derived.Test.YtjjidamlmebaaaaGreatZL
namespace Go.Proofs.YtjjidamlmebaaaaGreat
open Go.RowKit
open Shp
variable {Q : Nat → Prop} {α : Type} {u : Int} {D : List Int}
def pgd (o p : List Int) (nx : List (List Int)) : PG := ⟨fun v => nth o v, fun v => nth p v, fun v u => (u : Int) ∈ nth nx v⟩
def inS (n : Nat) (ins : List Bool) (v : Nat) : Prop := v < n ∧ nth ins v = true
structure GDt (n : Nat) (o p : List Int) (nx : List (List Int)) : Prop where
 lo : o.length = n
 lp : p.length = n
 ln : nx.length = n
 ow : ∀ v, v < n → nth o v = 0 ∨ nth o v = 1
 rg : ∀ v, v < n → ∀ u ∈ nth nx v, 0 ≤ u ∧ u < n
 nd : ∀ v, v < n → (nth nx v).Nodup
noncomputable def Zme (n : Nat) (Q : Nat → Prop) : List Bool := by classical exact (List.range n).map fun v => decide (Q v)
theorem ZbE (n : Nat) (Q : Nat → Prop) : (Zme n Q).length = n := by unfold Zme; simp
theorem ZaN {n : Nat}  {v : Nat} (hv : v < n) : nth (Zme n Q) v = true ↔ Q v := by
 unfold Zme
 rw [Zaz (by simpa using hv)]
 simp
theorem ZcR {n : Nat}  {l : List Bool} (hl : l.length = n) (h : ∀ v, v < n → (nth l v = true ↔ Q v)) : l = Zme n Q := by
 apply List.ext_getElem
 ·rw [ZbE, hl]
 ·intro v h1 h2
  have h3 := h v (by omega)
  have h4 := ZaN (Q := Q) (show v < n by omega)
  rw [Zaz h1] at h3
  rw [Zaz h2] at h4
  rw [Bool.eq_iff_iff, h3, h4]
noncomputable def attL (n : Nat) (o p : List Int) (nx : List (List Int)) (who : Int) (ins goal : List Bool) : List Bool := Zme n (AttR (pgd o p nx) who (inS n ins) fun v => nth goal v = true)
section
variable {n : Nat} {o p : List Int} {nx : List (List Int)} {who : Int} {ins goal : List Bool}
structure AQ (n : Nat) (o p : List Int) (nx : List (List Int)) (who : Int) (ins goal out : List Bool) (q : List Int) : Prop where
 lo : out.length = n
 iq : ∀ x ∈ q, 0 ≤ x ∧ x < n
 nd : q.Nodup
 mem : ∀ v, v < n → (nth out v = true ↔ (v : Int) ∈ q)
 sd : ∀ v, v < n → (v : Int) ∈ q → AttR (pgd o p nx) who (inS n ins) (fun v => nth goal v = true) v
 gl : ∀ v, v < n → nth ins v = true → nth goal v = true → (v : Int) ∈ q
theorem AQ.inm {out : List Bool} {q : List Int} (h : AQ n o p nx who ins goal out q) {v : Nat} (hv : v < n) (hq : (v : Int) ∈ q) : nth ins v = true := by
 obtain ⟨k, hk⟩ := h.sd v hv hq
 exact hk.sub.2
theorem ZmB  [Inhabited α] {l : List α} {i : Nat} (h : l.length ≤ i) : nth l i = default := by simp [nth, List.getD, List.getElem?_eq_none h]
theorem Zav  [Inhabited α] {l : List α} {i : Nat} {x : α} (h : i < l.length) : nth (l.set i x) i = x := by rw [Zaz (by simpa using h)]; simp
theorem ZaI  [Inhabited α] {l : List α} {i j : Nat} {x : α} (h : i ≠ j) : nth (l.set i x) j = nth l j := by
 by_cases hj : j < l.length
 ·rw [Zaz (by simpa using hj), Zaz hj, List.getElem_set_ne h]
 ·rw [ZmB (by simp; omega), ZmB (by omega)]
theorem AQ.add {out : List Bool} {q : List Int} (h : AQ n o p nx who ins goal out q) {v : Nat} (hv : v < n) (hn : nth out v = false) (ha : AttR (pgd o p nx) who (inS n ins) (fun v => nth goal v = true) v) : AQ n o p nx who ins goal (out.set v true) (q ++ [(v : Int)]) where
 lo := by rw [List.length_set]; exact h.lo
 iq := fun x hx => by
  rcases List.mem_append.1 hx with hx | hx
  ·exact h.iq x hx
  ·rw [List.mem_singleton.1 hx]; omega
 nd := by
  rw [List.nodup_append]
  refine ⟨h.nd, by simp, fun x hx y hy e => ?_⟩
  rw [List.mem_singleton.1 hy] at e
  rw [e] at hx
  have := (h.mem v hv).2 hx
  rw [hn] at this; cases this
 mem := fun u hu => by
  rw [List.mem_append, List.mem_singleton]
  by_cases e : v = u
  ·subst e
   rw [Zav (by rw [h.lo]; exact hv)]
   simp
  ·rw [ZaI e, h.mem u hu]
   constructor
   ·exact .inl
   ·rintro (h1 | h1)
    ·exact h1
    ·omega
 sd := fun u hu hm => by
  rcases List.mem_append.1 hm with hm | hm
  ·exact h.sd u hu hm
  ·have : u = v := by have := List.mem_singleton.1 hm; omega
   rw [this]; exact ha
 gl := fun u hu h1 h2 => List.mem_append.2 (.inl (h.gl u hu h1 h2))
theorem AQ.done {out : List Bool} {q : List Int} (h : AQ n o p nx who ins goal out q) (cm : ∀ v, v < n → nth ins v = true → nth out v = false → nth o v = who → ∀ u ∈ q, u ∉ nth nx v) (ch : ∀ v, v < n → nth ins v = true → nth out v = false → nth o v ≠ who → ∃ u, u < n ∧ nth ins u = true ∧ (u : Int) ∈ nth nx v ∧ nth out u = false) : out = attL n o p nx who ins goal := by
 refine ZcR h.lo fun v hv => ⟨fun hm => h.sd v hv ((h.mem v hv).1 hm), fun ha => ?_⟩
 refine Zny (B := fun v => nth out v = true) (fun v hs ht => (h.mem v hs.1).2 (h.gl v hs.1 hs.2 ht)) (fun v hs ho u hu he => ?_) (fun v hs ho hu => ?_) v ha
 ·cases hv' : nth out v with
  | true => rfl
  | false =>
   have hun : u < n := by
    rcases Nat.lt_or_ge u n with h1 | h1
    ·exact h1
    ·rw [ZmB (by rw [h.lo]; exact h1)] at hu; cases hu
   exact absurd he (cm v hs.1 hs.2 hv' ho u ((h.mem u hun).1 hu))
 ·cases hv' : nth out v with
  | true => rfl
  | false =>
   obtain ⟨u, h1, h2, h3, h4⟩ := ch v hs.1 hs.2 hv' ho
   have := hu u ⟨h1, h2⟩ h3
   rw [h4] at this; cases this
def cU (nx : List (List Int)) (ins : List Bool) (D : List Int) (v : Nat) : Int := (((nth nx v).countP fun u => nth ins u.toNat && !D.contains u : Nat) : Int)
theorem Zu9 (nx : List (List Int)) (ins : List Bool) (v : Nat) : cU nx ins [] v = (((nth nx v).countP fun u => nth ins u.toNat : Nat) : Int) := by
 unfold cU; congr 2; funext u; simp
theorem ZnV {l : List Int}  (hn : l.Nodup) (hu : u ∈ l) {f g : Int → Bool} (h : ∀ x ∈ l, x ≠ u → f x = g x) (h1 : f u = true) (h2 : g u = false) : l.countP f = l.countP g + 1 := by
 induction l with
 | nil => cases hu
 | cons y l ih =>
  rw [List.nodup_cons] at hn
  rw [List.countP_cons, List.countP_cons]
  rcases List.mem_cons.1 hu with rfl | hu
  ·rw [h1, h2]
   have : l.countP f = l.countP g := List.countP_congr fun x hx => by rw [h x (List.mem_cons_of_mem _ hx) (fun e => hn.1 (e ▸ hx))]
   rw [this]; simp
  ·have hy : y ≠ u := fun e => hn.1 (e ▸ hu)
   rw [h y (List.mem_cons_self ..) hy, ih hn.2 hu fun x hx => h x (List.mem_cons_of_mem _ hx)]
   omega
theorem Zuz  {v : Nat}  (hn : (nth nx v).Nodup) (hu : u ∈ nth nx v) (hi : nth ins u.toNat = true) (hD : u ∉ D) : cU nx ins (D ++ [u]) v = cU nx ins D v - 1 := by
 unfold cU
 have := ZnV (f := fun u => nth ins u.toNat && !D.contains u) (g := fun x => nth ins x.toNat && !(D ++ [u]).contains x) hn hu (fun x hx hxu => by simp [hxu]) (by simp [hi, hD]) (by simp)
 rw [this]; omega
theorem Zuk  {v : Nat}  (hu : u ∉ nth nx v) : cU nx ins (D ++ [u]) v = cU nx ins D v := by
 unfold cU
 congr 1
 refine List.countP_congr fun x hx => ?_
 have : x ≠ u := fun e => hu (e ▸ hx)
 simp [this]
theorem Zs0  {v : Nat} (h : cU nx ins D v = 0) : ∀ u ∈ nth nx v, nth ins u.toNat = true → u ∈ D := fun u hu hi => by
 unfold cU at h
 have h0 : (nth nx v).countP (fun u => nth ins u.toNat && !D.contains u) = 0 := by omega
 rw [List.countP_eq_zero] at h0
 have := h0 u hu
 simpa [hi] using this
theorem ZtZ (D : List Int) (v : Nat) : 0 ≤ cU nx ins D v := by unfold cU; omega
structure CS (n : Nat) (o : List Int) (nx : List (List Int)) (who : Int) (ins out : List Bool) (left : List Int) (D : Nat → List Int) : Prop where
 ll : left.length = n
 lf : ∀ v, v < n → nth ins v = true → nth out v = false → nth left v = cU nx ins (D v) v
 me : ∀ v, v < n → nth ins v = true → nth out v = false → nth o v = who → ∀ u ∈ D v, u ∉ nth nx v
 ps : ∀ v, v < n → nth ins v = true → nth out v = false → ∀ u ∈ D v, u ∈ nth nx v → 0 < nth left v
def seen (q : List Int) (ps : List Int) (i k v : Nat) : List Int := if (v : Int) ∈ ps.take k then q.take (i + 1) else q.take i
theorem ZkP (q ps : List Int) (i : Nat) : seen q ps i 0 = fun _ => q.take i := by funext v; simp [seen]
theorem ZmH {q ps : List Int} {i k : Nat} (hi : i < q.length) (x : Int) : seen (q ++ [x]) ps i k = seen q ps i k := by
 funext v
 unfold seen
 rw [List.take_append_of_le_length (by omega), List.take_append_of_le_length (by omega)]
theorem Zdd {q ps : List Int} {i k v : Nat} (hk : k < ps.length) (hv : nth ps k ≠ (v : Int)) : seen q ps i (k + 1) v = seen q ps i k v := by
 unfold seen
 rw [ZaF hk]
 have : ((v : Int) ∈ ps.take k ++ [nth ps k]) ↔ (v : Int) ∈ ps.take k := by
  rw [List.mem_append, List.mem_singleton]
  exact ⟨fun h => h.elim id fun e => absurd e.symm hv, .inl⟩
 simp only [this]
theorem Zmt {q ps : List Int} {i k v : Nat} (hk : k < ps.length) (hn : ps.Nodup) (hi : i < q.length) (hv : nth ps k = (v : Int)) : seen q ps i k v = q.take i ∧ seen q ps i (k + 1) v = q.take i ++ [nth q i] := by
 unfold seen
 have h1 : (v : Int) ∉ ps.take k := by
  intro h
  have e : ps = ps.take (k + 1) ++ ps.drop (k + 1) := (List.take_append_drop _ _).symm
  rw [ZaF hk, hv] at e
  rw [e, List.nodup_append, List.nodup_append] at hn
  exact hn.1.2.2 _ h _ (List.mem_singleton.2 rfl) rfl
 have h2 : (v : Int) ∈ ps.take (k + 1) := by rw [ZaF hk, hv]; simp
 rw [if_neg h1, if_pos h2, ZaF hi]
 exact ⟨rfl, rfl⟩
variable {out : List Bool} {left : List Int} {q ps : List Int} {i k v : Nat}
theorem CS.skip (h : CS n o nx who ins out left (seen q ps i k)) (hk : k < ps.length) (hv : nth ps k = (v : Int)) (hs : nth ins v = false ∨ nth out v = true) : CS n o nx who ins out left (seen q ps i (k + 1)) := by
 have key : ∀ x, nth ins x = true → nth out x = false → seen q ps i (k + 1) x = seen q ps i k x := fun x h1 h2 => by
  refine Zdd hk fun e => ?_
  have : x = v := by omega
  subst this
  rcases hs with h3 | h3
  ·rw [h1] at h3; cases h3
  ·rw [h2] at h3; cases h3
 exact ⟨h.ll, fun x hx h1 h2 => by rw [key x h1 h2]; exact h.lf x hx h1 h2, fun x hx h1 h2 => by rw [key x h1 h2]; exact h.me x hx h1 h2, fun x hx h1 h2 => by rw [key x h1 h2]; exact h.ps x hx h1 h2⟩
theorem CS.cur (h : CS n o nx who ins out left (seen q ps i k)) (hq : AQ n o p nx who ins goal out q) (hg : GDt n o p nx) (hk : k < ps.length) (hn : ps.Nodup) (hi : i < q.length) (hv : nth ps k = (v : Int)) (hvn : v < n) (he : nth q i ∈ nth nx v) (h1 : nth ins v = true) (h2 : nth out v = false) :
  nth left v = cU nx ins (q.take i) v ∧ cU nx ins (q.take i ++ [nth q i]) v = nth left v - 1 := by
 have hl := h.lf v hvn h1 h2
 rw [(Zmt hk hn hi hv).1] at hl
 have hr := hq.iq _ (ZaE hi)
 have hui : nth ins (nth q i).toNat = true := hq.inm (v := (nth q i).toNat) (by omega) (by rw [Int.toNat_of_nonneg hr.1]; exact ZaE hi)
 have hnt : nth q i ∉ q.take i := by
  intro hm
  have e : q = q.take (i + 1) ++ q.drop (i + 1) := (List.take_append_drop _ _).symm
  have hnd := hq.nd
  rw [ZaF hi] at e
  rw [e, List.nodup_append, List.nodup_append] at hnd
  exact hnd.1.2.2 _ hm _ (List.mem_singleton.2 rfl) rfl
 exact ⟨hl, by rw [Zuz (hg.nd v hvn) he hui hnt, hl]⟩
theorem CS.dec (h : CS n o nx who ins out left (seen q ps i k)) (hq : AQ n o p nx who ins goal out q) (hg : GDt n o p nx) (hk : k < ps.length) (hn : ps.Nodup) (hi : i < q.length) (hv : nth ps k = (v : Int)) (hvn : v < n) (he : nth q i ∈ nth nx v) (h1 : nth ins v = true) (h2 : nth out v = false) (ho : nth o v ≠ who) (hz : nth left v - 1 ≠ 0) :
  CS n o nx who ins out (left.set v (nth left v - 1)) (seen q ps i (k + 1)) := by
 obtain ⟨e1, e2⟩ := h.cur hq hg hk hn hi hv hvn he h1 h2
 have hnn := ZtZ (nx := nx) (ins := ins) (q.take i ++ [nth q i]) v
 have hll := h.ll
 refine ⟨by rw [List.length_set]; exact hll, fun x hx g1 g2 => ?_, fun x hx g1 g2 go => ?_, fun x hx g1 g2 u hu hux => ?_⟩
 ·by_cases e : v = x
  ·subst e
   rw [Zav (by omega), (Zmt hk hn hi hv).2, e2]
  ·rw [ZaI e, Zdd hk (by omega)]; exact h.lf x hx g1 g2
 ·by_cases e : v = x
  ·subst e; exact absurd go ho
  ·rw [Zdd hk (by omega)]; exact h.me x hx g1 g2 go
 ·by_cases e : v = x
  ·subst e
   rw [Zav (by omega)]; omega
  ·rw [ZaI e]
   rw [Zdd hk (by omega)] at hu
   exact h.ps x hx g1 g2 u hu hux
theorem CS.add (h : CS n o nx who ins out left (seen q ps i k)) (hq : AQ n o p nx who ins goal out q) (hg : GDt n o p nx) (hk : k < ps.length) (hn : ps.Nodup) (hi : i < q.length) (hv : nth ps k = (v : Int)) (hvn : v < n) (he : nth q i ∈ nth nx v) (h1 : nth ins v = true) (h2 : nth out v = false) (ho : nth o v = who ∨ nth left v - 1 = 0) :
  AQ n o p nx who ins goal (out.set v true) (q ++ [(v : Int)]) ∧ CS n o nx who ins (out.set v true) (left.set v (nth left v - 1)) (seen (q ++ [(v : Int)]) ps i (k + 1)) := by
 obtain ⟨e1, e2⟩ := h.cur hq hg hk hn hi hv hvn he h1 h2
 have hr := hq.iq _ (ZaE hi)
 have hA := ZdS (G := pgd o p nx) (i := who) (S := inS n ins) (T := fun v => nth goal v = true) (n := n) fun v hv => hv.1
 have hq' : ∀ x : Int, x ∈ q → AttR (pgd o p nx) who (inS n ins) (fun v => nth goal v = true) x.toNat := fun x hx => by
  have h3 := hq.iq x hx
  exact hq.sd x.toNat (by omega) (by rw [Int.toNat_of_nonneg h3.1]; exact hx)
 have ha : AttR (pgd o p nx) who (inS n ins) (fun v => nth goal v = true) v := by
  by_cases hw : nth o v = who
  ·exact hA.cm v ⟨hvn, h1⟩ hw (nth q i).toNat (hq' _ (ZaE hi)) (by show ((nth q i).toNat : Int) ∈ nth nx v; rw [Int.toNat_of_nonneg hr.1]; exact he)
  ·refine hA.ch v ⟨hvn, h1⟩ hw fun u hu hue => ?_
   have h4 := Zs0 (nx := nx) (ins := ins) (D := q.take i ++ [nth q i]) (v := v) (by rw [e2]; exact ho.resolve_left hw) (u : Int) hue (by simpa using hu.2)
   have h5 : (u : Int) ∈ q := by
    rcases List.mem_append.1 h4 with h4 | h4
    ·exact List.mem_of_mem_take h4
    ·rw [List.mem_singleton.1 h4]; exact ZaE hi
   simpa using hq' _ h5
 refine ⟨hq.add hvn h2 ha, ?_⟩
 rw [ZmH hi]
 have hlo := hq.lo
 have hx : ∀ x, nth (out.set v true) x = false → v ≠ x := fun x hx e => by subst e; rw [Zav (by omega)] at hx; cases hx
 refine ⟨by rw [List.length_set]; exact h.ll, fun x hxn g1 g2 => ?_, fun x hxn g1 g2 go => ?_, fun x hxn g1 g2 u hu hux => ?_⟩
 ·have e := hx x g2
  rw [ZaI e] at g2
  rw [ZaI e, Zdd hk (by omega)]; exact h.lf x hxn g1 g2
 ·have e := hx x g2
  rw [ZaI e] at g2
  rw [Zdd hk (by omega)]; exact h.me x hxn g1 g2 go
 ·have e := hx x g2
  rw [ZaI e] at g2
  rw [ZaI e]
  rw [Zdd hk (by omega)] at hu
  exact h.ps x hxn g1 g2 u hu hux
theorem CS.next (h : CS n o nx who ins out left (seen q ps i k)) (hk : ps.length ≤ k) (hi : i < q.length) (hp : ∀ v, v < n → (v : Int) ∉ ps → nth q i ∉ nth nx v) : CS n o nx who ins out left (fun _ => q.take (i + 1)) := by
 have hs : ∀ v, seen q ps i k v = if (v : Int) ∈ ps then q.take (i + 1) else q.take i := fun v => by unfold seen; rw [List.take_of_length_le hk]
 refine ⟨h.ll, fun v hv g1 g2 => ?_, fun v hv g1 g2 go u hu => ?_, fun v hv g1 g2 u hu hux => ?_⟩
 ·have h3 := h.lf v hv g1 g2
  rw [hs] at h3
  by_cases e : (v : Int) ∈ ps
  ·rw [if_pos e] at h3; exact h3
  ·rw [if_neg e] at h3; rw [h3, ZaF hi, Zuk (hp v hv e)]
 ·have h3 := h.me v hv g1 g2 go
  rw [hs] at h3
  by_cases e : (v : Int) ∈ ps
  ·rw [if_pos e] at h3; exact h3 u hu
  ·rw [if_neg e] at h3
   rw [ZaF hi] at hu
   rcases List.mem_append.1 hu with hu | hu
   ·exact h3 u hu
   ·rw [List.mem_singleton.1 hu]; exact hp v hv e
 ·have h3 := h.ps v hv g1 g2
  rw [hs] at h3
  by_cases e : (v : Int) ∈ ps
  ·rw [if_pos e] at h3; exact h3 u hu hux
  ·rw [if_neg e] at h3
   rw [ZaF hi] at hu
   rcases List.mem_append.1 hu with hu | hu
   ·exact h3 u hu hux
   ·rw [List.mem_singleton.1 hu] at hux; exact absurd hux (hp v hv e)
theorem CS.fin (h : CS n o nx who ins out left (fun _ => q.take i)) (hq : AQ n o p nx who ins goal out q) (hg : GDt n o p nx) (hi : q.length ≤ i) (ht : ∀ v, v < n → nth ins v = true → ∃ u ∈ nth nx v, nth ins u.toNat = true) : out = attL n o p nx who ins goal := by
 have hD : q.take i = q := List.take_of_length_le hi
 refine hq.done (fun v hv h1 h2 ho u hu => h.me v hv h1 h2 ho u (by rw [hD]; exact hu)) fun v hv h1 h2 ho => ?_
 apply Classical.byContradiction
 intro hc
 have hall : ∀ u ∈ nth nx v, nth ins u.toNat = true → u ∈ q := fun u hu hi' => by
  have hr := hg.rg v hv u hu
  cases hb : nth out u.toNat with
  | true => have := (hq.mem u.toNat (by omega)).1 hb; rwa [Int.toNat_of_nonneg hr.1] at this
  | false => exact absurd ⟨u.toNat, by omega, hi', by rw [Int.toNat_of_nonneg hr.1]; exact hu, hb⟩ hc
 obtain ⟨u, hu, hui⟩ := ht v hv h1
 have hp := h.ps v hv h1 h2 u (by rw [hD]; exact hall u hu hui) hu
 have hl := h.lf v hv h1 h2
 rw [hD] at hl
 have : cU nx ins q v = 0 := by
  unfold cU
  have : (nth nx v).countP (fun u => nth ins u.toNat && !q.contains u) = 0 := by
   rw [List.countP_eq_zero]
   intro x hx
   cases hb : nth ins x.toNat with
   | false => simp
   | true => simp [hall x hx hb]
  rw [this]; rfl
 omega
end
end Go.Proofs.YtjjidamlmebaaaaGreat

