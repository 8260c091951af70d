/- Joined automata take what both take; a quotient takes what the automaton takes, and its own quotient is itself. No program in sight; no conditions. -/
import Derived.Test.YtabfpoflhacknaaGreatAD
import Derived.Test.YtabfpoflhacknaaGreatMX
import Derived.Test.YtabfpoflhacknaaGreatPR
namespace Go.Proofs.YtabfpoflhacknaaGreat
open Go.RowKit
open Shp
theorem Zfc {Q R : Nat → Int} {p p' : List Int × List Int} (h1 : ∀ i, Q i ∈ p.1 ↔ R i ∈ p'.1) (h2 : ∀ i, Q i ∈ p.2 ↔ R i ∈ p'.2) : Zbm Q p ↔ Zbm R p' := by
 unfold Zbm
 rw [show (fun i => Q i ∈ p.1) = fun i => R i ∈ p'.1 from funext fun i => propext (h1 i), show (fun i => Q i ∈ p.2) = fun i => R i ∈ p'.2 from funext fun i => propext (h2 i)]
theorem ZoM {ps : List (List Int × List Int)} {met : List Int} : ∀ {k : Nat}, brkZ ps met k = [] ↔ ∀ j, j < k → (ZcG met (nth ps j).1 = true → ZcG met (nth ps j).2 = true)
 | 0 => by simp [brkZ]
 | k + 1 => by
  have ih := ZoM (ps := ps) (met := met) (k := k)
  simp only [brkZ]
  constructor
  ·intro h j hj
   split at h
   ·simp at h
   ·rename_i hc
    by_cases e : j = k
    ·subst e
     intro h1
     cases h2 : ZcG met (nth ps j).2 with
     | true => rfl
     | false => exact absurd ⟨h1, h2⟩ hc
    ·exact ih.1 h j (by omega)
  ·intro h
   rw [if_neg fun hc => by have := h k (by omega) hc.1; rw [hc.2] at this; cases this]
   exact ih.2 fun j hj => h j (by omega)
section
variable {n : List (List Int)} {s l : List Int}
theorem Zha {i o : Int} {ps : List (List Int × List Int)} (hd : detB i o n ps = true) (hw : ZaI s l (Zaa i o) = true) : Zc4 i o n ps s l = true ↔ ∀ p ∈ ps, Zbm (runQ n 0 (letN s l)) p := by
 obtain ⟨_, h1, _⟩ := ZeI hd
 have hg := Zcr hd
 obtain ⟨_, _, h4, h5, h6⟩ := wordB_parts.1 hw
 rw [← Zop hd hw, ZoL hd hw, decide_eq_true_eq, ZoM]
 unfold Zbm
 constructor
 ·intro h p hp
  obtain ⟨j, hj, rfl⟩ := Za1 hp
  rw [← Zg8 hg h5 h6 h1 h4, ← Zg8 hg h5 h6 h1 h4]
  exact h j hj
 ·intro h j hj
  rw [Zg8 hg h5 h6 h1 h4, Zg8 hg h5 h6 h1 h4]
  exact h _ (Zal hj)
end
theorem Zkk {s xs : List Int} {x : Int} : ∀ {i : Nat}, x ∈ ZaN s xs i ↔ ∃ j : Nat, j < i ∧ x = (j : Int) ∧ has s (nth xs j) = true
 | 0 => by simp [ZaN]
 | i + 1 => by
  have ih := Zkk (s := s) (xs := xs) (x := x) (i := i)
  simp only [ZaN]
  split
  ·rename_i hc
   rw [List.mem_append, ih, List.mem_singleton]
   constructor
   ·rintro (⟨j, h1, h2, h3⟩ | e)
    ·exact ⟨j, by omega, h2, h3⟩
    ·exact ⟨i, by omega, e, hc⟩
   ·rintro ⟨j, h1, h2, h3⟩
    by_cases e : j = i
    ·subst e; exact .inr h2
    ·exact .inl ⟨j, by omega, h2, h3⟩
  ·rename_i hc
   rw [ih]
   constructor
   ·rintro ⟨j, h1, h2, h3⟩; exact ⟨j, by omega, h2, h3⟩
   ·rintro ⟨j, h1, h2, h3⟩
    by_cases e : j = i
    ·subst e; exact absurd h3 hc
    ·exact ⟨j, by omega, h2, h3⟩
theorem Ze9 {s xs : List Int} {j : Nat} (hj : j < xs.length) : (j : Int) ∈ ZaN s xs xs.length ↔ nth xs j ∈ s := by
 rw [Zkk, ← has_iff]
 constructor
 ·rintro ⟨k, _, h2, h3⟩
  have e : j = k := by omega
  subst e; exact h3
 ·intro h; exact ⟨j, hj, rfl, h⟩
theorem Zq0 {a b : List (List Int)} : ∀ (f k : Nat) (os0 os : List (Int × Int)), jnG a b f k os0 = some os → Ext os0 os
 | 0, k, os0, os, e => by simp only [jnG, Option.some.injEq] at e; subst e; exact Ext.refl _
 | f + 1, k, os0, os, e => by
  simp only [jnG] at e
  split at e
  ·split at e
   ·cases e
   ·obtain ⟨t, ht⟩ := Zfn (Zbj a b (nth os0 k)) os0
    obtain ⟨t2, ht2⟩ := Zq0 f (k + 1) _ os e
    exact ⟨t ++ t2, by rw [ht2, ht, List.append_assoc]⟩
  ·simp only [Option.some.injEq] at e; subst e; exact Ext.refl _
section
variable {n n2 : List (List Int)} {os : List (Int × Int)} {W : Nat}
theorem ZsB (ha : GoOk n (W : Int)) (hb : GoOk n2 (W : Int)) (la : 1 ≤ n.length) (lb : 1 ≤ n2.length) (e : jnF n n2 = some os) {f : Nat → Int} (hf : ∀ i, 0 ≤ f i ∧ f i < (W : Int)) : ∀ i, ∃ j : Nat, j < os.length ∧ runQ (Zbt n n2 os os.length) 0 f i = (j : Int) ∧ nth os j = (runQ n 0 f i, runQ n2 0 f i) := by
 obtain ⟨h1, h2, h3, h4⟩ := Zul ha hb la lb e
 intro i
 induction i with
 | zero =>
  obtain ⟨t, ht⟩ := Zq0 _ _ _ _ e
  exact ⟨0, h2, rfl, by rw [ht]; rfl⟩
 | succ i ih =>
  obtain ⟨j, hj, r1, r2⟩ := ih
  have hv := h1.at hj
  have hr := ha.row hv.1.1 hv.1.2
  have hx := hf i
  have hxl : (f i).toNat < (rowN n (nth os j).1).length := by unfold rowN; omega
  have hm : (nth (nth n (nth os j).1.toNat) (f i).toNat, nth (nth n2 (nth os j).2.toNat) (f i).toNat) ∈ os := by
   have := h4 j hj _ (Zal (xs := Zbj n n2 (nth os j)) (k := (f i).toNat) (by rw [Zbo]; exact hxl))
   rwa [Zch hxl] at this
  obtain ⟨z, hz, e2, e3, _⟩ := Zeq hm
  refine ⟨z, hz, ?_, ?_⟩
  ·show nth (nth (Zbt n n2 os os.length) (runQ (Zbt n n2 os os.length) 0 f i).toNat) (f i).toNat = _
   rw [r1, Int.toNat_natCast]
   have e5 : nth (Zbt n n2 os os.length) j = (Zbj n n2 (nth os j)).map (ZbS os) := by
    unfold Zbt; rw [List.take_length]; exact ZbE hj
   rw [e5, ZbE (by rw [Zbo]; exact hxl), Zch hxl]
   exact e2
  ·rw [e3, r2]; rfl
end
theorem Zu3 {n n2 : List (List Int)} {ps ps2 : List (List Int × List Int)} (hj : (ZbI n ps n2 ps2).2 = true) : ∃ os, jnF n n2 = some os ∧ ZbI n ps n2 ps2 = ((Zbt n n2 os os.length, Zbu ps (os.map Prod.fst) ++ Zbu ps2 (os.map Prod.snd)), true) := by
 by_cases hl : ps.length + ps2.length ≤ 4
 ·cases e : jnF n n2 with
  | none => rw [ZhC e] at hj; cases hj
  | some os => exact ⟨os, rfl, Zel hl e⟩
 ·rw [ZhK hl] at hj; cases hj
theorem Zpi {i o : Int} {n n2 : List (List Int)} {ps ps2 : List (List Int × List Int)} {s l : List Int} (h : detB i o n ps = true) (h2 : detB i o n2 ps2 = true) (hj : (ZbI n ps n2 ps2).2 = true) (hw : ZaI s l (Zaa i o) = true) :
  Zc4 i o (ZbI n ps n2 ps2).1.1 (ZbI n ps n2 ps2).1.2 s l = (Zc4 i o n ps s l && Zc4 i o n2 ps2 s l) := by
 have hd := ZfE h h2 hj
 obtain ⟨os, e, ej⟩ := Zu3 hj
 obtain ⟨a1, ⟨a2, a3⟩, a4, a5⟩ := detB_iff.1 h
 obtain ⟨b1, ⟨b2, b3⟩, b4, b5⟩ := detB_iff.1 h2
 rw [← Zbh] at a5 b5
 obtain ⟨_, _, h4, h5, h6⟩ := wordB_parts.1 hw
 have hf : ∀ k, 0 ≤ letN s l k ∧ letN s l k < ((Zaa i o).toNat : Int) := fun k => by rw [Zbh]; exact ZiE h4 h5 h6 k
 have hr := ZsB a5 b5 a2 b2 e hf
 rw [Bool.eq_iff_iff, Bool.and_eq_true, Zha hd hw, Zha h hw, Zha h2 hw, ej]
 have k1 : ∀ p0, Zbm (runQ (Zbt n n2 os os.length) 0 (letN s l)) (pairP (os.map Prod.fst) p0) ↔ Zbm (runQ n 0 (letN s l)) p0 := fun p0 => by
  have key : ∀ (t : List Int) k, runQ (Zbt n n2 os os.length) 0 (letN s l) k ∈ ZaN t (os.map Prod.fst) (os.map Prod.fst).length ↔ runQ n 0 (letN s l) k ∈ t := fun t k => by
   obtain ⟨j, j1, j2, j3⟩ := hr k
   rw [j2, Ze9 (by simpa using j1), ZbE j1, j3]
  exact Zfc (key _) (key _)
 have k2 : ∀ p0, Zbm (runQ (Zbt n n2 os os.length) 0 (letN s l)) (pairP (os.map Prod.snd) p0) ↔ Zbm (runQ n2 0 (letN s l)) p0 := fun p0 => by
  have key : ∀ (t : List Int) k, runQ (Zbt n n2 os os.length) 0 (letN s l) k ∈ ZaN t (os.map Prod.snd) (os.map Prod.snd).length ↔ runQ n2 0 (letN s l) k ∈ t := fun t k => by
   obtain ⟨j, j1, j2, j3⟩ := hr k
   rw [j2, Ze9 (by simpa using j1), ZbE j1, j3]
  exact Zfc (key _) (key _)
 constructor
 ·intro hk
  exact ⟨fun p hp => (k1 p).1 (hk _ (List.mem_append.2 (.inl (List.mem_map_of_mem hp)))), fun p hp => (k2 p).1 (hk _ (List.mem_append.2 (.inr (List.mem_map_of_mem hp))))⟩
 ·rintro ⟨hk1, hk2⟩ p hp
  rcases List.mem_append.1 hp with hp | hp
  ·obtain ⟨p0, h0, rfl⟩ := List.mem_map.1 hp; exact (k1 p0).2 (hk1 p0 h0)
  ·obtain ⟨p0, h0, rfl⟩ := List.mem_map.1 hp; exact (k2 p0).2 (hk2 p0 h0)
section
variable {n : List (List Int)} {ps : List (List Int × List Int)} {W : Nat}
theorem ZtE (hg : GoOk n (W : Int)) {q : Nat} (hq : q < n.length) : nth (Zac n ps) (nth (Zac n ps) q).toNat = nth (Zac n ps) q := by
 obtain ⟨c1, c2, _, _⟩ := ZbZ n ps
 obtain ⟨r, h1, h2, h3, _⟩ := Zge hg c1 c2 hq
 rw [h2, Int.toNat_natCast, h3, h2]
theorem Zgn (hg : GoOk n (W : Int)) (h1 : 1 ≤ n.length) : ∀ q ∈ pdN n (Zac n ps), (0 ≤ q ∧ q < (n.length : Int)) ∧ nth (Zac n ps) q.toNat = q := by
 refine Zls (P := fun q => (0 ≤ q ∧ q < (n.length : Int)) ∧ nth (Zac n ps) q.toNat = q) (fun q hq y hy => ?_) _ _ _ fun x hx => ?_
 ·refine ⟨ZwT hg q hq.1 y hy, ?_⟩
  unfold cT at hy
  obtain ⟨z, hz, rfl⟩ := List.mem_map.1 hy
  obtain ⟨j, hj, rfl⟩ := Za1 hz
  have h2 := hg.step (x := (j : Int)) hq.1 (by have := hg.row hq.1.1 hq.1.2; unfold rowN at hj; omega)
  rw [Int.toNat_natCast] at h2
  exact ZtE hg (q := (nth (rowN n q) j).toNat) (by unfold rowN; omega)
 ·simp only [List.mem_singleton] at hx; subst hx
  rw [Zgz h1]
  exact ⟨by omega, Zgz h1⟩
theorem ZmF (hg : GoOk n (W : Int)) (h1 : 1 ≤ n.length) (h48 : n.length ≤ 48) : ∀ q ∈ pdN n (Zac n ps), ∀ y ∈ cT n (Zac n ps) q, y ∈ pdN n (Zac n ps) :=
 ZiX (P := fun q => 0 ≤ q ∧ q < (n.length : Int)) (N := 48) (fun q hq y hy => ZwT hg q hq y hy) (fun out h2 h3 => by have := ZcL n.length out h2 h3; omega) 48 0 _ (by simp) (fun x hx => by simp only [List.mem_singleton] at hx; subst hx; rw [Zgz h1]; omega) (by omega) (fun j hj => by omega) (by omega)
theorem pd_head : nth (pdN n (Zac n ps)) 0 = nth (Zac n ps) 0 ∧ 1 ≤ (pdN n (Zac n ps)).length := by
 obtain ⟨t, ht⟩ := ZgA (next := cT n (Zac n ps)) 48 0 [nth (Zac n ps) 0]
 unfold pdN
 rw [ht]
 exact ⟨rfl, by simp⟩
theorem Zoc (hg : GoOk n (W : Int)) (h1 : 1 ≤ n.length) {j k : Nat} (hj : j < (pdN n (Zac n ps)).length) (hk : k < (pdN n (Zac n ps)).length) (e : nth (pdN n (Zac n ps)) j = nth (pdN n (Zac n ps)) k) : j = k := by
 have hnd := (Zum (ps := ps) hg h1).1
 rw [Zbi hj, Zbi hk] at e
 exact (List.getElem_inj hnd).1 e
theorem Zlg (hg : GoOk n (W : Int)) (h1 : 1 ≤ n.length) (h48 : n.length ≤ 48) {j x : Nat} (hj : j < (pdN n (Zac n ps)).length) (hx : x < W) {q : Nat} (hq : q < n.length) (e : nth (pdN n (Zac n ps)) j = nth (Zac n ps) q) :
  ∃ k : Nat, k < (pdN n (Zac n ps)).length ∧ nth (nth (ZaT n (Zac n ps)) j) x = (k : Int) ∧ nth (pdN n (Zac n ps)) k = nth (Zac n ps) (nx26 n q x) := by
 obtain ⟨c1, c2, _, _⟩ := ZbZ n ps
 obtain ⟨r0, r1⟩ := Zgn (ps := ps) hg h1 _ (Zal hj)
 have hrl := hg.row r0.1 r0.2
 have hxl : x < (nth n (nth (pdN n (Zac n ps)) j).toNat).length := by omega
 have e1 : nth (Zac n ps) (nth (pdN n (Zac n ps)) j).toNat = nth (Zac n ps) q := by rw [r1]; exact e
 have e2 := ZnZ hg c2 (by omega) hq e1 hx
 have hm : nth (Zac n ps) (nx26 n q x) ∈ pdN n (Zac n ps) := by
  rw [← e2]
  have := ZmF (ps := ps) hg h1 h48 _ (Zal hj) _ (Zal (xs := cT n (Zac n ps) _) (k := x) (by rw [ZkB]; exact hxl))
  rwa [Zqt hxl] at this
 obtain ⟨k, k1, k2, k3⟩ := ZcF hm
 refine ⟨k, k1, ?_, k3⟩
 unfold ZaT
 rw [ZbE hj, ZlK hxl]
 rw [show nth (Zac n ps) (nth (nth n (nth (pdN n (Zac n ps)) j).toNat) x).toNat = nth (Zac n ps) (nx26 n q x) from e2]
 exact k2
theorem ZrW (hg : GoOk n (W : Int)) (h1 : 1 ≤ n.length) (h48 : n.length ≤ 48) {f : Nat → Int} (hf : ∀ i, 0 ≤ f i ∧ f i < (W : Int)) : ∀ i, ∃ j : Nat, j < (pdN n (Zac n ps)).length ∧ runQ (ZaT n (Zac n ps)) 0 f i = (j : Int) ∧ nth (pdN n (Zac n ps)) j = nth (Zac n ps) (runQ n 0 f i).toNat := by
 intro i
 induction i with
 | zero => exact ⟨0, pd_head.2, rfl, pd_head.1⟩
 | succ i ih =>
  obtain ⟨j, hj, r1, r2⟩ := ih
  have hr := Zfm hg (q := 0) ⟨by omega, by omega⟩ hf i
  have hx := hf i
  obtain ⟨k, k1, k2, k3⟩ := Zlg (x := (f i).toNat) hg h1 h48 hj (by omega) (q := (runQ n 0 f i).toNat) (by omega) r2
  refine ⟨k, k1, ?_, k3⟩
  show nth (nth (ZaT n (Zac n ps)) (runQ (ZaT n (Zac n ps)) 0 f i).toNat) (f i).toNat = _
  rw [r1, Int.toNat_natCast]; exact k2
theorem ZkW (hg : GoOk n (W : Int)) (h1 : 1 ≤ n.length) (h48 : n.length ≤ 48) : GoOk (ZaT n (Zac n ps)) (W : Int) := fun q hq => by
 rw [Zbr] at hq
 obtain ⟨r0, r1⟩ := Zgn (ps := ps) hg h1 _ (Zal hq)
 have hrl := hg.row r0.1 r0.2
 have hlen : (nth (ZaT n (Zac n ps)) q).length = (nth n (nth (pdN n (Zac n ps)) q).toNat).length := by unfold ZaT; rw [ZbE hq, Zes]
 refine ⟨by rw [hlen]; exact hrl, below_iff.2 fun x hx => ?_⟩
 rw [hlen] at hx
 obtain ⟨k, k1, k2, _⟩ := Zlg (ps := ps) (x := x) hg h1 h48 hq (by omega) (q := (nth (pdN n (Zac n ps)) q).toNat) (by omega) r1.symm
 rw [k2, Zbr]; omega
theorem ZlM {i o : Int} (h : detB i o n ps = true) : detB i o (ZaT n (Zac n ps)) (Zb1 n ps (Zac n ps)) = true := by
 obtain ⟨hg, g1, g2, g3, g4⟩ := ZfV h
 have hl := Zq9 (ps := ps) hg g1
 have hh := pd_head (n := n) (ps := ps)
 have hgo := ZkW (ps := ps) hg g1 g2
 rw [Zbh] at hgo
 refine detB_iff.2 ⟨(detB_iff.1 h).1, ⟨by rw [Zbr]; exact hh.2, by rw [Zbr]; omega⟩, pairsB_iff.2 ⟨by unfold Zb1; rw [ZaY]; exact g3, fun p hp => ?_⟩, hgo⟩
 rw [Zbr]
 exact ZhG (Int.le_refl _) p hp
theorem ZnF {i o : Int} {s l : List Int} (h : detB i o n ps = true) (hw : ZaI s l (Zaa i o) = true) : Zc4 i o (ZaT n (Zac n ps)) (Zb1 n ps (Zac n ps)) s l = Zc4 i o n ps s l := by
 obtain ⟨hg, g1, g2, g3, g4⟩ := ZfV h
 obtain ⟨_, _, h4, h5, h6⟩ := wordB_parts.1 hw
 have hf : ∀ k, 0 ≤ letN s l k ∧ letN s l k < ((Zaa i o).toNat : Int) := fun k => by rw [Zbh]; exact ZiE h4 h5 h6 k
 have hr := ZrW (ps := ps) hg g1 g2 hf
 have hq := Zfm hg (q := 0) ⟨by omega, by omega⟩ hf
 rw [Bool.eq_iff_iff, Zha (ZlM h) hw, Zha h hw]
 have k1 : ∀ p0 ∈ ps, Zbm (runQ (ZaT n (Zac n ps)) 0 (letN s l)) (pairP (pdN n (Zac n ps)) p0) ↔ Zbm (runQ n 0 (letN s l)) p0 := fun p0 hp0 => by
  obtain ⟨z, hz, rfl⟩ := Za1 hp0
  have hm : ∀ k, memQ ps (nth (pdN n (Zac n ps)) (runQ (ZaT n (Zac n ps)) 0 (letN s l) k).toNat) (runQ n 0 (letN s l) k) = true := fun k => by
   obtain ⟨j, j1, j2, j3⟩ := hr k
   have := (ZbZ n ps).2.2.1 (nth (pdN n (Zac n ps)) j).toNat (runQ n 0 (letN s l) k).toNat (by have := Zgn (ps := ps) hg g1 _ (Zal j1); omega) (by have := hq k; omega) ((Zgn (ps := ps) hg g1 _ (Zal j1)).2.trans j3)
   rw [Int.toNat_of_nonneg (Zgn (ps := ps) hg g1 _ (Zal j1)).1.1, Int.toNat_of_nonneg (hq k).1] at this
   rw [j2, Int.toNat_natCast]; exact this
  have key : ∀ (t : List Int), (∀ k, has t (nth (pdN n (Zac n ps)) (runQ (ZaT n (Zac n ps)) 0 (letN s l) k).toNat) = has t (runQ n 0 (letN s l) k)) → ∀ k, runQ (ZaT n (Zac n ps)) 0 (letN s l) k ∈ ZaN t (pdN n (Zac n ps)) (pdN n (Zac n ps)).length ↔ runQ n 0 (letN s l) k ∈ t := fun t ht k => by
   obtain ⟨j, j1, j2, j3⟩ := hr k
   have := ht k
   rw [j2, Int.toNat_natCast] at this
   rw [j2, Ze9 j1, ← has_iff, ← has_iff, this]
  exact Zfc (key _ fun k => (memQ_iff.1 (hm k) z hz).1) (key _ fun k => (memQ_iff.1 (hm k) z hz).2)
 constructor
 ·intro hk p hp; exact (k1 p hp).1 (hk _ (List.mem_map_of_mem hp))
 ·intro hk p hp
  obtain ⟨p0, h0, rfl⟩ := List.mem_map.1 hp
  exact (k1 p0 h0).2 (hk p0 h0)
end
end Go.Proofs.YtabfpoflhacknaaGreat

