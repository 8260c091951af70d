/- The quotient of a quotient is itself. No program in sight; no conditions. -/
import Derived.Test.YtabfpoflhacknaaGreatQP
namespace Go.Proofs.YtabfpoflhacknaaGreat
open Go.RowKit
open Shp
variable {m k : Nat}
section
variable {n : List (List Int)} {ps : List (List Int × List Int)} {W : Nat}
theorem ZjE (hg : GoOk n (W : Int)) {R : Nat → Nat → Prop} (hm : ∀ q r : Nat, q < n.length → r < n.length → R q r → memQ ps q r = true) (hs : ∀ q r x, q < n.length → r < n.length → x < W → R q r → R (nx26 n q x) (nx26 n r x)) : ∀ (j : Nat) {q r : Nat}, q < n.length → r < n.length → R q r → nth (it (ZcM n) j (ZdV n ps)) q = nth (it (ZcM n) j (ZdV n ps)) r
 | 0, q, r, hq, hr, e => by
  have hm := hm q r hq hr e
  show nth (ZdV n ps) q = nth (ZdV n ps) r
  refine Zir (near := fun p q => memQ ps (p : Int) (q : Int)) hq hr Zdg Zdg fun z hz => ?_
  rw [Bool.eq_iff_iff]
  constructor
  ·intro h1; exact memQ_iff.2 fun k hk => ⟨(memQ_iff.1 h1 k hk).1.trans (memQ_iff.1 hm k hk).1, (memQ_iff.1 h1 k hk).2.trans (memQ_iff.1 hm k hk).2⟩
  ·intro h1; exact memQ_iff.2 fun k hk => ⟨(memQ_iff.1 h1 k hk).1.trans (memQ_iff.1 hm k hk).1.symm, (memQ_iff.1 h1 k hk).2.trans (memQ_iff.1 hm k hk).2.symm⟩
 | j + 1, q, r, hq, hr, e => by
  rw [ZdX]
  have ih := ZjE hg hm hs j hq hr e
  have ihx : ∀ x, x < W → nth (it (ZcM n) j (ZdV n ps)) (nx26 n q x) = nth (it (ZcM n) j (ZdV n ps)) (nx26 n r x) := fun x hx => ZjE hg hm hs j (Zhs hg hq hx) (Zhs hg hr hx) (hs q r x hq hr hx e)
  refine Zir (near := ZeR n _) hq hr Zbz Zbz fun z hz => ?_
  unfold ZeR
  rw [ih, hg.rowN hq, hg.rowN hr]
  congr 1
  rw [Bool.eq_iff_iff]
  simp only [allN_iff, decide_eq_true_eq]
  constructor
  ·intro h1 x hx; rw [← h1 x hx]; exact (ihx x hx).symm
  ·intro h1 x hx; rw [← h1 x hx]; exact ihx x hx
theorem ZsZ (hg : GoOk n (W : Int)) {R : Nat → Nat → Prop} (hm : ∀ q r : Nat, q < n.length → r < n.length → R q r → memQ ps q r = true) (hs : ∀ q r x, q < n.length → r < n.length → x < W → R q r → R (nx26 n q x) (nx26 n r x)) {q r : Nat} (hq : q < n.length) (hr : r < n.length) (h : R q r) : nth (Zac n ps) q = nth (Zac n ps) r := by
 obtain ⟨_, _, _, j, e⟩ := ZbZ n ps
 rw [e]; exact ZjE hg hm hs j hq hr h
theorem ZlV {α β : Type} [DecidableEq α] [DecidableEq β] {φ : α → β} {P : α → Prop} (hi : ∀ a b, P a → P b → φ a = φ b → a = b) : ∀ (ys L : List α), (∀ x ∈ L, P x) → (∀ y ∈ ys, P y) → addG (L.map φ) (ys.map φ) = (addG L ys).map φ
 | [], L, _, _ => rfl
 | y :: ys, L, hL, hy => by
  simp only [List.map_cons, addG]
  have e : (φ y ∈ L.map φ) ↔ y ∈ L := by
   constructor
   ·intro h
    obtain ⟨z, hz, e⟩ := List.mem_map.1 h
    rw [hi z y (hL z hz) (hy y (by simp)) e] at hz; exact hz
   ·exact List.mem_map_of_mem
  by_cases hc : y ∈ L
  ·rw [if_pos hc, if_pos (e.2 hc)]; exact ZlV hi ys L hL fun z hz => hy z (by simp [hz])
  ·rw [if_neg hc, if_neg fun h => hc (e.1 h)]
   have : L.map φ ++ [φ y] = (L ++ [y]).map φ := by simp
   rw [this]
   refine ZlV hi ys (L ++ [y]) (fun x hx => ?_) fun z hz => hy z (by simp [hz])
   rcases List.mem_append.1 hx with hx | hx
   ·exact hL x hx
   ·simp only [List.mem_singleton] at hx; subst hx; exact hy _ (by simp)
theorem Zol {φ : Int → Int} {P : Int → Prop} {next next' : Int → List Int} (hi : ∀ a b, P a → P b → φ a = φ b → a = b) (hp : ∀ x, P x → ∀ y ∈ next x, P y) (hn : ∀ x, P x → next' (φ x) = (next x).map φ) : ∀ (f k : Nat) (L : List Int), (∀ x ∈ L, P x) → bfsG next' f k (L.map φ) = (bfsG next f k L).map φ
 | 0, k, L, _ => rfl
 | f + 1, k, L, hL => by
  simp only [bfsG, List.length_map]
  split
  ·rename_i hk
   rw [ZbE hk, hn _ (hL _ (Zal hk)), ZlV hi _ _ hL (hp _ (hL _ (Zal hk)))]
   refine Zol hi hp hn f (k + 1) _ fun x hx => ?_
   rcases (ZdP _ _ _).1 hx with h | h
   ·exact hL x h
   ·exact hp _ (hL _ (Zal hk)) x h
  ·rfl
def idx (m : Nat) : List Int := (List.range m).map fun (k : Nat) => (k : Int)
theorem Zgg : (idx m).length = m := by simp [idx]
theorem Zjz  (h : k < m) : nth (idx m) k = (k : Int) := by
 rw [Zbi (by rw [Zgg]; exact h)]; simp [idx]
theorem ZrI  (h : k < m) : Za5 (idx m) (k : Int) = (k : Int) := by
 unfold Za5
 refine Zbn k (by rw [Zgg]; exact h) (by rw [Zjz h]; simp) fun j hj => ?_
 rw [Zjz (by omega), beq_eq_false_iff_ne]; omega
theorem Zhb {s : List Int} {xs : List Int} {m : Nat} (hm : m = xs.length) : ∀ {i : Nat}, i ≤ m → ZaN (ZaN s xs xs.length) (idx m) i = ZaN s xs i
 | 0, _ => rfl
 | i + 1, h => by
  simp only [ZaN]
  rw [Zhb hm (by omega), Zjz (by omega)]
  have e : has (ZaN s xs xs.length) (i : Int) = has s (nth xs i) := by
   rw [Bool.eq_iff_iff, has_iff, Ze9 (by omega), has_iff]
  rw [e]
theorem Zf3 (hg : GoOk n (W : Int)) (h1 : 1 ≤ n.length) (h48 : n.length ≤ 48) {p : Nat} (hp : p < (pdN n (Zac n ps)).length) : nth (Zac (ZaT n (Zac n ps)) (Zb1 n ps (Zac n ps))) p = (p : Int) := by
 have hg' := ZkW (ps := ps) hg h1 h48
 obtain ⟨c1, c2, c3, _⟩ := ZbZ n ps
 obtain ⟨d1, d2, d3, _⟩ := ZbZ (ZaT n (Zac n ps)) (Zb1 n ps (Zac n ps))
 have hl := Zbr (n := n) (cl := Zac n ps)
 have one : ∀ p q : Nat, p < (pdN n (Zac n ps)).length → q < (pdN n (Zac n ps)).length → nth (Zac (ZaT n (Zac n ps)) (Zb1 n ps (Zac n ps))) p = nth (Zac (ZaT n (Zac n ps)) (Zb1 n ps (Zac n ps))) q → p = q := by
  intro p q hp hq e
  obtain ⟨p0, p1⟩ := Zgn (ps := ps) hg h1 _ (Zal hp)
  obtain ⟨q0, q1⟩ := Zgn (ps := ps) hg h1 _ (Zal hq)
  have := ZsZ (ps := ps) hg (R := fun a b => ∃ p q : Nat, p < (pdN n (Zac n ps)).length ∧ q < (pdN n (Zac n ps)).length ∧ nth (pdN n (Zac n ps)) p = nth (Zac n ps) a ∧ nth (pdN n (Zac n ps)) q = nth (Zac n ps) b ∧ nth (Zac (ZaT n (Zac n ps)) (Zb1 n ps (Zac n ps))) p = nth (Zac (ZaT n (Zac n ps)) (Zb1 n ps (Zac n ps))) q)
   ?_ ?_ (q := (nth (pdN n (Zac n ps)) p).toNat) (r := (nth (pdN n (Zac n ps)) q).toNat) (by omega) (by omega) ⟨p, q, hp, hq, p1.symm, q1.symm, e⟩
  ·rw [p1, q1] at this
   exact Zoc hg h1 hp hq this
  ·rintro a b ha hb ⟨p, q, hp, hq, e1, e2, e3⟩
   obtain ⟨p0, p1⟩ := Zgn (ps := ps) hg h1 _ (Zal hp)
   obtain ⟨q0, q1⟩ := Zgn (ps := ps) hg h1 _ (Zal hq)
   have m1 := c3 (nth (pdN n (Zac n ps)) p).toNat a (by omega) ha (p1.trans e1)
   have m2 := c3 (nth (pdN n (Zac n ps)) q).toNat b (by omega) hb (q1.trans e2)
   rw [Int.toNat_of_nonneg p0.1] at m1
   rw [Int.toNat_of_nonneg q0.1] at m2
   have m3 := d3 p q (by rw [hl]; exact hp) (by rw [hl]; exact hq) e3
   refine memQ_iff.2 fun k hk => ?_
   have k1 := memQ_iff.1 m1 k hk
   have k2 := memQ_iff.1 m2 k hk
   have k3 := memQ_iff.1 m3 k (by unfold Zb1; rw [ZaY]; exact hk)
   have e4 : nth (Zb1 n ps (Zac n ps)) k = pairP (pdN n (Zac n ps)) (nth ps k) := ZbE hk
   rw [e4] at k3
   have at_ : ∀ (t : List Int) {j : Nat}, j < (pdN n (Zac n ps)).length → has (ZaN t (pdN n (Zac n ps)) (pdN n (Zac n ps)).length) (j : Int) = has t (nth (pdN n (Zac n ps)) j) := fun t j hj => by rw [Bool.eq_iff_iff, has_iff, has_iff, Ze9 hj]
   have k4 : has (nth ps k).1 (nth (pdN n (Zac n ps)) p) = has (nth ps k).1 (nth (pdN n (Zac n ps)) q) := by rw [← at_ _ hp, ← at_ _ hq]; exact k3.1
   have k5 : has (nth ps k).2 (nth (pdN n (Zac n ps)) p) = has (nth ps k).2 (nth (pdN n (Zac n ps)) q) := by rw [← at_ _ hp, ← at_ _ hq]; exact k3.2
   exact ⟨by rw [← k1.1, k4, k2.1], by rw [← k1.2, k5, k2.2]⟩
  ·rintro a b x ha hb hx ⟨p, q, hp, hq, e1, e2, e3⟩
   obtain ⟨p', a1, a2, a3⟩ := Zlg (ps := ps) hg h1 h48 hp hx ha e1
   obtain ⟨q', b1, b2, b3⟩ := Zlg (ps := ps) hg h1 h48 hq hx hb e2
   refine ⟨p', q', a1, b1, a3, b3, ?_⟩
   have := ZnZ hg' d2 (by rw [hl]; exact hp) (by rw [hl]; exact hq) e3 hx
   unfold nx26 at this
   rw [a2, b2, Int.toNat_natCast, Int.toNat_natCast] at this
   exact this
 obtain ⟨r, r1, r2, r3, _⟩ := Zge hg' d1 d2 (q := p) (by rw [hl]; exact hp)
 rw [r2]
 have := one r p (by omega) hp r3
 omega
theorem ZnR (hg : GoOk n (W : Int)) (h1 : 1 ≤ n.length) (h48 : n.length ≤ 48) : pdN (ZaT n (Zac n ps)) (Zac (ZaT n (Zac n ps)) (Zb1 n ps (Zac n ps))) = idx (pdN n (Zac n ps)).length := by
 have hh := pd_head (n := n) (ps := ps)
 have hpl : ∀ {j : Nat}, j < (pdN n (Zac n ps)).length → Za5 (pdN n (Zac n ps)) (nth (pdN n (Zac n ps)) j) = (j : Int) := fun {j} hj => by
  obtain ⟨k, k1, k2, k3⟩ := ZcF (Zal hj)
  rw [k2, Zoc hg h1 k1 hj k3]
 have hcl := ZmF (ps := ps) hg h1 h48
 have hmap : bfsG (cT (ZaT n (Zac n ps)) (Zac (ZaT n (Zac n ps)) (Zb1 n ps (Zac n ps)))) 48 0 ([nth (Zac n ps) 0].map (Za5 (pdN n (Zac n ps)))) = (bfsG (cT n (Zac n ps)) 48 0 [nth (Zac n ps) 0]).map (Za5 (pdN n (Zac n ps))) := by
  refine Zol (P := fun q => q ∈ pdN n (Zac n ps)) (fun a b ha hb e => ?_) (fun q hq y hy => hcl q hq y hy) (fun q hq => ?_) 48 0 _ fun x hx => ?_
  ·obtain ⟨i, i1, i2, i3⟩ := ZcF ha
   obtain ⟨j, j1, j2, j3⟩ := ZcF hb
   rw [i2, j2] at e
   have : i = j := by omega
   rw [← i3, ← j3, this]
  ·obtain ⟨j, hj, rfl⟩ := Za1 hq
   rw [hpl hj]
   unfold cT
   have e1 : rowN (ZaT n (Zac n ps)) (j : Int) = pdR n (Zac n ps) (nth (pdN n (Zac n ps)) j) := by unfold rowN ZaT; rw [Int.toNat_natCast, ZbE hj]
   rw [e1]
   unfold pdR
   rw [List.map_map]
   refine List.map_congr_left fun y hy => ?_
   obtain ⟨k, k1, k2, k3⟩ := ZcF (hcl _ (Zal hj) y hy)
   show Zxb _ (Za5 _ y) = _
   unfold Zxb
   rw [k2, Int.toNat_natCast]
   exact Zf3 hg h1 h48 k1
  ·simp only [List.mem_singleton] at hx; subst hx
   rw [← hh.1]; exact Zal (by omega)
 have e0 : [nth (Zac n ps) 0].map (Za5 (pdN n (Zac n ps))) = [nth (Zac (ZaT n (Zac n ps)) (Zb1 n ps (Zac n ps))) 0] := by
  rw [Zf3 hg h1 h48 (show 0 < (pdN n (Zac n ps)).length by omega), List.map_cons, List.map_nil, ← hh.1, hpl (by omega)]
 unfold pdN
 rw [← e0, hmap]
 show (pdN n (Zac n ps)).map (Za5 (pdN n (Zac n ps))) = idx (pdN n (Zac n ps)).length
 refine Zfl (by rw [List.length_map, Zgg]) fun i hi => ?_
 rw [List.length_map] at hi
 rw [ZbE hi, hpl hi, Zjz hi]
set_option maxHeartbeats 4000000 in
theorem ZnQ {i o : Int} (h : detB i o n ps = true) : ZbB i o (ZaT n (Zac n ps)) (Zb1 n ps (Zac n ps)) = (ZaT n (Zac n ps), Zb1 n ps (Zac n ps)) := by
 obtain ⟨hg, g1, g2, g3, g4⟩ := ZfV h
 rw [ZlP (ZlM h)]
 have hf := ZnR (ps := ps) hg g1 g2
 have hl := Zbr (n := n) (cl := Zac n ps)
 have hgo := ZkW (ps := ps) hg g1 g2
 congr 1
 ·refine Zfl (by rw [Zbr, hf, Zgg, hl]) fun q hq => ?_
  rw [Zbr, hf, Zgg] at hq
  have e1 : nth (ZaT (ZaT n (Zac n ps)) (Zac (ZaT n (Zac n ps)) (Zb1 n ps (Zac n ps)))) q = pdR (ZaT n (Zac n ps)) (Zac (ZaT n (Zac n ps)) (Zb1 n ps (Zac n ps))) (q : Int) := by
   show nth (List.map _ (pdN _ _)) q = _
   rw [hf, ZbE (by rw [Zgg]; exact hq), Zjz hq]
  rw [e1]
  refine Zfl (by rw [Zes, Int.toNat_natCast]) fun x hx => ?_
  rw [Zes, Int.toNat_natCast] at hx
  rw [ZlK (by rw [Int.toNat_natCast]; exact hx), Int.toNat_natCast, hf]
  have hst := hgo.stepN (q := q) (x := x) (by rw [hl]; exact hq) (by rw [hgo.rowN (by rw [hl]; exact hq)] at hx; exact hx)
  rw [hl] at hst
  have e7 := Zf3 (ps := ps) hg g1 g2 (p := (nth (nth (ZaT n (Zac n ps)) q) x).toNat) (by omega)
  rw [e7, ZrI (by omega), Int.toNat_of_nonneg hst.1]
 ·show Zbu _ (pdN _ _) = _
  rw [hf]
  unfold Zb1 Zbu
  rw [List.map_map]
  refine List.map_congr_left fun p _ => ?_
  show pairP _ (pairP _ p) = _
  unfold pairP
  rw [Zgg]
  simp only
  rw [Zhb rfl (Nat.le_refl _), Zhb rfl (Nat.le_refl _)]
end
end Go.Proofs.YtabfpoflhacknaaGreat

