/- Products of monitors: a product of valid automata is valid. No program in sight; no conditions. -/
import Derived.Test.YtnieejghoaccmaaGreatJN
import Derived.Test.YtnieejghoaccmaaGreatMR
namespace Go.Proofs.YtnieejghoaccmaaGreat
open Go.RowKit
open Shp
variable {a b n n2 : List (List Int)} {W : Nat} {os : List (Int × Int)} {xs : List Int} {ps ps2 : List (List Int × List Int)} {o k : Int} {cs : List (Int × List Int × List Int)}
theorem Ztd {a b : List (List Int)} (hv : ∀ x, VP a.length b.length x → ∀ y ∈ Zbr a b x, VP a.length b.length y) : ∀ (f k : Nat) (os0 os : List (Int × Int)), PsOk a b os0 → 1 ≤ os0.length → os0.length ≤ 48 → k ≤ os0.length → 48 ≤ f + k → Clo a b os0 k → jnG a b f k os0 = some os →
  PsOk a b os ∧ 1 ≤ os.length ∧ os.length ≤ 48 ∧ Clo a b os os.length
 | 0, k, os0, os, h1, h2, h3, h4, h5, h6, e => by
  simp only [jnG, Option.some.injEq] at e; subst e
  exact ⟨h1, h2, h3, by rw [show os0.length = k by omega]; exact h6⟩
 | f + 1, k, os0, os, h1, h2, h3, h4, h5, h6, e => by
  simp only [jnG] at e
  split at e
  ·rename_i hk
   split at e
   ·cases e
   ·rename_i hl
    obtain ⟨t, ht⟩ := ZkH (Zbr a b (nth os0 k)) os0
    have hx : Ext os0 (addG os0 (Zbr a b (nth os0 k))) := ⟨t, ht⟩
    have hlen := hx.len
    have hp : PsOk a b (addG os0 (Zbr a b (nth os0 k))) := ⟨Zj5 _ _ h1.1, fun y hy => by
     rcases (ZkW _ _ y).1 hy with h | h
     ·exact h1.2 y h
     ·exact hv _ (h1.2 _ (Zaz hk)) y h⟩
    exact Ztd hv f (k + 1) _ os hp (by omega) (by omega) (by omega) (by omega) (h6.step hx hk fun y hy => (ZkW _ _ y).2 (.inr hy)) e
  ·simp only [Option.some.injEq] at e; subst e
   exact ⟨h1, h2, h3, by rw [show os0.length = k by omega]; exact h6⟩
theorem ZzE  (ha : GoOk a (W : Int)) (hb : GoOk b (W : Int)) (x : Int × Int) (hx : VP a.length b.length x) (y : Int × Int) (hy : y ∈ Zbr a b x) : VP a.length b.length y := by
 obtain ⟨i, hi, rfl⟩ := Zbx hy
 rw [Zbi] at hi
 have hr := ha.row hx.1.1 hx.1.2
 have hr' : (rowN a x.1).length = W := by unfold rowN; omega
 rw [Zcd hi]
 have h1 := ha.step (x := (i : Int)) hx.1 (by omega)
 have h2 := hb.step (x := (i : Int)) hx.2 (by omega)
 rw [Int.toNat_natCast] at h1 h2
 exact ⟨h1, h2⟩
theorem ZpM  (ha : GoOk a (W : Int)) (hb : GoOk b (W : Int)) (la : 1 ≤ a.length) (lb : 1 ≤ b.length)  (e : jnF a b = some os) : PsOk a b os ∧ 1 ≤ os.length ∧ os.length ≤ 48 ∧ Clo a b os os.length :=
 Ztd (ZzE ha hb) 48 0 [(0, 0)] os ⟨by simp, fun y hy => by simp only [List.mem_singleton] at hy; subst hy; exact ⟨⟨by simp, by simp; omega⟩, ⟨by simp, by simp; omega⟩⟩⟩ (by simp) (by simp) (by simp) (by omega) (fun j hj => by omega) e
theorem ZrG  (ha : GoOk a (W : Int))  (hp : PsOk a b os) (hc : Clo a b os os.length) : GoOk (Za3 a b os os.length) (W : Int) := fun q hq => by
 rw [Zbb (Nat.le_refl _)] at hq
 have e : nth (Za3 a b os os.length) q = (Zbr a b (nth os q)).map (Zbv os) := by
  unfold Za3; rw [List.take_length]; exact ZdF hq
 have hv := hp.at hq
 have hr := ha.row hv.1.1 hv.1.2
 have hl : (Zbr a b (nth os q)).length = W := by rw [Zbi]; unfold rowN; omega
 rw [e, Zbb (Nat.le_refl _)]
 refine ⟨by rw [List.length_map, hl], below_iff.2 fun j hj => ?_⟩
 rw [List.length_map] at hj
 rw [ZdF hj]
 obtain ⟨z, hz, e2, _⟩ := Zd4 (hc q hq _ (Zaz hj))
 rw [e2]; omega
theorem Zot  {n v : Int} (h : ZbS xs n = true) (h0 : 0 ≤ v ∧ v < n) (hl : ∀ x ∈ xs, x < v) : ZbS (xs ++ [v]) n = true := by
 unfold ZbS at *
 rw [allN_iff] at h ⊢
 intro j hj
 rw [List.length_append, List.length_singleton] at hj
 rcases Nat.lt_or_ge j xs.length with h1 | h1
 ·have h2 := h j h1
  rw [Zmk h1, Zmk (by omega)]; exact h2
 ·have e : j = xs.length := by omega
  subst e
  rw [Zx4 (Nat.le_refl _), Nat.sub_self]
  simp only [Bool.and_eq_true, Bool.or_eq_true, decide_eq_true_eq]
  refine ⟨⟨h0.1, h0.2⟩, ?_⟩
  rcases Nat.eq_zero_or_pos xs.length with h2 | h2
  ·exact .inl h2
  ·right; rw [Zmk (by omega)]; exact hl _ (Zaz (by omega))
theorem ZiA {s xs : List Int} : ∀ {i : Nat}, ∀ x ∈ ZaJ s xs i, 0 ≤ x ∧ x < (i : Int)
 | 0, x, h => by simp [ZaJ] at h
 | i + 1, x, h => by
  simp only [ZaJ] at h
  split at h
  ·rcases List.mem_append.1 h with h | h
   ·have := ZiA x h; omega
   ·simp only [List.mem_singleton] at h; omega
  ·have := ZiA x h; omega
theorem ZdB {s xs : List Int} {n : Int} : ∀ {i : Nat}, (i : Int) ≤ n → ZbS (ZaJ s xs i) n = true
 | 0, _ => rfl
 | i + 1, h => by
  simp only [ZaJ]
  split
  ·exact Zot (ZdB (by omega)) (by omega) fun x hx => (ZiA x hx).2
  ·exact ZdB (by omega)
theorem pairsB_iff  {n : Int} : Zei ps n = true ↔ ps.length ≤ 4 ∧ ∀ p ∈ ps, ZbS p.1 n = true ∧ ZbS p.2 n = true := by
 unfold Zei
 rw [Bool.and_eq_true, decide_eq_true_eq, allN_iff]
 refine and_congr_right fun _ => ⟨fun h p hp => ?_, fun h k hk => ?_⟩
 ·obtain ⟨k, hk, rfl⟩ := Zbx hp
  have := h k hk
  unfold ZeW at this; rwa [Bool.and_eq_true] at this
 ·unfold ZeW; rw [Bool.and_eq_true]; exact h _ (Zaz hk)
theorem Zj8  {n : Int} (hn : (xs.length : Int) ≤ n) : ∀ p ∈ Zbn ps xs, ZbS p.1 n = true ∧ ZbS p.2 n = true := fun p hp => by
 obtain ⟨p0, _, rfl⟩ := List.mem_map.1 hp
 exact ⟨ZdB hn, ZdB hn⟩
theorem detB_iff {i : Int}   : detB i o n ps = true ↔ sigB i o = true ∧ (1 ≤ n.length ∧ n.length ≤ 48) ∧ Zei ps n.length = true ∧ GoOk n (Zaa i o) := by
 unfold detB GoOk
 simp only [Bool.and_eq_true, decide_eq_true_eq, allN_iff, Zhf]
 constructor
 ·rintro ⟨⟨⟨⟨h1, h2⟩, h3⟩, h4⟩, h5⟩; exact ⟨h1, ⟨h2, h3⟩, h4, h5⟩
 ·rintro ⟨h1, ⟨h2, h3⟩, h4, h5⟩; exact ⟨⟨⟨⟨h1, h2⟩, h3⟩, h4⟩, h5⟩
theorem Za0 (i o : Int) : ((Zaa i o).toNat : Int) = Zaa i o := by have := Zaw i o; omega
theorem Zfe {i : Int}   (h : detB i o n ps = true) (h2 : detB i o n2 ps2 = true) (hj : (Zbs n ps n2 ps2).2 = true) : detB i o (Zbs n ps n2 ps2).1.1 (Zbs n ps n2 ps2).1.2 = true := by
 obtain ⟨a1, ⟨a2, a3⟩, a4, a5⟩ := detB_iff.1 h
 obtain ⟨b1, ⟨b2, b3⟩, b4, b5⟩ := detB_iff.1 h2
 rw [← Za0] at a5 b5
 by_cases hl : ps.length + ps2.length ≤ 4
 ·cases e : jnF n n2 with
  | none => rw [Zcm e] at hj; cases hj
  | some os =>
   rw [Zcv hl e]
   obtain ⟨c1, c2, c3, c4⟩ := ZpM a5 b5 a2 b2 e
   have hlen : (Za3 n n2 os os.length).length = os.length := Zbb (Nat.le_refl _)
   refine detB_iff.2 ⟨a1, ⟨by rw [hlen]; exact c2, by rw [hlen]; exact c3⟩, pairsB_iff.2 ⟨by rw [List.length_append, Zbg, Zbg]; exact hl, fun p hp => ?_⟩, by rw [← Za0]; exact ZrG a5 c1 c4⟩
   rw [hlen]
   rcases List.mem_append.1 hp with hp | hp
   ·exact Zj8 (by simp) p hp
   ·exact Zj8 (by simp) p hp
 ·rw [Zb7 hl] at hj; cases hj
theorem ZpA {q : Int} {a b : Bool} (hk : 1 ≤ k ∧ k ≤ 7) (hq : 0 ≤ q ∧ q < Zbz k) : 0 ≤ Zcq k q a b ∧ Zcq k q a b < Zbz k := by
 have h : k = 1 ∨ k = 2 ∨ k = 3 ∨ k = 4 ∨ k = 5 ∨ k = 6 ∨ k = 7 := by omega
 rcases h with rfl | rfl | rfl | rfl | rfl | rfl | rfl <;> cases a <;> cases b <;> simp [Zcq, Zbz, bit] at * <;> omega
theorem Zon  (hk : 1 ≤ k ∧ k ≤ 7) : ZbS (monP k).1 (Zbz k) = true ∧ ZbS (monP k).2 (Zbz k) = true := by
 have h : k = 1 ∨ k = 2 ∨ k = 3 ∨ k = 4 ∨ k = 5 ∨ k = 6 ∨ k = 7 := by omega
 rcases h with rfl | rfl | rfl | rfl | rfl | rfl | rfl <;> decide
theorem ZpC {i : Int} {a b : List Int} (hs : sigB i o = true) (hk : 1 ≤ k ∧ k ≤ 7) : detB i o (monN k a b (Zaa i o).toNat) [monP k] = true := by
 have hm := Zmd k
 refine detB_iff.2 ⟨hs, ⟨by rw [ZbY]; omega, by rw [ZbY]; omega⟩, pairsB_iff.2 ⟨by simp, fun p hp => ?_⟩, fun q hq => ?_⟩
 ·simp only [List.mem_singleton] at hp; subst hp; rw [ZbY]; exact Zon hk
 ·rw [ZbY] at hq
  have e : nth (monN k a b (Zaa i o).toNat) q = ZcN k a b (Zaa i o).toNat q := by rw [Zbu (by rw [ZbY]; exact hq)]; simp [monN]
  rw [e, ZbY, Zbo]
  refine ⟨Za0 i o, below_iff.2 fun j hj => ?_⟩
  rw [Zbo] at hj
  have e2 : nth (ZcN k a b (Zaa i o).toNat q) j = Zcq k q (has a j) (has b j) := by rw [Zbu (by rw [Zbo]; exact hj)]; simp [ZcN]
  rw [e2]; exact ZpA hk (by omega)
theorem Zc9 {i : Int}   (h : detB i o n ps = false) : ZaX i o n ps n2 ps2 = (([], []), false) := by unfold ZaX; rw [if_neg (by rw [h]; simp)]
theorem ZeT {i : Int}   (h : detB i o n2 ps2 = false) : ZaX i o n ps n2 ps2 = (([], []), false) := by unfold ZaX; rw [if_neg (by rw [h]; simp)]
theorem Zgi {i : Int}   (h : detB i o n ps = true) (h2 : detB i o n2 ps2 = true) : ZaX i o n ps n2 ps2 = Zbs n ps n2 ps2 := by unfold ZaX; rw [if_pos ⟨h, h2⟩]
theorem ZjR {i : Int}   (h : ¬ ps.length + ps2.length ≤ 4) : ZaX i o n ps n2 ps2 = (([], []), false) := by
 unfold ZaX; split
 ·exact Zb7 h
 ·rfl
theorem Zmg {i : Int}   (h : sigB i o = false) : detB i o n ps = false := by unfold detB; rw [h]; rfl
theorem ZeB {i : Int}   (h : detB i o n ps = true) : ps.length ≤ 4 := (pairsB_iff.1 (detB_iff.1 h).2.2.1).1
theorem Zh2 {s : List Int} : (ZaJ s xs xs.length).length ≤ xs.length := ZcW
theorem ZqU {i : Int}   (h : detB i o n ps = true) (h2 : detB i o n2 ps2 = true) : cntR (Zbs n ps n2 ps2).1.1 ≤ 1000 ∧ Zis (Zbs n ps n2 ps2).1.2 ≤ 1000 := by
 by_cases hj : (Zbs n ps n2 ps2).2 = true
 ·obtain ⟨_, ⟨c1, c2⟩, c3, c4⟩ := detB_iff.1 (Zfe h h2 hj)
  have hL := Zaw i o
  obtain ⟨c5, c6⟩ := pairsB_iff.1 c3
  constructor
  ·refine Nat.le_trans (ZgQ (m := 16) fun x hx => ?_) (by omega)
   obtain ⟨q, hq, rfl⟩ := Zbx hx
   have := (c4 q hq).1; omega
  ·by_cases hl : ps.length + ps2.length ≤ 4
   ·cases e : jnF n n2 with
    | none => rw [Zcm e]; simp [Zis, cntG]
    | some os =>
     obtain ⟨a1, ⟨a2, a3⟩, a4, a5⟩ := detB_iff.1 h
     obtain ⟨b1, ⟨b2, b3⟩, b4, b5⟩ := detB_iff.1 h2
     rw [← Za0] at a5 b5
     obtain ⟨_, _, c9, _⟩ := ZpM a5 b5 a2 b2 e
     rw [Zcv hl e]
     refine Nat.le_trans (ZgQ (m := 96) fun x hx => ?_) (by rw [List.length_append, Zbg, Zbg]; omega)
     have key : ∀ (ps : List (List Int × List Int)) (xs : List Int), xs.length ≤ 48 → x ∈ Zbn ps xs → cntP x ≤ 96 := fun ps xs hxs hx => by
      obtain ⟨p0, _, rfl⟩ := List.mem_map.1 hx
      have q1 := Zh2 (s := p0.1) (xs := xs)
      have q2 := Zh2 (s := p0.2) (xs := xs)
      unfold cntP pairP; simp only; omega
     rcases List.mem_append.1 hx with hx | hx
     ·exact key _ _ (by simpa using c9) hx
     ·exact key _ _ (by simpa using c9) hx
   ·rw [Zb7 hl]; simp [cntR, Zis, cntG]
 ·by_cases hl : ps.length + ps2.length ≤ 4
  ·cases e : jnF n n2 with
   | none => rw [Zcm e]; simp [cntR, Zis, cntG]
   | some os => rw [Zcv hl e] at hj; exact absurd rfl hj
  ·rw [Zb7 hl]; simp [cntR, Zis, cntG]
def Zex (L : Nat) : List (Int × List Int × List Int) → List (List Int) → List (List Int × List Int) → (List (List Int) × List (List Int × List Int)) × Bool
 | [], n, ps => ((n, ps), true)
 | c :: cs, n, ps => if (Zbs n ps (monN c.1 c.2.1 c.2.2 L) [monP c.1]).2 = true then Zex L cs (Zbs n ps (monN c.1 c.2.1 c.2.2 L) [monP c.1]).1.1 (Zbs n ps (monN c.1 c.2.1 c.2.2 L) [monP c.1]).1.2 else (([], []), false)
def Zea (i o : Int) (cs : List (Int × List Int × List Int)) : (List (List Int) × List (List Int × List Int)) × Bool :=
 if ZaV i o cs = true then Zex (Zaa i o).toNat cs [List.replicate (Zaa i o).toNat 0] [] else (([], []), false)
theorem ZmM {i : Int} (hs : sigB i o = true) : detB i o [List.replicate (Zaa i o).toNat 0] [] = true := by
 refine detB_iff.2 ⟨hs, by simp, rfl, fun q hq => ?_⟩
 have : q = 0 := by simpa using hq
 subst this
 have e : nth [List.replicate (Zaa i o).toNat (0 : Int)] 0 = List.replicate (Zaa i o).toNat 0 := rfl
 rw [e, List.length_replicate]
 refine ⟨Za0 i o, below_iff.2 fun j hj => ?_⟩
 rw [List.length_replicate] at hj
 rw [Zbu (by simpa using hj)]; simp
theorem Zmp {L : Nat}  {j : Nat} (hj : j < cs.length)   : Zex L (cs.drop j) n ps = if (Zbs n ps (monN (nth cs j).1 (nth cs j).2.1 (nth cs j).2.2 L) [monP (nth cs j).1]).2 = true then Zex L (cs.drop (j + 1)) (Zbs n ps (monN (nth cs j).1 (nth cs j).2.1 (nth cs j).2.2 L) [monP (nth cs j).1]).1.1 (Zbs n ps (monN (nth cs j).1 (nth cs j).2.1 (nth cs j).2.2 L) [monP (nth cs j).1]).1.2 else (([], []), false) := by
 rw [Ze2 hj]; rfl
theorem ZeK {i : Int}  (h : ZaV i o cs = true) : sigB i o = true ∧ cs.length ≤ 3 ∧ ∀ j, j < cs.length → ZdE (Zaa i o) (nth cs j).1 (nth cs j).2.1 (nth cs j).2.2 = true := by
 unfold ZaV at h
 simp only [Bool.and_eq_true, decide_eq_true_eq, allN_iff, Zed] at h
 exact ⟨h.1.1, h.1.2, h.2⟩
end Go.Proofs.YtnieejghoaccmaaGreat

