/- Products of monitors: a product of valid automata is valid. No program in sight; no conditions. -/
import Derived.Test.YtnieejghoaccmaaJN
import Derived.Test.YtnieejghoaccmaaMT
namespace Go.Proofs.Ytnieejghoaccmaa
open Go.RowKit
open Shp
variable {a b n n2 : List (List Int)} {W : Nat} {os : List (Int × Int)} {xs : List Int} {ps ps2 : List (List Int × List Int)} {o k : Int} {cs : List (Int × List Int × List Int)}
theorem Zqx {a b : List (List Int)} (hv : ∀ x, VP a.length b.length x → ∀ y ∈ Zbu a b x, VP a.length b.length y) : ∀ (f k : Nat) (os0 os : List (Int × Int)), PsOk a b os0 → 1 ≤ os0.length → os0.length ≤ 48 → k ≤ os0.length → 48 ≤ f + k → Clo a b os0 k → jnG a b f k os0 = some os →
  PsOk a b os ∧ 1 ≤ os.length ∧ os.length ≤ 48 ∧ Clo a b os os.length
 | 0, k, os0, os, h1, h2, h3, h4, h5, h6, e => by
  simp only [jnG, Option.some.injEq] at e; subst e
  exact ⟨h1, h2, h3, by rw [show os0.length = k by omega]; exact h6⟩
 | f + 1, k, os0, os, h1, h2, h3, h4, h5, h6, e => by
  simp only [jnG] at e
  split at e
  ·rename_i hk
   split at e
   ·cases e
   ·rename_i hl
    obtain ⟨t, ht⟩ := ZlF (Zbu a b (nth os0 k)) os0
    have hx : Ext os0 (addG os0 (Zbu a b (nth os0 k))) := ⟨t, ht⟩
    have hlen := hx.len
    have hp : PsOk a b (addG os0 (Zbu a b (nth os0 k))) := ⟨Zio _ _ h1.1, fun y hy => by
     rcases (Zjh _ _ y).1 hy with h | h
     ·exact h1.2 y h
     ·exact hv _ (h1.2 _ (Zbk hk)) y h⟩
    exact Zqx hv f (k + 1) _ os hp (by omega) (by omega) (by omega) (by omega) (h6.step hx hk fun y hy => (Zjh _ _ y).2 (.inr hy)) e
  ·simp only [Option.some.injEq] at e; subst e
   exact ⟨h1, h2, h3, by rw [show os0.length = k by omega]; exact h6⟩
theorem ZwE  (ha : GoOk a (W : Int)) (hb : GoOk b (W : Int)) (x : Int × Int) (hx : VP a.length b.length x) (y : Int × Int) (hy : y ∈ Zbu a b x) : VP a.length b.length y := by
 obtain ⟨i, hi, rfl⟩ := ZbW hy
 rw [Zbp] at hi
 have hr := ha.row hx.1.1 hx.1.2
 have hr' : (rowN a x.1).length = W := by unfold rowN; omega
 rw [ZcL hi]
 have h1 := ha.step (x := (i : Int)) hx.1 (by omega)
 have h2 := hb.step (x := (i : Int)) hx.2 (by omega)
 rw [Int.toNat_natCast] at h1 h2
 exact ⟨h1, h2⟩
theorem ZqG  (ha : GoOk a (W : Int)) (hb : GoOk b (W : Int)) (la : 1 ≤ a.length) (lb : 1 ≤ b.length)  (e : jnF a b = some os) : PsOk a b os ∧ 1 ≤ os.length ∧ os.length ≤ 48 ∧ Clo a b os os.length :=
 Zqx (ZwE ha hb) 48 0 [(0, 0)] os ⟨by simp, fun y hy => by simp only [List.mem_singleton] at hy; subst hy; exact ⟨⟨by simp, by simp; omega⟩, ⟨by simp, by simp; omega⟩⟩⟩ (by simp) (by simp) (by simp) (by omega) (fun j hj => by omega) e
theorem Zo4  (ha : GoOk a (W : Int))  (hp : PsOk a b os) (hc : Clo a b os os.length) : GoOk (ZbM a b os os.length) (W : Int) := fun q hq => by
 rw [Zbw (Nat.le_refl _)] at hq
 have e : nth (ZbM a b os os.length) q = (Zbu a b (nth os q)).map (ZbH os) := by
  unfold ZbM; rw [List.take_length]; exact Zja hq
 have hv := hp.at hq
 have hr := ha.row hv.1.1 hv.1.2
 have hl : (Zbu a b (nth os q)).length = W := by rw [Zbp]; unfold rowN; omega
 rw [e, Zbw (Nat.le_refl _)]
 refine ⟨by rw [List.length_map, hl], below_iff.2 fun j hj => ?_⟩
 rw [List.length_map] at hj
 rw [Zja hj]
 obtain ⟨z, hz, e2, _⟩ := ZeW (hc q hq _ (Zbk hj))
 rw [e2]; omega
theorem ZmK  {n v : Int} (h : Zb5 xs n = true) (h0 : 0 ≤ v ∧ v < n) (hl : ∀ x ∈ xs, x < v) : Zb5 (xs ++ [v]) n = true := by
 unfold Zb5 at *
 rw [allN_iff] at h ⊢
 intro j hj
 rw [List.length_append, List.length_singleton] at hj
 rcases Nat.lt_or_ge j xs.length with h1 | h1
 ·have h2 := h j h1
  rw [Zkw h1, Zkw (by omega)]; exact h2
 ·have e : j = xs.length := by omega
  subst e
  rw [Zuy (Nat.le_refl _), Nat.sub_self]
  simp only [Bool.and_eq_true, Bool.or_eq_true, decide_eq_true_eq]
  refine ⟨⟨h0.1, h0.2⟩, ?_⟩
  rcases Nat.eq_zero_or_pos xs.length with h2 | h2
  ·exact .inl h2
  ·right; rw [Zkw (by omega)]; exact hl _ (Zbk (by omega))
theorem ZhM {s xs : List Int} : ∀ {i : Nat}, ∀ x ∈ Za7 s xs i, 0 ≤ x ∧ x < (i : Int)
 | 0, x, h => by simp [Za7] at h
 | i + 1, x, h => by
  simp only [Za7] at h
  split at h
  ·rcases List.mem_append.1 h with h | h
   ·have := ZhM x h; omega
   ·simp only [List.mem_singleton] at h; omega
  ·have := ZhM x h; omega
theorem ZcQ {s xs : List Int} {n : Int} : ∀ {i : Nat}, (i : Int) ≤ n → Zb5 (Za7 s xs i) n = true
 | 0, _ => rfl
 | i + 1, h => by
  simp only [Za7]
  split
  ·exact ZmK (ZcQ (by omega)) (by omega) fun x hx => (ZhM x hx).2
  ·exact ZcQ (by omega)
theorem pairsB_iff  {n : Int} : ZeJ ps n = true ↔ ps.length ≤ 4 ∧ ∀ p ∈ ps, Zb5 p.1 n = true ∧ Zb5 p.2 n = true := by
 unfold ZeJ
 rw [Bool.and_eq_true, decide_eq_true_eq, allN_iff]
 refine and_congr_right fun _ => ⟨fun h p hp => ?_, fun h k hk => ?_⟩
 ·obtain ⟨k, hk, rfl⟩ := ZbW hp
  have := h k hk
  unfold Zea at this; rwa [Bool.and_eq_true] at this
 ·unfold Zea; rw [Bool.and_eq_true]; exact h _ (Zbk hk)
theorem Ziy  {n : Int} (hn : (xs.length : Int) ≤ n) : ∀ p ∈ Zco ps xs, Zb5 p.1 n = true ∧ Zb5 p.2 n = true := fun p hp => by
 obtain ⟨p0, _, rfl⟩ := List.mem_map.1 hp
 exact ⟨ZcQ hn, ZcQ hn⟩
theorem detB_iff {i : Int}   : detB i o n ps = true ↔ sigB i o = true ∧ (1 ≤ n.length ∧ n.length ≤ 48) ∧ ZeJ ps n.length = true ∧ GoOk n (Zaa i o) := by
 unfold detB GoOk
 simp only [Bool.and_eq_true, decide_eq_true_eq, allN_iff, Zgi]
 constructor
 ·rintro ⟨⟨⟨⟨h1, h2⟩, h3⟩, h4⟩, h5⟩; exact ⟨h1, ⟨h2, h3⟩, h4, h5⟩
 ·rintro ⟨h1, ⟨h2, h3⟩, h4, h5⟩; exact ⟨⟨⟨⟨h1, h2⟩, h3⟩, h4⟩, h5⟩
theorem ZbN (i o : Int) : ((Zaa i o).toNat : Int) = Zaa i o := by have := ZaJ i o; omega
theorem ZgT {i : Int}   (h : detB i o n ps = true) (h2 : detB i o n2 ps2 = true) (hj : (ZbR n ps n2 ps2).2 = true) : detB i o (ZbR n ps n2 ps2).1.1 (ZbR n ps n2 ps2).1.2 = true := by
 obtain ⟨a1, ⟨a2, a3⟩, a4, a5⟩ := detB_iff.1 h
 obtain ⟨b1, ⟨b2, b3⟩, b4, b5⟩ := detB_iff.1 h2
 rw [← ZbN] at a5 b5
 by_cases hl : ps.length + ps2.length ≤ 4
 ·cases e : jnF n n2 with
  | none => rw [Zc6 e] at hj; cases hj
  | some os =>
   rw [Zdn hl e]
   obtain ⟨c1, c2, c3, c4⟩ := ZqG a5 b5 a2 b2 e
   have hlen : (ZbM n n2 os os.length).length = os.length := Zbw (Nat.le_refl _)
   refine detB_iff.2 ⟨a1, ⟨by rw [hlen]; exact c2, by rw [hlen]; exact c3⟩, pairsB_iff.2 ⟨by rw [List.length_append, Zc7, Zc7]; exact hl, fun p hp => ?_⟩, by rw [← ZbN]; exact Zo4 a5 c1 c4⟩
   rw [hlen]
   rcases List.mem_append.1 hp with hp | hp
   ·exact Ziy (by simp) p hp
   ·exact Ziy (by simp) p hp
 ·rw [Zct hl] at hj; cases hj
theorem ZnE {q : Int} {a b : Bool} (hk : 1 ≤ k ∧ k ≤ 7) (hq : 0 ≤ q ∧ q < Zbo k) : 0 ≤ Zb4 k q a b ∧ Zb4 k q a b < Zbo k := by
 have h : k = 1 ∨ k = 2 ∨ k = 3 ∨ k = 4 ∨ k = 5 ∨ k = 6 ∨ k = 7 := by omega
 rcases h with rfl | rfl | rfl | rfl | rfl | rfl | rfl <;> cases a <;> cases b <;> simp [Zb4, Zbo, bit] at * <;> omega
theorem Zl9  (hk : 1 ≤ k ∧ k ≤ 7) : Zb5 (monP k).1 (Zbo k) = true ∧ Zb5 (monP k).2 (Zbo k) = true := by
 have h : k = 1 ∨ k = 2 ∨ k = 3 ∨ k = 4 ∨ k = 5 ∨ k = 6 ∨ k = 7 := by omega
 rcases h with rfl | rfl | rfl | rfl | rfl | rfl | rfl <;> decide
theorem ZnZ {i : Int} {a b : List Int} (hs : sigB i o = true) (hk : 1 ≤ k ∧ k ≤ 7) : detB i o (monN k a b (Zaa i o).toNat) [monP k] = true := by
 have hm := Zkh k
 refine detB_iff.2 ⟨hs, ⟨by rw [ZbD]; omega, by rw [ZbD]; omega⟩, pairsB_iff.2 ⟨by simp, fun p hp => ?_⟩, fun q hq => ?_⟩
 ·simp only [List.mem_singleton] at hp; subst hp; rw [ZbD]; exact Zl9 hk
 ·rw [ZbD] at hq
  have e : nth (monN k a b (Zaa i o).toNat) q = Zcj k a b (Zaa i o).toNat q := by rw [Zbx (by rw [ZbD]; exact hq)]; simp [monN]
  rw [e, ZbD, Zbi]
  refine ⟨ZbN i o, below_iff.2 fun j hj => ?_⟩
  rw [Zbi] at hj
  have e2 : nth (Zcj k a b (Zaa i o).toNat q) j = Zb4 k q (has a j) (has b j) := by rw [Zbx (by rw [Zbi]; exact hj)]; simp [Zcj]
  rw [e2]; exact ZnE hk (by omega)
theorem Zhc {i : Int}   (h : detB i o n ps = false) : ZeQ i o n ps n2 ps2 = (([], []), false) := by unfold ZeQ; rw [if_neg (by rw [h]; simp)]
theorem Zkr {i : Int}   (h : detB i o n2 ps2 = false) : ZeQ i o n ps n2 ps2 = (([], []), false) := by unfold ZeQ; rw [if_neg (by rw [h]; simp)]
theorem Zkn {i : Int}   (h : detB i o n ps = true) (h2 : detB i o n2 ps2 = true) : ZeQ i o n ps n2 ps2 = ZbR n ps n2 ps2 := by unfold ZeQ; rw [if_pos ⟨h, h2⟩]
theorem ZmB {i : Int}   (h : ¬ ps.length + ps2.length ≤ 4) : ZeQ i o n ps n2 ps2 = (([], []), false) := by
 unfold ZeQ; split
 ·exact Zct h
 ·rfl
theorem Zoc {i : Int}   (h : sigB i o = false) : detB i o n ps = false := by unfold detB; rw [h]; rfl
theorem ZjR {i : Int}   (h : detB i o n ps = true) : ps.length ≤ 4 := (pairsB_iff.1 (detB_iff.1 h).2.2.1).1
theorem Zhi {s : List Int} : (Za7 s xs xs.length).length ≤ xs.length := Zem
theorem Znh {i : Int}   (h : detB i o n ps = true) (h2 : detB i o n2 ps2 = true) : cntR (ZbR n ps n2 ps2).1.1 ≤ 1000 ∧ Zho (ZbR n ps n2 ps2).1.2 ≤ 1000 := by
 by_cases hj : (ZbR n ps n2 ps2).2 = true
 ·obtain ⟨_, ⟨c1, c2⟩, c3, c4⟩ := detB_iff.1 (ZgT h h2 hj)
  have hL := ZaJ i o
  obtain ⟨c5, c6⟩ := pairsB_iff.1 c3
  constructor
  ·refine Nat.le_trans (Zf7 (m := 16) fun x hx => ?_) (by omega)
   obtain ⟨q, hq, rfl⟩ := ZbW hx
   have := (c4 q hq).1; omega
  ·by_cases hl : ps.length + ps2.length ≤ 4
   ·cases e : jnF n n2 with
    | none => rw [Zc6 e]; simp [Zho, cntG]
    | some os =>
     obtain ⟨a1, ⟨a2, a3⟩, a4, a5⟩ := detB_iff.1 h
     obtain ⟨b1, ⟨b2, b3⟩, b4, b5⟩ := detB_iff.1 h2
     rw [← ZbN] at a5 b5
     obtain ⟨_, _, c9, _⟩ := ZqG a5 b5 a2 b2 e
     rw [Zdn hl e]
     refine Nat.le_trans (Zf7 (m := 96) fun x hx => ?_) (by rw [List.length_append, Zc7, Zc7]; omega)
     have key : ∀ (ps : List (List Int × List Int)) (xs : List Int), xs.length ≤ 48 → x ∈ Zco ps xs → cntP x ≤ 96 := fun ps xs hxs hx => by
      obtain ⟨p0, _, rfl⟩ := List.mem_map.1 hx
      have q1 := Zhi (s := p0.1) (xs := xs)
      have q2 := Zhi (s := p0.2) (xs := xs)
      unfold cntP pairP; simp only; omega
     rcases List.mem_append.1 hx with hx | hx
     ·exact key _ _ (by simpa using c9) hx
     ·exact key _ _ (by simpa using c9) hx
   ·rw [Zct hl]; simp [cntR, Zho, cntG]
 ·by_cases hl : ps.length + ps2.length ≤ 4
  ·cases e : jnF n n2 with
   | none => rw [Zc6 e]; simp [cntR, Zho, cntG]
   | some os => rw [Zdn hl e] at hj; exact absurd rfl hj
  ·rw [Zct hl]; simp [cntR, Zho, cntG]
def Zeg (L : Nat) : List (Int × List Int × List Int) → List (List Int) → List (List Int × List Int) → (List (List Int) × List (List Int × List Int)) × Bool
 | [], n, ps => ((n, ps), true)
 | c :: cs, n, ps => if (ZbR n ps (monN c.1 c.2.1 c.2.2 L) [monP c.1]).2 = true then Zeg L cs (ZbR n ps (monN c.1 c.2.1 c.2.2 L) [monP c.1]).1.1 (ZbR n ps (monN c.1 c.2.1 c.2.2 L) [monP c.1]).1.2 else (([], []), false)
def Zdx (i o : Int) (cs : List (Int × List Int × List Int)) : (List (List Int) × List (List Int × List Int)) × Bool :=
 if ZaZ i o cs = true then Zeg (Zaa i o).toNat cs [List.replicate (Zaa i o).toNat 0] [] else (([], []), false)
theorem Zk6 {i : Int} (hs : sigB i o = true) : detB i o [List.replicate (Zaa i o).toNat 0] [] = true := by
 refine detB_iff.2 ⟨hs, by simp, rfl, fun q hq => ?_⟩
 have : q = 0 := by simpa using hq
 subst this
 have e : nth [List.replicate (Zaa i o).toNat (0 : Int)] 0 = List.replicate (Zaa i o).toNat 0 := rfl
 rw [e, List.length_replicate]
 refine ⟨ZbN i o, below_iff.2 fun j hj => ?_⟩
 rw [List.length_replicate] at hj
 rw [Zbx (by simpa using hj)]; simp
theorem Zj7 {L : Nat}  {j : Nat} (hj : j < cs.length)   : Zeg L (cs.drop j) n ps = if (ZbR n ps (monN (nth cs j).1 (nth cs j).2.1 (nth cs j).2.2 L) [monP (nth cs j).1]).2 = true then Zeg L (cs.drop (j + 1)) (ZbR n ps (monN (nth cs j).1 (nth cs j).2.1 (nth cs j).2.2 L) [monP (nth cs j).1]).1.1 (ZbR n ps (monN (nth cs j).1 (nth cs j).2.1 (nth cs j).2.2 L) [monP (nth cs j).1]).1.2 else (([], []), false) := by
 rw [Zfj hj]; rfl
theorem Zd7 {i : Int}  (h : ZaZ i o cs = true) : sigB i o = true ∧ cs.length ≤ 3 ∧ ∀ j, j < cs.length → Zc5 (Zaa i o) (nth cs j).1 (nth cs j).2.1 (nth cs j).2.2 = true := by
 unfold ZaZ at h
 simp only [Bool.and_eq_true, decide_eq_true_eq, allN_iff, Zdt] at h
 exact ⟨h.1.1, h.1.2, h.2⟩
end Go.Proofs.Ytnieejghoaccmaa

