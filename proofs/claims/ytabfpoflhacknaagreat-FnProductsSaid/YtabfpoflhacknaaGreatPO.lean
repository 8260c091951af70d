/- Products of monitors: a product of valid automata is valid. No program in sight; no conditions. -/
import Derived.Test.YtabfpoflhacknaaGreatJN
import Derived.Test.YtabfpoflhacknaaGreatM5
namespace Go.Proofs.YtabfpoflhacknaaGreat
open Go.RowKit
open Shp
variable {a b n n2 : List (List Int)} {W : Nat} {os : List (Int × Int)} {xs : List Int} {ps ps2 : List (List Int × List Int)} {o k : Int} {cs : List (Int × List Int × List Int)}
theorem Zuq {a b : List (List Int)} (hv : ∀ x, VP a.length b.length x → ∀ y ∈ Zbj a b x, VP a.length b.length y) : ∀ (f k : Nat) (os0 os : List (Int × Int)), PsOk a b os0 → 1 ≤ os0.length → os0.length ≤ 48 → k ≤ os0.length → 48 ≤ f + k → Clo a b os0 k → jnG a b f k os0 = some os →
  PsOk a b os ∧ 1 ≤ os.length ∧ os.length ≤ 48 ∧ Clo a b os os.length
 | 0, k, os0, os, h1, h2, h3, h4, h5, h6, e => by
  simp only [jnG, Option.some.injEq] at e; subst e
  exact ⟨h1, h2, h3, by rw [show os0.length = k by omega]; exact h6⟩
 | f + 1, k, os0, os, h1, h2, h3, h4, h5, h6, e => by
  simp only [jnG] at e
  split at e
  ·rename_i hk
   split at e
   ·cases e
   ·rename_i hl
    obtain ⟨t, ht⟩ := Zfn (Zbj a b (nth os0 k)) os0
    have hx : Ext os0 (addG os0 (Zbj a b (nth os0 k))) := ⟨t, ht⟩
    have hlen := hx.len
    have hp : PsOk a b (addG os0 (Zbj a b (nth os0 k))) := ⟨Zd7 _ _ h1.1, fun y hy => by
     rcases (ZdP _ _ y).1 hy with h | h
     ·exact h1.2 y h
     ·exact hv _ (h1.2 _ (Zal hk)) y h⟩
    exact Zuq hv f (k + 1) _ os hp (by omega) (by omega) (by omega) (by omega) (h6.step hx hk fun y hy => (ZdP _ _ y).2 (.inr hy)) e
  ·simp only [Option.some.injEq] at e; subst e
   exact ⟨h1, h2, h3, by rw [show os0.length = k by omega]; exact h6⟩
theorem Zvn  (ha : GoOk a (W : Int)) (hb : GoOk b (W : Int)) (x : Int × Int) (hx : VP a.length b.length x) (y : Int × Int) (hy : y ∈ Zbj a b x) : VP a.length b.length y := by
 obtain ⟨i, hi, rfl⟩ := Za1 hy
 rw [Zbo] at hi
 have hr := ha.row hx.1.1 hx.1.2
 have hr' : (rowN a x.1).length = W := by unfold rowN; omega
 rw [Zch hi]
 have h1 := ha.step (x := (i : Int)) hx.1 (by omega)
 have h2 := hb.step (x := (i : Int)) hx.2 (by omega)
 rw [Int.toNat_natCast] at h1 h2
 exact ⟨h1, h2⟩
theorem Zul  (ha : GoOk a (W : Int)) (hb : GoOk b (W : Int)) (la : 1 ≤ a.length) (lb : 1 ≤ b.length)  (e : jnF a b = some os) : PsOk a b os ∧ 1 ≤ os.length ∧ os.length ≤ 48 ∧ Clo a b os os.length :=
 Zuq (Zvn ha hb) 48 0 [(0, 0)] os ⟨by simp, fun y hy => by simp only [List.mem_singleton] at hy; subst hy; exact ⟨⟨by simp, by simp; omega⟩, ⟨by simp, by simp; omega⟩⟩⟩ (by simp) (by simp) (by simp) (by omega) (fun j hj => by omega) e
theorem Zsi  (ha : GoOk a (W : Int))  (hp : PsOk a b os) (hc : Clo a b os os.length) : GoOk (Zbt a b os os.length) (W : Int) := fun q hq => by
 rw [Zb9 (Nat.le_refl _)] at hq
 have e : nth (Zbt a b os os.length) q = (Zbj a b (nth os q)).map (ZbS os) := by
  unfold Zbt; rw [List.take_length]; exact ZbE hq
 have hv := hp.at hq
 have hr := ha.row hv.1.1 hv.1.2
 have hl : (Zbj a b (nth os q)).length = W := by rw [Zbo]; unfold rowN; omega
 rw [e, Zb9 (Nat.le_refl _)]
 refine ⟨by rw [List.length_map, hl], below_iff.2 fun j hj => ?_⟩
 rw [List.length_map] at hj
 rw [ZbE hj]
 obtain ⟨z, hz, e2, _⟩ := Zeq (hc q hq _ (Zal hj))
 rw [e2]; omega
theorem ZoY  {n v : Int} (h : Zbx xs n = true) (h0 : 0 ≤ v ∧ v < n) (hl : ∀ x ∈ xs, x < v) : Zbx (xs ++ [v]) n = true := by
 unfold Zbx at *
 rw [allN_iff] at h ⊢
 intro j hj
 rw [List.length_append, List.length_singleton] at hj
 rcases Nat.lt_or_ge j xs.length with h1 | h1
 ·have h2 := h j h1
  rw [Zh7 h1, Zh7 (by omega)]; exact h2
 ·have e : j = xs.length := by omega
  subst e
  rw [Zuw (Nat.le_refl _), Nat.sub_self]
  simp only [Bool.and_eq_true, Bool.or_eq_true, decide_eq_true_eq]
  refine ⟨⟨h0.1, h0.2⟩, ?_⟩
  rcases Nat.eq_zero_or_pos xs.length with h2 | h2
  ·exact .inl h2
  ·right; rw [Zh7 (by omega)]; exact hl _ (Zal (by omega))
theorem Zi6 {s xs : List Int} : ∀ {i : Nat}, ∀ x ∈ ZaN s xs i, 0 ≤ x ∧ x < (i : Int)
 | 0, x, h => by simp [ZaN] at h
 | i + 1, x, h => by
  simp only [ZaN] at h
  split at h
  ·rcases List.mem_append.1 h with h | h
   ·have := Zi6 x h; omega
   ·simp only [List.mem_singleton] at h; omega
  ·have := Zi6 x h; omega
theorem Zdv {s xs : List Int} {n : Int} : ∀ {i : Nat}, (i : Int) ≤ n → Zbx (ZaN s xs i) n = true
 | 0, _ => rfl
 | i + 1, h => by
  simp only [ZaN]
  split
  ·exact ZoY (Zdv (by omega)) (by omega) fun x hx => (Zi6 x hx).2
  ·exact Zdv (by omega)
theorem pairsB_iff  {n : Int} : ZeG ps n = true ↔ ps.length ≤ 4 ∧ ∀ p ∈ ps, Zbx p.1 n = true ∧ Zbx p.2 n = true := by
 unfold ZeG
 rw [Bool.and_eq_true, decide_eq_true_eq, allN_iff]
 refine and_congr_right fun _ => ⟨fun h p hp => ?_, fun h k hk => ?_⟩
 ·obtain ⟨k, hk, rfl⟩ := Za1 hp
  have := h k hk
  unfold Zfe at this; rwa [Bool.and_eq_true] at this
 ·unfold Zfe; rw [Bool.and_eq_true]; exact h _ (Zal hk)
theorem ZhG  {n : Int} (hn : (xs.length : Int) ≤ n) : ∀ p ∈ Zbu ps xs, Zbx p.1 n = true ∧ Zbx p.2 n = true := fun p hp => by
 obtain ⟨p0, _, rfl⟩ := List.mem_map.1 hp
 exact ⟨Zdv hn, Zdv hn⟩
theorem detB_iff {i : Int}   : detB i o n ps = true ↔ sigB i o = true ∧ (1 ≤ n.length ∧ n.length ≤ 48) ∧ ZeG ps n.length = true ∧ GoOk n (Zaa i o) := by
 unfold detB GoOk
 simp only [Bool.and_eq_true, decide_eq_true_eq, allN_iff, ZhP]
 constructor
 ·rintro ⟨⟨⟨⟨h1, h2⟩, h3⟩, h4⟩, h5⟩; exact ⟨h1, ⟨h2, h3⟩, h4, h5⟩
 ·rintro ⟨h1, ⟨h2, h3⟩, h4, h5⟩; exact ⟨⟨⟨⟨h1, h2⟩, h3⟩, h4⟩, h5⟩
theorem Zbh (i o : Int) : ((Zaa i o).toNat : Int) = Zaa i o := by have := ZaE i o; omega
theorem ZfE {i : Int}   (h : detB i o n ps = true) (h2 : detB i o n2 ps2 = true) (hj : (ZbI n ps n2 ps2).2 = true) : detB i o (ZbI n ps n2 ps2).1.1 (ZbI n ps n2 ps2).1.2 = true := by
 obtain ⟨a1, ⟨a2, a3⟩, a4, a5⟩ := detB_iff.1 h
 obtain ⟨b1, ⟨b2, b3⟩, b4, b5⟩ := detB_iff.1 h2
 rw [← Zbh] at a5 b5
 by_cases hl : ps.length + ps2.length ≤ 4
 ·cases e : jnF n n2 with
  | none => rw [ZhC e] at hj; cases hj
  | some os =>
   rw [Zel hl e]
   obtain ⟨c1, c2, c3, c4⟩ := Zul a5 b5 a2 b2 e
   have hlen : (Zbt n n2 os os.length).length = os.length := Zb9 (Nat.le_refl _)
   refine detB_iff.2 ⟨a1, ⟨by rw [hlen]; exact c2, by rw [hlen]; exact c3⟩, pairsB_iff.2 ⟨by rw [List.length_append, ZaY, ZaY]; exact hl, fun p hp => ?_⟩, by rw [← Zbh]; exact Zsi a5 c1 c4⟩
   rw [hlen]
   rcases List.mem_append.1 hp with hp | hp
   ·exact ZhG (by simp) p hp
   ·exact ZhG (by simp) p hp
 ·rw [ZhK hl] at hj; cases hj
theorem ZqS {q : Int} {a b : Bool} (hk : 1 ≤ k ∧ k ≤ 7) (hq : 0 ≤ q ∧ q < Zaj k) : 0 ≤ ZbT k q a b ∧ ZbT k q a b < Zaj k := by
 have h : k = 1 ∨ k = 2 ∨ k = 3 ∨ k = 4 ∨ k = 5 ∨ k = 6 ∨ k = 7 := by omega
 rcases h with rfl | rfl | rfl | rfl | rfl | rfl | rfl <;> cases a <;> cases b <;> simp [ZbT, Zaj, bit] at * <;> omega
theorem ZoW  (hk : 1 ≤ k ∧ k ≤ 7) : Zbx (monP k).1 (Zaj k) = true ∧ Zbx (monP k).2 (Zaj k) = true := by
 have h : k = 1 ∨ k = 2 ∨ k = 3 ∨ k = 4 ∨ k = 5 ∨ k = 6 ∨ k = 7 := by omega
 rcases h with rfl | rfl | rfl | rfl | rfl | rfl | rfl <;> decide
theorem ZoD {i : Int} {a b : List Int} (hs : sigB i o = true) (hk : 1 ≤ k ∧ k ≤ 7) : detB i o (monN k a b (Zaa i o).toNat) [monP k] = true := by
 have hm := Zbl k
 refine detB_iff.2 ⟨hs, ⟨by rw [Zan]; omega, by rw [Zan]; omega⟩, pairsB_iff.2 ⟨by simp, fun p hp => ?_⟩, fun q hq => ?_⟩
 ·simp only [List.mem_singleton] at hp; subst hp; rw [Zan]; exact ZoW hk
 ·rw [Zan] at hq
  have e : nth (monN k a b (Zaa i o).toNat) q = ZaL k a b (Zaa i o).toNat q := by rw [Zbi (by rw [Zan]; exact hq)]; simp [monN]
  rw [e, Zan, Zat]
  refine ⟨Zbh i o, below_iff.2 fun j hj => ?_⟩
  rw [Zat] at hj
  have e2 : nth (ZaL k a b (Zaa i o).toNat q) j = ZbT k q (has a j) (has b j) := by rw [Zbi (by rw [Zat]; exact hj)]; simp [ZaL]
  rw [e2]; exact ZqS hk (by omega)
theorem ZmC {i : Int}   (h : detB i o n ps = true) (h2 : detB i o n2 ps2 = true) : Zpq i o n ps n2 ps2 = ZbI n ps n2 ps2 := by unfold Zpq; rw [if_pos ⟨h, h2⟩]
theorem Zmj {i : Int}   (h : sigB i o = false) : detB i o n ps = false := by unfold detB; rw [h]; rfl
theorem Zkj {i : Int}   (h : detB i o n ps = true) : ps.length ≤ 4 := (pairsB_iff.1 (detB_iff.1 h).2.2.1).1
def Zdq (L : Nat) : List (Int × List Int × List Int) → List (List Int) → List (List Int × List Int) → (List (List Int) × List (List Int × List Int)) × Bool
 | [], n, ps => ((n, ps), true)
 | c :: cs, n, ps => if (ZbI n ps (monN c.1 c.2.1 c.2.2 L) [monP c.1]).2 = true then Zdq L cs (ZbI n ps (monN c.1 c.2.1 c.2.2 L) [monP c.1]).1.1 (ZbI n ps (monN c.1 c.2.1 c.2.2 L) [monP c.1]).1.2 else (([], []), false)
def ZaX (i o : Int) (cs : List (Int × List Int × List Int)) : (List (List Int) × List (List Int × List Int)) × Bool :=
 if ZaB i o cs = true then Zdq (Zaa i o).toNat cs [List.replicate (Zaa i o).toNat 0] [] else (([], []), false)
theorem ZlD {i : Int} (hs : sigB i o = true) : detB i o [List.replicate (Zaa i o).toNat 0] [] = true := by
 refine detB_iff.2 ⟨hs, by simp, rfl, fun q hq => ?_⟩
 have : q = 0 := by simpa using hq
 subst this
 have e : nth [List.replicate (Zaa i o).toNat (0 : Int)] 0 = List.replicate (Zaa i o).toNat 0 := rfl
 rw [e, List.length_replicate]
 refine ⟨Zbh i o, below_iff.2 fun j hj => ?_⟩
 rw [List.length_replicate] at hj
 rw [Zbi (by simpa using hj)]; simp
theorem ZmS {L : Nat}  {j : Nat} (hj : j < cs.length)   : Zdq L (cs.drop j) n ps = if (ZbI n ps (monN (nth cs j).1 (nth cs j).2.1 (nth cs j).2.2 L) [monP (nth cs j).1]).2 = true then Zdq L (cs.drop (j + 1)) (ZbI n ps (monN (nth cs j).1 (nth cs j).2.1 (nth cs j).2.2 L) [monP (nth cs j).1]).1.1 (ZbI n ps (monN (nth cs j).1 (nth cs j).2.1 (nth cs j).2.2 L) [monP (nth cs j).1]).1.2 else (([], []), false) := by
 rw [ZfB hj]; rfl
theorem Zei {i : Int}  (h : ZaB i o cs = true) : sigB i o = true ∧ cs.length ≤ 3 ∧ ∀ j, j < cs.length → ZbR (Zaa i o) (nth cs j).1 (nth cs j).2.1 (nth cs j).2.2 = true := by
 unfold ZaB at h
 simp only [Bool.and_eq_true, decide_eq_true_eq, allN_iff, ZcV] at h
 exact ⟨h.1.1, h.1.2, h.2⟩
end Go.Proofs.YtabfpoflhacknaaGreat

